/- LAYER 16, DeadPlays: the walks of do and like. -/
import Derived.Test.YtdiejjhlgacbdaaYd
set_option linter.unusedVariables false
namespace Go.Proofs.Ytdiejjhlgacbdaa
open Go.RowKit Go.ChangeShapes Go.WideShapes Go.ChangeAt Go.Deep

set_option maxRecDepth 100000 in
set_option maxHeartbeats 4000000 in
theorem do_ref (O : Nat → Prop) (r x n κ : Nat) (t b : Int) (S : Int → Nat) (w : World) (hJ : JT O w r x n S) (hn : n ≤ 800000) (hκ : κ < 256) (ht : In64 t) :
    Calls Try.prog 18 #[.agg #[.int .u8 (κ : Nat), .int .i64 t, .int .i64 b], .pointer (some ⟨r, 0, none⟩), .pointer (some ⟨x, 0, none⟩)] w fun e w' => e = .returned (.bool true) ∧ DoPost O w r x (n + 8192) (stepS ⟨κ, t, b⟩ S) w' := by
  obtain ⟨bm, O2, hA⟩ := jt_ahead hJ κ t b
  have p0 := hA.c0
  have p1 := hA.c1
  have p2 := hA.c2
  have HA := Lib.hid hA
  have HD := Lib.hid (hA.later ((Below.refl _ _).drew))
  clear hA hJ
  by_cases h0 : κ = 0
  · subst h0
    have hS : stepS ⟨0, t, b⟩ S = needS S t b := rfl
    rw [hS]
    have hN1 := two_need HD.out hn
    have pD : Bx (w.alloc (.cells #[.int .u8 (0 : Nat), .int .i64 t, .int .i64 b] 29)).drew w.heap.size t b := ⟨p1, p2⟩
    generalize needE S t b = E at *
    clear HA HD hS
    go_enter Try.func18, Try.ntmps18
    go_wp2_with fail
    go_region_held3 (fun W => W.cell? ⟨w.heap.size, 1, none⟩ = some (.int .i64 t) ∧ W.cell? ⟨w.heap.size, 2, none⟩ = some (.int .i64 b))
      (first | exact pD | assumption)
      (first | (go_at_call 9; refine hN1.mono ?_; rintro e w1 ⟨rfl, hb1, hN2⟩) | (go_at_call 29; refine hN2.mono ?_; rintro e w2 ⟨rfl, hb2, hF⟩))
    all_goals (
      replace hF := Lib.hid hF
      clear hN1 hN2 hb1 hb2 pD p0 p1 p2
      go_wp2_with fail
      go_ret
      exact ⟨rfl, hF.out⟩)
  by_cases h1 : κ = 1
  · subst h1
    have hS : stepS ⟨1, t, b⟩ S = giveS S t b := rfl
    rw [hS]
    have hN1 := two_give HA.out hn
    clear HA HD hS
    go_enter Try.func18, Try.ntmps18
    go_wp2_with fail
    refine hN1.mono ?_
    rintro e w1 ⟨rfl, hb1, hN2⟩
    have q1 := hb1.1
    have q2 := hb1.2
    clear p0 p1 p2 hN1
    go_wp2_with fail
    refine hN2.mono ?_
    rintro e w2 ⟨rfl, hb2, hF⟩
    replace hF := Lib.hid hF
    clear q1 q2 hN2 hb2 hb1
    go_wp2_with fail
    go_ret
    exact ⟨rfl, hF.out⟩
  by_cases h2 : κ = 2
  · subst h2
    have hS : stepS ⟨2, t, b⟩ S = likeS S t b := rfl
    rw [hS]
    have hN1 := two_like HD.out hn
    have pD : Bx (w.alloc (.cells #[.int .u8 (2 : Nat), .int .i64 t, .int .i64 b] 29)).drew w.heap.size t b := ⟨p1, p2⟩
    generalize likeE S t b = E at *
    clear HA HD hS h0 h1
    go_enter Try.func18, Try.ntmps18
    go_wp2_with fail
    go_region_held3 (fun W => W.cell? ⟨w.heap.size, 1, none⟩ = some (.int .i64 t) ∧ W.cell? ⟨w.heap.size, 2, none⟩ = some (.int .i64 b))
      (first | exact pD | assumption)
      (first | (go_at_call 11; refine hN1.mono ?_; rintro e w1 ⟨rfl, hb1, hN2⟩) | (go_at_call 31; refine hN2.mono ?_; rintro e w2 ⟨rfl, hb2, hF⟩))
    all_goals (
      replace hF := Lib.hid hF
      clear hN1 hN2 hb1 hb2 pD p0 p1 p2
      go_wp2_with fail
      go_ret
      exact ⟨rfl, hF.out⟩)
  have e0 : (((κ : Nat) : Int) == 0) = false := by simp; omega
  have e1 : (((κ : Nat) : Int) == 1) = false := by simp; omega
  have e2 : (((κ : Nat) : Int) == 2) = false := by simp; omega
  have hS : stepS ⟨κ, t, b⟩ S = (dropU S t).1 := by simp [stepS, h0, h1, h2]
  rw [hS]
  have hN1 := two_drop HA.out hn ht
  clear HA HD hS h0 h1 h2
  generalize (dropU S t).2.length = ln at *
  generalize dropE t = E at *
  go_enter Try.func18, Try.ntmps18
  go_wp2_with fail
  refine hN1.mono ?_
  rintro e w1 ⟨A1, c1, rfl, hb1, hN2⟩
  have q1 := hb1.1
  clear p0 p1 p2 hN1 e0 e1 e2
  go_wp2_with fail
  refine hN2.mono ?_
  rintro e w2 ⟨A2, c2, rfl, hN3⟩
  clear q1 hN2 hb1
  go_wp2_with fail
  refine hN3.mono ?_
  rintro e w3 ⟨rfl, hN4⟩
  clear hN3
  go_wp2_with fail
  refine hN4.mono ?_
  rintro e w4 ⟨rfl, hF⟩
  replace hF := Lib.hid hF
  clear hN4
  go_wp2_with fail
  go_ret
  exact ⟨rfl, hF.out⟩
/-- What is told of a table, by the program and by the document. -/
theorem three_tell {O O2 : Nat → Prop} {w wD : World} {r bm x n bx κ : Nat} {S : Int → Nat} {t b : Int} (h : Ahead O w wD r bm x n O2 S bx κ t b) (hn : n ≤ 800000) (hbi : In64 b) :
    Calls Try.prog 12 #[.pointer (some ⟨r, 0, none⟩), .int .i64 t] wD fun e w1 => ∃ A1 c1, e = .returned (.slice A1 (ofL S t).length c1) ∧ Bx w1 bx t b ∧
    Calls Try.prog 15 #[.pointer (some ⟨r, 0, none⟩), .int .i64 b] w1 fun e w2 => ∃ A2 c2, e = .returned (.slice A2 (whoU (S b) 7).length c2) ∧ Bx w2 bx t b ∧
    Calls Try.prog 8 #[.pointer (some ⟨r, 0, none⟩)] w2 fun e w3 => ∃ A3 c3, e = .returned (.slice A3 (blks prAll S).length c3) ∧ Bx w3 bx t b ∧
    Calls Try.prog 34 #[.pointer (some ⟨x, 0, none⟩), .int .i64 t] w3 fun e w4 => ∃ B1 d1, e = .returned (.slice B1 (ofL S t).length d1) ∧ Bx w4 bx t b ∧
    Calls Try.prog 20 #[.slice A1 (ofL S t).length c1, .slice B1 (ofL S t).length d1] w4 fun e w5 => e = .returned (.bool true) ∧ Bx w5 bx t b ∧
    Calls Try.prog 35 #[.pointer (some ⟨x, 0, none⟩), .int .i64 b] w5 fun e w6 => ∃ B2 d2, e = .returned (.slice B2 (whoU (S b) 7).length d2) ∧
    Calls Try.prog 20 #[.slice A2 (whoU (S b) 7).length c2, .slice B2 (whoU (S b) 7).length d2] w6 fun e w7 => e = .returned (.bool true) ∧
    Calls Try.prog 36 #[.pointer (some ⟨x, 0, none⟩)] w7 fun e w8 => ∃ B3 d3, e = .returned (.slice B3 (blks prAll S).length d3) ∧
    Calls Try.prog 20 #[.slice A3 (blks prAll S).length c3, .slice B3 (blks prAll S).length d3] w8 fun e w9 => e = .returned (.bool true) ∧
    Calls Try.prog 33 #[.slice A1 (ofL S t).length c1] w9 fun e w10 => e = .returned (.tuple #[]) ∧
    Calls Try.prog 33 #[.slice A2 (whoU (S b) 7).length c2] w10 fun e w11 => e = .returned (.tuple #[]) ∧
    Calls Try.prog 33 #[.slice A3 (blks prAll S).length c3] w11 fun e w12 => e = .returned (.tuple #[]) ∧ Below w.heap.size w w12 := by
  have n1 := ofL_len S t
  have n2 := whoU_len (S b) 7
  have n3 := blks_len prAll S
  have sD := h.below.size
  refine (of_any r bm n S t wD h.tab h.good (by omega)).mono ?_
  rintro e w1 ⟨A1, c1, rfl, o1, b1⟩
  have h1 := h.later b1
  have s1 := b1.size
  refine ⟨A1, c1, rfl, ⟨h1.c1, h1.c2⟩, ?_⟩
  refine (who_any r bm n S b w1 h1.tab h.good hbi).mono ?_
  rintro e w2 ⟨A2, c2, rfl, o2, b2⟩
  have h2 := h1.later b2
  have s2 := b2.size
  refine ⟨A2, c2, rfl, ⟨h2.c1, h2.c2⟩, ?_⟩
  refine (all_any r bm n S w2 h2.tab h.good (by omega)).mono ?_
  rintro e w3 ⟨A3, c3, rfl, o3, b3⟩
  have h3 := h2.later b3
  have s3 := b3.size
  refine ⟨A3, c3, rfl, ⟨h3.c1, h3.c2⟩, ?_⟩
  refine (of_ref O2 x n S t w3 h3.ref h.good (by omega)).mono ?_
  rintro e w4 ⟨B1, d1, rfl, q1, b4⟩
  have h4 := h3.later b4
  have s4 := b4.size
  refine ⟨B1, d1, rfl, ⟨h4.c1, h4.c2⟩, ?_⟩
  have p1 : OwnI wD.heap.size w4 (.slice A1 (ofL S t).length c1) (ofL S t) := ((o1.below b2).below b3).below b4
  have z1 := same_any A1 B1 c1 d1 (ofL S t) (ofL S t) w4 p1.rd q1.rd (by omega) (by omega)
  rw [decide_eq_true rfl] at z1
  refine z1.mono ?_
  rintro e w5 ⟨rfl, b5⟩
  have h5 := h4.later b5
  have s5 := b5.size
  refine ⟨rfl, ⟨h5.c1, h5.c2⟩, ?_⟩
  obtain ⟨P, r1, r2, r3⟩ := h5.ref
  obtain ⟨A0, c0, lk, rd⟩ := r1.look
  have z2 := who_ref x A0 c0 P b w5 lk rd (by omega)
  rw [whoL_eq r2] at z2
  refine z2.mono ?_
  rintro e w6 ⟨B2, d2, rfl, q2, b6⟩
  have h6 := h5.later b6
  have s6 := b6.size
  refine ⟨B2, d2, rfl, ?_⟩
  have p2 : OwnI w1.heap.size w6 (.slice A2 (whoU (S b) 7).length c2) (whoU (S b) 7) := (((o2.below b3).below b4).below b5).below b6
  have z3 := same_any A2 B2 c2 d2 (whoU (S b) 7) (whoU (S b) 7) w6 p2.rd q2.rd (by omega) (by omega)
  rw [decide_eq_true rfl] at z3
  refine z3.mono ?_
  rintro e w7 ⟨rfl, b7⟩
  have h7 := h6.later b7
  have s7 := b7.size
  refine ⟨rfl, ?_⟩
  refine (all_ref O2 x n S w7 h7.ref h.good (by omega)).mono ?_
  rintro e w8 ⟨B3, d3, rfl, q3, b8⟩
  have s8 := b8.size
  refine ⟨B3, d3, rfl, ?_⟩
  have p3 : OwnI w2.heap.size w8 (.slice A3 (blks prAll S).length c3) (blks prAll S) := ((((o3.below b4).below b5).below b6).below b7).below b8
  have z4 := same_any A3 B3 c3 d3 (blks prAll S) (blks prAll S) w8 p3.rd q3.rd (by omega) (by omega)
  rw [decide_eq_true rfl] at z4
  refine z4.mono ?_
  rintro e w9 ⟨rfl, b9⟩
  have s9 := b9.size
  refine ⟨rfl, ?_⟩
  have p1' : OwnI wD.heap.size w9 (.slice A1 (ofL S t).length c1) (ofL S t) := ((((p1.below b5).below b6).below b7).below b8).below b9
  have p2' : OwnI w1.heap.size w9 (.slice A2 (whoU (S b) 7).length c2) (whoU (S b) 7) := ((p2.below b7).below b8).below b9
  have p3' : OwnI w2.heap.size w9 (.slice A3 (blks prAll S).length c3) (blks prAll S) := p3.below b9
  have l1 : ∀ g, (Value.slice A1 (ofL S t).length c1).ownBlock = some g → wD.heap.size ≤ g ∧ g < w1.heap.size := fun g hg => by
    obtain ⟨k1, cs, k2⟩ := row_lt o1 hg
    exact ⟨k1, (Array.getElem?_eq_some_iff.1 k2).1⟩
  have l2 : ∀ g, (Value.slice A2 (whoU (S b) 7).length c2).ownBlock = some g → w1.heap.size ≤ g ∧ g < w2.heap.size := fun g hg => by
    obtain ⟨k1, cs, k2⟩ := row_lt o2 hg
    exact ⟨k1, (Array.getElem?_eq_some_iff.1 k2).1⟩
  have l3 : ∀ g, (Value.slice A3 (blks prAll S).length c3).ownBlock = some g → w2.heap.size ≤ g := fun g hg => (row_lt o3 hg).1
  refine (spoil_any wD.heap.size A1 _ c1 (ofL S t) w9 p1' (by omega)).mono ?_
  rintro e w10 ⟨rfl, f1⟩
  refine ⟨rfl, ?_⟩
  have p2a := p2'.off f1 (fun g hg e => by have := l1 g e; have := l2 g hg; omega)
  have p3a := p3'.off f1 (fun g hg e => by have := l1 g e; have := l3 g hg; omega)
  refine (spoil_any w1.heap.size A2 _ c2 (whoU (S b) 7) w10 p2a (by omega)).mono ?_
  rintro e w11 ⟨rfl, f2⟩
  refine ⟨rfl, ?_⟩
  have p3b := p3a.off f2 (fun g hg e => by have := l2 g e; have := l3 g hg; omega)
  refine (spoil_any w2.heap.size A3 _ c3 (blks prAll S) w11 p3b (by omega)).mono ?_
  rintro e w12 ⟨rfl, f3⟩
  refine ⟨rfl, ?_⟩
  have t9 : Below w.heap.size w w9 := h7.below.trans ((b8.trans (b9.mono s8)).mono (by omega))
  have t10 := t9.trans (f1.below t9.size (fun g e => by have := l1 g e; omega))
  have t11 := t10.trans (f2.below t10.size (fun g e => by have := l2 g e; omega))
  exact t11.trans (f3.below t11.size (fun g e => by have := l3 g e; omega))
set_option maxRecDepth 100000 in
set_option maxHeartbeats 4000000 in
theorem like_any2 (O : Nat → Prop) (r x n κ : Nat) (t b : Int) (S : Int → Nat) (w : World) (hJ : JT O w r x n S) (hn : n ≤ 800000) (hbi : In64 b) :
    Calls Try.prog 19 #[.pointer (some ⟨r, 0, none⟩), .pointer (some ⟨x, 0, none⟩), .agg #[.int .u8 (κ : Nat), .int .i64 t, .int .i64 b]] w fun e w' => e = .returned (.bool true) ∧ Below w.heap.size w w' := by
  obtain ⟨bm, O2, hA⟩ := jt_ahead hJ κ t b
  have p1 := hA.c1
  have p2 := hA.c2
  have hN1 := three_tell (hA.later ((Below.refl _ _).drew)) hn hbi
  have pD : Bx (w.alloc (.cells #[.int .u8 (κ : Nat), .int .i64 t, .int .i64 b] 29)).drew w.heap.size t b := ⟨p1, p2⟩
  clear hA hJ
  generalize (ofL S t).length = m1 at *
  generalize (whoU (S b) 7).length = m2 at *
  generalize (blks prAll S).length = m3 at *
  go_enter Try.func19, Try.ntmps19
  go_wp2_with fail
  go_region_held3 (fun W => W.cell? ⟨w.heap.size, 1, none⟩ = some (.int .i64 t) ∧ W.cell? ⟨w.heap.size, 2, none⟩ = some (.int .i64 b))
    (first | exact pD | assumption)
    (first | (go_at_call 12; refine hN1.mono ?_; rintro e w1 ⟨A1, c1, rfl, hb1, hN2⟩) | (go_at_call 15; refine hN2.mono ?_; rintro e w2 ⟨A2, c2, rfl, hb2, hN3⟩) | (go_at_call 8; refine hN3.mono ?_; rintro e w3 ⟨A3, c3, rfl, hb3, hN4⟩))
  all_goals (
    have q1 := hb3.1
    have q2 := hb3.2
    clear hN1 hN2 hN3 hb1 hb2 hb3 pD p1 p2
    go_wp2_with fail
    refine hN4.mono ?_
    rintro e w4 ⟨B1, d1, rfl, hb4, hN5⟩
    clear hN4 q1 q2
    go_wp2_with fail
    refine hN5.mono ?_
    rintro e w5 ⟨rfl, hb5, hN6⟩
    have q1 := hb5.1
    have q2 := hb5.2
    clear hN5 hb4 hb5
    go_wp2_with fail
    refine hN6.mono ?_
    rintro e w6 ⟨B2, d2, rfl, hN7⟩
    clear hN6 q1 q2
    go_wp2_with fail
    refine hN7.mono ?_
    rintro e w7 ⟨rfl, hN8⟩
    clear hN7
    go_wp2_with fail
    refine hN8.mono ?_
    rintro e w8 ⟨B3, d3, rfl, hN9⟩
    clear hN8
    go_wp2_with fail
    refine hN9.mono ?_
    rintro e w9 ⟨rfl, hN10⟩
    clear hN9
    go_wp2_with fail
    refine hN10.mono ?_
    rintro e w10 ⟨rfl, hN11⟩
    clear hN10
    go_wp2_with fail
    refine hN11.mono ?_
    rintro e w11 ⟨rfl, hN12⟩
    clear hN11
    go_wp2_with fail
    refine hN12.mono ?_
    rintro e w12 ⟨rfl, hF⟩
    replace hF := Lib.hid hF
    clear hN12
    go_wp2_with fail
    go_ret
    exact ⟨rfl, hF.out⟩)
end Go.Proofs.Ytdiejjhlgacbdaa
