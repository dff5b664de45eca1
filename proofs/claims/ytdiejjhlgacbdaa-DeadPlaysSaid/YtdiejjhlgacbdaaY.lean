/- WALK of DeadPlays. -/
import Derived.Test.YtdiejjhlgacbdaaYe
set_option linter.unusedVariables false
namespace Go.Proofs.Ytdiejjhlgacbdaa
open Go.RowKit Go.ChangeShapes Go.WideShapes Go.ChangeAt Go.Deep

theorem rel_none : Rel (fun _ => 0) [] := ⟨List.nodup_nil, fun a b => by simp⟩
/-- Two new tables. -/
theorem jt_new {w w1 : World} {r bm : Nat} (hT : Tab w1 r bm 0 (fun _ => 0)) (hr : w.heap.size ≤ r) (hb : w.heap.size ≤ bm) (hB : Below w.heap.size w w1) :
    JT (fun k => w.heap.size ≤ k ∧ k < (w1.alloc (.cells #[.slice none 0 0] 43)).heap.size) (w1.alloc (.cells #[.slice none 0 0] 43)) r w1.heap.size 0 (fun _ => 0) ∧ Below w.heap.size w (w1.alloc (.cells #[.slice none 0 0] 43)) := by
  have hs := hB.size
  have hlt := hT.lt
  have ha : Below w1.heap.size w1 (w1.alloc (.cells #[.slice none 0 0] 43)) := (Below.refl _ _).alloc (Nat.le_refl _) _
  have hsz : (w1.alloc (.cells #[.slice none 0 0] 43)).heap.size = w1.heap.size + 1 := by simp
  refine ⟨⟨bm, fun k => w1.heap.size ≤ k ∧ k < (w1.alloc (.cells #[.slice none 0 0] 43)).heap.size, hT.below ha, good_none, ⟨[], ⟨_, heap_alloc_new _ _, World.ownsRow_nil _ _ _ _, (fun e => by cases e), ⟨Nat.le_refl _, by omega⟩, (fun g e => by cases e), (fun k h => h.2)⟩, rel_none, Nat.zero_le _⟩, ⟨hr, by omega⟩, ⟨hb, by omega⟩, fun k h => ⟨Nat.le_trans hs h.1, h.2⟩, fun h => by omega, fun h => by omega, fun k h => h.2⟩, hB.trans (ha.mono hs)⟩
/-- Two copies. -/
theorem two_copy {O : Nat → Prop} {w : World} {r x n : Nat} {S : Int → Nat} (h : JT O w r x n S) (hn : n ≤ 800000) :
    Calls Try.prog 16 #[.pointer (some ⟨r, 0, none⟩)] w fun e w1 => ∃ r2, e = .returned (.pointer (some ⟨r2, 0, none⟩)) ∧
    Calls Try.prog 17 #[.pointer (some ⟨x, 0, none⟩)] w1 fun e w2 => ∃ x2, e = .returned (.pointer (some ⟨x2, 0, none⟩)) ∧ JT (fun k => w.heap.size ≤ k ∧ k < w2.heap.size) w2 r2 x2 n S ∧ Below w.heap.size w w2 := by
  obtain ⟨bm, O2, h1, h2, h3, h4, h5, h6, h7, h8, h9⟩ := h
  refine (copy_any r bm n S w h1).mono ?_
  rintro e w1 ⟨r2, bm2, rfl, hT, hr, hb, hB⟩
  refine ⟨r2, rfl, ?_⟩
  refine (copy_ref O2 x n S w1 (h3.below hB) (by omega)).mono ?_
  rintro e w2 ⟨x2, rfl, hX, hB2⟩
  have s1 := hB.size
  have s2 := hB2.size
  have hlt := hT.lt
  exact ⟨x2, rfl, ⟨bm2, _, hT.below hB2, h2, hX, ⟨hr, by omega⟩, ⟨hb, by omega⟩, fun k h => ⟨Nat.le_trans s1 h.1, h.2⟩, fun h => by omega, fun h => by omega, fun k h => h.2⟩, hB.trans (hB2.mono s1)⟩
/-- At the head of the loop. -/
def PHead (w : World) (r x len : Nat) (v : Value) (wr : World) : Prop := ∃ k S O, k ≤ len ∧ v = .int .i64 (k : Nat) ∧ JT O wr r x (8192 * k) S ∧ (∀ g, O g → w.heap.size ≤ g) ∧ Below w.heap.size w wr
/-- All of a round: told, and done, by both tables and both copies. -/
theorem round_all {O : Nat → Prop} {w wr : World} {r x n κ : Nat} {t b : Int} {S : Int → Nat} (h : JT O wr r x n S) (hO : ∀ g, O g → w.heap.size ≤ g) (hB : Below w.heap.size w wr) (hn : n ≤ 700000) (hκ : κ < 256) (ht : In64 t) (hb : In64 b) {r2 x2 : Nat} {w2 : World} (hJ2 : JT (fun k => wr.heap.size ≤ k ∧ k < w2.heap.size) w2 r2 x2 n S) (hB2 : Below wr.heap.size wr w2) :
    Calls Try.prog 18 #[.agg #[.int .u8 (κ : Nat), .int .i64 t, .int .i64 b], .pointer (some ⟨r, 0, none⟩), .pointer (some ⟨x, 0, none⟩)] w2 fun e w3 => e = .returned (.bool true) ∧ Off O w2 w3 ∧
    Calls Try.prog 19 #[.pointer (some ⟨r, 0, none⟩), .pointer (some ⟨x, 0, none⟩), .agg #[.int .u8 (κ : Nat), .int .i64 t, .int .i64 b]] w3 fun e w4 => e = .returned (.bool true) ∧ Off O w2 w4 ∧
    Calls Try.prog 19 #[.pointer (some ⟨r2, 0, none⟩), .pointer (some ⟨x2, 0, none⟩), .agg #[.int .u8 (κ : Nat), .int .i64 t, .int .i64 b]] w4 fun e w5 => e = .returned (.bool true) ∧ Off O w2 w5 ∧
    Calls Try.prog 18 #[.agg #[.int .u8 (κ : Nat), .int .i64 t, .int .i64 b], .pointer (some ⟨r2, 0, none⟩), .pointer (some ⟨x2, 0, none⟩)] w5 fun e w6 => e = .returned (.bool true) ∧ Below w.heap.size w w6 ∧
    Calls Try.prog 19 #[.pointer (some ⟨r2, 0, none⟩), .pointer (some ⟨x2, 0, none⟩), .agg #[.int .u8 (κ : Nat), .int .i64 t, .int .i64 b]] w6 fun e w7 => e = .returned (.bool true) ∧
      (∃ S' O', JT O' w7 r x (n + 8192) S' ∧ (∀ g, O' g → w.heap.size ≤ g)) ∧ Below w.heap.size w w7 := by
  have sz := hB.size
  have sz2 := hB2.size
  have hlt := h.lt
  have h2 := h.below hB2
  refine (do_ref O r x n κ t b S w2 h2 (by omega) hκ ht).mono ?_
  rintro e w3 ⟨rfl, hJ3, ho3⟩
  have s3 := ho3.size
  refine ⟨rfl, ho3, ?_⟩
  have c3 := hJ2.off ho3 (fun k hk e => by have := hlt k e; omega)
  refine (like_any2 _ r x (n + 8192) κ t b (stepS ⟨κ, t, b⟩ S) w3 hJ3 (by omega) hb).mono ?_
  rintro e w4 ⟨rfl, hb4⟩
  have s4 := hb4.size
  refine ⟨rfl, ho3.trans (Off.of_below O hb4), ?_⟩
  have c4 := c3.below hb4
  have j4 := hJ3.below hb4
  refine (like_any2 _ r2 x2 n κ t b S w4 c4 (by omega) hb).mono ?_
  rintro e w5 ⟨rfl, hb5⟩
  have s5 := hb5.size
  have f5 : Off O w2 w5 := (ho3.trans (Off.of_below O hb4)).trans (Off.of_below O hb5)
  refine ⟨rfl, f5, ?_⟩
  have c5 := c4.below hb5
  have j5 := j4.below hb5
  have B5 : Below w.heap.size w w5 := (hB.trans (hB2.mono sz)).trans (f5.below (Nat.le_trans sz sz2) (fun g hg => hO g hg))
  refine (do_ref _ r2 x2 n κ t b S w5 c5 (by omega) hκ ht).mono ?_
  rintro e w6 ⟨rfl, hJ6, ho6⟩
  have B6 : Below w.heap.size w w6 := B5.trans (ho6.below B5.size (fun g hg => by omega))
  refine ⟨rfl, B6, ?_⟩
  have j6 := j5.off ho6 (fun k hk e => by
    rcases hk with hk | ⟨hk, _⟩
    · have := hlt k hk
      omega
    · omega)
  refine (like_any2 _ r2 x2 (n + 8192) κ t b (stepS ⟨κ, t, b⟩ S) w6 hJ6 (by omega) hb).mono ?_
  rintro e w7 ⟨rfl, hb7⟩
  refine ⟨rfl, ⟨_, _, j6.below hb7, ?_⟩, B6.trans (hb7.mono B6.size)⟩
  rintro g (hg | ⟨hg, _⟩)
  · exact hO g hg
  · omega
set_option maxRecDepth 100000 in
set_option maxHeartbeats 4000000 in
theorem plays_walk (A : Option Addr) (c : Nat) (l : List Stp) (w : World) (hR : RdO w A l) (hlm : l.length ≤ maxLen) (hok : ∀ o ∈ l, OkOp o) :
    Calls Try.prog 4 #[.slice A l.length c] w fun e w' => e = .returned (.bool true) ∧ Below w.heap.size w w' := by
  have HR := Lib.hid hR
  have HO := Lib.hid hok
  clear hR hok
  unfold maxLen at hlm
  by_cases h80 : 80 < l.length
  · go_enter Try.func4, Try.ntmps4
    go_wp2_with fail
    refine (awake_any w).mono ?_
    rintro e w1 ⟨rfl, hb⟩
    replace hb := Lib.hid hb
    go_wp2_with fail
    go_ret
    exact ⟨rfl, hb.out⟩
  go_enter Try.func4, Try.ntmps4
  go_wp2_with fail
  refine (new_any w).mono ?_
  rintro e w1 ⟨r, bm, rfl, hT, hr, hb, hB⟩
  obtain ⟨hJ, hB1⟩ := jt_new hT hr hb hB
  replace hJ := Lib.hid hJ
  replace hB1 := Lib.hid hB1
  clear hT hr hb hB
  go_wp2_with fail
  go_loopw [5] (fun v5 wr => PHead w r w1.heap.size l.length v5 wr) (fun v5 _ => l.length - (intOf v5).toNat)
  case atStart => exact ⟨0, _, _, Nat.zero_le _, rfl, hJ.out, fun g h => h.1, hB1.out⟩
  case round =>
    obtain ⟨k, S, O, hk, rfl, hJk, hOk, hBk⟩ := hrel
    clear hJ hB1
    generalize w1.heap.size = x at *
    have HJ := Lib.hid hJk
    have HOk := Lib.hid hOk
    have HBk := Lib.hid hBk
    clear hJk hOk hBk
    by_cases hlt : k < l.length
    · obtain ⟨b, off, rfl, hbl, hcs⟩ := HR.out (by intro h; subst h; simp at hlt)
      obtain ⟨e0, e1, e2⟩ := hcs k hlt
      have hoo := HO.out l[k] (List.getElem_mem hlt)
      generalize l[k] = o at *
      obtain ⟨κ, t, bl⟩ := o
      simp only at e0 e1 e2
      obtain ⟨hκ, hti, hbi⟩ := hoo
      simp only at hκ hti hbi
      have HE := Lib.hid (And.intro e0 (And.intro e1 e2))
      have hC1 := two_copy HJ.out (by omega)
      have hRA := Lib.hid (fun (r2 x2 : Nat) (W : World) (h1 : JT (fun k => wr.heap.size ≤ k ∧ k < W.heap.size) W r2 x2 (8192 * k) S) (h2 : Below wr.heap.size wr W) => round_all (κ := κ) (t := t) (b := bl) HJ.out HOk.out HBk.out (show 8192 * k ≤ 700000 by omega) hκ hti hbi h1 h2)
      have keepE : ∀ W : World, Below w.heap.size w W → W.cell? ⟨b, off + k * 3, none⟩ = some (.int .u8 (κ : Nat)) ∧ W.cell? ⟨b, off + k * 3 + 1, none⟩ = some (.int .i64 t) ∧ W.cell? ⟨b, off + k * 3 + 2, none⟩ = some (.int .i64 bl) := fun W hW => ⟨keep1 hW HE.out.1, keep1 hW HE.out.2.1, keep1 hW HE.out.2.2⟩
      have KE := Lib.hid keepE
      have hk0 : (0 : Int) ≤ k := by omega
      have hk1 : (k : Int) < l.length := by omega
      clear keepE e0 e1 e2 hcs HJ
      go_wp2_with fail
      refine hC1.mono ?_
      rintro e w2 ⟨r2, rfl, hC2⟩
      clear hC1
      go_wp2_with fail
      refine hC2.mono ?_
      rintro e w3 ⟨x2, rfl, hJ2, hB2⟩
      have hD1 := hRA.out r2 x2 w3 hJ2 hB2
      have hB3 := HBk.out.trans (hB2.mono HBk.out.size)
      have hOff := Lib.hid (fun W (h : Off O w3 W) => KE.out W (hB3.trans (h.below hB3.size (fun g hg => HOk.out g hg))))
      obtain ⟨d0, d1, d2⟩ := KE.out w3 hB3
      clear hC2 hJ2 hB2 hRA hB3
      go_wp2_with fail
      refine hD1.mono ?_
      rintro e w4 ⟨rfl, ho4, hD2⟩
      clear d0 d1 d2 hD1
      obtain ⟨d0, d1, d2⟩ := hOff.out w4 ho4
      clear ho4
      go_wp2_with fail
      refine hD2.mono ?_
      rintro e w5 ⟨rfl, ho5, hD3⟩
      clear d0 d1 d2 hD2
      obtain ⟨d0, d1, d2⟩ := hOff.out w5 ho5
      clear ho5
      go_wp2_with fail
      refine hD3.mono ?_
      rintro e w6 ⟨rfl, ho6, hD4⟩
      clear d0 d1 d2 hD3
      obtain ⟨d0, d1, d2⟩ := hOff.out w6 ho6
      clear ho6
      go_wp2_with fail
      refine hD4.mono ?_
      rintro e w7 ⟨rfl, hb7, hD5⟩
      clear d0 d1 d2 hD4
      obtain ⟨d0, d1, d2⟩ := KE.out w7 hb7
      clear hb7
      go_wp2_with fail
      refine hD5.mono ?_
      rintro e w8 ⟨rfl, hJ8, hB8⟩
      clear d0 d1 d2 hD5
      have HF := Lib.hid (And.intro hJ8 hB8)
      clear hJ8 hB8 HE HO HR hOff KE
      go_wp2_with fail
      go_roundw
      case rel =>
        obtain ⟨⟨S', O', q1, q2⟩, q3⟩ := HF.out
        exact ⟨k + 1, S', O', by omega, by go_num, q1, q2, q3⟩
      case measure => simp [intOf]; omega
    · go_wp2_with fail
      refine (awake_any wr).mono ?_
      rintro e w2 ⟨rfl, hb⟩
      have HF := Lib.hid (HBk.out.trans (hb.mono HBk.out.size))
      clear hb
      go_wp2_with fail
      go_ret
      exact ⟨rfl, HF.out⟩
end Go.Proofs.Ytdiejjhlgacbdaa
