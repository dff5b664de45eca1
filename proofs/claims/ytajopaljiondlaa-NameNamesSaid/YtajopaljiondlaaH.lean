/- WALKS of layer 24: the document's Depth and Moves; 'given'. -/
import Derived.Test.YtajopaljiondlaaG
import Derived.Deep.RegionHeld3
set_option linter.unusedVariables false
namespace Go.Proofs.Ytajopaljiondlaa
open Go.RowKit Go.ChangeShapes Go.WideShapes Go.ChangeAt

theorem passed_len : ∀ (par : Int → Option Int) (f : Nat) (out : List Int) (x : Int), (passed par f out x).1.length ≤ out.length + f
  | par, 0, out, x => by simp [passed]
  | par, f + 1, out, x => by
    unfold passed
    cases par x with
    | none => simp
    | some p =>
      have := passed_len par f (out ++ [p]) p
      simp only [List.length_append, List.length_cons, List.length_nil] at this
      show (if p = x then (out, (0 : Int)) else if p ∈ out then ([], 50) else passed par f (out ++ [p]) p).1.length ≤ _
      split
      · simp
      · split
        · simp
        · omega
theorem refdepth_any (A : Option Addr) (c : Nat) (l : List (Int × Int)) (ino : Int) (w : World) (hl : l.length ≤ 100000) (hR : RdU w A l) :
    Calls Try.prog 11 #[.slice A l.length c, .int .i64 ino] w fun e w' => e = .returned (.tuple #[.int .i64 (depthU (goUp l ino) (-1)).1, .int .i64 (depthU (goUp l ino) (-1)).2]) ∧ Below w.heap.size w w' := by
  have HP := Lib.hid (passed_any A c l ino w hl hR)
  have hpl := passed_len (parL l) (l.length + 1) [ino] ino
  have HD := Lib.hid (depth_law l ino)
  clear hR
  generalize passed (parL l) (l.length + 1) [ino] ino = P at *
  obtain ⟨o, cd⟩ := P
  simp only [List.length_cons, List.length_nil] at hpl
  generalize depthU (goUp l ino) (-1) = D at *
  go_enter Try.func11, Try.ntmps11
  go_wp2_with fail
  refine HP.out.mono ?_
  rintro e w1 ⟨A1, c1, rfl, hR1, hb1⟩
  have HB := Lib.hid hb1
  clear hR1 hb1 HP
  by_cases hcd : cd = 0
  · subst hcd
    have hD := HD.out
    simp only [if_true] at hD
    replace hD := Lib.hid hD
    go_wp2_with fail
    go_ret2
    exact ⟨by rw [hD.out]; rfl, HB.out⟩
  · have hcd' : (cd != 0) = true := by simpa using hcd
    have hD := HD.out
    simp only [if_neg hcd] at hD
    replace hD := Lib.hid hD
    go_wp2_with fail
    go_ret2
    exact ⟨by rw [hD.out]; rfl, HB.out⟩
set_option maxHeartbeats 1000000 in
theorem refmoves_any (A : Option Addr) (c : Nat) (l : List (Int × Int)) (ino to_ : Int) (w : World) (hl : l.length ≤ 100000) (hR : RdU w A l) :
    Calls Try.prog 13 #[.slice A l.length c, .int .i64 ino, .int .i64 to_] w fun e w' => e = .returned (.int .i64 (movesU ino (goUp l to_) 0)) ∧ Below w.heap.size w w' := by
  have HP := Lib.hid (passed_any A c l to_ w hl hR)
  have hpl := passed_len (parL l) (l.length + 1) [to_] to_
  have HD := Lib.hid (moves_law l ino to_)
  clear hR
  generalize passed (parL l) (l.length + 1) [to_] to_ = P at *
  obtain ⟨o, cd⟩ := P
  simp only [List.length_cons, List.length_nil] at hpl
  generalize movesU ino (goUp l to_) 0 = D at *
  go_enter Try.func13, Try.ntmps13
  go_wp2_with fail
  refine HP.out.mono ?_
  rintro e w1 ⟨A1, c1, rfl, hR1, hb1⟩
  have HB := Lib.hid hb1
  have HR1 := Lib.hid hR1
  clear hR1 hb1 HP
  by_cases hcd : cd = 0
  · subst hcd
    have hD := HD.out
    simp only [if_true] at hD
    replace hD := Lib.hid hD
    clear HD
    go_wp2_with fail
    go_loop [9] (fun i => ∃ k : Nat, k ≤ o.length ∧ i = .int .i64 k ∧ ∀ y ∈ o.take k, y ≠ ino) (fun i => o.length - (intOf i).toNat)
    case atStart => exact ⟨0, Nat.zero_le _, rfl, fun y hy => by simp at hy⟩
    case round =>
      obtain ⟨k, hk, rfl, hall⟩ := hrel
      replace hall := Lib.hid hall
      by_cases hlt : k < o.length
      · obtain ⟨b2, off2, rfl, hc2⟩ := HR1.out (by intro h; rw [h] at hlt; simp at hlt)
        have d0 := hc2 k hlt
        have HK := Lib.hid (take_snoc o k hlt)
        have hmem := Lib.hid (List.getElem_mem hlt)
        clear hc2
        by_cases he : o[k] = ino
        · rw [he] at d0
          have hP2 := hD.out
          rw [if_pos (by rw [← he]; exact hmem.out)] at hP2
          replace hP2 := Lib.hid hP2
          clear he
          go_wp2_with fail
          go_ret
          exact ⟨by rw [hP2.out]; rfl, HB.out⟩
        · have heB : (o[k] == ino) = false := by simpa using he
          have HE := Lib.hid he
          clear he
          generalize hq : o[k] = q at *
          replace hq := Lib.hid hq
          go_wp2_with fail
          go_round
          case rel =>
            refine ⟨k + 1, by omega, by go_num, fun y hy => ?_⟩
            rw [HK.out] at hy
            rcases List.mem_append.1 hy with h | h
            · exact hall.out y h
            · simp at h
              rw [h]
              exact HE.out
          case measure => simp [intOf]; omega
      · have hkl : k = o.length := by omega
        subst hkl
        have hnot : ino ∉ o := fun h => hall.out ino (by rw [List.take_length]; exact h) rfl
        have hP2 := hD.out
        rw [if_neg hnot] at hP2
        replace hP2 := Lib.hid hP2
        clear hall hnot
        go_wp2_with fail
        go_ret
        exact ⟨by rw [hP2.out]; rfl, HB.out⟩
  · have hcd' : (cd != 0) = true := by simpa using hcd
    have hD := HD.out
    simp only [if_neg hcd] at hD
    replace hD := Lib.hid hD
    go_wp2_with fail
    go_ret
    exact ⟨by rw [hD.out]; rfl, HB.out⟩

/-! ### 'given' -/
def prs (l : List (Int × Int)) : List Value := l.flatMap fun q => [.int .i64 q.1, .int .i64 q.2]
theorem prs_len (l : List (Int × Int)) : (prs l).length = l.length * 2 := by
  induction l with
  | nil => rfl
  | cons q l ih =>
    have : prs (q :: l) = [.int .i64 q.1, .int .i64 q.2] ++ prs l := rfl
    rw [this, List.length_append, ih]
    simp
    omega
theorem prs_snoc (l : List (Int × Int)) (q : Int × Int) : prs (l ++ [q]) = prs l ++ [.int .i64 q.1, .int .i64 q.2] := by unfold prs; simp
theorem prs_at : ∀ (l : List (Int × Int)) (k : Nat) (h : k < l.length), (prs l)[k * 2]? = some (.int .i64 l[k].1) ∧ (prs l)[k * 2 + 1]? = some (.int .i64 l[k].2)
  | [], k, h => by simp at h
  | q :: l, 0, _ => ⟨rfl, rfl⟩
  | q :: l, k + 1, h => by
    have := prs_at l k (by simpa using h)
    have e : prs (q :: l) = [.int .i64 q.1, .int .i64 q.2] ++ prs l := rfl
    rw [e]
    exact ⟨by rw [show (k + 1) * 2 = k * 2 + 2 from by omega]; simpa using this.1, by rw [show (k + 1) * 2 + 1 = k * 2 + 1 + 2 from by omega]; simpa using this.2⟩
theorem info_up : (Try.prog.info? 34).map (fun i => (i.zero, i.size, i.bytes)) = some (some (.agg #[.int .i64 0, .int .i64 0]), 2, 16) := by kernel_rfl
/-- Pairs that the call has made. -/
def OwnU (base : Nat) (w : World) (v : Value) (l : List (Int × Int)) : Prop := w.ownsRow base 34 2 v l.length (prs l)
theorem OwnU.form {base : Nat} {w : World} {v : Value} {l : List (Int × Int)} (h : OwnU base w v l) : ∃ A c, v = .slice A l.length c ∧ RdU w A l ∧ (∀ a, A = some a → base ≤ a.block ∧ a.block < w.heap.size) := by
  rcases h.2 with ⟨rfl, h0⟩ | ⟨g, cap, cur, rfl, hb, hg, hc, _, _, ht⟩
  · exact ⟨none, 0, by rw [h0], fun hne => absurd (List.eq_nil_of_length_eq_zero h0) hne, fun a ha => by cases ha⟩
  · refine ⟨some ⟨g, 0, none⟩, cap, rfl, fun hne => ⟨g, 0, rfl, fun k hk => ?_⟩, fun a ha => by cases ha; exact ⟨hb, (Array.getElem?_eq_some_iff.1 hg).1⟩⟩
    have hp := prs_at l k hk
    rw [← ht] at hp
    rw [List.getElem?_take_of_lt (by omega), List.getElem?_take_of_lt (by omega)] at hp
    unfold World.cell?
    rw [hg]
    exact ⟨by rw [← hp.1, Nat.zero_add]; exact (Array.getElem?_toList ..).symm, by rw [← hp.2, Nat.zero_add]; exact (Array.getElem?_toList ..).symm⟩
def GivenPost (l : List (Int × Int)) (w : World) (e : Ending) (w' : World) : Prop := ∃ A c, e = .returned (.slice A l.length c) ∧ OwnU w.heap.size w' (.slice A l.length c) l ∧ Below w.heap.size w w'
theorem own_app {base : Nat} {w : World} {v : Value} {l : List (Int × Int)} (h : OwnU base w v l) (q : Int × Int) (a : Nat) (hl : l.length ≤ 1000000) (hb : base ≤ w.heap.size) (hcell : w.heap[a]? = some (.cells #[.int .i64 q.1, .int .i64 q.2] 34 (0, 0))) :
    ∃ v' w', (Builtin.append_ #[27, 27] 27 #[v, .slice (some ⟨a, 0, none⟩) 1 1]).run Try.prog w = .ok v' w' ∧ OwnU base w' v' (l ++ [q]) ∧ Below base w w' := by
  obtain ⟨i0, hi, hz0, hz1, hz2⟩ := info_parts info_up
  have hnews : ∀ j u, [Value.int .i64 q.1, Value.int .i64 q.2][j]? = some u → w.cell? ((⟨a, 0, none⟩ : Addr).add j) = some u := by
    intro j u hj
    match j, hj with
    | 0, hj =>
      simp at hj
      subst hj
      unfold World.cell?
      rw [show w.heap[((⟨a, 0, none⟩ : Addr).add 0).block]? = _ from hcell]
      rfl
    | 1, hj =>
      simp at hj
      subst hj
      unfold World.cell?
      rw [show w.heap[((⟨a, 0, none⟩ : Addr).add 1).block]? = _ from hcell]
      rfl
  obtain ⟨v', w', hr, hown, hgrow, _⟩ := run_append_own (P := Try.prog) w base 27 27 34 i0 _ 2 16 Try.underlying27 hi hz0 hz1 hz2 rfl (by omega) v _ _ h ⟨a, 0, none⟩ 1 1 [.int .i64 q.1, .int .i64 q.2] rfl hnews (by simp [Value.oneCell']) (by unfold maxLen; omega) (by omega) hb
  refine ⟨v', w', hr, ?_, (Below.refl base w).grown hgrow hb (fun k e => ?_)⟩
  · unfold OwnU
    have e1 : (l ++ [q]).length = l.length + 1 := by simp
    rw [e1, prs_snoc]
    exact hown
  · rcases h.2 with ⟨rfl, _⟩ | ⟨g, cap, cur, rfl, hb, _⟩
    · cases e
    · simp [Value.ownBlock] at e
      omega
set_option maxHeartbeats 2000000 in
theorem given_any (A : Option Addr) (c : Nat) (l : List (Int × Int)) (w : World) (hl : l.length ≤ 100000) (hR : RdU w A l) :
    Calls Try.prog 10 #[.slice A l.length c] w (GivenPost l w) := by
  have HR := Lib.hid hR
  clear hR
  go_enter Try.func10, Try.ntmps10
  go_wp2_with fail
  go_loopw [3, 4] (fun v i wr => ∃ k A' c', k ≤ l.length ∧ i = .int .i64 (k : Nat) ∧ v = .slice A' k c' ∧ OwnU w.heap.size wr (.slice A' k c') (l.take k) ∧ Below w.heap.size w wr) (fun _ i _ => l.length - (intOf i).toNat)
  case atStart => exact ⟨0, none, 0, Nat.zero_le _, rfl, rfl, World.ownsRow_nil _ _ _ _, Below.refl _ _⟩
  case round =>
    obtain ⟨k, A', c', hk, rfl, rfl, hown, hB⟩ := hrel
    have HB := Lib.hid hB
    have hbz := hB.size
    have HO := Lib.hid hown
    by_cases hlt : k < l.length
    · obtain ⟨b, off, rfl, hc⟩ := HR.out (by intro h; subst h; simp at hlt)
      have d0 := keep1 hB (hc k hlt).1
      have d1 := keep1 hB (hc k hlt).2
      have hblt : b < w.heap.size := World.block_lt_of_cell? w _ (hc k hlt).1
      have HK := Lib.hid (take_snoc l k hlt)
      clear hc hB hown
      have hq : (l[k].1, l[k].2) = l[k] := rfl
      generalize l[k].1 = a at *
      generalize l[k].2 = p at *
      replace hq := Lib.hid hq
      have bD : Below wr.heap.size wr (wr.drew.alloc (.cells #[.int .i64 a, .int .i64 p] 34)) := (Below.refl _ _).drew.alloc (Nat.le_refl _) _
      obtain ⟨v', w', hap, hown', hb'⟩ := own_app (w := wr.drew.alloc (.cells #[.int .i64 a, .int .i64 p] 34)) (HO.out.drew.alloc _) (a, p) wr.heap.size (by have := List.length_take_le k l; omega) (by simp; omega) (heap_alloc_new wr.drew _)
      replace hap : (Builtin.append_ #[27, 27] 27 #[.slice A' k c', .slice (some ⟨wr.heap.size, 0, none⟩) 1 1]).run Try.prog (wr.alloc (.cells #[.int .i64 a, .int .i64 p] 34)).drew = .ok v' w' := hap
      obtain ⟨A2, c2, rfl, _, _⟩ := hown'.form
      have e1 : (l.take k ++ [(a, p)]).length = k + 1 := by rw [List.length_append, List.length_take_of_le hk]; rfl
      rw [e1] at hap hown'
      have HB2 := Lib.hid ((HB.out.trans (bD.mono hbz)).trans hb')
      have HO2 := Lib.hid hown'
      have cA := keep1 bD d0
      have cB := keep1 bD d1
      have cA2 := (hb'.cell (p := ⟨b, off + k * 2, none⟩) hblt).trans cA
      have cB2 := (hb'.cell (p := ⟨b, off + k * 2 + 1, none⟩) hblt).trans cB
      clear hown' hb' bD e1
      go_wp2_with fail
      go_region_held3 (fun w' => w'.cell? ⟨b, off + k * 2, none⟩ = some (.int .i64 a) ∧ w'.cell? ⟨b, off + k * 2 + 1, none⟩ = some (.int .i64 p))
        (first | exact ⟨d0, d1⟩ | exact ⟨cA, cB⟩ | exact ⟨cA2, cB2⟩)
        (first | (refine Go.Lib.wp_append_run_sl _ _ _ _ rfl _ _ rfl rfl hap ?_))
      all_goals (
        clear cA cB cA2 cB2 d0 d1
        go_wp2_with fail
        go_roundw
        case rel => exact ⟨k + 1, A2, c2, by omega, by go_num, rfl, by rw [HK.out, ← hq.out]; exact HO2.out, HB2.out⟩
        case measure => simp [intOf]; omega)
    · have hkl : k = l.length := by omega
      subst hkl
      rw [List.take_length] at hown
      have HO' := Lib.hid hown
      clear hown hB
      go_wp2_with fail
      go_ret
      exact ⟨A', c', rfl, HO'.out, HB.out⟩
end Go.Proofs.Ytajopaljiondlaa
