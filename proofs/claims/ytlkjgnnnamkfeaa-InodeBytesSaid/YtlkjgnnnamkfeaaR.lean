/- WALKS of layer 20: the document's DecodeMeta. -/
import Derived.Test.YtlkjgnnnamkfeaaQ
set_option linter.unusedVariables false
namespace Go.Proofs.Ytlkjgnnnamkfeaa
open Go.RowKit Go.ChangeShapes Go.WideShapes Go.ChangeAt

theorem mnum_at (s : ByteArray) (i : Nat) (w : World) (hs : s.size = 9) (hi : i + 4 ≤ 9) : Calls Try.prog 42 #[.string (s.extract i (i + 4))] w fun e w' => e = .returned (.int .i64 (at4 s i)) ∧ ∃ n, w' = w.drewN n := by
  refine (num_any (s.extract i (i + 4)) w (by rw [ByteArray.size_extract]; omega)).mono ?_
  rintro e w' ⟨rfl, h⟩
  refine ⟨?_, h⟩
  refine congrArg (fun x => Ending.returned (Value.int .i64 x)) ?_
  unfold at4 num4
  rw [ByteArray.data_extract, Array.toList_extract]
  simp only [List.extract_eq_take_drop, List.getD_eq_getElem?_getD]
  rw [List.getElem?_take_of_lt (by omega), List.getElem?_take_of_lt (by omega), List.getElem?_take_of_lt (by omega), List.getElem?_take_of_lt (by omega)]
set_option maxHeartbeats 2000000 in
theorem refdecmeta_any (s : ByteArray) (w : World) : Calls Try.prog 30 #[.string s] w fun e w' => e = .returned (decMR s) ∧ Below w.heap.size w w' := by
  by_cases hs : s.size = 9
  case neg =>
    have hs' : ((s.size : Int) != 9) = true := by simp; omega
    have H := Lib.hid (show decMR s = .tuple #[.agg #[.int .i64 0, .int .i64 0], .int .i64 4] from by unfold decMR; rw [if_pos (.inl hs)])
    clear hs
    go_enter Try.func30, Try.ntmps30
    go_wp2_with fail
    go_returns
    exact ⟨congrArg Ending.returned H.out.symm, by go_grown⟩
  have hs' : ((s.size : Int) != 9) = false := by simp; omega
  have hs0 : 0 < s.size := by omega
  have hkd : kindOf s = ((s[0].toNat : Nat) : Int) := by unfold kindOf; rw [getD_byte s 0 (by omega)]
  by_cases hk : kindOf s = 109
  case neg =>
    have hk' : (((s[0].toNat : Nat) : Int) != 109) = true := by rw [← hkd]; simpa using hk
    have H := Lib.hid (show decMR s = .tuple #[.agg #[.int .i64 0, .int .i64 0], .int .i64 4] from by unfold decMR; rw [if_pos (.inr hk)])
    clear hk hkd
    go_enter Try.func30, Try.ntmps30
    go_wp2_with fail
    go_returns
    exact ⟨congrArg Ending.returned H.out.symm, by go_grown⟩
  have hk' : (((s[0].toNat : Nat) : Int) != 109) = false := by rw [← hkd]; simpa using hk
  clear hkd
  go_enter Try.func30, Try.ntmps30
  go_wp2_with fail
  have r0 : (w.alloc (.cells #[.int .i64 0, .int .i64 0] 43)).cell? ⟨w.heap.size, 0, none⟩ = some (.int .i64 0) := (cellN _ _ _ _ rfl _).trans rfl
  have r1 : (w.alloc (.cells #[.int .i64 0, .int .i64 0] 43)).cell? ⟨w.heap.size, 1, none⟩ = some (.int .i64 0) := (cellN _ _ _ _ rfl _).trans rfl
  have rf : ∀ i, (w.alloc (.cells #[.int .i64 0, .int .i64 0] 43)).frozen? ⟨w.heap.size, i, none⟩ = false := fun i => World.frozen?_alloc_new w _ _ _
  have hz : w.heap.size < (w.alloc (.cells #[.int .i64 0, .int .i64 0] 43)).heap.size := by simp
  have HB : Below w.heap.size w (w.alloc (.cells #[.int .i64 0, .int .i64 0] 43)) := by go_grown
  generalize w.alloc (.cells #[.int .i64 0, .int .i64 0] 43) = w1 at *
  have hsd : ∀ (W : World) (n : Nat) (a : Addr) (v : Value), (W.drewN n).setCell a v = (W.setCell a v).drewN n := fun _ _ _ _ => rfl
  have hsd' : ∀ (W : World) (n : Nat) (o : Obj), (W.drewN n).alloc o = (W.alloc o).drewN n := fun _ _ _ => rfl
  go_region_held3 (fun _ => True)
    (trivial)
    (first | (go_at_call 42; refine (mnum_at s _ _ hs (by omega)).mono ?_; rintro e w4 ⟨rfl, n, rfl⟩))
  all_goals clear hsd' hsd
  all_goals have m0 : ∀ N, ((w1.alloc (.cells #[.int .i64 (at4 s 1), .int .i64 (at4 s 5)] 43)).drewN N).cell? ⟨w1.heap.size, 0, none⟩ = some (.int .i64 (at4 s 1)) := fun N => cellDN ((cellN _ _ _ _ rfl _).trans rfl)
  all_goals have m1 : ∀ N, ((w1.alloc (.cells #[.int .i64 (at4 s 1), .int .i64 (at4 s 5)] 43)).drewN N).cell? ⟨w1.heap.size, 1, none⟩ = some (.int .i64 (at4 s 5)) := fun N => cellDN ((cellN _ _ _ _ rfl _).trans rfl)
  all_goals have q0 : ∀ N, ((w1.alloc (.cells #[.int .i64 (at4 s 1), .int .i64 (at4 s 5)] 43)).drewN N).cell? ⟨w.heap.size, 0, none⟩ = some (.int .i64 0) := fun N => cellDN (cellP hz r0)
  all_goals have q1 : ∀ N, ((w1.alloc (.cells #[.int .i64 (at4 s 1), .int .i64 (at4 s 5)] 43)).drewN N).cell? ⟨w.heap.size, 1, none⟩ = some (.int .i64 0) := fun N => cellDN (cellP hz r1)
  all_goals have qf : ∀ N i, ((w1.alloc (.cells #[.int .i64 (at4 s 1), .int .i64 (at4 s 5)] 43)).drewN N).frozen? ⟨w.heap.size, i, none⟩ = false := fun N i => frozDN (frozP hz (rf i))
  all_goals have QB : ∀ N, Below w.heap.size w ((w1.alloc (.cells #[.int .i64 (at4 s 1), .int .i64 (at4 s 5)] 43)).drewN N) := fun N => below_drewN (HB.alloc HB.size _) N
  all_goals clear r0 r1 rf HB
  all_goals generalize (w1.alloc (.cells #[.int .i64 (at4 s 1), .int .i64 (at4 s 5)] 43)) = w2 at *
  all_goals generalize 1 + _ + _ = N at *
  all_goals replace m0 := m0 N
  all_goals replace m1 := m1 N
  all_goals replace q0 := q0 N
  all_goals replace q1 := q1 N
  all_goals replace qf := qf N
  all_goals replace QB := Lib.hid (QB N)
  all_goals generalize w2.drewN N = w3 at *
  all_goals have z0 : ∀ v, (w3.setCell ⟨w.heap.size, 0, none⟩ v).cell? ⟨w.heap.size, 0, none⟩ = some v := fun v => World.cell?_setCell_same _ _ _ q0
  all_goals have z1 : ∀ v u, ((w3.setCell ⟨w.heap.size, 0, none⟩ v).setCell ⟨w.heap.size, 1, none⟩ u).cell? ⟨w.heap.size, 1, none⟩ = some u := fun v u => World.cell?_setCell_same _ _ _ ((World.cell?_setCell_other _ _ _ _ (by simp)).trans q1)
  all_goals go_wp2_with fail
  all_goals cases hg : cnt (at4 s 1) with
    | false =>
      have H := Lib.hid (show decMR s = .tuple #[.agg #[.int .i64 0, .int .i64 0], .int .i64 4] from by unfold decMR; rw [if_neg (by omega), if_neg (by rw [hg]; simp)])
      have HG := Lib.hid hg
      clear hg
      refine (count_is HG.out _).mono ?_
      rintro e w5 ⟨rfl, rfl⟩
      go_wp2_with fail
      refine bodyPost_ret (by simp [results, Try.results30, go_sem, z0, z1]; try rfl) rfl ?_
      exact ⟨congrArg Ending.returned H.out.symm, (QB.out.setCell (Nat.le_refl _) _).setCell (Nat.le_refl _) _⟩
    | true =>
      cases hb : cnt (at4 s 5) with
      | false =>
        have H := Lib.hid (show decMR s = .tuple #[.agg #[.int .i64 0, .int .i64 0], .int .i64 4] from by unfold decMR; rw [if_neg (by omega), if_neg (by rw [hb]; simp)])
        have HG := Lib.hid hg
        have HBb := Lib.hid hb
        clear hg hb
        refine (count_is HG.out _).mono ?_
        rintro e w5 ⟨rfl, rfl⟩
        go_wp2_with fail
        refine (count_is HBb.out _).mono ?_
        rintro e w5 ⟨rfl, rfl⟩
        go_wp2_with fail
        refine bodyPost_ret (by simp [results, Try.results30, go_sem, z0, z1]; try rfl) rfl ?_
        exact ⟨congrArg Ending.returned H.out.symm, (QB.out.setCell (Nat.le_refl _) _).setCell (Nat.le_refl _) _⟩
      | true =>
        have H := Lib.hid (show decMR s = .tuple #[.agg #[.int .i64 (at4 s 1), .int .i64 (at4 s 5)], .int .i64 0] from by unfold decMR; rw [if_neg (by omega), if_pos (by rw [hg, hb]; rfl)])
        have HG := Lib.hid hg
        have HBb := Lib.hid hb
        clear hg hb
        refine (count_is HG.out _).mono ?_
        rintro e w5 ⟨rfl, rfl⟩
        go_wp2_with fail
        refine (count_is HBb.out _).mono ?_
        rintro e w5 ⟨rfl, rfl⟩
        go_wp2_with fail
        refine bodyPost_ret (by simp [results, Try.results30, go_sem, z0, z1]; try rfl) rfl ?_
        exact ⟨congrArg Ending.returned H.out.symm, (QB.out.setCell (Nat.le_refl _) _).setCell (Nat.le_refl _) _⟩
end Go.Proofs.Ytlkjgnnnamkfeaa
