/- WALKS of layer 20: Decode. -/
import Derived.Test.YtlkjgnnnamkfeaaF
set_option linter.unusedVariables false
namespace Go.Proofs.Ytlkjgnnnamkfeaa
open Go.RowKit Go.ChangeShapes Go.WideShapes Go.ChangeAt

set_option maxHeartbeats 1000000 in
theorem fields_exact (b : Nat) (w : World) : Calls Try.prog 35 #[.pointer (some ⟨b, 0, none⟩)] w fun e w' => e = .returned (places b) ∧ w' = (w.alloc (.cells #[.pointer (some ⟨b, 1, none⟩), .pointer (some ⟨b, 2, none⟩), .pointer (some ⟨b, 3, none⟩), .pointer (some ⟨b, 4, none⟩), .pointer (some ⟨b, 5, none⟩), .pointer (some ⟨b, 6, none⟩), .pointer (some ⟨b, 7, none⟩)] 65)).drew := by
  go_enter Try.func35, Try.ntmps35
  go_wp2_with fail
  go_still_tail 22, (by kernel_rfl)
  change wpList _ _ _ _ _ (w.alloc (.cells #[.pointer none, .pointer none, .pointer none, .pointer none, .pointer none, .pointer none, .pointer none] 65)).drew
  go_wp2_with fail
  all_goals go_returns
  all_goals exact ⟨rfl, rfl⟩

/-- The number at a place of a text. -/
def at4 (s : ByteArray) (i : Nat) : Int := num4 (s.data.toList.drop i)
def kindOf (s : ByteArray) : Int := ((s.data.toList.getD 0 0).toNat : Int)
def decR (s : ByteArray) : Value :=
  if s.size ≠ 29 then er 4 else if mayB (kindOf s) (at4 s 1) (at4 s 5) (at4 s 9) (at4 s 13) (at4 s 17) (at4 s 21) (at4 s 25) = true
  then .tuple #[ag (kindOf s) (at4 s 1) (at4 s 5) (at4 s 9) (at4 s 13) (at4 s 17) (at4 s 21) (at4 s 25), .int .i64 0] else er 4

theorem cellP {w : World} {o : Obj} {b i : Nat} {v : Option Value} (h : b < w.heap.size) (hc : w.cell? ⟨b, i, none⟩ = v) : (w.alloc o).cell? ⟨b, i, none⟩ = v := (World.cell?_alloc_lt w o _ h).trans hc
theorem frozP {w : World} {o : Obj} {b i : Nat} {v : Bool} (h : b < w.heap.size) (hc : w.frozen? ⟨b, i, none⟩ = v) : (w.alloc o).frozen? ⟨b, i, none⟩ = v := (World.frozen?_alloc_old w o _ (Nat.ne_of_lt h)).trans hc

theorem get_at (s : ByteArray) (i : Nat) (w : World) (hs : s.size = 29) (hi : i + 4 ≤ 29) : Calls Try.prog 41 #[.string (s.extract i 29)] w fun e w' => e = .returned (.int .i64 (at4 s i)) ∧ ∃ n, w' = w.drewN n := by
  refine (get_any (s.extract i 29) w (by rw [ByteArray.size_extract]; omega)).mono ?_
  rintro e w' ⟨rfl, h⟩
  refine ⟨?_, h⟩
  unfold at4
  rw [show (s.extract i 29).data.toList = s.data.toList.drop i from by
    rw [ByteArray.data_extract, Array.toList_extract, List.extract_eq_take_drop]
    exact List.take_of_length_le (by simp; have : s.data.size = 29 := hs; omega)]

set_option maxHeartbeats 2000000 in
theorem decode_any (s : ByteArray) (w : World) :
    Calls Try.prog 22 #[.string s] w fun e w' => e = .returned (decR s) ∧ Below w.heap.size w w' := by
  have i0 : ∀ W : World, (Instr.index 65 (places (w.heap.size + 1)) (.int .i64 0)).run Try.prog W = .ok (.pointer (some ⟨w.heap.size + 1, 1, none⟩)) W := fun _ => by kernel_rfl
  have i1 : ∀ W : World, (Instr.index 65 (places (w.heap.size + 1)) (.int .i64 1)).run Try.prog W = .ok (.pointer (some ⟨w.heap.size + 1, 2, none⟩)) W := fun _ => by kernel_rfl
  have i2 : ∀ W : World, (Instr.index 65 (places (w.heap.size + 1)) (.int .i64 2)).run Try.prog W = .ok (.pointer (some ⟨w.heap.size + 1, 3, none⟩)) W := fun _ => by kernel_rfl
  have i3 : ∀ W : World, (Instr.index 65 (places (w.heap.size + 1)) (.int .i64 3)).run Try.prog W = .ok (.pointer (some ⟨w.heap.size + 1, 4, none⟩)) W := fun _ => by kernel_rfl
  have i4 : ∀ W : World, (Instr.index 65 (places (w.heap.size + 1)) (.int .i64 4)).run Try.prog W = .ok (.pointer (some ⟨w.heap.size + 1, 5, none⟩)) W := fun _ => by kernel_rfl
  have i5 : ∀ W : World, (Instr.index 65 (places (w.heap.size + 1)) (.int .i64 5)).run Try.prog W = .ok (.pointer (some ⟨w.heap.size + 1, 6, none⟩)) W := fun _ => by kernel_rfl
  have i6 : ∀ W : World, (Instr.index 65 (places (w.heap.size + 1)) (.int .i64 6)).run Try.prog W = .ok (.pointer (some ⟨w.heap.size + 1, 7, none⟩)) W := fun _ => by kernel_rfl
  by_cases hs : s.size = 29
  case neg =>
    have hs' : ((s.size : Int) != 29) = true := by simp; omega
    have H := Lib.hid (show decR s = .tuple #[.agg #[.int .u8 0, .int .i64 0, .int .i64 0, .int .i64 0, .int .i64 0, .int .i64 0, .int .i64 0, .int .i64 0], .int .i64 4] from by unfold decR; rw [if_pos hs]; rfl)
    clear hs
    go_enter Try.func22, Try.ntmps22
    go_wp2_with fail
    refine (fields_exact _ _).mono ?_
    rintro e w1 ⟨rfl, rfl⟩
    unfold places at *
    go_wp2_with fail
    go_returns
    exact ⟨congrArg Ending.returned H.out.symm, by go_grown⟩
  have hs' : ((s.size : Int) != 29) = false := by simp; omega
  have hs0 : 0 < s.size := by omega
  have hsd : ∀ (W : World) (n : Nat) (a : Addr) (v : Value), (W.drewN n).setCell a v = (W.setCell a v).drewN n := fun _ _ _ _ => rfl
  go_enter Try.func22, Try.ntmps22
  go_wp2_with fail
  refine (fields_exact _ _).mono ?_
  rintro e w1 ⟨rfl, rfl⟩
  unfold places at *
  go_wp2_with fail
  refine wp_loop_rounds 8 ?_
  rw [rounds_succ]
  go_wp2_with fail
  refine (get_at s 1 _ hs (by omega)).mono ?_
  rintro e w1 ⟨rfl, n0, rfl⟩
  go_wp2_with fail
  rw [rounds_succ]
  go_wp2_with fail
  refine (get_at s 5 _ hs (by omega)).mono ?_
  rintro e w1 ⟨rfl, n1, rfl⟩
  go_wp2_with fail
  rw [rounds_succ]
  go_wp2_with fail
  refine (get_at s 9 _ hs (by omega)).mono ?_
  rintro e w1 ⟨rfl, n2, rfl⟩
  go_wp2_with fail
  rw [rounds_succ]
  go_wp2_with fail
  refine (get_at s 13 _ hs (by omega)).mono ?_
  rintro e w1 ⟨rfl, n3, rfl⟩
  go_wp2_with fail
  rw [rounds_succ]
  go_wp2_with fail
  refine (get_at s 17 _ hs (by omega)).mono ?_
  rintro e w1 ⟨rfl, n4, rfl⟩
  go_wp2_with fail
  rw [rounds_succ]
  go_wp2_with fail
  refine (get_at s 21 _ hs (by omega)).mono ?_
  rintro e w1 ⟨rfl, n5, rfl⟩
  go_wp2_with fail
  rw [rounds_succ]
  go_wp2_with fail
  refine (get_at s 25 _ hs (by omega)).mono ?_
  rintro e w1 ⟨rfl, n6, rfl⟩
  go_wp2_with fail
  rw [rounds_succ]
  have hk0 : ((s[0].toNat : Nat) : Int) = kindOf s := by unfold kindOf; rw [getD_byte s 0 hs0]
  go_wp2_with fail
  refine (may_any _ _ _ _ _ _ _ _ _).mono ?_
  rintro e w1 ⟨rfl, hb⟩
  clear i0 i1 i2 i3 i4 i5 i6
  have r0 : w1.cell? ⟨w.heap.size, 0, none⟩ = some (.int .u8 0) := keep1 hb (by rw [World.cell?_drewN]; exact cellP (by simp; try omega) (cellP (by simp; try omega) (cellP (by simp; try omega) ((cellN _ _ _ _ rfl _).trans rfl))))
  have r1 : w1.cell? ⟨w.heap.size, 1, none⟩ = some (.int .i64 0) := keep1 hb (by rw [World.cell?_drewN]; exact cellP (by simp; try omega) (cellP (by simp; try omega) (cellP (by simp; try omega) ((cellN _ _ _ _ rfl _).trans rfl))))
  have r2 : w1.cell? ⟨w.heap.size, 2, none⟩ = some (.int .i64 0) := keep1 hb (by rw [World.cell?_drewN]; exact cellP (by simp; try omega) (cellP (by simp; try omega) (cellP (by simp; try omega) ((cellN _ _ _ _ rfl _).trans rfl))))
  have r3 : w1.cell? ⟨w.heap.size, 3, none⟩ = some (.int .i64 0) := keep1 hb (by rw [World.cell?_drewN]; exact cellP (by simp; try omega) (cellP (by simp; try omega) (cellP (by simp; try omega) ((cellN _ _ _ _ rfl _).trans rfl))))
  have r4 : w1.cell? ⟨w.heap.size, 4, none⟩ = some (.int .i64 0) := keep1 hb (by rw [World.cell?_drewN]; exact cellP (by simp; try omega) (cellP (by simp; try omega) (cellP (by simp; try omega) ((cellN _ _ _ _ rfl _).trans rfl))))
  have r5 : w1.cell? ⟨w.heap.size, 5, none⟩ = some (.int .i64 0) := keep1 hb (by rw [World.cell?_drewN]; exact cellP (by simp; try omega) (cellP (by simp; try omega) (cellP (by simp; try omega) ((cellN _ _ _ _ rfl _).trans rfl))))
  have r6 : w1.cell? ⟨w.heap.size, 6, none⟩ = some (.int .i64 0) := keep1 hb (by rw [World.cell?_drewN]; exact cellP (by simp; try omega) (cellP (by simp; try omega) (cellP (by simp; try omega) ((cellN _ _ _ _ rfl _).trans rfl))))
  have r7 : w1.cell? ⟨w.heap.size, 7, none⟩ = some (.int .i64 0) := keep1 hb (by rw [World.cell?_drewN]; exact cellP (by simp; try omega) (cellP (by simp; try omega) (cellP (by simp; try omega) ((cellN _ _ _ _ rfl _).trans rfl))))
  have a0 : w1.cell? ⟨w.heap.size + 1, 0, none⟩ = some (.int .u8 (kindOf s)) := keep1 hb (by rw [World.cell?_drewN]; exact cellP (by simp) (cellP (by simp; try omega) ((cellN _ _ _ _ (by simp) _).trans rfl)))
  have a1 : w1.cell? ⟨w.heap.size + 1, 1, none⟩ = some (.int .i64 (at4 s 1)) := keep1 hb (by rw [World.cell?_drewN]; exact cellP (by simp) (cellP (by simp; try omega) ((cellN _ _ _ _ (by simp) _).trans rfl)))
  have a2 : w1.cell? ⟨w.heap.size + 1, 2, none⟩ = some (.int .i64 (at4 s 5)) := keep1 hb (by rw [World.cell?_drewN]; exact cellP (by simp) (cellP (by simp; try omega) ((cellN _ _ _ _ (by simp) _).trans rfl)))
  have a3 : w1.cell? ⟨w.heap.size + 1, 3, none⟩ = some (.int .i64 (at4 s 9)) := keep1 hb (by rw [World.cell?_drewN]; exact cellP (by simp) (cellP (by simp; try omega) ((cellN _ _ _ _ (by simp) _).trans rfl)))
  have a4 : w1.cell? ⟨w.heap.size + 1, 4, none⟩ = some (.int .i64 (at4 s 13)) := keep1 hb (by rw [World.cell?_drewN]; exact cellP (by simp) (cellP (by simp; try omega) ((cellN _ _ _ _ (by simp) _).trans rfl)))
  have a5 : w1.cell? ⟨w.heap.size + 1, 5, none⟩ = some (.int .i64 (at4 s 17)) := keep1 hb (by rw [World.cell?_drewN]; exact cellP (by simp) (cellP (by simp; try omega) ((cellN _ _ _ _ (by simp) _).trans rfl)))
  have a6 : w1.cell? ⟨w.heap.size + 1, 6, none⟩ = some (.int .i64 (at4 s 21)) := keep1 hb (by rw [World.cell?_drewN]; exact cellP (by simp) (cellP (by simp; try omega) ((cellN _ _ _ _ (by simp) _).trans rfl)))
  have a7 : w1.cell? ⟨w.heap.size + 1, 7, none⟩ = some (.int .i64 (at4 s 25)) := keep1 hb (by rw [World.cell?_drewN]; exact cellP (by simp) (cellP (by simp; try omega) ((cellN _ _ _ _ (by simp) _).trans rfl)))
  have rf : ∀ i, w1.frozen? ⟨w.heap.size, i, none⟩ = false := fun i => (hb.frozen (p := ⟨w.heap.size, i, none⟩) (by simp; try omega)).trans (by rw [World.frozen?_drewN]; exact frozP (by simp; try omega) (frozP (by simp; try omega) (frozP (by simp; try omega) (World.frozen?_alloc_new w _ _ _))))
  have HB := Lib.hid (show Below w.heap.size w w1 from by refine Below.trans ?_ (hb.mono (by simp; try omega)); exact below_drewN ((((Below.refl _ w).alloc (Nat.le_refl _) _).alloc (by simp) _).alloc (by simp; try omega) _ |>.alloc (by simp; try omega) _) _)
  have hz : w.heap.size + 4 ≤ w1.heap.size := by have := hb.size; simp at this; omega
  clear hb
  clear hsd hk0
  cases hm : mayB (kindOf s) (at4 s 1) (at4 s 5) (at4 s 9) (at4 s 13) (at4 s 17) (at4 s 21) (at4 s 25) with
  | true =>
    have H := Lib.hid (show decR s = .tuple #[.agg #[.int .u8 (kindOf s), .int .i64 (at4 s 1), .int .i64 (at4 s 5), .int .i64 (at4 s 9), .int .i64 (at4 s 13), .int .i64 (at4 s 17), .int .i64 (at4 s 21), .int .i64 (at4 s 25)], .int .i64 0] from by unfold decR; rw [if_neg (by omega), if_pos hm]; rfl)
    clear hm
    go_wp2_with fail
    refine bodyPost_ret (by simp [results, Try.results22, go_sem, r0, r1, r2, r3, r4, r5, r6, r7]; try rfl) rfl ?_
    exact ⟨congrArg Ending.returned H.out.symm, by have := HB.out; go_grown⟩
  | false =>
    have H := Lib.hid (show decR s = .tuple #[.agg #[.int .u8 0, .int .i64 0, .int .i64 0, .int .i64 0, .int .i64 0, .int .i64 0, .int .i64 0, .int .i64 0], .int .i64 4] from by unfold decR; rw [if_neg (by omega), if_neg (by rw [hm]; simp)]; rfl)
    clear hm
    go_wp2_with fail
    refine bodyPost_ret (by simp [results, Try.results22, go_sem, r0, r1, r2, r3, r4, r5, r6, r7]; try rfl) rfl ?_
    exact ⟨congrArg Ending.returned H.out.symm, by have := HB.out; go_grown⟩
end Go.Proofs.Ytlkjgnnnamkfeaa
