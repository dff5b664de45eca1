/- WALKS of layer 20: the document's Decode. -/
import Derived.Test.YtlkjgnnnamkfeaaR
set_option linter.unusedVariables false
namespace Go.Proofs.Ytlkjgnnnamkfeaa
open Go.RowKit Go.ChangeShapes Go.WideShapes Go.ChangeAt

theorem num_at (s : ByteArray) (i : Nat) (w : World) (hs : s.size = 29) (hi : i + 4 ≤ 29) : Calls Try.prog 42 #[.string (s.extract i (i + 4))] w fun e w' => e = .returned (.int .i64 (at4 s i)) ∧ ∃ n, w' = w.drewN n := by
  refine (num_any (s.extract i (i + 4)) w (by rw [ByteArray.size_extract]; omega)).mono ?_
  rintro e w' ⟨rfl, h⟩
  refine ⟨?_, h⟩
  refine congrArg (fun x => Ending.returned (Value.int .i64 x)) ?_
  unfold at4 num4
  rw [ByteArray.data_extract, Array.toList_extract]
  simp only [List.extract_eq_take_drop, List.getD_eq_getElem?_getD]
  rw [List.getElem?_take_of_lt (by omega), List.getElem?_take_of_lt (by omega), List.getElem?_take_of_lt (by omega), List.getElem?_take_of_lt (by omega)]
theorem info_int : (Try.prog.info? 3).map (fun i => (i.zero, i.size, i.bytes)) = some (some (.int .i64 0), 1, 8) := by kernel_rfl
theorem make7 (w : World) : (Instr.makeSlice 75 (.int .i64 7) (.int .i64 7)).run Try.prog w = .ok (.slice (some ⟨w.heap.size, 0, none⟩) 7 7) (w.alloc (.cells #[.int .i64 0, .int .i64 0, .int .i64 0, .int .i64 0, .int .i64 0, .int .i64 0, .int .i64 0] 3)) := by
  obtain ⟨i0, hi, hz0, hz1, hz2⟩ := info_parts info_int
  have := run_makeSlice (P := Try.prog) w 75 3 i0 (.int .i64 0) Try.underlying75 hi hz0 .i64 .i64 7 7 (by decide) (by decide) (by rw [hz1]; decide) (by rw [hz2]; decide) (by decide)
  rw [hz1, show madeCells (Value.int .i64 0).cells (Int.toNat 7 * 1) = #[.int .i64 0, .int .i64 0, .int .i64 0, .int .i64 0, .int .i64 0, .int .i64 0, .int .i64 0] from by kernel_rfl] at this
  exact this
set_option maxRecDepth 20000 in
set_option maxHeartbeats 4000000 in
theorem refdecode_any (s : ByteArray) (w : World) : Calls Try.prog 23 #[.string s] w fun e w' => e = .returned (decR s) ∧ Below w.heap.size w w' := by
  by_cases hs : s.size = 29
  case neg =>
    have hs' : ((s.size : Int) != 29) = true := by simp; omega
    have H := Lib.hid (show decR s = .tuple #[.agg #[.int .u8 0, .int .i64 0, .int .i64 0, .int .i64 0, .int .i64 0, .int .i64 0, .int .i64 0, .int .i64 0], .int .i64 4] from by unfold decR; rw [if_pos hs]; rfl)
    clear hs
    go_enter Try.func23, Try.ntmps23
    go_wp2_with fail
    go_returns
    exact ⟨congrArg Ending.returned H.out.symm, by go_grown⟩
  have hs' : ((s.size : Int) != 29) = false := by simp; omega
  have hs0 : 0 < s.size := by omega
  have hmk := make7
  have hsd : ∀ (W : World) (n : Nat) (a : Addr) (v : Value), (W.drewN n).setCell a v = (W.setCell a v).drewN n := fun _ _ _ _ => rfl
  go_enter Try.func23, Try.ntmps23
  go_wp2_with fail
  refine wp_loop_rounds 8 ?_
  rw [rounds_succ]
  go_wp2_with fail
  refine (num_at s 1 _ hs (by omega)).mono ?_
  rintro e w1 ⟨rfl, n0, rfl⟩
  go_wp2_with fail
  rw [rounds_succ]
  go_wp2_with fail
  refine (num_at s 5 _ hs (by omega)).mono ?_
  rintro e w1 ⟨rfl, n1, rfl⟩
  go_wp2_with fail
  rw [rounds_succ]
  go_wp2_with fail
  refine (num_at s 9 _ hs (by omega)).mono ?_
  rintro e w1 ⟨rfl, n2, rfl⟩
  go_wp2_with fail
  rw [rounds_succ]
  go_wp2_with fail
  refine (num_at s 13 _ hs (by omega)).mono ?_
  rintro e w1 ⟨rfl, n3, rfl⟩
  go_wp2_with fail
  rw [rounds_succ]
  go_wp2_with fail
  refine (num_at s 17 _ hs (by omega)).mono ?_
  rintro e w1 ⟨rfl, n4, rfl⟩
  go_wp2_with fail
  rw [rounds_succ]
  go_wp2_with fail
  refine (num_at s 21 _ hs (by omega)).mono ?_
  rintro e w1 ⟨rfl, n5, rfl⟩
  go_wp2_with fail
  rw [rounds_succ]
  go_wp2_with fail
  refine (num_at s 25 _ hs (by omega)).mono ?_
  rintro e w1 ⟨rfl, n6, rfl⟩
  go_wp2_with fail
  rw [rounds_succ]
  have hk0 : ((s[0].toNat : Nat) : Int) = kindOf s := by unfold kindOf; rw [getD_byte s 0 hs0]
  clear hmk
  go_wp2_with fail
  have c0 : (((w.alloc (.cells #[.int .u8 0, .int .i64 0, .int .i64 0, .int .i64 0, .int .i64 0, .int .i64 0, .int .i64 0, .int .i64 0] 37)).alloc (.cells #[.int .i64 (at4 s 1), .int .i64 (at4 s 5), .int .i64 (at4 s 9), .int .i64 (at4 s 13), .int .i64 (at4 s 17), .int .i64 (at4 s 21), .int .i64 (at4 s 25)] 3)).drewN (n0 + n1 + n2 + n3 + n4 + n5 + n6)).cell? ⟨w.heap.size + 1, 0, none⟩ = some (.int .i64 (at4 s 1)) := cellDN ((cellN _ _ _ _ (by simp) _).trans rfl)
  have c1 : (((w.alloc (.cells #[.int .u8 0, .int .i64 0, .int .i64 0, .int .i64 0, .int .i64 0, .int .i64 0, .int .i64 0, .int .i64 0] 37)).alloc (.cells #[.int .i64 (at4 s 1), .int .i64 (at4 s 5), .int .i64 (at4 s 9), .int .i64 (at4 s 13), .int .i64 (at4 s 17), .int .i64 (at4 s 21), .int .i64 (at4 s 25)] 3)).drewN (n0 + n1 + n2 + n3 + n4 + n5 + n6)).cell? ⟨w.heap.size + 1, 1, none⟩ = some (.int .i64 (at4 s 5)) := cellDN ((cellN _ _ _ _ (by simp) _).trans rfl)
  have c2 : (((w.alloc (.cells #[.int .u8 0, .int .i64 0, .int .i64 0, .int .i64 0, .int .i64 0, .int .i64 0, .int .i64 0, .int .i64 0] 37)).alloc (.cells #[.int .i64 (at4 s 1), .int .i64 (at4 s 5), .int .i64 (at4 s 9), .int .i64 (at4 s 13), .int .i64 (at4 s 17), .int .i64 (at4 s 21), .int .i64 (at4 s 25)] 3)).drewN (n0 + n1 + n2 + n3 + n4 + n5 + n6)).cell? ⟨w.heap.size + 1, 2, none⟩ = some (.int .i64 (at4 s 9)) := cellDN ((cellN _ _ _ _ (by simp) _).trans rfl)
  have c3 : (((w.alloc (.cells #[.int .u8 0, .int .i64 0, .int .i64 0, .int .i64 0, .int .i64 0, .int .i64 0, .int .i64 0, .int .i64 0] 37)).alloc (.cells #[.int .i64 (at4 s 1), .int .i64 (at4 s 5), .int .i64 (at4 s 9), .int .i64 (at4 s 13), .int .i64 (at4 s 17), .int .i64 (at4 s 21), .int .i64 (at4 s 25)] 3)).drewN (n0 + n1 + n2 + n3 + n4 + n5 + n6)).cell? ⟨w.heap.size + 1, 3, none⟩ = some (.int .i64 (at4 s 13)) := cellDN ((cellN _ _ _ _ (by simp) _).trans rfl)
  have c4 : (((w.alloc (.cells #[.int .u8 0, .int .i64 0, .int .i64 0, .int .i64 0, .int .i64 0, .int .i64 0, .int .i64 0, .int .i64 0] 37)).alloc (.cells #[.int .i64 (at4 s 1), .int .i64 (at4 s 5), .int .i64 (at4 s 9), .int .i64 (at4 s 13), .int .i64 (at4 s 17), .int .i64 (at4 s 21), .int .i64 (at4 s 25)] 3)).drewN (n0 + n1 + n2 + n3 + n4 + n5 + n6)).cell? ⟨w.heap.size + 1, 4, none⟩ = some (.int .i64 (at4 s 17)) := cellDN ((cellN _ _ _ _ (by simp) _).trans rfl)
  have c5 : (((w.alloc (.cells #[.int .u8 0, .int .i64 0, .int .i64 0, .int .i64 0, .int .i64 0, .int .i64 0, .int .i64 0, .int .i64 0] 37)).alloc (.cells #[.int .i64 (at4 s 1), .int .i64 (at4 s 5), .int .i64 (at4 s 9), .int .i64 (at4 s 13), .int .i64 (at4 s 17), .int .i64 (at4 s 21), .int .i64 (at4 s 25)] 3)).drewN (n0 + n1 + n2 + n3 + n4 + n5 + n6)).cell? ⟨w.heap.size + 1, 5, none⟩ = some (.int .i64 (at4 s 21)) := cellDN ((cellN _ _ _ _ (by simp) _).trans rfl)
  have c6 : (((w.alloc (.cells #[.int .u8 0, .int .i64 0, .int .i64 0, .int .i64 0, .int .i64 0, .int .i64 0, .int .i64 0, .int .i64 0] 37)).alloc (.cells #[.int .i64 (at4 s 1), .int .i64 (at4 s 5), .int .i64 (at4 s 9), .int .i64 (at4 s 13), .int .i64 (at4 s 17), .int .i64 (at4 s 21), .int .i64 (at4 s 25)] 3)).drewN (n0 + n1 + n2 + n3 + n4 + n5 + n6)).cell? ⟨w.heap.size + 1, 6, none⟩ = some (.int .i64 (at4 s 25)) := cellDN ((cellN _ _ _ _ (by simp) _).trans rfl)
  have r0 : (((w.alloc (.cells #[.int .u8 0, .int .i64 0, .int .i64 0, .int .i64 0, .int .i64 0, .int .i64 0, .int .i64 0, .int .i64 0] 37)).alloc (.cells #[.int .i64 (at4 s 1), .int .i64 (at4 s 5), .int .i64 (at4 s 9), .int .i64 (at4 s 13), .int .i64 (at4 s 17), .int .i64 (at4 s 21), .int .i64 (at4 s 25)] 3)).drewN (n0 + n1 + n2 + n3 + n4 + n5 + n6)).cell? ⟨w.heap.size, 0, none⟩ = some (.int .u8 0) := cellDN (cellP (by simp) ((cellN _ _ _ _ rfl _).trans rfl))
  have r1 : (((w.alloc (.cells #[.int .u8 0, .int .i64 0, .int .i64 0, .int .i64 0, .int .i64 0, .int .i64 0, .int .i64 0, .int .i64 0] 37)).alloc (.cells #[.int .i64 (at4 s 1), .int .i64 (at4 s 5), .int .i64 (at4 s 9), .int .i64 (at4 s 13), .int .i64 (at4 s 17), .int .i64 (at4 s 21), .int .i64 (at4 s 25)] 3)).drewN (n0 + n1 + n2 + n3 + n4 + n5 + n6)).cell? ⟨w.heap.size, 1, none⟩ = some (.int .i64 0) := cellDN (cellP (by simp) ((cellN _ _ _ _ rfl _).trans rfl))
  have r2 : (((w.alloc (.cells #[.int .u8 0, .int .i64 0, .int .i64 0, .int .i64 0, .int .i64 0, .int .i64 0, .int .i64 0, .int .i64 0] 37)).alloc (.cells #[.int .i64 (at4 s 1), .int .i64 (at4 s 5), .int .i64 (at4 s 9), .int .i64 (at4 s 13), .int .i64 (at4 s 17), .int .i64 (at4 s 21), .int .i64 (at4 s 25)] 3)).drewN (n0 + n1 + n2 + n3 + n4 + n5 + n6)).cell? ⟨w.heap.size, 2, none⟩ = some (.int .i64 0) := cellDN (cellP (by simp) ((cellN _ _ _ _ rfl _).trans rfl))
  have r3 : (((w.alloc (.cells #[.int .u8 0, .int .i64 0, .int .i64 0, .int .i64 0, .int .i64 0, .int .i64 0, .int .i64 0, .int .i64 0] 37)).alloc (.cells #[.int .i64 (at4 s 1), .int .i64 (at4 s 5), .int .i64 (at4 s 9), .int .i64 (at4 s 13), .int .i64 (at4 s 17), .int .i64 (at4 s 21), .int .i64 (at4 s 25)] 3)).drewN (n0 + n1 + n2 + n3 + n4 + n5 + n6)).cell? ⟨w.heap.size, 3, none⟩ = some (.int .i64 0) := cellDN (cellP (by simp) ((cellN _ _ _ _ rfl _).trans rfl))
  have r4 : (((w.alloc (.cells #[.int .u8 0, .int .i64 0, .int .i64 0, .int .i64 0, .int .i64 0, .int .i64 0, .int .i64 0, .int .i64 0] 37)).alloc (.cells #[.int .i64 (at4 s 1), .int .i64 (at4 s 5), .int .i64 (at4 s 9), .int .i64 (at4 s 13), .int .i64 (at4 s 17), .int .i64 (at4 s 21), .int .i64 (at4 s 25)] 3)).drewN (n0 + n1 + n2 + n3 + n4 + n5 + n6)).cell? ⟨w.heap.size, 4, none⟩ = some (.int .i64 0) := cellDN (cellP (by simp) ((cellN _ _ _ _ rfl _).trans rfl))
  have r5 : (((w.alloc (.cells #[.int .u8 0, .int .i64 0, .int .i64 0, .int .i64 0, .int .i64 0, .int .i64 0, .int .i64 0, .int .i64 0] 37)).alloc (.cells #[.int .i64 (at4 s 1), .int .i64 (at4 s 5), .int .i64 (at4 s 9), .int .i64 (at4 s 13), .int .i64 (at4 s 17), .int .i64 (at4 s 21), .int .i64 (at4 s 25)] 3)).drewN (n0 + n1 + n2 + n3 + n4 + n5 + n6)).cell? ⟨w.heap.size, 5, none⟩ = some (.int .i64 0) := cellDN (cellP (by simp) ((cellN _ _ _ _ rfl _).trans rfl))
  have r6 : (((w.alloc (.cells #[.int .u8 0, .int .i64 0, .int .i64 0, .int .i64 0, .int .i64 0, .int .i64 0, .int .i64 0, .int .i64 0] 37)).alloc (.cells #[.int .i64 (at4 s 1), .int .i64 (at4 s 5), .int .i64 (at4 s 9), .int .i64 (at4 s 13), .int .i64 (at4 s 17), .int .i64 (at4 s 21), .int .i64 (at4 s 25)] 3)).drewN (n0 + n1 + n2 + n3 + n4 + n5 + n6)).cell? ⟨w.heap.size, 6, none⟩ = some (.int .i64 0) := cellDN (cellP (by simp) ((cellN _ _ _ _ rfl _).trans rfl))
  have r7 : (((w.alloc (.cells #[.int .u8 0, .int .i64 0, .int .i64 0, .int .i64 0, .int .i64 0, .int .i64 0, .int .i64 0, .int .i64 0] 37)).alloc (.cells #[.int .i64 (at4 s 1), .int .i64 (at4 s 5), .int .i64 (at4 s 9), .int .i64 (at4 s 13), .int .i64 (at4 s 17), .int .i64 (at4 s 21), .int .i64 (at4 s 25)] 3)).drewN (n0 + n1 + n2 + n3 + n4 + n5 + n6)).cell? ⟨w.heap.size, 7, none⟩ = some (.int .i64 0) := cellDN (cellP (by simp) ((cellN _ _ _ _ rfl _).trans rfl))
  have rf : ∀ i, (((w.alloc (.cells #[.int .u8 0, .int .i64 0, .int .i64 0, .int .i64 0, .int .i64 0, .int .i64 0, .int .i64 0, .int .i64 0] 37)).alloc (.cells #[.int .i64 (at4 s 1), .int .i64 (at4 s 5), .int .i64 (at4 s 9), .int .i64 (at4 s 13), .int .i64 (at4 s 17), .int .i64 (at4 s 21), .int .i64 (at4 s 25)] 3)).drewN (n0 + n1 + n2 + n3 + n4 + n5 + n6)).frozen? ⟨w.heap.size, i, none⟩ = false := fun i => frozDN (frozP (by simp) (World.frozen?_alloc_new w _ _ _))
  have hz : w.heap.size + 2 ≤ (((w.alloc (.cells #[.int .u8 0, .int .i64 0, .int .i64 0, .int .i64 0, .int .i64 0, .int .i64 0, .int .i64 0, .int .i64 0] 37)).alloc (.cells #[.int .i64 (at4 s 1), .int .i64 (at4 s 5), .int .i64 (at4 s 9), .int .i64 (at4 s 13), .int .i64 (at4 s 17), .int .i64 (at4 s 21), .int .i64 (at4 s 25)] 3)).drewN (n0 + n1 + n2 + n3 + n4 + n5 + n6)).heap.size := by show _ ≤ ((w.alloc (.cells #[.int .u8 0, .int .i64 0, .int .i64 0, .int .i64 0, .int .i64 0, .int .i64 0, .int .i64 0, .int .i64 0] 37)).alloc (.cells #[.int .i64 (at4 s 1), .int .i64 (at4 s 5), .int .i64 (at4 s 9), .int .i64 (at4 s 13), .int .i64 (at4 s 17), .int .i64 (at4 s 21), .int .i64 (at4 s 25)] 3)).heap.size; simp
  have HB : Below w.heap.size w (((w.alloc (.cells #[.int .u8 0, .int .i64 0, .int .i64 0, .int .i64 0, .int .i64 0, .int .i64 0, .int .i64 0, .int .i64 0] 37)).alloc (.cells #[.int .i64 (at4 s 1), .int .i64 (at4 s 5), .int .i64 (at4 s 9), .int .i64 (at4 s 13), .int .i64 (at4 s 17), .int .i64 (at4 s 21), .int .i64 (at4 s 25)] 3)).drewN (n0 + n1 + n2 + n3 + n4 + n5 + n6)) := below_drewN (((Below.refl _ w).alloc (Nat.le_refl _) _).alloc (by simp) _) _
  generalize (((w.alloc (.cells #[.int .u8 0, .int .i64 0, .int .i64 0, .int .i64 0, .int .i64 0, .int .i64 0, .int .i64 0, .int .i64 0] 37)).alloc (.cells #[.int .i64 (at4 s 1), .int .i64 (at4 s 5), .int .i64 (at4 s 9), .int .i64 (at4 s 13), .int .i64 (at4 s 17), .int .i64 (at4 s 21), .int .i64 (at4 s 25)] 3)).drewN (n0 + n1 + n2 + n3 + n4 + n5 + n6)) = w1 at *
  go_region_held3 (fun w' => w'.cell? ⟨w.heap.size + 1, 0, none⟩ = some (.int .i64 (at4 s 1)) ∧ w'.cell? ⟨w.heap.size + 1, 1, none⟩ = some (.int .i64 (at4 s 5)) ∧ w'.cell? ⟨w.heap.size + 1, 2, none⟩ = some (.int .i64 (at4 s 9)) ∧ w'.cell? ⟨w.heap.size + 1, 3, none⟩ = some (.int .i64 (at4 s 13)) ∧ w'.cell? ⟨w.heap.size + 1, 4, none⟩ = some (.int .i64 (at4 s 17)) ∧ w'.cell? ⟨w.heap.size + 1, 5, none⟩ = some (.int .i64 (at4 s 21)) ∧ w'.cell? ⟨w.heap.size + 1, 6, none⟩ = some (.int .i64 (at4 s 25)))
    (first | exact ⟨by (repeat first | assumption | refine cellDN ?_ | refine cellE ?_ | refine cellP (by first | omega | (simp; omega)) ?_), by (repeat first | assumption | refine cellDN ?_ | refine cellE ?_ | refine cellP (by first | omega | (simp; omega)) ?_), by (repeat first | assumption | refine cellDN ?_ | refine cellE ?_ | refine cellP (by first | omega | (simp; omega)) ?_), by (repeat first | assumption | refine cellDN ?_ | refine cellE ?_ | refine cellP (by first | omega | (simp; omega)) ?_), by (repeat first | assumption | refine cellDN ?_ | refine cellE ?_ | refine cellP (by first | omega | (simp; omega)) ?_), by (repeat first | assumption | refine cellDN ?_ | refine cellE ?_ | refine cellP (by first | omega | (simp; omega)) ?_), by (repeat first | assumption | refine cellDN ?_ | refine cellE ?_ | refine cellP (by first | omega | (simp; omega)) ?_)⟩)
    (fail)
  all_goals clear c0 c1 c2 c3 c4 c5 c6 hsd
  all_goals clear hk0
  all_goals rename_i hhx
  all_goals clear hhx
  all_goals go_wp2_with fail
  all_goals refine (refmay_any _ _ _ _ _ _ _ _ _).mono ?_
  all_goals rintro e w2 ⟨rfl, hb⟩
  all_goals have r0 := keep1 hb (cellE (cellP (o := .cells #[.int .u8 (kindOf s), .int .i64 (at4 s 1), .int .i64 (at4 s 5), .int .i64 (at4 s 9), .int .i64 (at4 s 13), .int .i64 (at4 s 17), .int .i64 (at4 s 21), .int .i64 (at4 s 25)] 37) (by omega) r0))
  all_goals have r1 := keep1 hb (cellE (cellP (o := .cells #[.int .u8 (kindOf s), .int .i64 (at4 s 1), .int .i64 (at4 s 5), .int .i64 (at4 s 9), .int .i64 (at4 s 13), .int .i64 (at4 s 17), .int .i64 (at4 s 21), .int .i64 (at4 s 25)] 37) (by omega) r1))
  all_goals have r2 := keep1 hb (cellE (cellP (o := .cells #[.int .u8 (kindOf s), .int .i64 (at4 s 1), .int .i64 (at4 s 5), .int .i64 (at4 s 9), .int .i64 (at4 s 13), .int .i64 (at4 s 17), .int .i64 (at4 s 21), .int .i64 (at4 s 25)] 37) (by omega) r2))
  all_goals have r3 := keep1 hb (cellE (cellP (o := .cells #[.int .u8 (kindOf s), .int .i64 (at4 s 1), .int .i64 (at4 s 5), .int .i64 (at4 s 9), .int .i64 (at4 s 13), .int .i64 (at4 s 17), .int .i64 (at4 s 21), .int .i64 (at4 s 25)] 37) (by omega) r3))
  all_goals have r4 := keep1 hb (cellE (cellP (o := .cells #[.int .u8 (kindOf s), .int .i64 (at4 s 1), .int .i64 (at4 s 5), .int .i64 (at4 s 9), .int .i64 (at4 s 13), .int .i64 (at4 s 17), .int .i64 (at4 s 21), .int .i64 (at4 s 25)] 37) (by omega) r4))
  all_goals have r5 := keep1 hb (cellE (cellP (o := .cells #[.int .u8 (kindOf s), .int .i64 (at4 s 1), .int .i64 (at4 s 5), .int .i64 (at4 s 9), .int .i64 (at4 s 13), .int .i64 (at4 s 17), .int .i64 (at4 s 21), .int .i64 (at4 s 25)] 37) (by omega) r5))
  all_goals have r6 := keep1 hb (cellE (cellP (o := .cells #[.int .u8 (kindOf s), .int .i64 (at4 s 1), .int .i64 (at4 s 5), .int .i64 (at4 s 9), .int .i64 (at4 s 13), .int .i64 (at4 s 17), .int .i64 (at4 s 21), .int .i64 (at4 s 25)] 37) (by omega) r6))
  all_goals have r7 := keep1 hb (cellE (cellP (o := .cells #[.int .u8 (kindOf s), .int .i64 (at4 s 1), .int .i64 (at4 s 5), .int .i64 (at4 s 9), .int .i64 (at4 s 13), .int .i64 (at4 s 17), .int .i64 (at4 s 21), .int .i64 (at4 s 25)] 37) (by omega) r7))
  all_goals have a0 : w2.cell? ⟨w1.heap.size, 0, none⟩ = some (.int .u8 (kindOf s)) := keep1 hb (cellE ((cellN _ _ _ _ rfl _).trans rfl))
  all_goals have a1 : w2.cell? ⟨w1.heap.size, 1, none⟩ = some (.int .i64 (at4 s 1)) := keep1 hb (cellE ((cellN _ _ _ _ rfl _).trans rfl))
  all_goals have a2 : w2.cell? ⟨w1.heap.size, 2, none⟩ = some (.int .i64 (at4 s 5)) := keep1 hb (cellE ((cellN _ _ _ _ rfl _).trans rfl))
  all_goals have a3 : w2.cell? ⟨w1.heap.size, 3, none⟩ = some (.int .i64 (at4 s 9)) := keep1 hb (cellE ((cellN _ _ _ _ rfl _).trans rfl))
  all_goals have a4 : w2.cell? ⟨w1.heap.size, 4, none⟩ = some (.int .i64 (at4 s 13)) := keep1 hb (cellE ((cellN _ _ _ _ rfl _).trans rfl))
  all_goals have a5 : w2.cell? ⟨w1.heap.size, 5, none⟩ = some (.int .i64 (at4 s 17)) := keep1 hb (cellE ((cellN _ _ _ _ rfl _).trans rfl))
  all_goals have a6 : w2.cell? ⟨w1.heap.size, 6, none⟩ = some (.int .i64 (at4 s 21)) := keep1 hb (cellE ((cellN _ _ _ _ rfl _).trans rfl))
  all_goals have a7 : w2.cell? ⟨w1.heap.size, 7, none⟩ = some (.int .i64 (at4 s 25)) := keep1 hb (cellE ((cellN _ _ _ _ rfl _).trans rfl))
  all_goals have rf : ∀ i, w2.frozen? ⟨w.heap.size, i, none⟩ = false := fun i => (hb.frozen (p := ⟨w.heap.size, i, none⟩) (by show w.heap.size < _; simp; omega)).trans (frozE (frozP (by omega) (rf i)))
  all_goals have HB2 := Lib.hid (show Below w.heap.size w w2 from (HB.alloc HB.size _).drew.trans (hb.mono (by have := HB.size; simp; omega)))
  all_goals clear hb HB
  all_goals have z0 : ∀ v0 : Value, (w2.setCell ⟨w.heap.size, 0, none⟩ v0).cell? ⟨w.heap.size, 0, none⟩ = some v0 := fun v0 => World.cell?_setCell_same _ _ _ r0
  all_goals have z1 : ∀ v0 v1 : Value, ((w2.setCell ⟨w.heap.size, 0, none⟩ v0).setCell ⟨w.heap.size, 1, none⟩ v1).cell? ⟨w.heap.size, 1, none⟩ = some v1 := fun v0 v1 => World.cell?_setCell_same _ _ _ ((World.cell?_setCell_other _ _ _ _ (by simp)).trans r1)
  all_goals have z2 : ∀ v0 v1 v2 : Value, (((w2.setCell ⟨w.heap.size, 0, none⟩ v0).setCell ⟨w.heap.size, 1, none⟩ v1).setCell ⟨w.heap.size, 2, none⟩ v2).cell? ⟨w.heap.size, 2, none⟩ = some v2 := fun v0 v1 v2 => World.cell?_setCell_same _ _ _ ((World.cell?_setCell_other _ _ _ _ (by simp)).trans ((World.cell?_setCell_other _ _ _ _ (by simp)).trans r2))
  all_goals have z3 : ∀ v0 v1 v2 v3 : Value, ((((w2.setCell ⟨w.heap.size, 0, none⟩ v0).setCell ⟨w.heap.size, 1, none⟩ v1).setCell ⟨w.heap.size, 2, none⟩ v2).setCell ⟨w.heap.size, 3, none⟩ v3).cell? ⟨w.heap.size, 3, none⟩ = some v3 := fun v0 v1 v2 v3 => World.cell?_setCell_same _ _ _ ((World.cell?_setCell_other _ _ _ _ (by simp)).trans ((World.cell?_setCell_other _ _ _ _ (by simp)).trans ((World.cell?_setCell_other _ _ _ _ (by simp)).trans r3)))
  all_goals have z4 : ∀ v0 v1 v2 v3 v4 : Value, (((((w2.setCell ⟨w.heap.size, 0, none⟩ v0).setCell ⟨w.heap.size, 1, none⟩ v1).setCell ⟨w.heap.size, 2, none⟩ v2).setCell ⟨w.heap.size, 3, none⟩ v3).setCell ⟨w.heap.size, 4, none⟩ v4).cell? ⟨w.heap.size, 4, none⟩ = some v4 := fun v0 v1 v2 v3 v4 => World.cell?_setCell_same _ _ _ ((World.cell?_setCell_other _ _ _ _ (by simp)).trans ((World.cell?_setCell_other _ _ _ _ (by simp)).trans ((World.cell?_setCell_other _ _ _ _ (by simp)).trans ((World.cell?_setCell_other _ _ _ _ (by simp)).trans r4))))
  all_goals have z5 : ∀ v0 v1 v2 v3 v4 v5 : Value, ((((((w2.setCell ⟨w.heap.size, 0, none⟩ v0).setCell ⟨w.heap.size, 1, none⟩ v1).setCell ⟨w.heap.size, 2, none⟩ v2).setCell ⟨w.heap.size, 3, none⟩ v3).setCell ⟨w.heap.size, 4, none⟩ v4).setCell ⟨w.heap.size, 5, none⟩ v5).cell? ⟨w.heap.size, 5, none⟩ = some v5 := fun v0 v1 v2 v3 v4 v5 => World.cell?_setCell_same _ _ _ ((World.cell?_setCell_other _ _ _ _ (by simp)).trans ((World.cell?_setCell_other _ _ _ _ (by simp)).trans ((World.cell?_setCell_other _ _ _ _ (by simp)).trans ((World.cell?_setCell_other _ _ _ _ (by simp)).trans ((World.cell?_setCell_other _ _ _ _ (by simp)).trans r5)))))
  all_goals have z6 : ∀ v0 v1 v2 v3 v4 v5 v6 : Value, (((((((w2.setCell ⟨w.heap.size, 0, none⟩ v0).setCell ⟨w.heap.size, 1, none⟩ v1).setCell ⟨w.heap.size, 2, none⟩ v2).setCell ⟨w.heap.size, 3, none⟩ v3).setCell ⟨w.heap.size, 4, none⟩ v4).setCell ⟨w.heap.size, 5, none⟩ v5).setCell ⟨w.heap.size, 6, none⟩ v6).cell? ⟨w.heap.size, 6, none⟩ = some v6 := fun v0 v1 v2 v3 v4 v5 v6 => World.cell?_setCell_same _ _ _ ((World.cell?_setCell_other _ _ _ _ (by simp)).trans ((World.cell?_setCell_other _ _ _ _ (by simp)).trans ((World.cell?_setCell_other _ _ _ _ (by simp)).trans ((World.cell?_setCell_other _ _ _ _ (by simp)).trans ((World.cell?_setCell_other _ _ _ _ (by simp)).trans ((World.cell?_setCell_other _ _ _ _ (by simp)).trans r6))))))
  all_goals have z7 : ∀ v0 v1 v2 v3 v4 v5 v6 v7 : Value, ((((((((w2.setCell ⟨w.heap.size, 0, none⟩ v0).setCell ⟨w.heap.size, 1, none⟩ v1).setCell ⟨w.heap.size, 2, none⟩ v2).setCell ⟨w.heap.size, 3, none⟩ v3).setCell ⟨w.heap.size, 4, none⟩ v4).setCell ⟨w.heap.size, 5, none⟩ v5).setCell ⟨w.heap.size, 6, none⟩ v6).setCell ⟨w.heap.size, 7, none⟩ v7).cell? ⟨w.heap.size, 7, none⟩ = some v7 := fun v0 v1 v2 v3 v4 v5 v6 v7 => World.cell?_setCell_same _ _ _ ((World.cell?_setCell_other _ _ _ _ (by simp)).trans ((World.cell?_setCell_other _ _ _ _ (by simp)).trans ((World.cell?_setCell_other _ _ _ _ (by simp)).trans ((World.cell?_setCell_other _ _ _ _ (by simp)).trans ((World.cell?_setCell_other _ _ _ _ (by simp)).trans ((World.cell?_setCell_other _ _ _ _ (by simp)).trans ((World.cell?_setCell_other _ _ _ _ (by simp)).trans r7)))))))
  all_goals cases hm : mayB (kindOf s) (at4 s 1) (at4 s 5) (at4 s 9) (at4 s 13) (at4 s 17) (at4 s 21) (at4 s 25) with
    | true =>
      have H := Lib.hid (show decR s = .tuple #[.agg #[.int .u8 (kindOf s), .int .i64 (at4 s 1), .int .i64 (at4 s 5), .int .i64 (at4 s 9), .int .i64 (at4 s 13), .int .i64 (at4 s 17), .int .i64 (at4 s 21), .int .i64 (at4 s 25)], .int .i64 0] from by unfold decR; rw [if_neg (by omega), if_pos hm]; rfl)
      clear hm
      go_wp2_with fail
      refine bodyPost_ret (by simp [results, Try.results23, go_sem, z0, z1, z2, z3, z4, z5, z6, z7]; try rfl) rfl ?_
      exact ⟨congrArg Ending.returned H.out.symm, ((((((((HB2.out.setCell (Nat.le_refl _) _).setCell (Nat.le_refl _) _).setCell (Nat.le_refl _) _).setCell (Nat.le_refl _) _).setCell (Nat.le_refl _) _).setCell (Nat.le_refl _) _).setCell (Nat.le_refl _) _).setCell (Nat.le_refl _) _)⟩
    | false =>
      have H := Lib.hid (show decR s = .tuple #[.agg #[.int .u8 0, .int .i64 0, .int .i64 0, .int .i64 0, .int .i64 0, .int .i64 0, .int .i64 0, .int .i64 0], .int .i64 4] from by unfold decR; rw [if_neg (by omega), if_neg (by rw [hm]; simp)]; rfl)
      clear hm
      go_wp2_with fail
      refine bodyPost_ret (by simp [results, Try.results23, go_sem, z0, z1, z2, z3, z4, z5, z6, z7]; try rfl) rfl ?_
      exact ⟨congrArg Ending.returned H.out.symm, ((((((((HB2.out.setCell (Nat.le_refl _) _).setCell (Nat.le_refl _) _).setCell (Nat.le_refl _) _).setCell (Nat.le_refl _) _).setCell (Nat.le_refl _) _).setCell (Nat.le_refl _) _).setCell (Nat.le_refl _) _).setCell (Nat.le_refl _) _)⟩
end Go.Proofs.Ytlkjgnnnamkfeaa
