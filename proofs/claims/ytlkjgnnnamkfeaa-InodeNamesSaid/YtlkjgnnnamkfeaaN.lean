/- WALKS of layer 20: InodeNames. -/
import Derived.Test.YtlkjgnnnamkfeaaH
import Derived.Test.YtlkjgnnnamkfeaaJ
set_option linter.unusedVariables false
namespace Go.Proofs.Ytlkjgnnnamkfeaa
open Go.RowKit Go.ChangeShapes Go.WideShapes Go.ChangeAt

theorem setO {w : World} {b i c j : Nat} {v : Value} (h : b ≠ c ∨ i ≠ j) : (w.setCell ⟨b, i, none⟩ v).cell? ⟨c, j, none⟩ = w.cell? ⟨c, j, none⟩ := World.cell?_setCell_other _ _ _ _ (by intro h'; simp at h'; omega)
theorem setS {w : World} {a : Addr} {v u : Value} (h : w.cell? a = some u) : (w.setCell a v).cell? a = some v := World.cell?_setCell_same _ _ _ h
theorem frozS {w : World} {a p : Addr} {v : Value} {x : Bool} (h : w.frozen? p = x) : (w.setCell a v).frozen? p = x := (World.frozen?_setCell w a p v).trans h
theorem frozN {w : World} {cs : Array Value} {t : TypeId} {b i : Nat} (h : w.heap.size = b) : (w.alloc (.cells cs t)).frozen? ⟨b, i, none⟩ = false := by subst h; exact World.frozen?_alloc_new w _ _ _
theorem cellD {w : World} {p : Addr} {v : Option Value} (h : w.cell? p = v) : w.drew.cell? p = v := h
theorem frozD {w : World} {p : Addr} {v : Bool} (h : w.frozen? p = v) : w.drew.frozen? p = v := h

set_option maxHeartbeats 4000000 in
set_option maxRecDepth 20000 in
theorem names_walk (w : World) : Calls Try.prog 6 #[] w fun e w' => e = .returned (.bool true) ∧ Below w.heap.size w w' := by
  have F1 := Lib.hid (show newR 1 420 5 1 3 = .tuple #[.agg #[.int .u8 1, .int .i64 420, .int .i64 1, .int .i64 0, .int .i64 3, .int .i64 3, .int .i64 5, .int .i64 1], .int .i64 0] from by kernel_rfl)
  have F2 := Lib.hid (show newR 4 0 1 0 0 = .tuple #[.agg #[.int .u8 0, .int .i64 0, .int .i64 0, .int .i64 0, .int .i64 0, .int .i64 0, .int .i64 0, .int .i64 0], .int .i64 1] from by kernel_rfl)
  have F3 := Lib.hid (show newR 1 4096 1 0 0 = .tuple #[.agg #[.int .u8 0, .int .i64 0, .int .i64 0, .int .i64 0, .int .i64 0, .int .i64 0, .int .i64 0, .int .i64 0], .int .i64 1] from by kernel_rfl)
  have F4 := Lib.hid (show newR 1 0 2147483647 0 0 = .tuple #[.agg #[.int .u8 0, .int .i64 0, .int .i64 0, .int .i64 0, .int .i64 0, .int .i64 0, .int .i64 0, .int .i64 0], .int .i64 1] from by kernel_rfl)
  have F5 := Lib.hid (show newR 1 0 0 0 0 = .tuple #[.agg #[.int .u8 0, .int .i64 0, .int .i64 0, .int .i64 0, .int .i64 0, .int .i64 0, .int .i64 0, .int .i64 0], .int .i64 1] from by kernel_rfl)
  have F6 := Lib.hid (show sizedR 1 420 1 0 3 3 5 1 32768 4 = .tuple #[.agg #[.int .u8 1, .int .i64 420, .int .i64 1, .int .i64 32768, .int .i64 4, .int .i64 4, .int .i64 5, .int .i64 1], .int .i64 0] from by kernel_rfl)
  have F7 := Lib.hid (show sizedR 1 420 1 0 3 3 5 1 32769 4 = .tuple #[.agg #[.int .u8 0, .int .i64 0, .int .i64 0, .int .i64 0, .int .i64 0, .int .i64 0, .int .i64 0, .int .i64 0], .int .i64 40] from by kernel_rfl)
  have F8 := Lib.hid (show sizedR 1 420 1 0 3 3 5 1 (-1) 4 = .tuple #[.agg #[.int .u8 0, .int .i64 0, .int .i64 0, .int .i64 0, .int .i64 0, .int .i64 0, .int .i64 0, .int .i64 0], .int .i64 1] from by kernel_rfl)
  have F9 := Lib.hid (show linkedR 1 420 1 0 3 3 5 1 (-1) 4 = .tuple #[.agg #[.int .u8 1, .int .i64 420, .int .i64 0, .int .i64 0, .int .i64 3, .int .i64 4, .int .i64 5, .int .i64 1], .int .i64 0] from by kernel_rfl)
  have F10 := Lib.hid (show linkedR 1 420 0 0 3 4 5 1 (-1) 4 = .tuple #[.agg #[.int .u8 0, .int .i64 0, .int .i64 0, .int .i64 0, .int .i64 0, .int .i64 0, .int .i64 0, .int .i64 0], .int .i64 50] from by kernel_rfl)
  have F11 := Lib.hid (show linkedR 1 420 1 0 3 3 5 1 2 4 = .tuple #[.agg #[.int .u8 0, .int .i64 0, .int .i64 0, .int .i64 0, .int .i64 0, .int .i64 0, .int .i64 0, .int .i64 0], .int .i64 1] from by kernel_rfl)
  have F12 := Lib.hid (show linkedR 1 420 1 0 3 3 5 1 1 (-1) = .tuple #[.agg #[.int .u8 0, .int .i64 0, .int .i64 0, .int .i64 0, .int .i64 0, .int .i64 0, .int .i64 0, .int .i64 0], .int .i64 1] from by kernel_rfl)
  have F13 := Lib.hid (show linkedR 1 420 2147483647 0 3 3 5 1 1 4 = .tuple #[.agg #[.int .u8 0, .int .i64 0, .int .i64 0, .int .i64 0, .int .i64 0, .int .i64 0, .int .i64 0, .int .i64 0], .int .i64 50] from by kernel_rfl)
  have F14 := Lib.hid (show mencR 2 3 = .tuple #[.string ⟨#[109, 0, 0, 0, 2, 0, 0, 0, 3]⟩, .int .i64 0] from by kernel_rfl)
  have F15 := Lib.hid (show decMR (⟨#[109, 0, 0, 0, 2, 0, 0, 0, 3]⟩ ++ ⟨#[120]⟩) = .tuple #[.agg #[.int .i64 0, .int .i64 0], .int .i64 4] from by kernel_rfl)
  have F16 := Lib.hid (show decR ⟨#[]⟩ = .tuple #[.agg #[.int .u8 0, .int .i64 0, .int .i64 0, .int .i64 0, .int .i64 0, .int .i64 0, .int .i64 0, .int .i64 0], .int .i64 4] from by kernel_rfl)
  have F17 := Lib.hid (show mayB 3 0 0 161 0 0 1 0 = false from by kernel_rfl)
  have F18 := Lib.hid (show mayB 3 0 0 160 0 0 1 0 = true from by kernel_rfl)
  go_enter Try.func6, Try.ntmps6
  go_wp2_with fail
  refine (new_any _ _ _ _ _ _).mono ?_
  rintro e w1 ⟨rfl, hb⟩
  rw [F1.out]
  have hb' : Below w.heap.size w w1 := Below.trans (by go_grown) (hb.mono (by first | omega | (simp; omega) | simp))
  have hz1 : w.heap.size ≤ w1.heap.size := by have := hb.size; first | omega | (simp at this; omega)
  clear hb
  have B1 := Lib.hid hb'
  have hw1 := hb'.size
  clear hb'
  go_wp2_with fail
  refine (new_any _ _ _ _ _ _).mono ?_
  rintro e w2 ⟨rfl, hb⟩
  rw [F2.out]
  have hb' : Below w.heap.size w w2 := Below.trans (by have := B1.out; go_grown) (hb.mono (by first | omega | (simp; omega) | simp))
  have hz2 : w1.heap.size + 1 ≤ w2.heap.size := by have := hb.size; first | omega | (simp at this; omega)
  have na_0 : w2.cell? ⟨w1.heap.size, 0, none⟩ = some (.int .u8 1) := keep1 hb ((cellN _ _ _ _ (by first | rfl | simp) _).trans rfl)
  have na_1 : w2.cell? ⟨w1.heap.size, 1, none⟩ = some (.int .i64 420) := keep1 hb ((cellN _ _ _ _ (by first | rfl | simp) _).trans rfl)
  have na_2 : w2.cell? ⟨w1.heap.size, 2, none⟩ = some (.int .i64 1) := keep1 hb ((cellN _ _ _ _ (by first | rfl | simp) _).trans rfl)
  have na_3 : w2.cell? ⟨w1.heap.size, 3, none⟩ = some (.int .i64 0) := keep1 hb ((cellN _ _ _ _ (by first | rfl | simp) _).trans rfl)
  have na_4 : w2.cell? ⟨w1.heap.size, 4, none⟩ = some (.int .i64 3) := keep1 hb ((cellN _ _ _ _ (by first | rfl | simp) _).trans rfl)
  have na_5 : w2.cell? ⟨w1.heap.size, 5, none⟩ = some (.int .i64 3) := keep1 hb ((cellN _ _ _ _ (by first | rfl | simp) _).trans rfl)
  have na_6 : w2.cell? ⟨w1.heap.size, 6, none⟩ = some (.int .i64 5) := keep1 hb ((cellN _ _ _ _ (by first | rfl | simp) _).trans rfl)
  have na_7 : w2.cell? ⟨w1.heap.size, 7, none⟩ = some (.int .i64 1) := keep1 hb ((cellN _ _ _ _ (by first | rfl | simp) _).trans rfl)
  have na_f : ∀ i, w2.frozen? ⟨w1.heap.size, i, none⟩ = false := fun i => (hb.frozen (p := ⟨w1.heap.size, i, none⟩) (by first | omega | (simp; omega) | simp)).trans (frozN (by first | rfl | simp))
  have a_0 := na_0; clear na_0
  have a_1 := na_1; clear na_1
  have a_2 := na_2; clear na_2
  have a_3 := na_3; clear na_3
  have a_4 := na_4; clear na_4
  have a_5 := na_5; clear na_5
  have a_6 := na_6; clear na_6
  have a_7 := na_7; clear na_7
  have a_f := na_f; clear na_f
  clear hb B1
  have B2 := Lib.hid hb'
  have hw2 := hb'.size
  clear hb'
  have hsa10 : w1.heap.size < w2.heap.size := by omega
  have hsa11 : w1.heap.size < w2.heap.size + 1 := by omega
  have hsa12 : w1.heap.size < w2.heap.size + 1 + 1 := by omega
  go_wp2_with fail
  refine (new_any _ _ _ _ _ _).mono ?_
  rintro e w3 ⟨rfl, hb⟩
  rw [F3.out]
  have hb' : Below w.heap.size w w3 := Below.trans (by have := B2.out; go_grown) (hb.mono (by first | omega | (simp; omega) | simp))
  have hz3 : w2.heap.size + 1 ≤ w3.heap.size := by have := hb.size; first | omega | (simp at this; omega)
  have na_0 : w3.cell? ⟨w1.heap.size, 0, none⟩ = some (.int .u8 1) := keep1 hb (cellP (by first | omega | (simp; omega) | simp) a_0)
  have na_1 : w3.cell? ⟨w1.heap.size, 1, none⟩ = some (.int .i64 420) := keep1 hb (cellP (by first | omega | (simp; omega) | simp) a_1)
  have na_2 : w3.cell? ⟨w1.heap.size, 2, none⟩ = some (.int .i64 1) := keep1 hb (cellP (by first | omega | (simp; omega) | simp) a_2)
  have na_3 : w3.cell? ⟨w1.heap.size, 3, none⟩ = some (.int .i64 0) := keep1 hb (cellP (by first | omega | (simp; omega) | simp) a_3)
  have na_4 : w3.cell? ⟨w1.heap.size, 4, none⟩ = some (.int .i64 3) := keep1 hb (cellP (by first | omega | (simp; omega) | simp) a_4)
  have na_5 : w3.cell? ⟨w1.heap.size, 5, none⟩ = some (.int .i64 3) := keep1 hb (cellP (by first | omega | (simp; omega) | simp) a_5)
  have na_6 : w3.cell? ⟨w1.heap.size, 6, none⟩ = some (.int .i64 5) := keep1 hb (cellP (by first | omega | (simp; omega) | simp) a_6)
  have na_7 : w3.cell? ⟨w1.heap.size, 7, none⟩ = some (.int .i64 1) := keep1 hb (cellP (by first | omega | (simp; omega) | simp) a_7)
  have na_f : ∀ i, w3.frozen? ⟨w1.heap.size, i, none⟩ = false := fun i => (hb.frozen (p := ⟨w1.heap.size, i, none⟩) (by first | omega | (simp; omega) | simp)).trans (frozP (by first | omega | (simp; omega) | simp) (a_f i))
  clear a_0 a_1 a_2 a_3 a_4 a_5 a_6 a_7 a_f
  have a_0 := na_0; clear na_0
  have a_1 := na_1; clear na_1
  have a_2 := na_2; clear na_2
  have a_3 := na_3; clear na_3
  have a_4 := na_4; clear na_4
  have a_5 := na_5; clear na_5
  have a_6 := na_6; clear na_6
  have a_7 := na_7; clear na_7
  have a_f := na_f; clear na_f
  clear hb B2
  have B3 := Lib.hid hb'
  have hw3 := hb'.size
  clear hb'
  have hsa20 : w1.heap.size < w3.heap.size := by omega
  have hsa21 : w1.heap.size < w3.heap.size + 1 := by omega
  have hsa22 : w1.heap.size < w3.heap.size + 1 + 1 := by omega
  go_wp2_with fail
  refine (new_any _ _ _ _ _ _).mono ?_
  rintro e w4 ⟨rfl, hb⟩
  rw [F4.out]
  have hb' : Below w.heap.size w w4 := Below.trans (by have := B3.out; go_grown) (hb.mono (by first | omega | (simp; omega) | simp))
  have hz4 : w3.heap.size + 1 ≤ w4.heap.size := by have := hb.size; first | omega | (simp at this; omega)
  have na_0 : w4.cell? ⟨w1.heap.size, 0, none⟩ = some (.int .u8 1) := keep1 hb (cellP (by first | omega | (simp; omega) | simp) a_0)
  have na_1 : w4.cell? ⟨w1.heap.size, 1, none⟩ = some (.int .i64 420) := keep1 hb (cellP (by first | omega | (simp; omega) | simp) a_1)
  have na_2 : w4.cell? ⟨w1.heap.size, 2, none⟩ = some (.int .i64 1) := keep1 hb (cellP (by first | omega | (simp; omega) | simp) a_2)
  have na_3 : w4.cell? ⟨w1.heap.size, 3, none⟩ = some (.int .i64 0) := keep1 hb (cellP (by first | omega | (simp; omega) | simp) a_3)
  have na_4 : w4.cell? ⟨w1.heap.size, 4, none⟩ = some (.int .i64 3) := keep1 hb (cellP (by first | omega | (simp; omega) | simp) a_4)
  have na_5 : w4.cell? ⟨w1.heap.size, 5, none⟩ = some (.int .i64 3) := keep1 hb (cellP (by first | omega | (simp; omega) | simp) a_5)
  have na_6 : w4.cell? ⟨w1.heap.size, 6, none⟩ = some (.int .i64 5) := keep1 hb (cellP (by first | omega | (simp; omega) | simp) a_6)
  have na_7 : w4.cell? ⟨w1.heap.size, 7, none⟩ = some (.int .i64 1) := keep1 hb (cellP (by first | omega | (simp; omega) | simp) a_7)
  have na_f : ∀ i, w4.frozen? ⟨w1.heap.size, i, none⟩ = false := fun i => (hb.frozen (p := ⟨w1.heap.size, i, none⟩) (by first | omega | (simp; omega) | simp)).trans (frozP (by first | omega | (simp; omega) | simp) (a_f i))
  clear a_0 a_1 a_2 a_3 a_4 a_5 a_6 a_7 a_f
  have a_0 := na_0; clear na_0
  have a_1 := na_1; clear na_1
  have a_2 := na_2; clear na_2
  have a_3 := na_3; clear na_3
  have a_4 := na_4; clear na_4
  have a_5 := na_5; clear na_5
  have a_6 := na_6; clear na_6
  have a_7 := na_7; clear na_7
  have a_f := na_f; clear na_f
  clear hb B3
  have B4 := Lib.hid hb'
  have hw4 := hb'.size
  clear hb'
  have hsa30 : w1.heap.size < w4.heap.size := by omega
  have hsa31 : w1.heap.size < w4.heap.size + 1 := by omega
  have hsa32 : w1.heap.size < w4.heap.size + 1 + 1 := by omega
  go_wp2_with fail
  refine (new_any _ _ _ _ _ _).mono ?_
  rintro e w5 ⟨rfl, hb⟩
  rw [F5.out]
  have hb' : Below w.heap.size w w5 := Below.trans (by have := B4.out; go_grown) (hb.mono (by first | omega | (simp; omega) | simp))
  have hz5 : w4.heap.size + 1 ≤ w5.heap.size := by have := hb.size; first | omega | (simp at this; omega)
  have na_0 : w5.cell? ⟨w1.heap.size, 0, none⟩ = some (.int .u8 1) := keep1 hb (cellP (by first | omega | (simp; omega) | simp) a_0)
  have na_1 : w5.cell? ⟨w1.heap.size, 1, none⟩ = some (.int .i64 420) := keep1 hb (cellP (by first | omega | (simp; omega) | simp) a_1)
  have na_2 : w5.cell? ⟨w1.heap.size, 2, none⟩ = some (.int .i64 1) := keep1 hb (cellP (by first | omega | (simp; omega) | simp) a_2)
  have na_3 : w5.cell? ⟨w1.heap.size, 3, none⟩ = some (.int .i64 0) := keep1 hb (cellP (by first | omega | (simp; omega) | simp) a_3)
  have na_4 : w5.cell? ⟨w1.heap.size, 4, none⟩ = some (.int .i64 3) := keep1 hb (cellP (by first | omega | (simp; omega) | simp) a_4)
  have na_5 : w5.cell? ⟨w1.heap.size, 5, none⟩ = some (.int .i64 3) := keep1 hb (cellP (by first | omega | (simp; omega) | simp) a_5)
  have na_6 : w5.cell? ⟨w1.heap.size, 6, none⟩ = some (.int .i64 5) := keep1 hb (cellP (by first | omega | (simp; omega) | simp) a_6)
  have na_7 : w5.cell? ⟨w1.heap.size, 7, none⟩ = some (.int .i64 1) := keep1 hb (cellP (by first | omega | (simp; omega) | simp) a_7)
  have na_f : ∀ i, w5.frozen? ⟨w1.heap.size, i, none⟩ = false := fun i => (hb.frozen (p := ⟨w1.heap.size, i, none⟩) (by first | omega | (simp; omega) | simp)).trans (frozP (by first | omega | (simp; omega) | simp) (a_f i))
  clear a_0 a_1 a_2 a_3 a_4 a_5 a_6 a_7 a_f
  have a_0 := na_0; clear na_0
  have a_1 := na_1; clear na_1
  have a_2 := na_2; clear na_2
  have a_3 := na_3; clear na_3
  have a_4 := na_4; clear na_4
  have a_5 := na_5; clear na_5
  have a_6 := na_6; clear na_6
  have a_7 := na_7; clear na_7
  have a_f := na_f; clear na_f
  clear hb B4
  have B5 := Lib.hid hb'
  have hw5 := hb'.size
  clear hb'
  have hsa40 : w1.heap.size < w5.heap.size := by omega
  have hsa41 : w1.heap.size < w5.heap.size + 1 := by omega
  have hsa42 : w1.heap.size < w5.heap.size + 1 + 1 := by omega
  go_wp2_with fail
  refine (sized_any _ _ _ _ _ _ _ _ _ _ _).mono ?_
  rintro e w6 ⟨rfl, hb⟩
  rw [F6.out]
  have hb' : Below w.heap.size w w6 := Below.trans (by have := B5.out; go_grown) (hb.mono (by first | omega | (simp; omega) | simp))
  have hz6 : w5.heap.size + 1 ≤ w6.heap.size := by have := hb.size; first | omega | (simp at this; omega)
  have na_0 : w6.cell? ⟨w1.heap.size, 0, none⟩ = some (.int .u8 1) := keep1 hb (cellP (by first | omega | (simp; omega) | simp) a_0)
  have na_1 : w6.cell? ⟨w1.heap.size, 1, none⟩ = some (.int .i64 420) := keep1 hb (cellP (by first | omega | (simp; omega) | simp) a_1)
  have na_2 : w6.cell? ⟨w1.heap.size, 2, none⟩ = some (.int .i64 1) := keep1 hb (cellP (by first | omega | (simp; omega) | simp) a_2)
  have na_3 : w6.cell? ⟨w1.heap.size, 3, none⟩ = some (.int .i64 0) := keep1 hb (cellP (by first | omega | (simp; omega) | simp) a_3)
  have na_4 : w6.cell? ⟨w1.heap.size, 4, none⟩ = some (.int .i64 3) := keep1 hb (cellP (by first | omega | (simp; omega) | simp) a_4)
  have na_5 : w6.cell? ⟨w1.heap.size, 5, none⟩ = some (.int .i64 3) := keep1 hb (cellP (by first | omega | (simp; omega) | simp) a_5)
  have na_6 : w6.cell? ⟨w1.heap.size, 6, none⟩ = some (.int .i64 5) := keep1 hb (cellP (by first | omega | (simp; omega) | simp) a_6)
  have na_7 : w6.cell? ⟨w1.heap.size, 7, none⟩ = some (.int .i64 1) := keep1 hb (cellP (by first | omega | (simp; omega) | simp) a_7)
  have na_f : ∀ i, w6.frozen? ⟨w1.heap.size, i, none⟩ = false := fun i => (hb.frozen (p := ⟨w1.heap.size, i, none⟩) (by first | omega | (simp; omega) | simp)).trans (frozP (by first | omega | (simp; omega) | simp) (a_f i))
  clear a_0 a_1 a_2 a_3 a_4 a_5 a_6 a_7 a_f
  have a_0 := na_0; clear na_0
  have a_1 := na_1; clear na_1
  have a_2 := na_2; clear na_2
  have a_3 := na_3; clear na_3
  have a_4 := na_4; clear na_4
  have a_5 := na_5; clear na_5
  have a_6 := na_6; clear na_6
  have a_7 := na_7; clear na_7
  have a_f := na_f; clear na_f
  clear hb B5
  have B6 := Lib.hid hb'
  have hw6 := hb'.size
  clear hb'
  have hsa50 : w1.heap.size < w6.heap.size := by omega
  have hsa51 : w1.heap.size < w6.heap.size + 1 := by omega
  have hsa52 : w1.heap.size < w6.heap.size + 1 + 1 := by omega
  go_wp2_with fail
  refine (sized_any _ _ _ _ _ _ _ _ _ _ _).mono ?_
  rintro e w7 ⟨rfl, hb⟩
  rw [F7.out]
  have hb' : Below w.heap.size w w7 := Below.trans (by have := B6.out; go_grown) (hb.mono (by first | omega | (simp; omega) | simp))
  have hz7 : w6.heap.size + 1 ≤ w7.heap.size := by have := hb.size; first | omega | (simp at this; omega)
  have na_0 : w7.cell? ⟨w1.heap.size, 0, none⟩ = some (.int .u8 1) := keep1 hb (cellP (by first | omega | (simp; omega) | simp) a_0)
  have na_1 : w7.cell? ⟨w1.heap.size, 1, none⟩ = some (.int .i64 420) := keep1 hb (cellP (by first | omega | (simp; omega) | simp) a_1)
  have na_2 : w7.cell? ⟨w1.heap.size, 2, none⟩ = some (.int .i64 1) := keep1 hb (cellP (by first | omega | (simp; omega) | simp) a_2)
  have na_3 : w7.cell? ⟨w1.heap.size, 3, none⟩ = some (.int .i64 0) := keep1 hb (cellP (by first | omega | (simp; omega) | simp) a_3)
  have na_4 : w7.cell? ⟨w1.heap.size, 4, none⟩ = some (.int .i64 3) := keep1 hb (cellP (by first | omega | (simp; omega) | simp) a_4)
  have na_5 : w7.cell? ⟨w1.heap.size, 5, none⟩ = some (.int .i64 3) := keep1 hb (cellP (by first | omega | (simp; omega) | simp) a_5)
  have na_6 : w7.cell? ⟨w1.heap.size, 6, none⟩ = some (.int .i64 5) := keep1 hb (cellP (by first | omega | (simp; omega) | simp) a_6)
  have na_7 : w7.cell? ⟨w1.heap.size, 7, none⟩ = some (.int .i64 1) := keep1 hb (cellP (by first | omega | (simp; omega) | simp) a_7)
  have na_f : ∀ i, w7.frozen? ⟨w1.heap.size, i, none⟩ = false := fun i => (hb.frozen (p := ⟨w1.heap.size, i, none⟩) (by first | omega | (simp; omega) | simp)).trans (frozP (by first | omega | (simp; omega) | simp) (a_f i))
  clear a_0 a_1 a_2 a_3 a_4 a_5 a_6 a_7 a_f
  have a_0 := na_0; clear na_0
  have a_1 := na_1; clear na_1
  have a_2 := na_2; clear na_2
  have a_3 := na_3; clear na_3
  have a_4 := na_4; clear na_4
  have a_5 := na_5; clear na_5
  have a_6 := na_6; clear na_6
  have a_7 := na_7; clear na_7
  have a_f := na_f; clear na_f
  clear hb B6
  have B7 := Lib.hid hb'
  have hw7 := hb'.size
  clear hb'
  have hsa60 : w1.heap.size < w7.heap.size := by omega
  have hsa61 : w1.heap.size < w7.heap.size + 1 := by omega
  have hsa62 : w1.heap.size < w7.heap.size + 1 + 1 := by omega
  go_wp2_with fail
  refine (sized_any _ _ _ _ _ _ _ _ _ _ _).mono ?_
  rintro e w8 ⟨rfl, hb⟩
  rw [F8.out]
  have hb' : Below w.heap.size w w8 := Below.trans (by have := B7.out; go_grown) (hb.mono (by first | omega | (simp; omega) | simp))
  have hz8 : w7.heap.size + 1 ≤ w8.heap.size := by have := hb.size; first | omega | (simp at this; omega)
  have na_0 : w8.cell? ⟨w1.heap.size, 0, none⟩ = some (.int .u8 1) := keep1 hb (cellP (by first | omega | (simp; omega) | simp) a_0)
  have na_1 : w8.cell? ⟨w1.heap.size, 1, none⟩ = some (.int .i64 420) := keep1 hb (cellP (by first | omega | (simp; omega) | simp) a_1)
  have na_2 : w8.cell? ⟨w1.heap.size, 2, none⟩ = some (.int .i64 1) := keep1 hb (cellP (by first | omega | (simp; omega) | simp) a_2)
  have na_3 : w8.cell? ⟨w1.heap.size, 3, none⟩ = some (.int .i64 0) := keep1 hb (cellP (by first | omega | (simp; omega) | simp) a_3)
  have na_4 : w8.cell? ⟨w1.heap.size, 4, none⟩ = some (.int .i64 3) := keep1 hb (cellP (by first | omega | (simp; omega) | simp) a_4)
  have na_5 : w8.cell? ⟨w1.heap.size, 5, none⟩ = some (.int .i64 3) := keep1 hb (cellP (by first | omega | (simp; omega) | simp) a_5)
  have na_6 : w8.cell? ⟨w1.heap.size, 6, none⟩ = some (.int .i64 5) := keep1 hb (cellP (by first | omega | (simp; omega) | simp) a_6)
  have na_7 : w8.cell? ⟨w1.heap.size, 7, none⟩ = some (.int .i64 1) := keep1 hb (cellP (by first | omega | (simp; omega) | simp) a_7)
  have na_f : ∀ i, w8.frozen? ⟨w1.heap.size, i, none⟩ = false := fun i => (hb.frozen (p := ⟨w1.heap.size, i, none⟩) (by first | omega | (simp; omega) | simp)).trans (frozP (by first | omega | (simp; omega) | simp) (a_f i))
  clear a_0 a_1 a_2 a_3 a_4 a_5 a_6 a_7 a_f
  have a_0 := na_0; clear na_0
  have a_1 := na_1; clear na_1
  have a_2 := na_2; clear na_2
  have a_3 := na_3; clear na_3
  have a_4 := na_4; clear na_4
  have a_5 := na_5; clear na_5
  have a_6 := na_6; clear na_6
  have a_7 := na_7; clear na_7
  have a_f := na_f; clear na_f
  clear hb B7
  have B8 := Lib.hid hb'
  have hw8 := hb'.size
  clear hb'
  have hsa70 : w1.heap.size < w8.heap.size := by omega
  have hsa71 : w1.heap.size < w8.heap.size + 1 := by omega
  have hsa72 : w1.heap.size < w8.heap.size + 1 + 1 := by omega
  go_wp2_with fail
  refine (linked_any _ _ _ _ _ _ _ _ _ _ _ (by decide) (by decide)).mono ?_
  rintro e w9 ⟨rfl, hb⟩
  rw [F9.out]
  have hb' : Below w.heap.size w w9 := Below.trans (by have := B8.out; go_grown) (hb.mono (by first | omega | (simp; omega) | simp))
  have hz9 : w8.heap.size + 1 ≤ w9.heap.size := by have := hb.size; first | omega | (simp at this; omega)
  have na_0 : w9.cell? ⟨w1.heap.size, 0, none⟩ = some (.int .u8 1) := keep1 hb (cellP (by first | omega | (simp; omega) | simp) a_0)
  have na_1 : w9.cell? ⟨w1.heap.size, 1, none⟩ = some (.int .i64 420) := keep1 hb (cellP (by first | omega | (simp; omega) | simp) a_1)
  have na_2 : w9.cell? ⟨w1.heap.size, 2, none⟩ = some (.int .i64 1) := keep1 hb (cellP (by first | omega | (simp; omega) | simp) a_2)
  have na_3 : w9.cell? ⟨w1.heap.size, 3, none⟩ = some (.int .i64 0) := keep1 hb (cellP (by first | omega | (simp; omega) | simp) a_3)
  have na_4 : w9.cell? ⟨w1.heap.size, 4, none⟩ = some (.int .i64 3) := keep1 hb (cellP (by first | omega | (simp; omega) | simp) a_4)
  have na_5 : w9.cell? ⟨w1.heap.size, 5, none⟩ = some (.int .i64 3) := keep1 hb (cellP (by first | omega | (simp; omega) | simp) a_5)
  have na_6 : w9.cell? ⟨w1.heap.size, 6, none⟩ = some (.int .i64 5) := keep1 hb (cellP (by first | omega | (simp; omega) | simp) a_6)
  have na_7 : w9.cell? ⟨w1.heap.size, 7, none⟩ = some (.int .i64 1) := keep1 hb (cellP (by first | omega | (simp; omega) | simp) a_7)
  have na_f : ∀ i, w9.frozen? ⟨w1.heap.size, i, none⟩ = false := fun i => (hb.frozen (p := ⟨w1.heap.size, i, none⟩) (by first | omega | (simp; omega) | simp)).trans (frozP (by first | omega | (simp; omega) | simp) (a_f i))
  clear a_0 a_1 a_2 a_3 a_4 a_5 a_6 a_7 a_f
  have a_0 := na_0; clear na_0
  have a_1 := na_1; clear na_1
  have a_2 := na_2; clear na_2
  have a_3 := na_3; clear na_3
  have a_4 := na_4; clear na_4
  have a_5 := na_5; clear na_5
  have a_6 := na_6; clear na_6
  have a_7 := na_7; clear na_7
  have a_f := na_f; clear na_f
  clear hb B8
  have B9 := Lib.hid hb'
  have hw9 := hb'.size
  clear hb'
  have hsa80 : w1.heap.size < w9.heap.size := by omega
  have hsa81 : w1.heap.size < w9.heap.size + 1 := by omega
  have hsa82 : w1.heap.size < w9.heap.size + 1 + 1 := by omega
  go_wp2_with fail
  refine (linked_any _ _ _ _ _ _ _ _ _ _ _ (by decide) (by decide)).mono ?_
  rintro e w10 ⟨rfl, hb⟩
  rw [F10.out]
  have hb' : Below w.heap.size w w10 := Below.trans (by have := B9.out; go_grown) (hb.mono (by first | omega | (simp; omega) | simp))
  have hz10 : w9.heap.size + 1 ≤ w10.heap.size := by have := hb.size; first | omega | (simp at this; omega)
  have na_0 : w10.cell? ⟨w1.heap.size, 0, none⟩ = some (.int .u8 1) := keep1 hb (cellP (by first | omega | (simp; omega) | simp) a_0)
  have na_1 : w10.cell? ⟨w1.heap.size, 1, none⟩ = some (.int .i64 420) := keep1 hb (cellP (by first | omega | (simp; omega) | simp) a_1)
  have na_2 : w10.cell? ⟨w1.heap.size, 2, none⟩ = some (.int .i64 1) := keep1 hb (cellP (by first | omega | (simp; omega) | simp) a_2)
  have na_3 : w10.cell? ⟨w1.heap.size, 3, none⟩ = some (.int .i64 0) := keep1 hb (cellP (by first | omega | (simp; omega) | simp) a_3)
  have na_4 : w10.cell? ⟨w1.heap.size, 4, none⟩ = some (.int .i64 3) := keep1 hb (cellP (by first | omega | (simp; omega) | simp) a_4)
  have na_5 : w10.cell? ⟨w1.heap.size, 5, none⟩ = some (.int .i64 3) := keep1 hb (cellP (by first | omega | (simp; omega) | simp) a_5)
  have na_6 : w10.cell? ⟨w1.heap.size, 6, none⟩ = some (.int .i64 5) := keep1 hb (cellP (by first | omega | (simp; omega) | simp) a_6)
  have na_7 : w10.cell? ⟨w1.heap.size, 7, none⟩ = some (.int .i64 1) := keep1 hb (cellP (by first | omega | (simp; omega) | simp) a_7)
  have na_f : ∀ i, w10.frozen? ⟨w1.heap.size, i, none⟩ = false := fun i => (hb.frozen (p := ⟨w1.heap.size, i, none⟩) (by first | omega | (simp; omega) | simp)).trans (frozP (by first | omega | (simp; omega) | simp) (a_f i))
  have nb_0 : w10.cell? ⟨w9.heap.size, 0, none⟩ = some (.int .u8 1) := keep1 hb ((cellN _ _ _ _ (by first | rfl | simp) _).trans rfl)
  have nb_1 : w10.cell? ⟨w9.heap.size, 1, none⟩ = some (.int .i64 420) := keep1 hb ((cellN _ _ _ _ (by first | rfl | simp) _).trans rfl)
  have nb_2 : w10.cell? ⟨w9.heap.size, 2, none⟩ = some (.int .i64 0) := keep1 hb ((cellN _ _ _ _ (by first | rfl | simp) _).trans rfl)
  have nb_3 : w10.cell? ⟨w9.heap.size, 3, none⟩ = some (.int .i64 0) := keep1 hb ((cellN _ _ _ _ (by first | rfl | simp) _).trans rfl)
  have nb_4 : w10.cell? ⟨w9.heap.size, 4, none⟩ = some (.int .i64 3) := keep1 hb ((cellN _ _ _ _ (by first | rfl | simp) _).trans rfl)
  have nb_5 : w10.cell? ⟨w9.heap.size, 5, none⟩ = some (.int .i64 4) := keep1 hb ((cellN _ _ _ _ (by first | rfl | simp) _).trans rfl)
  have nb_6 : w10.cell? ⟨w9.heap.size, 6, none⟩ = some (.int .i64 5) := keep1 hb ((cellN _ _ _ _ (by first | rfl | simp) _).trans rfl)
  have nb_7 : w10.cell? ⟨w9.heap.size, 7, none⟩ = some (.int .i64 1) := keep1 hb ((cellN _ _ _ _ (by first | rfl | simp) _).trans rfl)
  have nb_f : ∀ i, w10.frozen? ⟨w9.heap.size, i, none⟩ = false := fun i => (hb.frozen (p := ⟨w9.heap.size, i, none⟩) (by first | omega | (simp; omega) | simp)).trans (frozN (by first | rfl | simp))
  clear a_0 a_1 a_2 a_3 a_4 a_5 a_6 a_7 a_f
  have a_0 := na_0; clear na_0
  have a_1 := na_1; clear na_1
  have a_2 := na_2; clear na_2
  have a_3 := na_3; clear na_3
  have a_4 := na_4; clear na_4
  have a_5 := na_5; clear na_5
  have a_6 := na_6; clear na_6
  have a_7 := na_7; clear na_7
  have a_f := na_f; clear na_f
  have b_0 := nb_0; clear nb_0
  have b_1 := nb_1; clear nb_1
  have b_2 := nb_2; clear nb_2
  have b_3 := nb_3; clear nb_3
  have b_4 := nb_4; clear nb_4
  have b_5 := nb_5; clear nb_5
  have b_6 := nb_6; clear nb_6
  have b_7 := nb_7; clear nb_7
  have b_f := nb_f; clear nb_f
  clear hb B9
  have B10 := Lib.hid hb'
  have hw10 := hb'.size
  clear hb'
  have hsa90 : w1.heap.size < w10.heap.size := by omega
  have hsa91 : w1.heap.size < w10.heap.size + 1 := by omega
  have hsa92 : w1.heap.size < w10.heap.size + 1 + 1 := by omega
  have hsb90 : w9.heap.size < w10.heap.size := by omega
  have hsb91 : w9.heap.size < w10.heap.size + 1 := by omega
  have hsb92 : w9.heap.size < w10.heap.size + 1 + 1 := by omega
  go_wp2_with fail
  refine (linked_any _ _ _ _ _ _ _ _ _ _ _ (by decide) (by decide)).mono ?_
  rintro e w11 ⟨rfl, hb⟩
  rw [F11.out]
  have hb' : Below w.heap.size w w11 := Below.trans (by have := B10.out; go_grown) (hb.mono (by first | omega | (simp; omega) | simp))
  have hz11 : w10.heap.size + 1 ≤ w11.heap.size := by have := hb.size; first | omega | (simp at this; omega)
  have na_0 : w11.cell? ⟨w1.heap.size, 0, none⟩ = some (.int .u8 1) := keep1 hb (cellP (by first | omega | (simp; omega) | simp) a_0)
  have na_1 : w11.cell? ⟨w1.heap.size, 1, none⟩ = some (.int .i64 420) := keep1 hb (cellP (by first | omega | (simp; omega) | simp) a_1)
  have na_2 : w11.cell? ⟨w1.heap.size, 2, none⟩ = some (.int .i64 1) := keep1 hb (cellP (by first | omega | (simp; omega) | simp) a_2)
  have na_3 : w11.cell? ⟨w1.heap.size, 3, none⟩ = some (.int .i64 0) := keep1 hb (cellP (by first | omega | (simp; omega) | simp) a_3)
  have na_4 : w11.cell? ⟨w1.heap.size, 4, none⟩ = some (.int .i64 3) := keep1 hb (cellP (by first | omega | (simp; omega) | simp) a_4)
  have na_5 : w11.cell? ⟨w1.heap.size, 5, none⟩ = some (.int .i64 3) := keep1 hb (cellP (by first | omega | (simp; omega) | simp) a_5)
  have na_6 : w11.cell? ⟨w1.heap.size, 6, none⟩ = some (.int .i64 5) := keep1 hb (cellP (by first | omega | (simp; omega) | simp) a_6)
  have na_7 : w11.cell? ⟨w1.heap.size, 7, none⟩ = some (.int .i64 1) := keep1 hb (cellP (by first | omega | (simp; omega) | simp) a_7)
  have na_f : ∀ i, w11.frozen? ⟨w1.heap.size, i, none⟩ = false := fun i => (hb.frozen (p := ⟨w1.heap.size, i, none⟩) (by first | omega | (simp; omega) | simp)).trans (frozP (by first | omega | (simp; omega) | simp) (a_f i))
  have nb_0 : w11.cell? ⟨w9.heap.size, 0, none⟩ = some (.int .u8 1) := keep1 hb (cellP (by first | omega | (simp; omega) | simp) b_0)
  have nb_1 : w11.cell? ⟨w9.heap.size, 1, none⟩ = some (.int .i64 420) := keep1 hb (cellP (by first | omega | (simp; omega) | simp) b_1)
  have nb_2 : w11.cell? ⟨w9.heap.size, 2, none⟩ = some (.int .i64 0) := keep1 hb (cellP (by first | omega | (simp; omega) | simp) b_2)
  have nb_3 : w11.cell? ⟨w9.heap.size, 3, none⟩ = some (.int .i64 0) := keep1 hb (cellP (by first | omega | (simp; omega) | simp) b_3)
  have nb_4 : w11.cell? ⟨w9.heap.size, 4, none⟩ = some (.int .i64 3) := keep1 hb (cellP (by first | omega | (simp; omega) | simp) b_4)
  have nb_5 : w11.cell? ⟨w9.heap.size, 5, none⟩ = some (.int .i64 4) := keep1 hb (cellP (by first | omega | (simp; omega) | simp) b_5)
  have nb_6 : w11.cell? ⟨w9.heap.size, 6, none⟩ = some (.int .i64 5) := keep1 hb (cellP (by first | omega | (simp; omega) | simp) b_6)
  have nb_7 : w11.cell? ⟨w9.heap.size, 7, none⟩ = some (.int .i64 1) := keep1 hb (cellP (by first | omega | (simp; omega) | simp) b_7)
  have nb_f : ∀ i, w11.frozen? ⟨w9.heap.size, i, none⟩ = false := fun i => (hb.frozen (p := ⟨w9.heap.size, i, none⟩) (by first | omega | (simp; omega) | simp)).trans (frozP (by first | omega | (simp; omega) | simp) (b_f i))
  clear a_0 a_1 a_2 a_3 a_4 a_5 a_6 a_7 a_f b_0 b_1 b_2 b_3 b_4 b_5 b_6 b_7 b_f
  have a_0 := na_0; clear na_0
  have a_1 := na_1; clear na_1
  have a_2 := na_2; clear na_2
  have a_3 := na_3; clear na_3
  have a_4 := na_4; clear na_4
  have a_5 := na_5; clear na_5
  have a_6 := na_6; clear na_6
  have a_7 := na_7; clear na_7
  have a_f := na_f; clear na_f
  have b_0 := nb_0; clear nb_0
  have b_1 := nb_1; clear nb_1
  have b_2 := nb_2; clear nb_2
  have b_3 := nb_3; clear nb_3
  have b_4 := nb_4; clear nb_4
  have b_5 := nb_5; clear nb_5
  have b_6 := nb_6; clear nb_6
  have b_7 := nb_7; clear nb_7
  have b_f := nb_f; clear nb_f
  clear hb B10
  have B11 := Lib.hid hb'
  have hw11 := hb'.size
  clear hb'
  have hsa100 : w1.heap.size < w11.heap.size := by omega
  have hsa101 : w1.heap.size < w11.heap.size + 1 := by omega
  have hsa102 : w1.heap.size < w11.heap.size + 1 + 1 := by omega
  have hsb100 : w9.heap.size < w11.heap.size := by omega
  have hsb101 : w9.heap.size < w11.heap.size + 1 := by omega
  have hsb102 : w9.heap.size < w11.heap.size + 1 + 1 := by omega
  go_wp2_with fail
  refine (linked_any _ _ _ _ _ _ _ _ _ _ _ (by decide) (by decide)).mono ?_
  rintro e w12 ⟨rfl, hb⟩
  rw [F12.out]
  have hb' : Below w.heap.size w w12 := Below.trans (by have := B11.out; go_grown) (hb.mono (by first | omega | (simp; omega) | simp))
  have hz12 : w11.heap.size + 1 ≤ w12.heap.size := by have := hb.size; first | omega | (simp at this; omega)
  have na_0 : w12.cell? ⟨w1.heap.size, 0, none⟩ = some (.int .u8 1) := keep1 hb (cellP (by first | omega | (simp; omega) | simp) a_0)
  have na_1 : w12.cell? ⟨w1.heap.size, 1, none⟩ = some (.int .i64 420) := keep1 hb (cellP (by first | omega | (simp; omega) | simp) a_1)
  have na_2 : w12.cell? ⟨w1.heap.size, 2, none⟩ = some (.int .i64 1) := keep1 hb (cellP (by first | omega | (simp; omega) | simp) a_2)
  have na_3 : w12.cell? ⟨w1.heap.size, 3, none⟩ = some (.int .i64 0) := keep1 hb (cellP (by first | omega | (simp; omega) | simp) a_3)
  have na_4 : w12.cell? ⟨w1.heap.size, 4, none⟩ = some (.int .i64 3) := keep1 hb (cellP (by first | omega | (simp; omega) | simp) a_4)
  have na_5 : w12.cell? ⟨w1.heap.size, 5, none⟩ = some (.int .i64 3) := keep1 hb (cellP (by first | omega | (simp; omega) | simp) a_5)
  have na_6 : w12.cell? ⟨w1.heap.size, 6, none⟩ = some (.int .i64 5) := keep1 hb (cellP (by first | omega | (simp; omega) | simp) a_6)
  have na_7 : w12.cell? ⟨w1.heap.size, 7, none⟩ = some (.int .i64 1) := keep1 hb (cellP (by first | omega | (simp; omega) | simp) a_7)
  have na_f : ∀ i, w12.frozen? ⟨w1.heap.size, i, none⟩ = false := fun i => (hb.frozen (p := ⟨w1.heap.size, i, none⟩) (by first | omega | (simp; omega) | simp)).trans (frozP (by first | omega | (simp; omega) | simp) (a_f i))
  have nb_0 : w12.cell? ⟨w9.heap.size, 0, none⟩ = some (.int .u8 1) := keep1 hb (cellP (by first | omega | (simp; omega) | simp) b_0)
  have nb_1 : w12.cell? ⟨w9.heap.size, 1, none⟩ = some (.int .i64 420) := keep1 hb (cellP (by first | omega | (simp; omega) | simp) b_1)
  have nb_2 : w12.cell? ⟨w9.heap.size, 2, none⟩ = some (.int .i64 0) := keep1 hb (cellP (by first | omega | (simp; omega) | simp) b_2)
  have nb_3 : w12.cell? ⟨w9.heap.size, 3, none⟩ = some (.int .i64 0) := keep1 hb (cellP (by first | omega | (simp; omega) | simp) b_3)
  have nb_4 : w12.cell? ⟨w9.heap.size, 4, none⟩ = some (.int .i64 3) := keep1 hb (cellP (by first | omega | (simp; omega) | simp) b_4)
  have nb_5 : w12.cell? ⟨w9.heap.size, 5, none⟩ = some (.int .i64 4) := keep1 hb (cellP (by first | omega | (simp; omega) | simp) b_5)
  have nb_6 : w12.cell? ⟨w9.heap.size, 6, none⟩ = some (.int .i64 5) := keep1 hb (cellP (by first | omega | (simp; omega) | simp) b_6)
  have nb_7 : w12.cell? ⟨w9.heap.size, 7, none⟩ = some (.int .i64 1) := keep1 hb (cellP (by first | omega | (simp; omega) | simp) b_7)
  have nb_f : ∀ i, w12.frozen? ⟨w9.heap.size, i, none⟩ = false := fun i => (hb.frozen (p := ⟨w9.heap.size, i, none⟩) (by first | omega | (simp; omega) | simp)).trans (frozP (by first | omega | (simp; omega) | simp) (b_f i))
  clear a_0 a_1 a_2 a_3 a_4 a_5 a_6 a_7 a_f b_0 b_1 b_2 b_3 b_4 b_5 b_6 b_7 b_f
  have a_0 := na_0; clear na_0
  have a_1 := na_1; clear na_1
  have a_2 := na_2; clear na_2
  have a_3 := na_3; clear na_3
  have a_4 := na_4; clear na_4
  have a_5 := na_5; clear na_5
  have a_6 := na_6; clear na_6
  have a_7 := na_7; clear na_7
  have a_f := na_f; clear na_f
  have b_0 := nb_0; clear nb_0
  have b_1 := nb_1; clear nb_1
  have b_2 := nb_2; clear nb_2
  have b_3 := nb_3; clear nb_3
  have b_4 := nb_4; clear nb_4
  have b_5 := nb_5; clear nb_5
  have b_6 := nb_6; clear nb_6
  have b_7 := nb_7; clear nb_7
  have b_f := nb_f; clear nb_f
  clear hb B11
  have B12 := Lib.hid hb'
  have hw12 := hb'.size
  clear hb'
  have hsa110 : w1.heap.size < w12.heap.size := by omega
  have hsa111 : w1.heap.size < w12.heap.size + 1 := by omega
  have hsa112 : w1.heap.size < w12.heap.size + 1 + 1 := by omega
  have hsb110 : w9.heap.size < w12.heap.size := by omega
  have hsb111 : w9.heap.size < w12.heap.size + 1 := by omega
  have hsb112 : w9.heap.size < w12.heap.size + 1 + 1 := by omega
  go_wp2_with fail
  refine (linked_any _ _ _ _ _ _ _ _ _ _ _ (by decide) (by decide)).mono ?_
  rintro e w13 ⟨rfl, hb⟩
  rw [F13.out]
  have hb' : Below w.heap.size w w13 := Below.trans (by have := B12.out; go_grown) (hb.mono (by first | omega | (simp; omega) | simp))
  have hz13 : w12.heap.size + 1 ≤ w13.heap.size := by have := hb.size; first | omega | (simp at this; omega)
  have na_0 : w13.cell? ⟨w1.heap.size, 0, none⟩ = some (.int .u8 1) := keep1 hb (cellP (by first | omega | (simp; omega) | simp) ((setO (by omega)).trans a_0))
  have na_1 : w13.cell? ⟨w1.heap.size, 1, none⟩ = some (.int .i64 420) := keep1 hb (cellP (by first | omega | (simp; omega) | simp) ((setO (by omega)).trans a_1))
  have na_2 : w13.cell? ⟨w1.heap.size, 2, none⟩ = some (.int .i64 2147483647) := keep1 hb (cellP (by first | omega | (simp; omega) | simp) (setS a_2))
  have na_3 : w13.cell? ⟨w1.heap.size, 3, none⟩ = some (.int .i64 0) := keep1 hb (cellP (by first | omega | (simp; omega) | simp) ((setO (by omega)).trans a_3))
  have na_4 : w13.cell? ⟨w1.heap.size, 4, none⟩ = some (.int .i64 3) := keep1 hb (cellP (by first | omega | (simp; omega) | simp) ((setO (by omega)).trans a_4))
  have na_5 : w13.cell? ⟨w1.heap.size, 5, none⟩ = some (.int .i64 3) := keep1 hb (cellP (by first | omega | (simp; omega) | simp) ((setO (by omega)).trans a_5))
  have na_6 : w13.cell? ⟨w1.heap.size, 6, none⟩ = some (.int .i64 5) := keep1 hb (cellP (by first | omega | (simp; omega) | simp) ((setO (by omega)).trans a_6))
  have na_7 : w13.cell? ⟨w1.heap.size, 7, none⟩ = some (.int .i64 1) := keep1 hb (cellP (by first | omega | (simp; omega) | simp) ((setO (by omega)).trans a_7))
  have na_f : ∀ i, w13.frozen? ⟨w1.heap.size, i, none⟩ = false := fun i => (hb.frozen (p := ⟨w1.heap.size, i, none⟩) (by first | omega | (simp; omega) | simp)).trans (frozP (by first | omega | (simp; omega) | simp) (frozS (a_f i)))
  have nb_0 : w13.cell? ⟨w9.heap.size, 0, none⟩ = some (.int .u8 1) := keep1 hb (cellP (by first | omega | (simp; omega) | simp) ((setO (by omega)).trans b_0))
  have nb_1 : w13.cell? ⟨w9.heap.size, 1, none⟩ = some (.int .i64 420) := keep1 hb (cellP (by first | omega | (simp; omega) | simp) ((setO (by omega)).trans b_1))
  have nb_2 : w13.cell? ⟨w9.heap.size, 2, none⟩ = some (.int .i64 0) := keep1 hb (cellP (by first | omega | (simp; omega) | simp) ((setO (by omega)).trans b_2))
  have nb_3 : w13.cell? ⟨w9.heap.size, 3, none⟩ = some (.int .i64 0) := keep1 hb (cellP (by first | omega | (simp; omega) | simp) ((setO (by omega)).trans b_3))
  have nb_4 : w13.cell? ⟨w9.heap.size, 4, none⟩ = some (.int .i64 3) := keep1 hb (cellP (by first | omega | (simp; omega) | simp) ((setO (by omega)).trans b_4))
  have nb_5 : w13.cell? ⟨w9.heap.size, 5, none⟩ = some (.int .i64 4) := keep1 hb (cellP (by first | omega | (simp; omega) | simp) ((setO (by omega)).trans b_5))
  have nb_6 : w13.cell? ⟨w9.heap.size, 6, none⟩ = some (.int .i64 5) := keep1 hb (cellP (by first | omega | (simp; omega) | simp) ((setO (by omega)).trans b_6))
  have nb_7 : w13.cell? ⟨w9.heap.size, 7, none⟩ = some (.int .i64 1) := keep1 hb (cellP (by first | omega | (simp; omega) | simp) ((setO (by omega)).trans b_7))
  have nb_f : ∀ i, w13.frozen? ⟨w9.heap.size, i, none⟩ = false := fun i => (hb.frozen (p := ⟨w9.heap.size, i, none⟩) (by first | omega | (simp; omega) | simp)).trans (frozP (by first | omega | (simp; omega) | simp) (frozS (b_f i)))
  clear a_0 a_1 a_2 a_3 a_4 a_5 a_6 a_7 a_f b_0 b_1 b_2 b_3 b_4 b_5 b_6 b_7 b_f
  have a_0 := na_0; clear na_0
  have a_1 := na_1; clear na_1
  have a_2 := na_2; clear na_2
  have a_3 := na_3; clear na_3
  have a_4 := na_4; clear na_4
  have a_5 := na_5; clear na_5
  have a_6 := na_6; clear na_6
  have a_7 := na_7; clear na_7
  have a_f := na_f; clear na_f
  have b_0 := nb_0; clear nb_0
  have b_1 := nb_1; clear nb_1
  have b_2 := nb_2; clear nb_2
  have b_3 := nb_3; clear nb_3
  have b_4 := nb_4; clear nb_4
  have b_5 := nb_5; clear nb_5
  have b_6 := nb_6; clear nb_6
  have b_7 := nb_7; clear nb_7
  have b_f := nb_f; clear nb_f
  clear hb B12
  have B13 := Lib.hid hb'
  have hw13 := hb'.size
  clear hb'
  have hsa120 : w1.heap.size < w13.heap.size := by omega
  have hsa121 : w1.heap.size < w13.heap.size + 1 := by omega
  have hsa122 : w1.heap.size < w13.heap.size + 1 + 1 := by omega
  have hsb120 : w9.heap.size < w13.heap.size := by omega
  have hsb121 : w9.heap.size < w13.heap.size + 1 := by omega
  have hsb122 : w9.heap.size < w13.heap.size + 1 + 1 := by omega
  go_wp2_with fail
  refine (encmeta_any 2 3 _ (by decide) (by decide) (by decide) (by decide)).mono ?_
  rintro e w14 ⟨rfl, hb⟩
  rw [F14.out]
  have hb' : Below w.heap.size w w14 := Below.trans (by have := B13.out; go_grown) (hb.mono (by first | omega | (simp; omega) | simp))
  have hz14 : w13.heap.size + 1 ≤ w14.heap.size := by have := hb.size; first | omega | (simp at this; omega)
  have na_0 : w14.cell? ⟨w1.heap.size, 0, none⟩ = some (.int .u8 1) := keep1 hb (cellP (by first | omega | (simp; omega) | simp) a_0)
  have na_1 : w14.cell? ⟨w1.heap.size, 1, none⟩ = some (.int .i64 420) := keep1 hb (cellP (by first | omega | (simp; omega) | simp) a_1)
  have na_2 : w14.cell? ⟨w1.heap.size, 2, none⟩ = some (.int .i64 2147483647) := keep1 hb (cellP (by first | omega | (simp; omega) | simp) a_2)
  have na_3 : w14.cell? ⟨w1.heap.size, 3, none⟩ = some (.int .i64 0) := keep1 hb (cellP (by first | omega | (simp; omega) | simp) a_3)
  have na_4 : w14.cell? ⟨w1.heap.size, 4, none⟩ = some (.int .i64 3) := keep1 hb (cellP (by first | omega | (simp; omega) | simp) a_4)
  have na_5 : w14.cell? ⟨w1.heap.size, 5, none⟩ = some (.int .i64 3) := keep1 hb (cellP (by first | omega | (simp; omega) | simp) a_5)
  have na_6 : w14.cell? ⟨w1.heap.size, 6, none⟩ = some (.int .i64 5) := keep1 hb (cellP (by first | omega | (simp; omega) | simp) a_6)
  have na_7 : w14.cell? ⟨w1.heap.size, 7, none⟩ = some (.int .i64 1) := keep1 hb (cellP (by first | omega | (simp; omega) | simp) a_7)
  have na_f : ∀ i, w14.frozen? ⟨w1.heap.size, i, none⟩ = false := fun i => (hb.frozen (p := ⟨w1.heap.size, i, none⟩) (by first | omega | (simp; omega) | simp)).trans (frozP (by first | omega | (simp; omega) | simp) (a_f i))
  have nb_0 : w14.cell? ⟨w9.heap.size, 0, none⟩ = some (.int .u8 1) := keep1 hb (cellP (by first | omega | (simp; omega) | simp) b_0)
  have nb_1 : w14.cell? ⟨w9.heap.size, 1, none⟩ = some (.int .i64 420) := keep1 hb (cellP (by first | omega | (simp; omega) | simp) b_1)
  have nb_2 : w14.cell? ⟨w9.heap.size, 2, none⟩ = some (.int .i64 0) := keep1 hb (cellP (by first | omega | (simp; omega) | simp) b_2)
  have nb_3 : w14.cell? ⟨w9.heap.size, 3, none⟩ = some (.int .i64 0) := keep1 hb (cellP (by first | omega | (simp; omega) | simp) b_3)
  have nb_4 : w14.cell? ⟨w9.heap.size, 4, none⟩ = some (.int .i64 3) := keep1 hb (cellP (by first | omega | (simp; omega) | simp) b_4)
  have nb_5 : w14.cell? ⟨w9.heap.size, 5, none⟩ = some (.int .i64 4) := keep1 hb (cellP (by first | omega | (simp; omega) | simp) b_5)
  have nb_6 : w14.cell? ⟨w9.heap.size, 6, none⟩ = some (.int .i64 5) := keep1 hb (cellP (by first | omega | (simp; omega) | simp) b_6)
  have nb_7 : w14.cell? ⟨w9.heap.size, 7, none⟩ = some (.int .i64 1) := keep1 hb (cellP (by first | omega | (simp; omega) | simp) b_7)
  have nb_f : ∀ i, w14.frozen? ⟨w9.heap.size, i, none⟩ = false := fun i => (hb.frozen (p := ⟨w9.heap.size, i, none⟩) (by first | omega | (simp; omega) | simp)).trans (frozP (by first | omega | (simp; omega) | simp) (b_f i))
  clear a_0 a_1 a_2 a_3 a_4 a_5 a_6 a_7 a_f b_0 b_1 b_2 b_3 b_4 b_5 b_6 b_7 b_f
  have a_0 := na_0; clear na_0
  have a_1 := na_1; clear na_1
  have a_2 := na_2; clear na_2
  have a_3 := na_3; clear na_3
  have a_4 := na_4; clear na_4
  have a_5 := na_5; clear na_5
  have a_6 := na_6; clear na_6
  have a_7 := na_7; clear na_7
  have a_f := na_f; clear na_f
  have b_0 := nb_0; clear nb_0
  have b_1 := nb_1; clear nb_1
  have b_2 := nb_2; clear nb_2
  have b_3 := nb_3; clear nb_3
  have b_4 := nb_4; clear nb_4
  have b_5 := nb_5; clear nb_5
  have b_6 := nb_6; clear nb_6
  have b_7 := nb_7; clear nb_7
  have b_f := nb_f; clear nb_f
  clear hb B13
  have B14 := Lib.hid hb'
  have hw14 := hb'.size
  clear hb'
  have hsa130 : w1.heap.size < w14.heap.size := by omega
  have hsa131 : w1.heap.size < w14.heap.size + 1 := by omega
  have hsa132 : w1.heap.size < w14.heap.size + 1 + 1 := by omega
  have hsb130 : w9.heap.size < w14.heap.size := by omega
  have hsb131 : w9.heap.size < w14.heap.size + 1 := by omega
  have hsb132 : w9.heap.size < w14.heap.size + 1 + 1 := by omega
  go_wp2_with fail
  refine (decmeta_any _ _).mono ?_
  rintro e w15 ⟨rfl, hb⟩
  rw [F15.out]
  have hb' : Below w.heap.size w w15 := Below.trans (by have := B14.out; go_grown) (hb.mono (by first | omega | (simp; omega) | simp))
  have hz15 : w14.heap.size ≤ w15.heap.size := by have := hb.size; first | omega | (simp at this; omega)
  have na_0 : w15.cell? ⟨w1.heap.size, 0, none⟩ = some (.int .u8 1) := keep1 hb a_0
  have na_1 : w15.cell? ⟨w1.heap.size, 1, none⟩ = some (.int .i64 420) := keep1 hb a_1
  have na_2 : w15.cell? ⟨w1.heap.size, 2, none⟩ = some (.int .i64 2147483647) := keep1 hb a_2
  have na_3 : w15.cell? ⟨w1.heap.size, 3, none⟩ = some (.int .i64 0) := keep1 hb a_3
  have na_4 : w15.cell? ⟨w1.heap.size, 4, none⟩ = some (.int .i64 3) := keep1 hb a_4
  have na_5 : w15.cell? ⟨w1.heap.size, 5, none⟩ = some (.int .i64 3) := keep1 hb a_5
  have na_6 : w15.cell? ⟨w1.heap.size, 6, none⟩ = some (.int .i64 5) := keep1 hb a_6
  have na_7 : w15.cell? ⟨w1.heap.size, 7, none⟩ = some (.int .i64 1) := keep1 hb a_7
  have na_f : ∀ i, w15.frozen? ⟨w1.heap.size, i, none⟩ = false := fun i => (hb.frozen (p := ⟨w1.heap.size, i, none⟩) (by first | omega | (simp; omega) | simp)).trans (a_f i)
  have nb_0 : w15.cell? ⟨w9.heap.size, 0, none⟩ = some (.int .u8 1) := keep1 hb b_0
  have nb_1 : w15.cell? ⟨w9.heap.size, 1, none⟩ = some (.int .i64 420) := keep1 hb b_1
  have nb_2 : w15.cell? ⟨w9.heap.size, 2, none⟩ = some (.int .i64 0) := keep1 hb b_2
  have nb_3 : w15.cell? ⟨w9.heap.size, 3, none⟩ = some (.int .i64 0) := keep1 hb b_3
  have nb_4 : w15.cell? ⟨w9.heap.size, 4, none⟩ = some (.int .i64 3) := keep1 hb b_4
  have nb_5 : w15.cell? ⟨w9.heap.size, 5, none⟩ = some (.int .i64 4) := keep1 hb b_5
  have nb_6 : w15.cell? ⟨w9.heap.size, 6, none⟩ = some (.int .i64 5) := keep1 hb b_6
  have nb_7 : w15.cell? ⟨w9.heap.size, 7, none⟩ = some (.int .i64 1) := keep1 hb b_7
  have nb_f : ∀ i, w15.frozen? ⟨w9.heap.size, i, none⟩ = false := fun i => (hb.frozen (p := ⟨w9.heap.size, i, none⟩) (by first | omega | (simp; omega) | simp)).trans (b_f i)
  clear a_0 a_1 a_2 a_3 a_4 a_5 a_6 a_7 a_f b_0 b_1 b_2 b_3 b_4 b_5 b_6 b_7 b_f
  have a_0 := na_0; clear na_0
  have a_1 := na_1; clear na_1
  have a_2 := na_2; clear na_2
  have a_3 := na_3; clear na_3
  have a_4 := na_4; clear na_4
  have a_5 := na_5; clear na_5
  have a_6 := na_6; clear na_6
  have a_7 := na_7; clear na_7
  have a_f := na_f; clear na_f
  have b_0 := nb_0; clear nb_0
  have b_1 := nb_1; clear nb_1
  have b_2 := nb_2; clear nb_2
  have b_3 := nb_3; clear nb_3
  have b_4 := nb_4; clear nb_4
  have b_5 := nb_5; clear nb_5
  have b_6 := nb_6; clear nb_6
  have b_7 := nb_7; clear nb_7
  have b_f := nb_f; clear nb_f
  clear hb B14
  have B15 := Lib.hid hb'
  have hw15 := hb'.size
  clear hb'
  have hsa140 : w1.heap.size < w15.heap.size := by omega
  have hsa141 : w1.heap.size < w15.heap.size + 1 := by omega
  have hsa142 : w1.heap.size < w15.heap.size + 1 + 1 := by omega
  have hsb140 : w9.heap.size < w15.heap.size := by omega
  have hsb141 : w9.heap.size < w15.heap.size + 1 := by omega
  have hsb142 : w9.heap.size < w15.heap.size + 1 + 1 := by omega
  go_wp2_with fail
  refine (decode_any _ _).mono ?_
  rintro e w16 ⟨rfl, hb⟩
  rw [F16.out]
  have hb' : Below w.heap.size w w16 := Below.trans (by have := B15.out; go_grown) (hb.mono (by first | omega | (simp; omega) | simp))
  have hz16 : w15.heap.size + 1 ≤ w16.heap.size := by have := hb.size; first | omega | (simp at this; omega)
  have na_0 : w16.cell? ⟨w1.heap.size, 0, none⟩ = some (.int .u8 1) := keep1 hb (cellP (by first | omega | (simp; omega) | simp) a_0)
  have na_1 : w16.cell? ⟨w1.heap.size, 1, none⟩ = some (.int .i64 420) := keep1 hb (cellP (by first | omega | (simp; omega) | simp) a_1)
  have na_2 : w16.cell? ⟨w1.heap.size, 2, none⟩ = some (.int .i64 2147483647) := keep1 hb (cellP (by first | omega | (simp; omega) | simp) a_2)
  have na_3 : w16.cell? ⟨w1.heap.size, 3, none⟩ = some (.int .i64 0) := keep1 hb (cellP (by first | omega | (simp; omega) | simp) a_3)
  have na_4 : w16.cell? ⟨w1.heap.size, 4, none⟩ = some (.int .i64 3) := keep1 hb (cellP (by first | omega | (simp; omega) | simp) a_4)
  have na_5 : w16.cell? ⟨w1.heap.size, 5, none⟩ = some (.int .i64 3) := keep1 hb (cellP (by first | omega | (simp; omega) | simp) a_5)
  have na_6 : w16.cell? ⟨w1.heap.size, 6, none⟩ = some (.int .i64 5) := keep1 hb (cellP (by first | omega | (simp; omega) | simp) a_6)
  have na_7 : w16.cell? ⟨w1.heap.size, 7, none⟩ = some (.int .i64 1) := keep1 hb (cellP (by first | omega | (simp; omega) | simp) a_7)
  have na_f : ∀ i, w16.frozen? ⟨w1.heap.size, i, none⟩ = false := fun i => (hb.frozen (p := ⟨w1.heap.size, i, none⟩) (by first | omega | (simp; omega) | simp)).trans (frozP (by first | omega | (simp; omega) | simp) (a_f i))
  have nb_0 : w16.cell? ⟨w9.heap.size, 0, none⟩ = some (.int .u8 1) := keep1 hb (cellP (by first | omega | (simp; omega) | simp) b_0)
  have nb_1 : w16.cell? ⟨w9.heap.size, 1, none⟩ = some (.int .i64 420) := keep1 hb (cellP (by first | omega | (simp; omega) | simp) b_1)
  have nb_2 : w16.cell? ⟨w9.heap.size, 2, none⟩ = some (.int .i64 0) := keep1 hb (cellP (by first | omega | (simp; omega) | simp) b_2)
  have nb_3 : w16.cell? ⟨w9.heap.size, 3, none⟩ = some (.int .i64 0) := keep1 hb (cellP (by first | omega | (simp; omega) | simp) b_3)
  have nb_4 : w16.cell? ⟨w9.heap.size, 4, none⟩ = some (.int .i64 3) := keep1 hb (cellP (by first | omega | (simp; omega) | simp) b_4)
  have nb_5 : w16.cell? ⟨w9.heap.size, 5, none⟩ = some (.int .i64 4) := keep1 hb (cellP (by first | omega | (simp; omega) | simp) b_5)
  have nb_6 : w16.cell? ⟨w9.heap.size, 6, none⟩ = some (.int .i64 5) := keep1 hb (cellP (by first | omega | (simp; omega) | simp) b_6)
  have nb_7 : w16.cell? ⟨w9.heap.size, 7, none⟩ = some (.int .i64 1) := keep1 hb (cellP (by first | omega | (simp; omega) | simp) b_7)
  have nb_f : ∀ i, w16.frozen? ⟨w9.heap.size, i, none⟩ = false := fun i => (hb.frozen (p := ⟨w9.heap.size, i, none⟩) (by first | omega | (simp; omega) | simp)).trans (frozP (by first | omega | (simp; omega) | simp) (b_f i))
  clear a_0 a_1 a_2 a_3 a_4 a_5 a_6 a_7 a_f b_0 b_1 b_2 b_3 b_4 b_5 b_6 b_7 b_f
  have a_0 := na_0; clear na_0
  have a_1 := na_1; clear na_1
  have a_2 := na_2; clear na_2
  have a_3 := na_3; clear na_3
  have a_4 := na_4; clear na_4
  have a_5 := na_5; clear na_5
  have a_6 := na_6; clear na_6
  have a_7 := na_7; clear na_7
  have a_f := na_f; clear na_f
  have b_0 := nb_0; clear nb_0
  have b_1 := nb_1; clear nb_1
  have b_2 := nb_2; clear nb_2
  have b_3 := nb_3; clear nb_3
  have b_4 := nb_4; clear nb_4
  have b_5 := nb_5; clear nb_5
  have b_6 := nb_6; clear nb_6
  have b_7 := nb_7; clear nb_7
  have b_f := nb_f; clear nb_f
  clear hb B15
  have B16 := Lib.hid hb'
  have hw16 := hb'.size
  clear hb'
  have hsa150 : w1.heap.size < w16.heap.size := by omega
  have hsa151 : w1.heap.size < w16.heap.size + 1 := by omega
  have hsa152 : w1.heap.size < w16.heap.size + 1 + 1 := by omega
  have hsb150 : w9.heap.size < w16.heap.size := by omega
  have hsb151 : w9.heap.size < w16.heap.size + 1 := by omega
  have hsb152 : w9.heap.size < w16.heap.size + 1 + 1 := by omega
  go_wp2_with fail
  refine (may_any _ _ _ _ _ _ _ _ _).mono ?_
  rintro e w17 ⟨rfl, hb⟩
  rw [F17.out]
  have hb' : Below w.heap.size w w17 := Below.trans (by have := B16.out; go_grown) (hb.mono (by first | omega | (simp; omega) | simp))
  have hz17 : w16.heap.size + 1 ≤ w17.heap.size := by have := hb.size; first | omega | (simp at this; omega)
  have na_0 : w17.cell? ⟨w1.heap.size, 0, none⟩ = some (.int .u8 1) := keep1 hb (cellP (by first | omega | (simp; omega) | simp) a_0)
  have na_1 : w17.cell? ⟨w1.heap.size, 1, none⟩ = some (.int .i64 420) := keep1 hb (cellP (by first | omega | (simp; omega) | simp) a_1)
  have na_2 : w17.cell? ⟨w1.heap.size, 2, none⟩ = some (.int .i64 2147483647) := keep1 hb (cellP (by first | omega | (simp; omega) | simp) a_2)
  have na_3 : w17.cell? ⟨w1.heap.size, 3, none⟩ = some (.int .i64 0) := keep1 hb (cellP (by first | omega | (simp; omega) | simp) a_3)
  have na_4 : w17.cell? ⟨w1.heap.size, 4, none⟩ = some (.int .i64 3) := keep1 hb (cellP (by first | omega | (simp; omega) | simp) a_4)
  have na_5 : w17.cell? ⟨w1.heap.size, 5, none⟩ = some (.int .i64 3) := keep1 hb (cellP (by first | omega | (simp; omega) | simp) a_5)
  have na_6 : w17.cell? ⟨w1.heap.size, 6, none⟩ = some (.int .i64 5) := keep1 hb (cellP (by first | omega | (simp; omega) | simp) a_6)
  have na_7 : w17.cell? ⟨w1.heap.size, 7, none⟩ = some (.int .i64 1) := keep1 hb (cellP (by first | omega | (simp; omega) | simp) a_7)
  have na_f : ∀ i, w17.frozen? ⟨w1.heap.size, i, none⟩ = false := fun i => (hb.frozen (p := ⟨w1.heap.size, i, none⟩) (by first | omega | (simp; omega) | simp)).trans (frozP (by first | omega | (simp; omega) | simp) (a_f i))
  have nb_0 : w17.cell? ⟨w9.heap.size, 0, none⟩ = some (.int .u8 1) := keep1 hb (cellP (by first | omega | (simp; omega) | simp) b_0)
  have nb_1 : w17.cell? ⟨w9.heap.size, 1, none⟩ = some (.int .i64 420) := keep1 hb (cellP (by first | omega | (simp; omega) | simp) b_1)
  have nb_2 : w17.cell? ⟨w9.heap.size, 2, none⟩ = some (.int .i64 0) := keep1 hb (cellP (by first | omega | (simp; omega) | simp) b_2)
  have nb_3 : w17.cell? ⟨w9.heap.size, 3, none⟩ = some (.int .i64 0) := keep1 hb (cellP (by first | omega | (simp; omega) | simp) b_3)
  have nb_4 : w17.cell? ⟨w9.heap.size, 4, none⟩ = some (.int .i64 3) := keep1 hb (cellP (by first | omega | (simp; omega) | simp) b_4)
  have nb_5 : w17.cell? ⟨w9.heap.size, 5, none⟩ = some (.int .i64 4) := keep1 hb (cellP (by first | omega | (simp; omega) | simp) b_5)
  have nb_6 : w17.cell? ⟨w9.heap.size, 6, none⟩ = some (.int .i64 5) := keep1 hb (cellP (by first | omega | (simp; omega) | simp) b_6)
  have nb_7 : w17.cell? ⟨w9.heap.size, 7, none⟩ = some (.int .i64 1) := keep1 hb (cellP (by first | omega | (simp; omega) | simp) b_7)
  have nb_f : ∀ i, w17.frozen? ⟨w9.heap.size, i, none⟩ = false := fun i => (hb.frozen (p := ⟨w9.heap.size, i, none⟩) (by first | omega | (simp; omega) | simp)).trans (frozP (by first | omega | (simp; omega) | simp) (b_f i))
  clear a_0 a_1 a_2 a_3 a_4 a_5 a_6 a_7 a_f b_0 b_1 b_2 b_3 b_4 b_5 b_6 b_7 b_f
  have a_0 := na_0; clear na_0
  have a_1 := na_1; clear na_1
  have a_2 := na_2; clear na_2
  have a_3 := na_3; clear na_3
  have a_4 := na_4; clear na_4
  have a_5 := na_5; clear na_5
  have a_6 := na_6; clear na_6
  have a_7 := na_7; clear na_7
  have a_f := na_f; clear na_f
  have b_0 := nb_0; clear nb_0
  have b_1 := nb_1; clear nb_1
  have b_2 := nb_2; clear nb_2
  have b_3 := nb_3; clear nb_3
  have b_4 := nb_4; clear nb_4
  have b_5 := nb_5; clear nb_5
  have b_6 := nb_6; clear nb_6
  have b_7 := nb_7; clear nb_7
  have b_f := nb_f; clear nb_f
  clear hb B16
  have B17 := Lib.hid hb'
  have hw17 := hb'.size
  clear hb'
  have hsa160 : w1.heap.size < w17.heap.size := by omega
  have hsa161 : w1.heap.size < w17.heap.size + 1 := by omega
  have hsa162 : w1.heap.size < w17.heap.size + 1 + 1 := by omega
  have hsb160 : w9.heap.size < w17.heap.size := by omega
  have hsb161 : w9.heap.size < w17.heap.size + 1 := by omega
  have hsb162 : w9.heap.size < w17.heap.size + 1 + 1 := by omega
  go_wp2_with fail
  refine (may_any _ _ _ _ _ _ _ _ _).mono ?_
  rintro e w18 ⟨rfl, hb⟩
  rw [F18.out]
  have hb' : Below w.heap.size w w18 := Below.trans (by have := B17.out; go_grown) (hb.mono (by first | omega | (simp; omega) | simp))
  have hz18 : w17.heap.size ≤ w18.heap.size := by have := hb.size; first | omega | (simp at this; omega)
  have na_0 : w18.cell? ⟨w1.heap.size, 0, none⟩ = some (.int .u8 1) := keep1 hb a_0
  have na_1 : w18.cell? ⟨w1.heap.size, 1, none⟩ = some (.int .i64 420) := keep1 hb a_1
  have na_2 : w18.cell? ⟨w1.heap.size, 2, none⟩ = some (.int .i64 2147483647) := keep1 hb a_2
  have na_3 : w18.cell? ⟨w1.heap.size, 3, none⟩ = some (.int .i64 0) := keep1 hb a_3
  have na_4 : w18.cell? ⟨w1.heap.size, 4, none⟩ = some (.int .i64 3) := keep1 hb a_4
  have na_5 : w18.cell? ⟨w1.heap.size, 5, none⟩ = some (.int .i64 3) := keep1 hb a_5
  have na_6 : w18.cell? ⟨w1.heap.size, 6, none⟩ = some (.int .i64 5) := keep1 hb a_6
  have na_7 : w18.cell? ⟨w1.heap.size, 7, none⟩ = some (.int .i64 1) := keep1 hb a_7
  have na_f : ∀ i, w18.frozen? ⟨w1.heap.size, i, none⟩ = false := fun i => (hb.frozen (p := ⟨w1.heap.size, i, none⟩) (by first | omega | (simp; omega) | simp)).trans (a_f i)
  have nb_0 : w18.cell? ⟨w9.heap.size, 0, none⟩ = some (.int .u8 1) := keep1 hb b_0
  have nb_1 : w18.cell? ⟨w9.heap.size, 1, none⟩ = some (.int .i64 420) := keep1 hb b_1
  have nb_2 : w18.cell? ⟨w9.heap.size, 2, none⟩ = some (.int .i64 0) := keep1 hb b_2
  have nb_3 : w18.cell? ⟨w9.heap.size, 3, none⟩ = some (.int .i64 0) := keep1 hb b_3
  have nb_4 : w18.cell? ⟨w9.heap.size, 4, none⟩ = some (.int .i64 3) := keep1 hb b_4
  have nb_5 : w18.cell? ⟨w9.heap.size, 5, none⟩ = some (.int .i64 4) := keep1 hb b_5
  have nb_6 : w18.cell? ⟨w9.heap.size, 6, none⟩ = some (.int .i64 5) := keep1 hb b_6
  have nb_7 : w18.cell? ⟨w9.heap.size, 7, none⟩ = some (.int .i64 1) := keep1 hb b_7
  have nb_f : ∀ i, w18.frozen? ⟨w9.heap.size, i, none⟩ = false := fun i => (hb.frozen (p := ⟨w9.heap.size, i, none⟩) (by first | omega | (simp; omega) | simp)).trans (b_f i)
  clear a_0 a_1 a_2 a_3 a_4 a_5 a_6 a_7 a_f b_0 b_1 b_2 b_3 b_4 b_5 b_6 b_7 b_f
  have a_0 := na_0; clear na_0
  have a_1 := na_1; clear na_1
  have a_2 := na_2; clear na_2
  have a_3 := na_3; clear na_3
  have a_4 := na_4; clear na_4
  have a_5 := na_5; clear na_5
  have a_6 := na_6; clear na_6
  have a_7 := na_7; clear na_7
  have a_f := na_f; clear na_f
  have b_0 := nb_0; clear nb_0
  have b_1 := nb_1; clear nb_1
  have b_2 := nb_2; clear nb_2
  have b_3 := nb_3; clear nb_3
  have b_4 := nb_4; clear nb_4
  have b_5 := nb_5; clear nb_5
  have b_6 := nb_6; clear nb_6
  have b_7 := nb_7; clear nb_7
  have b_f := nb_f; clear nb_f
  clear hb B17
  have B18 := Lib.hid hb'
  have hw18 := hb'.size
  clear hb'
  have hsa170 : w1.heap.size < w18.heap.size := by omega
  have hsa171 : w1.heap.size < w18.heap.size + 1 := by omega
  have hsa172 : w1.heap.size < w18.heap.size + 1 + 1 := by omega
  have hsb170 : w9.heap.size < w18.heap.size := by omega
  have hsb171 : w9.heap.size < w18.heap.size + 1 := by omega
  have hsb172 : w9.heap.size < w18.heap.size + 1 + 1 := by omega
  go_wp2_with fail
  refine (awake20 _).mono ?_
  rintro e w19 ⟨rfl, hb⟩
  have hb' : Below w.heap.size w w19 := Below.trans (by have := B18.out; go_grown) (hb.mono (by first | omega | (simp; omega) | simp))
  have hz19 : w18.heap.size ≤ w19.heap.size := by have := hb.size; first | omega | (simp at this; omega)
  have na_0 : w19.cell? ⟨w1.heap.size, 0, none⟩ = some (.int .u8 1) := keep1 hb a_0
  have na_1 : w19.cell? ⟨w1.heap.size, 1, none⟩ = some (.int .i64 420) := keep1 hb a_1
  have na_2 : w19.cell? ⟨w1.heap.size, 2, none⟩ = some (.int .i64 2147483647) := keep1 hb a_2
  have na_3 : w19.cell? ⟨w1.heap.size, 3, none⟩ = some (.int .i64 0) := keep1 hb a_3
  have na_4 : w19.cell? ⟨w1.heap.size, 4, none⟩ = some (.int .i64 3) := keep1 hb a_4
  have na_5 : w19.cell? ⟨w1.heap.size, 5, none⟩ = some (.int .i64 3) := keep1 hb a_5
  have na_6 : w19.cell? ⟨w1.heap.size, 6, none⟩ = some (.int .i64 5) := keep1 hb a_6
  have na_7 : w19.cell? ⟨w1.heap.size, 7, none⟩ = some (.int .i64 1) := keep1 hb a_7
  have na_f : ∀ i, w19.frozen? ⟨w1.heap.size, i, none⟩ = false := fun i => (hb.frozen (p := ⟨w1.heap.size, i, none⟩) (by first | omega | (simp; omega) | simp)).trans (a_f i)
  have nb_0 : w19.cell? ⟨w9.heap.size, 0, none⟩ = some (.int .u8 1) := keep1 hb b_0
  have nb_1 : w19.cell? ⟨w9.heap.size, 1, none⟩ = some (.int .i64 420) := keep1 hb b_1
  have nb_2 : w19.cell? ⟨w9.heap.size, 2, none⟩ = some (.int .i64 0) := keep1 hb b_2
  have nb_3 : w19.cell? ⟨w9.heap.size, 3, none⟩ = some (.int .i64 0) := keep1 hb b_3
  have nb_4 : w19.cell? ⟨w9.heap.size, 4, none⟩ = some (.int .i64 3) := keep1 hb b_4
  have nb_5 : w19.cell? ⟨w9.heap.size, 5, none⟩ = some (.int .i64 4) := keep1 hb b_5
  have nb_6 : w19.cell? ⟨w9.heap.size, 6, none⟩ = some (.int .i64 5) := keep1 hb b_6
  have nb_7 : w19.cell? ⟨w9.heap.size, 7, none⟩ = some (.int .i64 1) := keep1 hb b_7
  have nb_f : ∀ i, w19.frozen? ⟨w9.heap.size, i, none⟩ = false := fun i => (hb.frozen (p := ⟨w9.heap.size, i, none⟩) (by first | omega | (simp; omega) | simp)).trans (b_f i)
  clear a_0 a_1 a_2 a_3 a_4 a_5 a_6 a_7 a_f b_0 b_1 b_2 b_3 b_4 b_5 b_6 b_7 b_f
  have a_0 := na_0; clear na_0
  have a_1 := na_1; clear na_1
  have a_2 := na_2; clear na_2
  have a_3 := na_3; clear na_3
  have a_4 := na_4; clear na_4
  have a_5 := na_5; clear na_5
  have a_6 := na_6; clear na_6
  have a_7 := na_7; clear na_7
  have a_f := na_f; clear na_f
  have b_0 := nb_0; clear nb_0
  have b_1 := nb_1; clear nb_1
  have b_2 := nb_2; clear nb_2
  have b_3 := nb_3; clear nb_3
  have b_4 := nb_4; clear nb_4
  have b_5 := nb_5; clear nb_5
  have b_6 := nb_6; clear nb_6
  have b_7 := nb_7; clear nb_7
  have b_f := nb_f; clear nb_f
  clear hb B18
  have B19 := Lib.hid hb'
  have hw19 := hb'.size
  clear hb'
  have hsa180 : w1.heap.size < w19.heap.size := by omega
  have hsa181 : w1.heap.size < w19.heap.size + 1 := by omega
  have hsa182 : w1.heap.size < w19.heap.size + 1 + 1 := by omega
  have hsb180 : w9.heap.size < w19.heap.size := by omega
  have hsb181 : w9.heap.size < w19.heap.size + 1 := by omega
  have hsb182 : w9.heap.size < w19.heap.size + 1 + 1 := by omega
  go_wp2_with fail
  go_ret
  exact ⟨ret_bool (by simp), by have := B19.out; go_grown⟩
end Go.Proofs.Ytlkjgnnnamkfeaa
