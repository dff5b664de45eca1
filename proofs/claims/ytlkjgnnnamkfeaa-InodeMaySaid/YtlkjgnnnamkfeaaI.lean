/- WALKS of layer 20: InodeMay. -/
import Derived.Test.YtlkjgnnnamkfeaaH
set_option linter.unusedVariables false
namespace Go.Proofs.Ytlkjgnnnamkfeaa
open Go.RowKit Go.ChangeShapes Go.WideShapes Go.ChangeAt

theorem setO {w : World} {b i c j : Nat} {v : Value} (h : b ≠ c ∨ i ≠ j) : (w.setCell ⟨b, i, none⟩ v).cell? ⟨c, j, none⟩ = w.cell? ⟨c, j, none⟩ := World.cell?_setCell_other _ _ _ _ (by intro h'; simp at h'; omega)
theorem setS {w : World} {a : Addr} {v u : Value} (h : w.cell? a = some u) : (w.setCell a v).cell? a = some v := World.cell?_setCell_same _ _ _ h
theorem frozS {w : World} {a p : Addr} {v : Value} {x : Bool} (h : w.frozen? p = x) : (w.setCell a v).frozen? p = x := (World.frozen?_setCell w a p v).trans h
theorem frozN {w : World} {cs : Array Value} {t : TypeId} {b i : Nat} (h : w.heap.size = b) : (w.alloc (.cells cs t)).frozen? ⟨b, i, none⟩ = false := by subst h; exact World.frozen?_alloc_new w _ _ _
theorem cellD {w : World} {p : Addr} {v : Option Value} (h : w.cell? p = v) : w.drew.cell? p = v := h
theorem frozD {w : World} {p : Addr} {v : Bool} (h : w.frozen? p = v) : w.drew.frozen? p = v := h

set_option maxHeartbeats 4000000 in
theorem may_111 (k mo li sz mt ct ino gen mode size now : Int) (w : World) (b1 : -9223372036854775808 ≤ li) (b2 : li ≤ 9223372036854775807) (HM : mayB k mo li sz mt ct ino gen = true) (HL : linkedR k mo li sz mt ct ino gen 1 now = .tuple #[.agg #[.int .u8 k, .int .i64 mo, .int .i64 (li + 1), .int .i64 sz, .int .i64 mt, .int .i64 now, .int .i64 ino, .int .i64 gen], .int .i64 0]) (HL2 : linkedR k mo (li + 1) sz mt now ino gen (-1) now = .tuple #[.agg #[.int .u8 k, .int .i64 mo, .int .i64 li, .int .i64 sz, .int .i64 mt, .int .i64 now, .int .i64 ino, .int .i64 gen], .int .i64 0]) (HML : mayB k mo (li + 1) sz mt now ino gen = true) (hli : li + 1 < 9223372036854775808) (HS : sizedR k mo li sz mt ct ino gen size now = .tuple #[.agg #[.int .u8 k, .int .i64 mo, .int .i64 li, .int .i64 size, .int .i64 now, .int .i64 now, .int .i64 ino, .int .i64 gen], .int .i64 0]) (HMS : mayB k mo li size now now ino gen = true) (HD : modedR k mo li sz mt ct ino gen mode now = .tuple #[.agg #[.int .u8 k, .int .i64 mode, .int .i64 li, .int .i64 sz, .int .i64 mt, .int .i64 now, .int .i64 ino, .int .i64 gen], .int .i64 0]) (HMM : mayB k mode li sz mt now ino gen = true) :
    Calls Try.prog 4 #[.agg #[.int .u8 k, .int .i64 mo, .int .i64 li, .int .i64 sz, .int .i64 mt, .int .i64 ct, .int .i64 ino, .int .i64 gen], .int .i64 mode, .int .i64 size, .int .i64 now] w fun e w' => e = .returned (.bool true) ∧ Below w.heap.size w w' := by
  replace HM := Lib.hid HM
  replace HL := Lib.hid HL
  replace HS := Lib.hid HS
  replace HD := Lib.hid HD
  replace HL2 := Lib.hid HL2
  replace HML := Lib.hid HML
  replace HMS := Lib.hid HMS
  replace HMM := Lib.hid HMM
  go_enter Try.func4, Try.ntmps4
  go_wp2_with fail
  refine (may_any _ _ _ _ _ _ _ _ _).mono ?_
  rintro e w1 ⟨rfl, hb⟩
  rw [HM.out]
  have hb' : Below w.heap.size w w1 := Below.trans (by go_grown) (hb.mono (by first | omega | (simp; omega) | simp))
  have hz1 : w.heap.size + 1 ≤ w1.heap.size := by have := hb.size; first | omega | (simp at this; omega)
  have na_0 : w1.cell? ⟨w.heap.size, 0, none⟩ = some (.int .u8 k) := keep1 hb ((cellN _ _ _ _ (by first | rfl | simp) _).trans rfl)
  have na_1 : w1.cell? ⟨w.heap.size, 1, none⟩ = some (.int .i64 mo) := keep1 hb ((cellN _ _ _ _ (by first | rfl | simp) _).trans rfl)
  have na_2 : w1.cell? ⟨w.heap.size, 2, none⟩ = some (.int .i64 li) := keep1 hb ((cellN _ _ _ _ (by first | rfl | simp) _).trans rfl)
  have na_3 : w1.cell? ⟨w.heap.size, 3, none⟩ = some (.int .i64 sz) := keep1 hb ((cellN _ _ _ _ (by first | rfl | simp) _).trans rfl)
  have na_4 : w1.cell? ⟨w.heap.size, 4, none⟩ = some (.int .i64 mt) := keep1 hb ((cellN _ _ _ _ (by first | rfl | simp) _).trans rfl)
  have na_5 : w1.cell? ⟨w.heap.size, 5, none⟩ = some (.int .i64 ct) := keep1 hb ((cellN _ _ _ _ (by first | rfl | simp) _).trans rfl)
  have na_6 : w1.cell? ⟨w.heap.size, 6, none⟩ = some (.int .i64 ino) := keep1 hb ((cellN _ _ _ _ (by first | rfl | simp) _).trans rfl)
  have na_7 : w1.cell? ⟨w.heap.size, 7, none⟩ = some (.int .i64 gen) := keep1 hb ((cellN _ _ _ _ (by first | rfl | simp) _).trans rfl)
  have na_f : ∀ i, w1.frozen? ⟨w.heap.size, i, none⟩ = false := fun i => (hb.frozen (p := ⟨w.heap.size, i, none⟩) (by first | omega | (simp; omega) | simp)).trans (frozN (by first | rfl | simp))
  have a_0 := na_0; clear na_0
  have a_1 := na_1; clear na_1
  have a_2 := na_2; clear na_2
  have a_3 := na_3; clear na_3
  have a_4 := na_4; clear na_4
  have a_5 := na_5; clear na_5
  have a_6 := na_6; clear na_6
  have a_7 := na_7; clear na_7
  have a_f := na_f; clear na_f
  clear hb
  have B1 := Lib.hid hb'
  have hw1 := hb'.size
  clear hb'
  have hsa00 : w.heap.size < w1.heap.size := by omega
  have hsa01 : w.heap.size < w1.heap.size + 1 := by omega
  have hsa02 : w.heap.size < w1.heap.size + 1 + 1 := by omega
  go_wp2_with fail
  refine (awake20 _).mono ?_
  rintro e w2 ⟨rfl, hb⟩
  have hb' : Below w.heap.size w w2 := Below.trans (by have := B1.out; go_grown) (hb.mono (by first | omega | (simp; omega) | simp))
  have hz2 : w1.heap.size ≤ w2.heap.size := by have := hb.size; first | omega | (simp at this; omega)
  have na_0 : w2.cell? ⟨w.heap.size, 0, none⟩ = some (.int .u8 k) := keep1 hb a_0
  have na_1 : w2.cell? ⟨w.heap.size, 1, none⟩ = some (.int .i64 mo) := keep1 hb a_1
  have na_2 : w2.cell? ⟨w.heap.size, 2, none⟩ = some (.int .i64 li) := keep1 hb a_2
  have na_3 : w2.cell? ⟨w.heap.size, 3, none⟩ = some (.int .i64 sz) := keep1 hb a_3
  have na_4 : w2.cell? ⟨w.heap.size, 4, none⟩ = some (.int .i64 mt) := keep1 hb a_4
  have na_5 : w2.cell? ⟨w.heap.size, 5, none⟩ = some (.int .i64 ct) := keep1 hb a_5
  have na_6 : w2.cell? ⟨w.heap.size, 6, none⟩ = some (.int .i64 ino) := keep1 hb a_6
  have na_7 : w2.cell? ⟨w.heap.size, 7, none⟩ = some (.int .i64 gen) := keep1 hb a_7
  have na_f : ∀ i, w2.frozen? ⟨w.heap.size, i, none⟩ = false := fun i => (hb.frozen (p := ⟨w.heap.size, i, none⟩) (by first | omega | (simp; omega) | simp)).trans (a_f i)
  clear a_0 a_1 a_2 a_3 a_4 a_5 a_6 a_7 a_f
  have a_0 := na_0; clear na_0
  have a_1 := na_1; clear na_1
  have a_2 := na_2; clear na_2
  have a_3 := na_3; clear na_3
  have a_4 := na_4; clear na_4
  have a_5 := na_5; clear na_5
  have a_6 := na_6; clear na_6
  have a_7 := na_7; clear na_7
  have a_f := na_f; clear na_f
  clear hb B1
  have B2 := Lib.hid hb'
  have hw2 := hb'.size
  clear hb'
  have hsa10 : w.heap.size < w2.heap.size := by omega
  have hsa11 : w.heap.size < w2.heap.size + 1 := by omega
  have hsa12 : w.heap.size < w2.heap.size + 1 + 1 := by omega
  go_wp2_with fail
  refine (linked_any _ _ _ _ _ _ _ _ _ _ _ b1 b2).mono ?_
  rintro e w3 ⟨rfl, hb⟩
  rw [HL.out]
  have hb' : Below w.heap.size w w3 := Below.trans (by have := B2.out; go_grown) (hb.mono (by first | omega | (simp; omega) | simp))
  have hz3 : w2.heap.size ≤ w3.heap.size := by have := hb.size; first | omega | (simp at this; omega)
  have na_0 : w3.cell? ⟨w.heap.size, 0, none⟩ = some (.int .u8 k) := keep1 hb a_0
  have na_1 : w3.cell? ⟨w.heap.size, 1, none⟩ = some (.int .i64 mo) := keep1 hb a_1
  have na_2 : w3.cell? ⟨w.heap.size, 2, none⟩ = some (.int .i64 li) := keep1 hb a_2
  have na_3 : w3.cell? ⟨w.heap.size, 3, none⟩ = some (.int .i64 sz) := keep1 hb a_3
  have na_4 : w3.cell? ⟨w.heap.size, 4, none⟩ = some (.int .i64 mt) := keep1 hb a_4
  have na_5 : w3.cell? ⟨w.heap.size, 5, none⟩ = some (.int .i64 ct) := keep1 hb a_5
  have na_6 : w3.cell? ⟨w.heap.size, 6, none⟩ = some (.int .i64 ino) := keep1 hb a_6
  have na_7 : w3.cell? ⟨w.heap.size, 7, none⟩ = some (.int .i64 gen) := keep1 hb a_7
  have na_f : ∀ i, w3.frozen? ⟨w.heap.size, i, none⟩ = false := fun i => (hb.frozen (p := ⟨w.heap.size, i, none⟩) (by first | omega | (simp; omega) | simp)).trans (a_f i)
  clear a_0 a_1 a_2 a_3 a_4 a_5 a_6 a_7 a_f
  have a_0 := na_0; clear na_0
  have a_1 := na_1; clear na_1
  have a_2 := na_2; clear na_2
  have a_3 := na_3; clear na_3
  have a_4 := na_4; clear na_4
  have a_5 := na_5; clear na_5
  have a_6 := na_6; clear na_6
  have a_7 := na_7; clear na_7
  have a_f := na_f; clear na_f
  clear hb B2
  have B3 := Lib.hid hb'
  have hw3 := hb'.size
  clear hb'
  have hsa20 : w.heap.size < w3.heap.size := by omega
  have hsa21 : w.heap.size < w3.heap.size + 1 := by omega
  have hsa22 : w.heap.size < w3.heap.size + 1 + 1 := by omega
  go_wp2_with fail
  refine (linked_any _ _ _ _ _ _ _ _ _ _ _ (by omega) (by omega)).mono ?_
  rintro e w4 ⟨rfl, hb⟩
  rw [HL2.out]
  have hb' : Below w.heap.size w w4 := Below.trans (by have := B3.out; go_grown) (hb.mono (by first | omega | (simp; omega) | simp))
  have hz4 : w3.heap.size + 1 ≤ w4.heap.size := by have := hb.size; first | omega | (simp at this; omega)
  have na_0 : w4.cell? ⟨w.heap.size, 0, none⟩ = some (.int .u8 k) := keep1 hb (cellP (by first | omega | (simp; omega) | simp) a_0)
  have na_1 : w4.cell? ⟨w.heap.size, 1, none⟩ = some (.int .i64 mo) := keep1 hb (cellP (by first | omega | (simp; omega) | simp) a_1)
  have na_2 : w4.cell? ⟨w.heap.size, 2, none⟩ = some (.int .i64 li) := keep1 hb (cellP (by first | omega | (simp; omega) | simp) a_2)
  have na_3 : w4.cell? ⟨w.heap.size, 3, none⟩ = some (.int .i64 sz) := keep1 hb (cellP (by first | omega | (simp; omega) | simp) a_3)
  have na_4 : w4.cell? ⟨w.heap.size, 4, none⟩ = some (.int .i64 mt) := keep1 hb (cellP (by first | omega | (simp; omega) | simp) a_4)
  have na_5 : w4.cell? ⟨w.heap.size, 5, none⟩ = some (.int .i64 ct) := keep1 hb (cellP (by first | omega | (simp; omega) | simp) a_5)
  have na_6 : w4.cell? ⟨w.heap.size, 6, none⟩ = some (.int .i64 ino) := keep1 hb (cellP (by first | omega | (simp; omega) | simp) a_6)
  have na_7 : w4.cell? ⟨w.heap.size, 7, none⟩ = some (.int .i64 gen) := keep1 hb (cellP (by first | omega | (simp; omega) | simp) a_7)
  have na_f : ∀ i, w4.frozen? ⟨w.heap.size, i, none⟩ = false := fun i => (hb.frozen (p := ⟨w.heap.size, i, none⟩) (by first | omega | (simp; omega) | simp)).trans (frozP (by first | omega | (simp; omega) | simp) (a_f i))
  have nb_0 : w4.cell? ⟨w3.heap.size, 0, none⟩ = some (.int .u8 k) := keep1 hb ((cellN _ _ _ _ (by first | rfl | simp) _).trans rfl)
  have nb_1 : w4.cell? ⟨w3.heap.size, 1, none⟩ = some (.int .i64 mo) := keep1 hb ((cellN _ _ _ _ (by first | rfl | simp) _).trans rfl)
  have nb_2 : w4.cell? ⟨w3.heap.size, 2, none⟩ = some (.int .i64 (li + 1)) := keep1 hb ((cellN _ _ _ _ (by first | rfl | simp) _).trans rfl)
  have nb_3 : w4.cell? ⟨w3.heap.size, 3, none⟩ = some (.int .i64 sz) := keep1 hb ((cellN _ _ _ _ (by first | rfl | simp) _).trans rfl)
  have nb_4 : w4.cell? ⟨w3.heap.size, 4, none⟩ = some (.int .i64 mt) := keep1 hb ((cellN _ _ _ _ (by first | rfl | simp) _).trans rfl)
  have nb_5 : w4.cell? ⟨w3.heap.size, 5, none⟩ = some (.int .i64 now) := keep1 hb ((cellN _ _ _ _ (by first | rfl | simp) _).trans rfl)
  have nb_6 : w4.cell? ⟨w3.heap.size, 6, none⟩ = some (.int .i64 ino) := keep1 hb ((cellN _ _ _ _ (by first | rfl | simp) _).trans rfl)
  have nb_7 : w4.cell? ⟨w3.heap.size, 7, none⟩ = some (.int .i64 gen) := keep1 hb ((cellN _ _ _ _ (by first | rfl | simp) _).trans rfl)
  have nb_f : ∀ i, w4.frozen? ⟨w3.heap.size, i, none⟩ = false := fun i => (hb.frozen (p := ⟨w3.heap.size, i, none⟩) (by first | omega | (simp; omega) | simp)).trans (frozN (by first | rfl | simp))
  clear a_0 a_1 a_2 a_3 a_4 a_5 a_6 a_7 a_f
  have a_0 := na_0; clear na_0
  have a_1 := na_1; clear na_1
  have a_2 := na_2; clear na_2
  have a_3 := na_3; clear na_3
  have a_4 := na_4; clear na_4
  have a_5 := na_5; clear na_5
  have a_6 := na_6; clear na_6
  have a_7 := na_7; clear na_7
  have a_f := na_f; clear na_f
  have b_0 := nb_0; clear nb_0
  have b_1 := nb_1; clear nb_1
  have b_2 := nb_2; clear nb_2
  have b_3 := nb_3; clear nb_3
  have b_4 := nb_4; clear nb_4
  have b_5 := nb_5; clear nb_5
  have b_6 := nb_6; clear nb_6
  have b_7 := nb_7; clear nb_7
  have b_f := nb_f; clear nb_f
  clear hb B3
  have B4 := Lib.hid hb'
  have hw4 := hb'.size
  clear hb'
  have hsa30 : w.heap.size < w4.heap.size := by omega
  have hsa31 : w.heap.size < w4.heap.size + 1 := by omega
  have hsa32 : w.heap.size < w4.heap.size + 1 + 1 := by omega
  have hsb30 : w3.heap.size < w4.heap.size := by omega
  have hsb31 : w3.heap.size < w4.heap.size + 1 := by omega
  have hsb32 : w3.heap.size < w4.heap.size + 1 + 1 := by omega
  go_wp2_with fail
  refine (may_any _ _ _ _ _ _ _ _ _).mono ?_
  rintro e w5 ⟨rfl, hb⟩
  rw [HML.out]
  have hb' : Below w.heap.size w w5 := Below.trans (by have := B4.out; go_grown) (hb.mono (by first | omega | (simp; omega) | simp))
  have hz5 : w4.heap.size + 1 ≤ w5.heap.size := by have := hb.size; first | omega | (simp at this; omega)
  have na_0 : w5.cell? ⟨w.heap.size, 0, none⟩ = some (.int .u8 k) := keep1 hb (cellP (by first | omega | (simp; omega) | simp) a_0)
  have na_1 : w5.cell? ⟨w.heap.size, 1, none⟩ = some (.int .i64 mo) := keep1 hb (cellP (by first | omega | (simp; omega) | simp) a_1)
  have na_2 : w5.cell? ⟨w.heap.size, 2, none⟩ = some (.int .i64 li) := keep1 hb (cellP (by first | omega | (simp; omega) | simp) a_2)
  have na_3 : w5.cell? ⟨w.heap.size, 3, none⟩ = some (.int .i64 sz) := keep1 hb (cellP (by first | omega | (simp; omega) | simp) a_3)
  have na_4 : w5.cell? ⟨w.heap.size, 4, none⟩ = some (.int .i64 mt) := keep1 hb (cellP (by first | omega | (simp; omega) | simp) a_4)
  have na_5 : w5.cell? ⟨w.heap.size, 5, none⟩ = some (.int .i64 ct) := keep1 hb (cellP (by first | omega | (simp; omega) | simp) a_5)
  have na_6 : w5.cell? ⟨w.heap.size, 6, none⟩ = some (.int .i64 ino) := keep1 hb (cellP (by first | omega | (simp; omega) | simp) a_6)
  have na_7 : w5.cell? ⟨w.heap.size, 7, none⟩ = some (.int .i64 gen) := keep1 hb (cellP (by first | omega | (simp; omega) | simp) a_7)
  have na_f : ∀ i, w5.frozen? ⟨w.heap.size, i, none⟩ = false := fun i => (hb.frozen (p := ⟨w.heap.size, i, none⟩) (by first | omega | (simp; omega) | simp)).trans (frozP (by first | omega | (simp; omega) | simp) (a_f i))
  have nb_0 : w5.cell? ⟨w3.heap.size, 0, none⟩ = some (.int .u8 k) := keep1 hb (cellP (by first | omega | (simp; omega) | simp) b_0)
  have nb_1 : w5.cell? ⟨w3.heap.size, 1, none⟩ = some (.int .i64 mo) := keep1 hb (cellP (by first | omega | (simp; omega) | simp) b_1)
  have nb_2 : w5.cell? ⟨w3.heap.size, 2, none⟩ = some (.int .i64 (li + 1)) := keep1 hb (cellP (by first | omega | (simp; omega) | simp) b_2)
  have nb_3 : w5.cell? ⟨w3.heap.size, 3, none⟩ = some (.int .i64 sz) := keep1 hb (cellP (by first | omega | (simp; omega) | simp) b_3)
  have nb_4 : w5.cell? ⟨w3.heap.size, 4, none⟩ = some (.int .i64 mt) := keep1 hb (cellP (by first | omega | (simp; omega) | simp) b_4)
  have nb_5 : w5.cell? ⟨w3.heap.size, 5, none⟩ = some (.int .i64 now) := keep1 hb (cellP (by first | omega | (simp; omega) | simp) b_5)
  have nb_6 : w5.cell? ⟨w3.heap.size, 6, none⟩ = some (.int .i64 ino) := keep1 hb (cellP (by first | omega | (simp; omega) | simp) b_6)
  have nb_7 : w5.cell? ⟨w3.heap.size, 7, none⟩ = some (.int .i64 gen) := keep1 hb (cellP (by first | omega | (simp; omega) | simp) b_7)
  have nb_f : ∀ i, w5.frozen? ⟨w3.heap.size, i, none⟩ = false := fun i => (hb.frozen (p := ⟨w3.heap.size, i, none⟩) (by first | omega | (simp; omega) | simp)).trans (frozP (by first | omega | (simp; omega) | simp) (b_f i))
  have nc_0 : w5.cell? ⟨w4.heap.size, 0, none⟩ = some (.int .u8 k) := keep1 hb ((cellN _ _ _ _ (by first | rfl | simp) _).trans rfl)
  have nc_1 : w5.cell? ⟨w4.heap.size, 1, none⟩ = some (.int .i64 mo) := keep1 hb ((cellN _ _ _ _ (by first | rfl | simp) _).trans rfl)
  have nc_2 : w5.cell? ⟨w4.heap.size, 2, none⟩ = some (.int .i64 li) := keep1 hb ((cellN _ _ _ _ (by first | rfl | simp) _).trans rfl)
  have nc_3 : w5.cell? ⟨w4.heap.size, 3, none⟩ = some (.int .i64 sz) := keep1 hb ((cellN _ _ _ _ (by first | rfl | simp) _).trans rfl)
  have nc_4 : w5.cell? ⟨w4.heap.size, 4, none⟩ = some (.int .i64 mt) := keep1 hb ((cellN _ _ _ _ (by first | rfl | simp) _).trans rfl)
  have nc_5 : w5.cell? ⟨w4.heap.size, 5, none⟩ = some (.int .i64 ct) := keep1 hb ((cellN _ _ _ _ (by first | rfl | simp) _).trans rfl)
  have nc_6 : w5.cell? ⟨w4.heap.size, 6, none⟩ = some (.int .i64 ino) := keep1 hb ((cellN _ _ _ _ (by first | rfl | simp) _).trans rfl)
  have nc_7 : w5.cell? ⟨w4.heap.size, 7, none⟩ = some (.int .i64 gen) := keep1 hb ((cellN _ _ _ _ (by first | rfl | simp) _).trans rfl)
  have nc_f : ∀ i, w5.frozen? ⟨w4.heap.size, i, none⟩ = false := fun i => (hb.frozen (p := ⟨w4.heap.size, i, none⟩) (by first | omega | (simp; omega) | simp)).trans (frozN (by first | rfl | simp))
  clear a_0 a_1 a_2 a_3 a_4 a_5 a_6 a_7 a_f b_0 b_1 b_2 b_3 b_4 b_5 b_6 b_7 b_f
  have a_0 := na_0; clear na_0
  have a_1 := na_1; clear na_1
  have a_2 := na_2; clear na_2
  have a_3 := na_3; clear na_3
  have a_4 := na_4; clear na_4
  have a_5 := na_5; clear na_5
  have a_6 := na_6; clear na_6
  have a_7 := na_7; clear na_7
  have a_f := na_f; clear na_f
  have b_0 := nb_0; clear nb_0
  have b_1 := nb_1; clear nb_1
  have b_2 := nb_2; clear nb_2
  have b_3 := nb_3; clear nb_3
  have b_4 := nb_4; clear nb_4
  have b_5 := nb_5; clear nb_5
  have b_6 := nb_6; clear nb_6
  have b_7 := nb_7; clear nb_7
  have b_f := nb_f; clear nb_f
  have c_0 := nc_0; clear nc_0
  have c_1 := nc_1; clear nc_1
  have c_2 := nc_2; clear nc_2
  have c_3 := nc_3; clear nc_3
  have c_4 := nc_4; clear nc_4
  have c_5 := nc_5; clear nc_5
  have c_6 := nc_6; clear nc_6
  have c_7 := nc_7; clear nc_7
  have c_f := nc_f; clear nc_f
  clear hb B4
  have B5 := Lib.hid hb'
  have hw5 := hb'.size
  clear hb'
  have hsa40 : w.heap.size < w5.heap.size := by omega
  have hsa41 : w.heap.size < w5.heap.size + 1 := by omega
  have hsa42 : w.heap.size < w5.heap.size + 1 + 1 := by omega
  have hsb40 : w3.heap.size < w5.heap.size := by omega
  have hsb41 : w3.heap.size < w5.heap.size + 1 := by omega
  have hsb42 : w3.heap.size < w5.heap.size + 1 + 1 := by omega
  have hsc40 : w4.heap.size < w5.heap.size := by omega
  have hsc41 : w4.heap.size < w5.heap.size + 1 := by omega
  have hsc42 : w4.heap.size < w5.heap.size + 1 + 1 := by omega
  go_wp2_with fail
  refine (sized_any _ _ _ _ _ _ _ _ _ _ _).mono ?_
  rintro e w6 ⟨rfl, hb⟩
  rw [HS.out]
  have hb' : Below w.heap.size w w6 := Below.trans (by have := B5.out; go_grown) (hb.mono (by first | omega | (simp; omega) | simp))
  have hz6 : w5.heap.size ≤ w6.heap.size := by have := hb.size; first | omega | (simp at this; omega)
  have na_0 : w6.cell? ⟨w.heap.size, 0, none⟩ = some (.int .u8 k) := keep1 hb a_0
  have na_1 : w6.cell? ⟨w.heap.size, 1, none⟩ = some (.int .i64 mo) := keep1 hb a_1
  have na_2 : w6.cell? ⟨w.heap.size, 2, none⟩ = some (.int .i64 li) := keep1 hb a_2
  have na_3 : w6.cell? ⟨w.heap.size, 3, none⟩ = some (.int .i64 sz) := keep1 hb a_3
  have na_4 : w6.cell? ⟨w.heap.size, 4, none⟩ = some (.int .i64 mt) := keep1 hb a_4
  have na_5 : w6.cell? ⟨w.heap.size, 5, none⟩ = some (.int .i64 ct) := keep1 hb a_5
  have na_6 : w6.cell? ⟨w.heap.size, 6, none⟩ = some (.int .i64 ino) := keep1 hb a_6
  have na_7 : w6.cell? ⟨w.heap.size, 7, none⟩ = some (.int .i64 gen) := keep1 hb a_7
  have na_f : ∀ i, w6.frozen? ⟨w.heap.size, i, none⟩ = false := fun i => (hb.frozen (p := ⟨w.heap.size, i, none⟩) (by first | omega | (simp; omega) | simp)).trans (a_f i)
  have nb_0 : w6.cell? ⟨w3.heap.size, 0, none⟩ = some (.int .u8 k) := keep1 hb b_0
  have nb_1 : w6.cell? ⟨w3.heap.size, 1, none⟩ = some (.int .i64 mo) := keep1 hb b_1
  have nb_2 : w6.cell? ⟨w3.heap.size, 2, none⟩ = some (.int .i64 (li + 1)) := keep1 hb b_2
  have nb_3 : w6.cell? ⟨w3.heap.size, 3, none⟩ = some (.int .i64 sz) := keep1 hb b_3
  have nb_4 : w6.cell? ⟨w3.heap.size, 4, none⟩ = some (.int .i64 mt) := keep1 hb b_4
  have nb_5 : w6.cell? ⟨w3.heap.size, 5, none⟩ = some (.int .i64 now) := keep1 hb b_5
  have nb_6 : w6.cell? ⟨w3.heap.size, 6, none⟩ = some (.int .i64 ino) := keep1 hb b_6
  have nb_7 : w6.cell? ⟨w3.heap.size, 7, none⟩ = some (.int .i64 gen) := keep1 hb b_7
  have nb_f : ∀ i, w6.frozen? ⟨w3.heap.size, i, none⟩ = false := fun i => (hb.frozen (p := ⟨w3.heap.size, i, none⟩) (by first | omega | (simp; omega) | simp)).trans (b_f i)
  clear a_0 a_1 a_2 a_3 a_4 a_5 a_6 a_7 a_f b_0 b_1 b_2 b_3 b_4 b_5 b_6 b_7 b_f c_0 c_1 c_2 c_3 c_4 c_5 c_6 c_7 c_f
  have a_0 := na_0; clear na_0
  have a_1 := na_1; clear na_1
  have a_2 := na_2; clear na_2
  have a_3 := na_3; clear na_3
  have a_4 := na_4; clear na_4
  have a_5 := na_5; clear na_5
  have a_6 := na_6; clear na_6
  have a_7 := na_7; clear na_7
  have a_f := na_f; clear na_f
  have b_0 := nb_0; clear nb_0
  have b_1 := nb_1; clear nb_1
  have b_2 := nb_2; clear nb_2
  have b_3 := nb_3; clear nb_3
  have b_4 := nb_4; clear nb_4
  have b_5 := nb_5; clear nb_5
  have b_6 := nb_6; clear nb_6
  have b_7 := nb_7; clear nb_7
  have b_f := nb_f; clear nb_f
  clear hb B5
  have B6 := Lib.hid hb'
  have hw6 := hb'.size
  clear hb'
  have hsa50 : w.heap.size < w6.heap.size := by omega
  have hsa51 : w.heap.size < w6.heap.size + 1 := by omega
  have hsa52 : w.heap.size < w6.heap.size + 1 + 1 := by omega
  have hsb50 : w3.heap.size < w6.heap.size := by omega
  have hsb51 : w3.heap.size < w6.heap.size + 1 := by omega
  have hsb52 : w3.heap.size < w6.heap.size + 1 + 1 := by omega
  go_wp2_with fail
  refine (may_any _ _ _ _ _ _ _ _ _).mono ?_
  rintro e w7 ⟨rfl, hb⟩
  rw [HMS.out]
  have hb' : Below w.heap.size w w7 := Below.trans (by have := B6.out; go_grown) (hb.mono (by first | omega | (simp; omega) | simp))
  have hz7 : w6.heap.size ≤ w7.heap.size := by have := hb.size; first | omega | (simp at this; omega)
  have na_0 : w7.cell? ⟨w.heap.size, 0, none⟩ = some (.int .u8 k) := keep1 hb ((setO (by omega)).trans ((setO (by omega)).trans ((setO (by omega)).trans ((setO (by omega)).trans ((setO (by omega)).trans ((setO (by omega)).trans ((setO (by omega)).trans ((setO (by omega)).trans a_0))))))))
  have na_1 : w7.cell? ⟨w.heap.size, 1, none⟩ = some (.int .i64 mo) := keep1 hb ((setO (by omega)).trans ((setO (by omega)).trans ((setO (by omega)).trans ((setO (by omega)).trans ((setO (by omega)).trans ((setO (by omega)).trans ((setO (by omega)).trans ((setO (by omega)).trans a_1))))))))
  have na_2 : w7.cell? ⟨w.heap.size, 2, none⟩ = some (.int .i64 li) := keep1 hb ((setO (by omega)).trans ((setO (by omega)).trans ((setO (by omega)).trans ((setO (by omega)).trans ((setO (by omega)).trans ((setO (by omega)).trans ((setO (by omega)).trans ((setO (by omega)).trans a_2))))))))
  have na_3 : w7.cell? ⟨w.heap.size, 3, none⟩ = some (.int .i64 sz) := keep1 hb ((setO (by omega)).trans ((setO (by omega)).trans ((setO (by omega)).trans ((setO (by omega)).trans ((setO (by omega)).trans ((setO (by omega)).trans ((setO (by omega)).trans ((setO (by omega)).trans a_3))))))))
  have na_4 : w7.cell? ⟨w.heap.size, 4, none⟩ = some (.int .i64 mt) := keep1 hb ((setO (by omega)).trans ((setO (by omega)).trans ((setO (by omega)).trans ((setO (by omega)).trans ((setO (by omega)).trans ((setO (by omega)).trans ((setO (by omega)).trans ((setO (by omega)).trans a_4))))))))
  have na_5 : w7.cell? ⟨w.heap.size, 5, none⟩ = some (.int .i64 ct) := keep1 hb ((setO (by omega)).trans ((setO (by omega)).trans ((setO (by omega)).trans ((setO (by omega)).trans ((setO (by omega)).trans ((setO (by omega)).trans ((setO (by omega)).trans ((setO (by omega)).trans a_5))))))))
  have na_6 : w7.cell? ⟨w.heap.size, 6, none⟩ = some (.int .i64 ino) := keep1 hb ((setO (by omega)).trans ((setO (by omega)).trans ((setO (by omega)).trans ((setO (by omega)).trans ((setO (by omega)).trans ((setO (by omega)).trans ((setO (by omega)).trans ((setO (by omega)).trans a_6))))))))
  have na_7 : w7.cell? ⟨w.heap.size, 7, none⟩ = some (.int .i64 gen) := keep1 hb ((setO (by omega)).trans ((setO (by omega)).trans ((setO (by omega)).trans ((setO (by omega)).trans ((setO (by omega)).trans ((setO (by omega)).trans ((setO (by omega)).trans ((setO (by omega)).trans a_7))))))))
  have na_f : ∀ i, w7.frozen? ⟨w.heap.size, i, none⟩ = false := fun i => (hb.frozen (p := ⟨w.heap.size, i, none⟩) (by first | omega | (simp; omega) | simp)).trans (frozS (frozS (frozS (frozS (frozS (frozS (frozS (frozS (a_f i)))))))))
  have nb_0 : w7.cell? ⟨w3.heap.size, 0, none⟩ = some (.int .u8 k) := keep1 hb ((setO (by omega)).trans ((setO (by omega)).trans ((setO (by omega)).trans ((setO (by omega)).trans ((setO (by omega)).trans ((setO (by omega)).trans ((setO (by omega)).trans (setS b_0))))))))
  have nb_1 : w7.cell? ⟨w3.heap.size, 1, none⟩ = some (.int .i64 mo) := keep1 hb ((setO (by omega)).trans ((setO (by omega)).trans ((setO (by omega)).trans ((setO (by omega)).trans ((setO (by omega)).trans ((setO (by omega)).trans (setS ((setO (by omega)).trans b_1))))))))
  have nb_2 : w7.cell? ⟨w3.heap.size, 2, none⟩ = some (.int .i64 li) := keep1 hb ((setO (by omega)).trans ((setO (by omega)).trans ((setO (by omega)).trans ((setO (by omega)).trans ((setO (by omega)).trans (setS ((setO (by omega)).trans ((setO (by omega)).trans b_2))))))))
  have nb_3 : w7.cell? ⟨w3.heap.size, 3, none⟩ = some (.int .i64 size) := keep1 hb ((setO (by omega)).trans ((setO (by omega)).trans ((setO (by omega)).trans ((setO (by omega)).trans (setS ((setO (by omega)).trans ((setO (by omega)).trans ((setO (by omega)).trans b_3))))))))
  have nb_4 : w7.cell? ⟨w3.heap.size, 4, none⟩ = some (.int .i64 now) := keep1 hb ((setO (by omega)).trans ((setO (by omega)).trans ((setO (by omega)).trans (setS ((setO (by omega)).trans ((setO (by omega)).trans ((setO (by omega)).trans ((setO (by omega)).trans b_4))))))))
  have nb_5 : w7.cell? ⟨w3.heap.size, 5, none⟩ = some (.int .i64 now) := keep1 hb ((setO (by omega)).trans ((setO (by omega)).trans (setS ((setO (by omega)).trans ((setO (by omega)).trans ((setO (by omega)).trans ((setO (by omega)).trans ((setO (by omega)).trans b_5))))))))
  have nb_6 : w7.cell? ⟨w3.heap.size, 6, none⟩ = some (.int .i64 ino) := keep1 hb ((setO (by omega)).trans (setS ((setO (by omega)).trans ((setO (by omega)).trans ((setO (by omega)).trans ((setO (by omega)).trans ((setO (by omega)).trans ((setO (by omega)).trans b_6))))))))
  have nb_7 : w7.cell? ⟨w3.heap.size, 7, none⟩ = some (.int .i64 gen) := keep1 hb (setS ((setO (by omega)).trans ((setO (by omega)).trans ((setO (by omega)).trans ((setO (by omega)).trans ((setO (by omega)).trans ((setO (by omega)).trans ((setO (by omega)).trans b_7))))))))
  have nb_f : ∀ i, w7.frozen? ⟨w3.heap.size, i, none⟩ = false := fun i => (hb.frozen (p := ⟨w3.heap.size, i, none⟩) (by first | omega | (simp; omega) | simp)).trans (frozS (frozS (frozS (frozS (frozS (frozS (frozS (frozS (b_f i)))))))))
  clear a_0 a_1 a_2 a_3 a_4 a_5 a_6 a_7 a_f b_0 b_1 b_2 b_3 b_4 b_5 b_6 b_7 b_f
  have a_0 := na_0; clear na_0
  have a_1 := na_1; clear na_1
  have a_2 := na_2; clear na_2
  have a_3 := na_3; clear na_3
  have a_4 := na_4; clear na_4
  have a_5 := na_5; clear na_5
  have a_6 := na_6; clear na_6
  have a_7 := na_7; clear na_7
  have a_f := na_f; clear na_f
  have b_0 := nb_0; clear nb_0
  have b_1 := nb_1; clear nb_1
  have b_2 := nb_2; clear nb_2
  have b_3 := nb_3; clear nb_3
  have b_4 := nb_4; clear nb_4
  have b_5 := nb_5; clear nb_5
  have b_6 := nb_6; clear nb_6
  have b_7 := nb_7; clear nb_7
  have b_f := nb_f; clear nb_f
  clear hb B6
  have B7 := Lib.hid hb'
  have hw7 := hb'.size
  clear hb'
  have hsa60 : w.heap.size < w7.heap.size := by omega
  have hsa61 : w.heap.size < w7.heap.size + 1 := by omega
  have hsa62 : w.heap.size < w7.heap.size + 1 + 1 := by omega
  have hsb60 : w3.heap.size < w7.heap.size := by omega
  have hsb61 : w3.heap.size < w7.heap.size + 1 := by omega
  have hsb62 : w3.heap.size < w7.heap.size + 1 + 1 := by omega
  go_wp2_with fail
  go_region
  go_wp2_with fail
  refine (moded_any _ _ _ _ _ _ _ _ _ _ _).mono ?_
  rintro e w8 ⟨rfl, hb⟩
  rw [HD.out]
  have hb' : Below w.heap.size w w8 := Below.trans (by have := B7.out; go_grown) (hb.mono (by first | omega | (simp; omega) | simp))
  have hz8 : w7.heap.size ≤ w8.heap.size := by have := hb.size; first | omega | (simp at this; omega)
  have na_0 : w8.cell? ⟨w.heap.size, 0, none⟩ = some (.int .u8 k) := keep1 hb ((setO (by omega)).trans ((setO (by omega)).trans ((setO (by omega)).trans a_0)))
  have na_1 : w8.cell? ⟨w.heap.size, 1, none⟩ = some (.int .i64 mo) := keep1 hb ((setO (by omega)).trans ((setO (by omega)).trans ((setO (by omega)).trans a_1)))
  have na_2 : w8.cell? ⟨w.heap.size, 2, none⟩ = some (.int .i64 li) := keep1 hb ((setO (by omega)).trans ((setO (by omega)).trans ((setO (by omega)).trans a_2)))
  have na_3 : w8.cell? ⟨w.heap.size, 3, none⟩ = some (.int .i64 sz) := keep1 hb ((setO (by omega)).trans ((setO (by omega)).trans ((setO (by omega)).trans a_3)))
  have na_4 : w8.cell? ⟨w.heap.size, 4, none⟩ = some (.int .i64 mt) := keep1 hb ((setO (by omega)).trans ((setO (by omega)).trans ((setO (by omega)).trans a_4)))
  have na_5 : w8.cell? ⟨w.heap.size, 5, none⟩ = some (.int .i64 ct) := keep1 hb ((setO (by omega)).trans ((setO (by omega)).trans ((setO (by omega)).trans a_5)))
  have na_6 : w8.cell? ⟨w.heap.size, 6, none⟩ = some (.int .i64 ino) := keep1 hb ((setO (by omega)).trans ((setO (by omega)).trans ((setO (by omega)).trans a_6)))
  have na_7 : w8.cell? ⟨w.heap.size, 7, none⟩ = some (.int .i64 gen) := keep1 hb ((setO (by omega)).trans ((setO (by omega)).trans ((setO (by omega)).trans a_7)))
  have na_f : ∀ i, w8.frozen? ⟨w.heap.size, i, none⟩ = false := fun i => (hb.frozen (p := ⟨w.heap.size, i, none⟩) (by first | omega | (simp; omega) | simp)).trans (frozS (frozS (frozS (a_f i))))
  have nb_0 : w8.cell? ⟨w3.heap.size, 0, none⟩ = some (.int .u8 k) := keep1 hb ((setO (by omega)).trans ((setO (by omega)).trans ((setO (by omega)).trans b_0)))
  have nb_1 : w8.cell? ⟨w3.heap.size, 1, none⟩ = some (.int .i64 mo) := keep1 hb ((setO (by omega)).trans ((setO (by omega)).trans ((setO (by omega)).trans b_1)))
  have nb_2 : w8.cell? ⟨w3.heap.size, 2, none⟩ = some (.int .i64 li) := keep1 hb ((setO (by omega)).trans ((setO (by omega)).trans ((setO (by omega)).trans b_2)))
  have nb_3 : w8.cell? ⟨w3.heap.size, 3, none⟩ = some (.int .i64 sz) := keep1 hb ((setO (by omega)).trans ((setO (by omega)).trans (setS b_3)))
  have nb_4 : w8.cell? ⟨w3.heap.size, 4, none⟩ = some (.int .i64 mt) := keep1 hb ((setO (by omega)).trans (setS ((setO (by omega)).trans b_4)))
  have nb_5 : w8.cell? ⟨w3.heap.size, 5, none⟩ = some (.int .i64 ct) := keep1 hb (setS ((setO (by omega)).trans ((setO (by omega)).trans b_5)))
  have nb_6 : w8.cell? ⟨w3.heap.size, 6, none⟩ = some (.int .i64 ino) := keep1 hb ((setO (by omega)).trans ((setO (by omega)).trans ((setO (by omega)).trans b_6)))
  have nb_7 : w8.cell? ⟨w3.heap.size, 7, none⟩ = some (.int .i64 gen) := keep1 hb ((setO (by omega)).trans ((setO (by omega)).trans ((setO (by omega)).trans b_7)))
  have nb_f : ∀ i, w8.frozen? ⟨w3.heap.size, i, none⟩ = false := fun i => (hb.frozen (p := ⟨w3.heap.size, i, none⟩) (by first | omega | (simp; omega) | simp)).trans (frozS (frozS (frozS (b_f i))))
  clear a_0 a_1 a_2 a_3 a_4 a_5 a_6 a_7 a_f b_0 b_1 b_2 b_3 b_4 b_5 b_6 b_7 b_f
  have a_0 := na_0; clear na_0
  have a_1 := na_1; clear na_1
  have a_2 := na_2; clear na_2
  have a_3 := na_3; clear na_3
  have a_4 := na_4; clear na_4
  have a_5 := na_5; clear na_5
  have a_6 := na_6; clear na_6
  have a_7 := na_7; clear na_7
  have a_f := na_f; clear na_f
  have b_0 := nb_0; clear nb_0
  have b_1 := nb_1; clear nb_1
  have b_2 := nb_2; clear nb_2
  have b_3 := nb_3; clear nb_3
  have b_4 := nb_4; clear nb_4
  have b_5 := nb_5; clear nb_5
  have b_6 := nb_6; clear nb_6
  have b_7 := nb_7; clear nb_7
  have b_f := nb_f; clear nb_f
  clear hb B7
  have B8 := Lib.hid hb'
  have hw8 := hb'.size
  clear hb'
  have hsa70 : w.heap.size < w8.heap.size := by omega
  have hsa71 : w.heap.size < w8.heap.size + 1 := by omega
  have hsa72 : w.heap.size < w8.heap.size + 1 + 1 := by omega
  have hsb70 : w3.heap.size < w8.heap.size := by omega
  have hsb71 : w3.heap.size < w8.heap.size + 1 := by omega
  have hsb72 : w3.heap.size < w8.heap.size + 1 + 1 := by omega
  go_wp2_with fail
  refine (may_any _ _ _ _ _ _ _ _ _).mono ?_
  rintro e w9 ⟨rfl, hb⟩
  rw [HMM.out]
  have hb' : Below w.heap.size w w9 := Below.trans (by have := B8.out; go_grown) (hb.mono (by first | omega | (simp; omega) | simp))
  have hz9 : w8.heap.size ≤ w9.heap.size := by have := hb.size; first | omega | (simp at this; omega)
  have na_0 : w9.cell? ⟨w.heap.size, 0, none⟩ = some (.int .u8 k) := keep1 hb ((setO (by omega)).trans ((setO (by omega)).trans ((setO (by omega)).trans ((setO (by omega)).trans ((setO (by omega)).trans ((setO (by omega)).trans ((setO (by omega)).trans ((setO (by omega)).trans a_0))))))))
  have na_1 : w9.cell? ⟨w.heap.size, 1, none⟩ = some (.int .i64 mo) := keep1 hb ((setO (by omega)).trans ((setO (by omega)).trans ((setO (by omega)).trans ((setO (by omega)).trans ((setO (by omega)).trans ((setO (by omega)).trans ((setO (by omega)).trans ((setO (by omega)).trans a_1))))))))
  have na_2 : w9.cell? ⟨w.heap.size, 2, none⟩ = some (.int .i64 li) := keep1 hb ((setO (by omega)).trans ((setO (by omega)).trans ((setO (by omega)).trans ((setO (by omega)).trans ((setO (by omega)).trans ((setO (by omega)).trans ((setO (by omega)).trans ((setO (by omega)).trans a_2))))))))
  have na_3 : w9.cell? ⟨w.heap.size, 3, none⟩ = some (.int .i64 sz) := keep1 hb ((setO (by omega)).trans ((setO (by omega)).trans ((setO (by omega)).trans ((setO (by omega)).trans ((setO (by omega)).trans ((setO (by omega)).trans ((setO (by omega)).trans ((setO (by omega)).trans a_3))))))))
  have na_4 : w9.cell? ⟨w.heap.size, 4, none⟩ = some (.int .i64 mt) := keep1 hb ((setO (by omega)).trans ((setO (by omega)).trans ((setO (by omega)).trans ((setO (by omega)).trans ((setO (by omega)).trans ((setO (by omega)).trans ((setO (by omega)).trans ((setO (by omega)).trans a_4))))))))
  have na_5 : w9.cell? ⟨w.heap.size, 5, none⟩ = some (.int .i64 ct) := keep1 hb ((setO (by omega)).trans ((setO (by omega)).trans ((setO (by omega)).trans ((setO (by omega)).trans ((setO (by omega)).trans ((setO (by omega)).trans ((setO (by omega)).trans ((setO (by omega)).trans a_5))))))))
  have na_6 : w9.cell? ⟨w.heap.size, 6, none⟩ = some (.int .i64 ino) := keep1 hb ((setO (by omega)).trans ((setO (by omega)).trans ((setO (by omega)).trans ((setO (by omega)).trans ((setO (by omega)).trans ((setO (by omega)).trans ((setO (by omega)).trans ((setO (by omega)).trans a_6))))))))
  have na_7 : w9.cell? ⟨w.heap.size, 7, none⟩ = some (.int .i64 gen) := keep1 hb ((setO (by omega)).trans ((setO (by omega)).trans ((setO (by omega)).trans ((setO (by omega)).trans ((setO (by omega)).trans ((setO (by omega)).trans ((setO (by omega)).trans ((setO (by omega)).trans a_7))))))))
  have na_f : ∀ i, w9.frozen? ⟨w.heap.size, i, none⟩ = false := fun i => (hb.frozen (p := ⟨w.heap.size, i, none⟩) (by first | omega | (simp; omega) | simp)).trans (frozS (frozS (frozS (frozS (frozS (frozS (frozS (frozS (a_f i)))))))))
  have nb_0 : w9.cell? ⟨w3.heap.size, 0, none⟩ = some (.int .u8 k) := keep1 hb ((setO (by omega)).trans ((setO (by omega)).trans ((setO (by omega)).trans ((setO (by omega)).trans ((setO (by omega)).trans ((setO (by omega)).trans ((setO (by omega)).trans (setS b_0))))))))
  have nb_1 : w9.cell? ⟨w3.heap.size, 1, none⟩ = some (.int .i64 mode) := keep1 hb ((setO (by omega)).trans ((setO (by omega)).trans ((setO (by omega)).trans ((setO (by omega)).trans ((setO (by omega)).trans ((setO (by omega)).trans (setS ((setO (by omega)).trans b_1))))))))
  have nb_2 : w9.cell? ⟨w3.heap.size, 2, none⟩ = some (.int .i64 li) := keep1 hb ((setO (by omega)).trans ((setO (by omega)).trans ((setO (by omega)).trans ((setO (by omega)).trans ((setO (by omega)).trans (setS ((setO (by omega)).trans ((setO (by omega)).trans b_2))))))))
  have nb_3 : w9.cell? ⟨w3.heap.size, 3, none⟩ = some (.int .i64 sz) := keep1 hb ((setO (by omega)).trans ((setO (by omega)).trans ((setO (by omega)).trans ((setO (by omega)).trans (setS ((setO (by omega)).trans ((setO (by omega)).trans ((setO (by omega)).trans b_3))))))))
  have nb_4 : w9.cell? ⟨w3.heap.size, 4, none⟩ = some (.int .i64 mt) := keep1 hb ((setO (by omega)).trans ((setO (by omega)).trans ((setO (by omega)).trans (setS ((setO (by omega)).trans ((setO (by omega)).trans ((setO (by omega)).trans ((setO (by omega)).trans b_4))))))))
  have nb_5 : w9.cell? ⟨w3.heap.size, 5, none⟩ = some (.int .i64 now) := keep1 hb ((setO (by omega)).trans ((setO (by omega)).trans (setS ((setO (by omega)).trans ((setO (by omega)).trans ((setO (by omega)).trans ((setO (by omega)).trans ((setO (by omega)).trans b_5))))))))
  have nb_6 : w9.cell? ⟨w3.heap.size, 6, none⟩ = some (.int .i64 ino) := keep1 hb ((setO (by omega)).trans (setS ((setO (by omega)).trans ((setO (by omega)).trans ((setO (by omega)).trans ((setO (by omega)).trans ((setO (by omega)).trans ((setO (by omega)).trans b_6))))))))
  have nb_7 : w9.cell? ⟨w3.heap.size, 7, none⟩ = some (.int .i64 gen) := keep1 hb (setS ((setO (by omega)).trans ((setO (by omega)).trans ((setO (by omega)).trans ((setO (by omega)).trans ((setO (by omega)).trans ((setO (by omega)).trans ((setO (by omega)).trans b_7))))))))
  have nb_f : ∀ i, w9.frozen? ⟨w3.heap.size, i, none⟩ = false := fun i => (hb.frozen (p := ⟨w3.heap.size, i, none⟩) (by first | omega | (simp; omega) | simp)).trans (frozS (frozS (frozS (frozS (frozS (frozS (frozS (frozS (b_f i)))))))))
  clear a_0 a_1 a_2 a_3 a_4 a_5 a_6 a_7 a_f b_0 b_1 b_2 b_3 b_4 b_5 b_6 b_7 b_f
  have a_0 := na_0; clear na_0
  have a_1 := na_1; clear na_1
  have a_2 := na_2; clear na_2
  have a_3 := na_3; clear na_3
  have a_4 := na_4; clear na_4
  have a_5 := na_5; clear na_5
  have a_6 := na_6; clear na_6
  have a_7 := na_7; clear na_7
  have a_f := na_f; clear na_f
  have b_0 := nb_0; clear nb_0
  have b_1 := nb_1; clear nb_1
  have b_2 := nb_2; clear nb_2
  have b_3 := nb_3; clear nb_3
  have b_4 := nb_4; clear nb_4
  have b_5 := nb_5; clear nb_5
  have b_6 := nb_6; clear nb_6
  have b_7 := nb_7; clear nb_7
  have b_f := nb_f; clear nb_f
  clear hb B8
  have B9 := Lib.hid hb'
  have hw9 := hb'.size
  clear hb'
  have hsa80 : w.heap.size < w9.heap.size := by omega
  have hsa81 : w.heap.size < w9.heap.size + 1 := by omega
  have hsa82 : w.heap.size < w9.heap.size + 1 + 1 := by omega
  have hsb80 : w3.heap.size < w9.heap.size := by omega
  have hsb81 : w3.heap.size < w9.heap.size + 1 := by omega
  have hsb82 : w3.heap.size < w9.heap.size + 1 + 1 := by omega
  go_wp2_with fail
  go_region
  go_wp2_with fail
  go_ret
  exact ⟨ret_bool (by simp), by have := B9.out; go_grown⟩

set_option maxHeartbeats 4000000 in
theorem may_110 (k mo li sz mt ct ino gen mode size now : Int) (cm : Int) (w : World) (b1 : -9223372036854775808 ≤ li) (b2 : li ≤ 9223372036854775807) (HM : mayB k mo li sz mt ct ino gen = true) (HL : linkedR k mo li sz mt ct ino gen 1 now = .tuple #[.agg #[.int .u8 k, .int .i64 mo, .int .i64 (li + 1), .int .i64 sz, .int .i64 mt, .int .i64 now, .int .i64 ino, .int .i64 gen], .int .i64 0]) (HL2 : linkedR k mo (li + 1) sz mt now ino gen (-1) now = .tuple #[.agg #[.int .u8 k, .int .i64 mo, .int .i64 li, .int .i64 sz, .int .i64 mt, .int .i64 now, .int .i64 ino, .int .i64 gen], .int .i64 0]) (HML : mayB k mo (li + 1) sz mt now ino gen = true) (hli : li + 1 < 9223372036854775808) (HS : sizedR k mo li sz mt ct ino gen size now = .tuple #[.agg #[.int .u8 k, .int .i64 mo, .int .i64 li, .int .i64 size, .int .i64 now, .int .i64 now, .int .i64 ino, .int .i64 gen], .int .i64 0]) (HMS : mayB k mo li size now now ino gen = true) (HD : modedR k mo li sz mt ct ino gen mode now = .tuple #[.agg #[.int .u8 0, .int .i64 0, .int .i64 0, .int .i64 0, .int .i64 0, .int .i64 0, .int .i64 0, .int .i64 0], .int .i64 cm]) (ncm : (cm == 0) = false) :
    Calls Try.prog 4 #[.agg #[.int .u8 k, .int .i64 mo, .int .i64 li, .int .i64 sz, .int .i64 mt, .int .i64 ct, .int .i64 ino, .int .i64 gen], .int .i64 mode, .int .i64 size, .int .i64 now] w fun e w' => e = .returned (.bool true) ∧ Below w.heap.size w w' := by
  replace HM := Lib.hid HM
  replace HL := Lib.hid HL
  replace HS := Lib.hid HS
  replace HD := Lib.hid HD
  replace HL2 := Lib.hid HL2
  replace HML := Lib.hid HML
  replace HMS := Lib.hid HMS
  go_enter Try.func4, Try.ntmps4
  go_wp2_with fail
  refine (may_any _ _ _ _ _ _ _ _ _).mono ?_
  rintro e w1 ⟨rfl, hb⟩
  rw [HM.out]
  have hb' : Below w.heap.size w w1 := Below.trans (by go_grown) (hb.mono (by first | omega | (simp; omega) | simp))
  have hz1 : w.heap.size + 1 ≤ w1.heap.size := by have := hb.size; first | omega | (simp at this; omega)
  have na_0 : w1.cell? ⟨w.heap.size, 0, none⟩ = some (.int .u8 k) := keep1 hb ((cellN _ _ _ _ (by first | rfl | simp) _).trans rfl)
  have na_1 : w1.cell? ⟨w.heap.size, 1, none⟩ = some (.int .i64 mo) := keep1 hb ((cellN _ _ _ _ (by first | rfl | simp) _).trans rfl)
  have na_2 : w1.cell? ⟨w.heap.size, 2, none⟩ = some (.int .i64 li) := keep1 hb ((cellN _ _ _ _ (by first | rfl | simp) _).trans rfl)
  have na_3 : w1.cell? ⟨w.heap.size, 3, none⟩ = some (.int .i64 sz) := keep1 hb ((cellN _ _ _ _ (by first | rfl | simp) _).trans rfl)
  have na_4 : w1.cell? ⟨w.heap.size, 4, none⟩ = some (.int .i64 mt) := keep1 hb ((cellN _ _ _ _ (by first | rfl | simp) _).trans rfl)
  have na_5 : w1.cell? ⟨w.heap.size, 5, none⟩ = some (.int .i64 ct) := keep1 hb ((cellN _ _ _ _ (by first | rfl | simp) _).trans rfl)
  have na_6 : w1.cell? ⟨w.heap.size, 6, none⟩ = some (.int .i64 ino) := keep1 hb ((cellN _ _ _ _ (by first | rfl | simp) _).trans rfl)
  have na_7 : w1.cell? ⟨w.heap.size, 7, none⟩ = some (.int .i64 gen) := keep1 hb ((cellN _ _ _ _ (by first | rfl | simp) _).trans rfl)
  have na_f : ∀ i, w1.frozen? ⟨w.heap.size, i, none⟩ = false := fun i => (hb.frozen (p := ⟨w.heap.size, i, none⟩) (by first | omega | (simp; omega) | simp)).trans (frozN (by first | rfl | simp))
  have a_0 := na_0; clear na_0
  have a_1 := na_1; clear na_1
  have a_2 := na_2; clear na_2
  have a_3 := na_3; clear na_3
  have a_4 := na_4; clear na_4
  have a_5 := na_5; clear na_5
  have a_6 := na_6; clear na_6
  have a_7 := na_7; clear na_7
  have a_f := na_f; clear na_f
  clear hb
  have B1 := Lib.hid hb'
  have hw1 := hb'.size
  clear hb'
  have hsa00 : w.heap.size < w1.heap.size := by omega
  have hsa01 : w.heap.size < w1.heap.size + 1 := by omega
  have hsa02 : w.heap.size < w1.heap.size + 1 + 1 := by omega
  go_wp2_with fail
  refine (awake20 _).mono ?_
  rintro e w2 ⟨rfl, hb⟩
  have hb' : Below w.heap.size w w2 := Below.trans (by have := B1.out; go_grown) (hb.mono (by first | omega | (simp; omega) | simp))
  have hz2 : w1.heap.size ≤ w2.heap.size := by have := hb.size; first | omega | (simp at this; omega)
  have na_0 : w2.cell? ⟨w.heap.size, 0, none⟩ = some (.int .u8 k) := keep1 hb a_0
  have na_1 : w2.cell? ⟨w.heap.size, 1, none⟩ = some (.int .i64 mo) := keep1 hb a_1
  have na_2 : w2.cell? ⟨w.heap.size, 2, none⟩ = some (.int .i64 li) := keep1 hb a_2
  have na_3 : w2.cell? ⟨w.heap.size, 3, none⟩ = some (.int .i64 sz) := keep1 hb a_3
  have na_4 : w2.cell? ⟨w.heap.size, 4, none⟩ = some (.int .i64 mt) := keep1 hb a_4
  have na_5 : w2.cell? ⟨w.heap.size, 5, none⟩ = some (.int .i64 ct) := keep1 hb a_5
  have na_6 : w2.cell? ⟨w.heap.size, 6, none⟩ = some (.int .i64 ino) := keep1 hb a_6
  have na_7 : w2.cell? ⟨w.heap.size, 7, none⟩ = some (.int .i64 gen) := keep1 hb a_7
  have na_f : ∀ i, w2.frozen? ⟨w.heap.size, i, none⟩ = false := fun i => (hb.frozen (p := ⟨w.heap.size, i, none⟩) (by first | omega | (simp; omega) | simp)).trans (a_f i)
  clear a_0 a_1 a_2 a_3 a_4 a_5 a_6 a_7 a_f
  have a_0 := na_0; clear na_0
  have a_1 := na_1; clear na_1
  have a_2 := na_2; clear na_2
  have a_3 := na_3; clear na_3
  have a_4 := na_4; clear na_4
  have a_5 := na_5; clear na_5
  have a_6 := na_6; clear na_6
  have a_7 := na_7; clear na_7
  have a_f := na_f; clear na_f
  clear hb B1
  have B2 := Lib.hid hb'
  have hw2 := hb'.size
  clear hb'
  have hsa10 : w.heap.size < w2.heap.size := by omega
  have hsa11 : w.heap.size < w2.heap.size + 1 := by omega
  have hsa12 : w.heap.size < w2.heap.size + 1 + 1 := by omega
  go_wp2_with fail
  refine (linked_any _ _ _ _ _ _ _ _ _ _ _ b1 b2).mono ?_
  rintro e w3 ⟨rfl, hb⟩
  rw [HL.out]
  have hb' : Below w.heap.size w w3 := Below.trans (by have := B2.out; go_grown) (hb.mono (by first | omega | (simp; omega) | simp))
  have hz3 : w2.heap.size ≤ w3.heap.size := by have := hb.size; first | omega | (simp at this; omega)
  have na_0 : w3.cell? ⟨w.heap.size, 0, none⟩ = some (.int .u8 k) := keep1 hb a_0
  have na_1 : w3.cell? ⟨w.heap.size, 1, none⟩ = some (.int .i64 mo) := keep1 hb a_1
  have na_2 : w3.cell? ⟨w.heap.size, 2, none⟩ = some (.int .i64 li) := keep1 hb a_2
  have na_3 : w3.cell? ⟨w.heap.size, 3, none⟩ = some (.int .i64 sz) := keep1 hb a_3
  have na_4 : w3.cell? ⟨w.heap.size, 4, none⟩ = some (.int .i64 mt) := keep1 hb a_4
  have na_5 : w3.cell? ⟨w.heap.size, 5, none⟩ = some (.int .i64 ct) := keep1 hb a_5
  have na_6 : w3.cell? ⟨w.heap.size, 6, none⟩ = some (.int .i64 ino) := keep1 hb a_6
  have na_7 : w3.cell? ⟨w.heap.size, 7, none⟩ = some (.int .i64 gen) := keep1 hb a_7
  have na_f : ∀ i, w3.frozen? ⟨w.heap.size, i, none⟩ = false := fun i => (hb.frozen (p := ⟨w.heap.size, i, none⟩) (by first | omega | (simp; omega) | simp)).trans (a_f i)
  clear a_0 a_1 a_2 a_3 a_4 a_5 a_6 a_7 a_f
  have a_0 := na_0; clear na_0
  have a_1 := na_1; clear na_1
  have a_2 := na_2; clear na_2
  have a_3 := na_3; clear na_3
  have a_4 := na_4; clear na_4
  have a_5 := na_5; clear na_5
  have a_6 := na_6; clear na_6
  have a_7 := na_7; clear na_7
  have a_f := na_f; clear na_f
  clear hb B2
  have B3 := Lib.hid hb'
  have hw3 := hb'.size
  clear hb'
  have hsa20 : w.heap.size < w3.heap.size := by omega
  have hsa21 : w.heap.size < w3.heap.size + 1 := by omega
  have hsa22 : w.heap.size < w3.heap.size + 1 + 1 := by omega
  go_wp2_with fail
  refine (linked_any _ _ _ _ _ _ _ _ _ _ _ (by omega) (by omega)).mono ?_
  rintro e w4 ⟨rfl, hb⟩
  rw [HL2.out]
  have hb' : Below w.heap.size w w4 := Below.trans (by have := B3.out; go_grown) (hb.mono (by first | omega | (simp; omega) | simp))
  have hz4 : w3.heap.size + 1 ≤ w4.heap.size := by have := hb.size; first | omega | (simp at this; omega)
  have na_0 : w4.cell? ⟨w.heap.size, 0, none⟩ = some (.int .u8 k) := keep1 hb (cellP (by first | omega | (simp; omega) | simp) a_0)
  have na_1 : w4.cell? ⟨w.heap.size, 1, none⟩ = some (.int .i64 mo) := keep1 hb (cellP (by first | omega | (simp; omega) | simp) a_1)
  have na_2 : w4.cell? ⟨w.heap.size, 2, none⟩ = some (.int .i64 li) := keep1 hb (cellP (by first | omega | (simp; omega) | simp) a_2)
  have na_3 : w4.cell? ⟨w.heap.size, 3, none⟩ = some (.int .i64 sz) := keep1 hb (cellP (by first | omega | (simp; omega) | simp) a_3)
  have na_4 : w4.cell? ⟨w.heap.size, 4, none⟩ = some (.int .i64 mt) := keep1 hb (cellP (by first | omega | (simp; omega) | simp) a_4)
  have na_5 : w4.cell? ⟨w.heap.size, 5, none⟩ = some (.int .i64 ct) := keep1 hb (cellP (by first | omega | (simp; omega) | simp) a_5)
  have na_6 : w4.cell? ⟨w.heap.size, 6, none⟩ = some (.int .i64 ino) := keep1 hb (cellP (by first | omega | (simp; omega) | simp) a_6)
  have na_7 : w4.cell? ⟨w.heap.size, 7, none⟩ = some (.int .i64 gen) := keep1 hb (cellP (by first | omega | (simp; omega) | simp) a_7)
  have na_f : ∀ i, w4.frozen? ⟨w.heap.size, i, none⟩ = false := fun i => (hb.frozen (p := ⟨w.heap.size, i, none⟩) (by first | omega | (simp; omega) | simp)).trans (frozP (by first | omega | (simp; omega) | simp) (a_f i))
  have nb_0 : w4.cell? ⟨w3.heap.size, 0, none⟩ = some (.int .u8 k) := keep1 hb ((cellN _ _ _ _ (by first | rfl | simp) _).trans rfl)
  have nb_1 : w4.cell? ⟨w3.heap.size, 1, none⟩ = some (.int .i64 mo) := keep1 hb ((cellN _ _ _ _ (by first | rfl | simp) _).trans rfl)
  have nb_2 : w4.cell? ⟨w3.heap.size, 2, none⟩ = some (.int .i64 (li + 1)) := keep1 hb ((cellN _ _ _ _ (by first | rfl | simp) _).trans rfl)
  have nb_3 : w4.cell? ⟨w3.heap.size, 3, none⟩ = some (.int .i64 sz) := keep1 hb ((cellN _ _ _ _ (by first | rfl | simp) _).trans rfl)
  have nb_4 : w4.cell? ⟨w3.heap.size, 4, none⟩ = some (.int .i64 mt) := keep1 hb ((cellN _ _ _ _ (by first | rfl | simp) _).trans rfl)
  have nb_5 : w4.cell? ⟨w3.heap.size, 5, none⟩ = some (.int .i64 now) := keep1 hb ((cellN _ _ _ _ (by first | rfl | simp) _).trans rfl)
  have nb_6 : w4.cell? ⟨w3.heap.size, 6, none⟩ = some (.int .i64 ino) := keep1 hb ((cellN _ _ _ _ (by first | rfl | simp) _).trans rfl)
  have nb_7 : w4.cell? ⟨w3.heap.size, 7, none⟩ = some (.int .i64 gen) := keep1 hb ((cellN _ _ _ _ (by first | rfl | simp) _).trans rfl)
  have nb_f : ∀ i, w4.frozen? ⟨w3.heap.size, i, none⟩ = false := fun i => (hb.frozen (p := ⟨w3.heap.size, i, none⟩) (by first | omega | (simp; omega) | simp)).trans (frozN (by first | rfl | simp))
  clear a_0 a_1 a_2 a_3 a_4 a_5 a_6 a_7 a_f
  have a_0 := na_0; clear na_0
  have a_1 := na_1; clear na_1
  have a_2 := na_2; clear na_2
  have a_3 := na_3; clear na_3
  have a_4 := na_4; clear na_4
  have a_5 := na_5; clear na_5
  have a_6 := na_6; clear na_6
  have a_7 := na_7; clear na_7
  have a_f := na_f; clear na_f
  have b_0 := nb_0; clear nb_0
  have b_1 := nb_1; clear nb_1
  have b_2 := nb_2; clear nb_2
  have b_3 := nb_3; clear nb_3
  have b_4 := nb_4; clear nb_4
  have b_5 := nb_5; clear nb_5
  have b_6 := nb_6; clear nb_6
  have b_7 := nb_7; clear nb_7
  have b_f := nb_f; clear nb_f
  clear hb B3
  have B4 := Lib.hid hb'
  have hw4 := hb'.size
  clear hb'
  have hsa30 : w.heap.size < w4.heap.size := by omega
  have hsa31 : w.heap.size < w4.heap.size + 1 := by omega
  have hsa32 : w.heap.size < w4.heap.size + 1 + 1 := by omega
  have hsb30 : w3.heap.size < w4.heap.size := by omega
  have hsb31 : w3.heap.size < w4.heap.size + 1 := by omega
  have hsb32 : w3.heap.size < w4.heap.size + 1 + 1 := by omega
  go_wp2_with fail
  refine (may_any _ _ _ _ _ _ _ _ _).mono ?_
  rintro e w5 ⟨rfl, hb⟩
  rw [HML.out]
  have hb' : Below w.heap.size w w5 := Below.trans (by have := B4.out; go_grown) (hb.mono (by first | omega | (simp; omega) | simp))
  have hz5 : w4.heap.size + 1 ≤ w5.heap.size := by have := hb.size; first | omega | (simp at this; omega)
  have na_0 : w5.cell? ⟨w.heap.size, 0, none⟩ = some (.int .u8 k) := keep1 hb (cellP (by first | omega | (simp; omega) | simp) a_0)
  have na_1 : w5.cell? ⟨w.heap.size, 1, none⟩ = some (.int .i64 mo) := keep1 hb (cellP (by first | omega | (simp; omega) | simp) a_1)
  have na_2 : w5.cell? ⟨w.heap.size, 2, none⟩ = some (.int .i64 li) := keep1 hb (cellP (by first | omega | (simp; omega) | simp) a_2)
  have na_3 : w5.cell? ⟨w.heap.size, 3, none⟩ = some (.int .i64 sz) := keep1 hb (cellP (by first | omega | (simp; omega) | simp) a_3)
  have na_4 : w5.cell? ⟨w.heap.size, 4, none⟩ = some (.int .i64 mt) := keep1 hb (cellP (by first | omega | (simp; omega) | simp) a_4)
  have na_5 : w5.cell? ⟨w.heap.size, 5, none⟩ = some (.int .i64 ct) := keep1 hb (cellP (by first | omega | (simp; omega) | simp) a_5)
  have na_6 : w5.cell? ⟨w.heap.size, 6, none⟩ = some (.int .i64 ino) := keep1 hb (cellP (by first | omega | (simp; omega) | simp) a_6)
  have na_7 : w5.cell? ⟨w.heap.size, 7, none⟩ = some (.int .i64 gen) := keep1 hb (cellP (by first | omega | (simp; omega) | simp) a_7)
  have na_f : ∀ i, w5.frozen? ⟨w.heap.size, i, none⟩ = false := fun i => (hb.frozen (p := ⟨w.heap.size, i, none⟩) (by first | omega | (simp; omega) | simp)).trans (frozP (by first | omega | (simp; omega) | simp) (a_f i))
  have nb_0 : w5.cell? ⟨w3.heap.size, 0, none⟩ = some (.int .u8 k) := keep1 hb (cellP (by first | omega | (simp; omega) | simp) b_0)
  have nb_1 : w5.cell? ⟨w3.heap.size, 1, none⟩ = some (.int .i64 mo) := keep1 hb (cellP (by first | omega | (simp; omega) | simp) b_1)
  have nb_2 : w5.cell? ⟨w3.heap.size, 2, none⟩ = some (.int .i64 (li + 1)) := keep1 hb (cellP (by first | omega | (simp; omega) | simp) b_2)
  have nb_3 : w5.cell? ⟨w3.heap.size, 3, none⟩ = some (.int .i64 sz) := keep1 hb (cellP (by first | omega | (simp; omega) | simp) b_3)
  have nb_4 : w5.cell? ⟨w3.heap.size, 4, none⟩ = some (.int .i64 mt) := keep1 hb (cellP (by first | omega | (simp; omega) | simp) b_4)
  have nb_5 : w5.cell? ⟨w3.heap.size, 5, none⟩ = some (.int .i64 now) := keep1 hb (cellP (by first | omega | (simp; omega) | simp) b_5)
  have nb_6 : w5.cell? ⟨w3.heap.size, 6, none⟩ = some (.int .i64 ino) := keep1 hb (cellP (by first | omega | (simp; omega) | simp) b_6)
  have nb_7 : w5.cell? ⟨w3.heap.size, 7, none⟩ = some (.int .i64 gen) := keep1 hb (cellP (by first | omega | (simp; omega) | simp) b_7)
  have nb_f : ∀ i, w5.frozen? ⟨w3.heap.size, i, none⟩ = false := fun i => (hb.frozen (p := ⟨w3.heap.size, i, none⟩) (by first | omega | (simp; omega) | simp)).trans (frozP (by first | omega | (simp; omega) | simp) (b_f i))
  have nc_0 : w5.cell? ⟨w4.heap.size, 0, none⟩ = some (.int .u8 k) := keep1 hb ((cellN _ _ _ _ (by first | rfl | simp) _).trans rfl)
  have nc_1 : w5.cell? ⟨w4.heap.size, 1, none⟩ = some (.int .i64 mo) := keep1 hb ((cellN _ _ _ _ (by first | rfl | simp) _).trans rfl)
  have nc_2 : w5.cell? ⟨w4.heap.size, 2, none⟩ = some (.int .i64 li) := keep1 hb ((cellN _ _ _ _ (by first | rfl | simp) _).trans rfl)
  have nc_3 : w5.cell? ⟨w4.heap.size, 3, none⟩ = some (.int .i64 sz) := keep1 hb ((cellN _ _ _ _ (by first | rfl | simp) _).trans rfl)
  have nc_4 : w5.cell? ⟨w4.heap.size, 4, none⟩ = some (.int .i64 mt) := keep1 hb ((cellN _ _ _ _ (by first | rfl | simp) _).trans rfl)
  have nc_5 : w5.cell? ⟨w4.heap.size, 5, none⟩ = some (.int .i64 ct) := keep1 hb ((cellN _ _ _ _ (by first | rfl | simp) _).trans rfl)
  have nc_6 : w5.cell? ⟨w4.heap.size, 6, none⟩ = some (.int .i64 ino) := keep1 hb ((cellN _ _ _ _ (by first | rfl | simp) _).trans rfl)
  have nc_7 : w5.cell? ⟨w4.heap.size, 7, none⟩ = some (.int .i64 gen) := keep1 hb ((cellN _ _ _ _ (by first | rfl | simp) _).trans rfl)
  have nc_f : ∀ i, w5.frozen? ⟨w4.heap.size, i, none⟩ = false := fun i => (hb.frozen (p := ⟨w4.heap.size, i, none⟩) (by first | omega | (simp; omega) | simp)).trans (frozN (by first | rfl | simp))
  clear a_0 a_1 a_2 a_3 a_4 a_5 a_6 a_7 a_f b_0 b_1 b_2 b_3 b_4 b_5 b_6 b_7 b_f
  have a_0 := na_0; clear na_0
  have a_1 := na_1; clear na_1
  have a_2 := na_2; clear na_2
  have a_3 := na_3; clear na_3
  have a_4 := na_4; clear na_4
  have a_5 := na_5; clear na_5
  have a_6 := na_6; clear na_6
  have a_7 := na_7; clear na_7
  have a_f := na_f; clear na_f
  have b_0 := nb_0; clear nb_0
  have b_1 := nb_1; clear nb_1
  have b_2 := nb_2; clear nb_2
  have b_3 := nb_3; clear nb_3
  have b_4 := nb_4; clear nb_4
  have b_5 := nb_5; clear nb_5
  have b_6 := nb_6; clear nb_6
  have b_7 := nb_7; clear nb_7
  have b_f := nb_f; clear nb_f
  have c_0 := nc_0; clear nc_0
  have c_1 := nc_1; clear nc_1
  have c_2 := nc_2; clear nc_2
  have c_3 := nc_3; clear nc_3
  have c_4 := nc_4; clear nc_4
  have c_5 := nc_5; clear nc_5
  have c_6 := nc_6; clear nc_6
  have c_7 := nc_7; clear nc_7
  have c_f := nc_f; clear nc_f
  clear hb B4
  have B5 := Lib.hid hb'
  have hw5 := hb'.size
  clear hb'
  have hsa40 : w.heap.size < w5.heap.size := by omega
  have hsa41 : w.heap.size < w5.heap.size + 1 := by omega
  have hsa42 : w.heap.size < w5.heap.size + 1 + 1 := by omega
  have hsb40 : w3.heap.size < w5.heap.size := by omega
  have hsb41 : w3.heap.size < w5.heap.size + 1 := by omega
  have hsb42 : w3.heap.size < w5.heap.size + 1 + 1 := by omega
  have hsc40 : w4.heap.size < w5.heap.size := by omega
  have hsc41 : w4.heap.size < w5.heap.size + 1 := by omega
  have hsc42 : w4.heap.size < w5.heap.size + 1 + 1 := by omega
  go_wp2_with fail
  refine (sized_any _ _ _ _ _ _ _ _ _ _ _).mono ?_
  rintro e w6 ⟨rfl, hb⟩
  rw [HS.out]
  have hb' : Below w.heap.size w w6 := Below.trans (by have := B5.out; go_grown) (hb.mono (by first | omega | (simp; omega) | simp))
  have hz6 : w5.heap.size ≤ w6.heap.size := by have := hb.size; first | omega | (simp at this; omega)
  have na_0 : w6.cell? ⟨w.heap.size, 0, none⟩ = some (.int .u8 k) := keep1 hb a_0
  have na_1 : w6.cell? ⟨w.heap.size, 1, none⟩ = some (.int .i64 mo) := keep1 hb a_1
  have na_2 : w6.cell? ⟨w.heap.size, 2, none⟩ = some (.int .i64 li) := keep1 hb a_2
  have na_3 : w6.cell? ⟨w.heap.size, 3, none⟩ = some (.int .i64 sz) := keep1 hb a_3
  have na_4 : w6.cell? ⟨w.heap.size, 4, none⟩ = some (.int .i64 mt) := keep1 hb a_4
  have na_5 : w6.cell? ⟨w.heap.size, 5, none⟩ = some (.int .i64 ct) := keep1 hb a_5
  have na_6 : w6.cell? ⟨w.heap.size, 6, none⟩ = some (.int .i64 ino) := keep1 hb a_6
  have na_7 : w6.cell? ⟨w.heap.size, 7, none⟩ = some (.int .i64 gen) := keep1 hb a_7
  have na_f : ∀ i, w6.frozen? ⟨w.heap.size, i, none⟩ = false := fun i => (hb.frozen (p := ⟨w.heap.size, i, none⟩) (by first | omega | (simp; omega) | simp)).trans (a_f i)
  have nb_0 : w6.cell? ⟨w3.heap.size, 0, none⟩ = some (.int .u8 k) := keep1 hb b_0
  have nb_1 : w6.cell? ⟨w3.heap.size, 1, none⟩ = some (.int .i64 mo) := keep1 hb b_1
  have nb_2 : w6.cell? ⟨w3.heap.size, 2, none⟩ = some (.int .i64 (li + 1)) := keep1 hb b_2
  have nb_3 : w6.cell? ⟨w3.heap.size, 3, none⟩ = some (.int .i64 sz) := keep1 hb b_3
  have nb_4 : w6.cell? ⟨w3.heap.size, 4, none⟩ = some (.int .i64 mt) := keep1 hb b_4
  have nb_5 : w6.cell? ⟨w3.heap.size, 5, none⟩ = some (.int .i64 now) := keep1 hb b_5
  have nb_6 : w6.cell? ⟨w3.heap.size, 6, none⟩ = some (.int .i64 ino) := keep1 hb b_6
  have nb_7 : w6.cell? ⟨w3.heap.size, 7, none⟩ = some (.int .i64 gen) := keep1 hb b_7
  have nb_f : ∀ i, w6.frozen? ⟨w3.heap.size, i, none⟩ = false := fun i => (hb.frozen (p := ⟨w3.heap.size, i, none⟩) (by first | omega | (simp; omega) | simp)).trans (b_f i)
  clear a_0 a_1 a_2 a_3 a_4 a_5 a_6 a_7 a_f b_0 b_1 b_2 b_3 b_4 b_5 b_6 b_7 b_f c_0 c_1 c_2 c_3 c_4 c_5 c_6 c_7 c_f
  have a_0 := na_0; clear na_0
  have a_1 := na_1; clear na_1
  have a_2 := na_2; clear na_2
  have a_3 := na_3; clear na_3
  have a_4 := na_4; clear na_4
  have a_5 := na_5; clear na_5
  have a_6 := na_6; clear na_6
  have a_7 := na_7; clear na_7
  have a_f := na_f; clear na_f
  have b_0 := nb_0; clear nb_0
  have b_1 := nb_1; clear nb_1
  have b_2 := nb_2; clear nb_2
  have b_3 := nb_3; clear nb_3
  have b_4 := nb_4; clear nb_4
  have b_5 := nb_5; clear nb_5
  have b_6 := nb_6; clear nb_6
  have b_7 := nb_7; clear nb_7
  have b_f := nb_f; clear nb_f
  clear hb B5
  have B6 := Lib.hid hb'
  have hw6 := hb'.size
  clear hb'
  have hsa50 : w.heap.size < w6.heap.size := by omega
  have hsa51 : w.heap.size < w6.heap.size + 1 := by omega
  have hsa52 : w.heap.size < w6.heap.size + 1 + 1 := by omega
  have hsb50 : w3.heap.size < w6.heap.size := by omega
  have hsb51 : w3.heap.size < w6.heap.size + 1 := by omega
  have hsb52 : w3.heap.size < w6.heap.size + 1 + 1 := by omega
  go_wp2_with fail
  refine (may_any _ _ _ _ _ _ _ _ _).mono ?_
  rintro e w7 ⟨rfl, hb⟩
  rw [HMS.out]
  have hb' : Below w.heap.size w w7 := Below.trans (by have := B6.out; go_grown) (hb.mono (by first | omega | (simp; omega) | simp))
  have hz7 : w6.heap.size ≤ w7.heap.size := by have := hb.size; first | omega | (simp at this; omega)
  have na_0 : w7.cell? ⟨w.heap.size, 0, none⟩ = some (.int .u8 k) := keep1 hb ((setO (by omega)).trans ((setO (by omega)).trans ((setO (by omega)).trans ((setO (by omega)).trans ((setO (by omega)).trans ((setO (by omega)).trans ((setO (by omega)).trans ((setO (by omega)).trans a_0))))))))
  have na_1 : w7.cell? ⟨w.heap.size, 1, none⟩ = some (.int .i64 mo) := keep1 hb ((setO (by omega)).trans ((setO (by omega)).trans ((setO (by omega)).trans ((setO (by omega)).trans ((setO (by omega)).trans ((setO (by omega)).trans ((setO (by omega)).trans ((setO (by omega)).trans a_1))))))))
  have na_2 : w7.cell? ⟨w.heap.size, 2, none⟩ = some (.int .i64 li) := keep1 hb ((setO (by omega)).trans ((setO (by omega)).trans ((setO (by omega)).trans ((setO (by omega)).trans ((setO (by omega)).trans ((setO (by omega)).trans ((setO (by omega)).trans ((setO (by omega)).trans a_2))))))))
  have na_3 : w7.cell? ⟨w.heap.size, 3, none⟩ = some (.int .i64 sz) := keep1 hb ((setO (by omega)).trans ((setO (by omega)).trans ((setO (by omega)).trans ((setO (by omega)).trans ((setO (by omega)).trans ((setO (by omega)).trans ((setO (by omega)).trans ((setO (by omega)).trans a_3))))))))
  have na_4 : w7.cell? ⟨w.heap.size, 4, none⟩ = some (.int .i64 mt) := keep1 hb ((setO (by omega)).trans ((setO (by omega)).trans ((setO (by omega)).trans ((setO (by omega)).trans ((setO (by omega)).trans ((setO (by omega)).trans ((setO (by omega)).trans ((setO (by omega)).trans a_4))))))))
  have na_5 : w7.cell? ⟨w.heap.size, 5, none⟩ = some (.int .i64 ct) := keep1 hb ((setO (by omega)).trans ((setO (by omega)).trans ((setO (by omega)).trans ((setO (by omega)).trans ((setO (by omega)).trans ((setO (by omega)).trans ((setO (by omega)).trans ((setO (by omega)).trans a_5))))))))
  have na_6 : w7.cell? ⟨w.heap.size, 6, none⟩ = some (.int .i64 ino) := keep1 hb ((setO (by omega)).trans ((setO (by omega)).trans ((setO (by omega)).trans ((setO (by omega)).trans ((setO (by omega)).trans ((setO (by omega)).trans ((setO (by omega)).trans ((setO (by omega)).trans a_6))))))))
  have na_7 : w7.cell? ⟨w.heap.size, 7, none⟩ = some (.int .i64 gen) := keep1 hb ((setO (by omega)).trans ((setO (by omega)).trans ((setO (by omega)).trans ((setO (by omega)).trans ((setO (by omega)).trans ((setO (by omega)).trans ((setO (by omega)).trans ((setO (by omega)).trans a_7))))))))
  have na_f : ∀ i, w7.frozen? ⟨w.heap.size, i, none⟩ = false := fun i => (hb.frozen (p := ⟨w.heap.size, i, none⟩) (by first | omega | (simp; omega) | simp)).trans (frozS (frozS (frozS (frozS (frozS (frozS (frozS (frozS (a_f i)))))))))
  have nb_0 : w7.cell? ⟨w3.heap.size, 0, none⟩ = some (.int .u8 k) := keep1 hb ((setO (by omega)).trans ((setO (by omega)).trans ((setO (by omega)).trans ((setO (by omega)).trans ((setO (by omega)).trans ((setO (by omega)).trans ((setO (by omega)).trans (setS b_0))))))))
  have nb_1 : w7.cell? ⟨w3.heap.size, 1, none⟩ = some (.int .i64 mo) := keep1 hb ((setO (by omega)).trans ((setO (by omega)).trans ((setO (by omega)).trans ((setO (by omega)).trans ((setO (by omega)).trans ((setO (by omega)).trans (setS ((setO (by omega)).trans b_1))))))))
  have nb_2 : w7.cell? ⟨w3.heap.size, 2, none⟩ = some (.int .i64 li) := keep1 hb ((setO (by omega)).trans ((setO (by omega)).trans ((setO (by omega)).trans ((setO (by omega)).trans ((setO (by omega)).trans (setS ((setO (by omega)).trans ((setO (by omega)).trans b_2))))))))
  have nb_3 : w7.cell? ⟨w3.heap.size, 3, none⟩ = some (.int .i64 size) := keep1 hb ((setO (by omega)).trans ((setO (by omega)).trans ((setO (by omega)).trans ((setO (by omega)).trans (setS ((setO (by omega)).trans ((setO (by omega)).trans ((setO (by omega)).trans b_3))))))))
  have nb_4 : w7.cell? ⟨w3.heap.size, 4, none⟩ = some (.int .i64 now) := keep1 hb ((setO (by omega)).trans ((setO (by omega)).trans ((setO (by omega)).trans (setS ((setO (by omega)).trans ((setO (by omega)).trans ((setO (by omega)).trans ((setO (by omega)).trans b_4))))))))
  have nb_5 : w7.cell? ⟨w3.heap.size, 5, none⟩ = some (.int .i64 now) := keep1 hb ((setO (by omega)).trans ((setO (by omega)).trans (setS ((setO (by omega)).trans ((setO (by omega)).trans ((setO (by omega)).trans ((setO (by omega)).trans ((setO (by omega)).trans b_5))))))))
  have nb_6 : w7.cell? ⟨w3.heap.size, 6, none⟩ = some (.int .i64 ino) := keep1 hb ((setO (by omega)).trans (setS ((setO (by omega)).trans ((setO (by omega)).trans ((setO (by omega)).trans ((setO (by omega)).trans ((setO (by omega)).trans ((setO (by omega)).trans b_6))))))))
  have nb_7 : w7.cell? ⟨w3.heap.size, 7, none⟩ = some (.int .i64 gen) := keep1 hb (setS ((setO (by omega)).trans ((setO (by omega)).trans ((setO (by omega)).trans ((setO (by omega)).trans ((setO (by omega)).trans ((setO (by omega)).trans ((setO (by omega)).trans b_7))))))))
  have nb_f : ∀ i, w7.frozen? ⟨w3.heap.size, i, none⟩ = false := fun i => (hb.frozen (p := ⟨w3.heap.size, i, none⟩) (by first | omega | (simp; omega) | simp)).trans (frozS (frozS (frozS (frozS (frozS (frozS (frozS (frozS (b_f i)))))))))
  clear a_0 a_1 a_2 a_3 a_4 a_5 a_6 a_7 a_f b_0 b_1 b_2 b_3 b_4 b_5 b_6 b_7 b_f
  have a_0 := na_0; clear na_0
  have a_1 := na_1; clear na_1
  have a_2 := na_2; clear na_2
  have a_3 := na_3; clear na_3
  have a_4 := na_4; clear na_4
  have a_5 := na_5; clear na_5
  have a_6 := na_6; clear na_6
  have a_7 := na_7; clear na_7
  have a_f := na_f; clear na_f
  have b_0 := nb_0; clear nb_0
  have b_1 := nb_1; clear nb_1
  have b_2 := nb_2; clear nb_2
  have b_3 := nb_3; clear nb_3
  have b_4 := nb_4; clear nb_4
  have b_5 := nb_5; clear nb_5
  have b_6 := nb_6; clear nb_6
  have b_7 := nb_7; clear nb_7
  have b_f := nb_f; clear nb_f
  clear hb B6
  have B7 := Lib.hid hb'
  have hw7 := hb'.size
  clear hb'
  have hsa60 : w.heap.size < w7.heap.size := by omega
  have hsa61 : w.heap.size < w7.heap.size + 1 := by omega
  have hsa62 : w.heap.size < w7.heap.size + 1 + 1 := by omega
  have hsb60 : w3.heap.size < w7.heap.size := by omega
  have hsb61 : w3.heap.size < w7.heap.size + 1 := by omega
  have hsb62 : w3.heap.size < w7.heap.size + 1 + 1 := by omega
  go_wp2_with fail
  go_region
  go_wp2_with fail
  refine (moded_any _ _ _ _ _ _ _ _ _ _ _).mono ?_
  rintro e w8 ⟨rfl, hb⟩
  rw [HD.out]
  have hb' : Below w.heap.size w w8 := Below.trans (by have := B7.out; go_grown) (hb.mono (by first | omega | (simp; omega) | simp))
  have hz8 : w7.heap.size ≤ w8.heap.size := by have := hb.size; first | omega | (simp at this; omega)
  have na_0 : w8.cell? ⟨w.heap.size, 0, none⟩ = some (.int .u8 k) := keep1 hb ((setO (by omega)).trans ((setO (by omega)).trans ((setO (by omega)).trans a_0)))
  have na_1 : w8.cell? ⟨w.heap.size, 1, none⟩ = some (.int .i64 mo) := keep1 hb ((setO (by omega)).trans ((setO (by omega)).trans ((setO (by omega)).trans a_1)))
  have na_2 : w8.cell? ⟨w.heap.size, 2, none⟩ = some (.int .i64 li) := keep1 hb ((setO (by omega)).trans ((setO (by omega)).trans ((setO (by omega)).trans a_2)))
  have na_3 : w8.cell? ⟨w.heap.size, 3, none⟩ = some (.int .i64 sz) := keep1 hb ((setO (by omega)).trans ((setO (by omega)).trans ((setO (by omega)).trans a_3)))
  have na_4 : w8.cell? ⟨w.heap.size, 4, none⟩ = some (.int .i64 mt) := keep1 hb ((setO (by omega)).trans ((setO (by omega)).trans ((setO (by omega)).trans a_4)))
  have na_5 : w8.cell? ⟨w.heap.size, 5, none⟩ = some (.int .i64 ct) := keep1 hb ((setO (by omega)).trans ((setO (by omega)).trans ((setO (by omega)).trans a_5)))
  have na_6 : w8.cell? ⟨w.heap.size, 6, none⟩ = some (.int .i64 ino) := keep1 hb ((setO (by omega)).trans ((setO (by omega)).trans ((setO (by omega)).trans a_6)))
  have na_7 : w8.cell? ⟨w.heap.size, 7, none⟩ = some (.int .i64 gen) := keep1 hb ((setO (by omega)).trans ((setO (by omega)).trans ((setO (by omega)).trans a_7)))
  have na_f : ∀ i, w8.frozen? ⟨w.heap.size, i, none⟩ = false := fun i => (hb.frozen (p := ⟨w.heap.size, i, none⟩) (by first | omega | (simp; omega) | simp)).trans (frozS (frozS (frozS (a_f i))))
  have nb_0 : w8.cell? ⟨w3.heap.size, 0, none⟩ = some (.int .u8 k) := keep1 hb ((setO (by omega)).trans ((setO (by omega)).trans ((setO (by omega)).trans b_0)))
  have nb_1 : w8.cell? ⟨w3.heap.size, 1, none⟩ = some (.int .i64 mo) := keep1 hb ((setO (by omega)).trans ((setO (by omega)).trans ((setO (by omega)).trans b_1)))
  have nb_2 : w8.cell? ⟨w3.heap.size, 2, none⟩ = some (.int .i64 li) := keep1 hb ((setO (by omega)).trans ((setO (by omega)).trans ((setO (by omega)).trans b_2)))
  have nb_3 : w8.cell? ⟨w3.heap.size, 3, none⟩ = some (.int .i64 sz) := keep1 hb ((setO (by omega)).trans ((setO (by omega)).trans (setS b_3)))
  have nb_4 : w8.cell? ⟨w3.heap.size, 4, none⟩ = some (.int .i64 mt) := keep1 hb ((setO (by omega)).trans (setS ((setO (by omega)).trans b_4)))
  have nb_5 : w8.cell? ⟨w3.heap.size, 5, none⟩ = some (.int .i64 ct) := keep1 hb (setS ((setO (by omega)).trans ((setO (by omega)).trans b_5)))
  have nb_6 : w8.cell? ⟨w3.heap.size, 6, none⟩ = some (.int .i64 ino) := keep1 hb ((setO (by omega)).trans ((setO (by omega)).trans ((setO (by omega)).trans b_6)))
  have nb_7 : w8.cell? ⟨w3.heap.size, 7, none⟩ = some (.int .i64 gen) := keep1 hb ((setO (by omega)).trans ((setO (by omega)).trans ((setO (by omega)).trans b_7)))
  have nb_f : ∀ i, w8.frozen? ⟨w3.heap.size, i, none⟩ = false := fun i => (hb.frozen (p := ⟨w3.heap.size, i, none⟩) (by first | omega | (simp; omega) | simp)).trans (frozS (frozS (frozS (b_f i))))
  clear a_0 a_1 a_2 a_3 a_4 a_5 a_6 a_7 a_f b_0 b_1 b_2 b_3 b_4 b_5 b_6 b_7 b_f
  have a_0 := na_0; clear na_0
  have a_1 := na_1; clear na_1
  have a_2 := na_2; clear na_2
  have a_3 := na_3; clear na_3
  have a_4 := na_4; clear na_4
  have a_5 := na_5; clear na_5
  have a_6 := na_6; clear na_6
  have a_7 := na_7; clear na_7
  have a_f := na_f; clear na_f
  have b_0 := nb_0; clear nb_0
  have b_1 := nb_1; clear nb_1
  have b_2 := nb_2; clear nb_2
  have b_3 := nb_3; clear nb_3
  have b_4 := nb_4; clear nb_4
  have b_5 := nb_5; clear nb_5
  have b_6 := nb_6; clear nb_6
  have b_7 := nb_7; clear nb_7
  have b_f := nb_f; clear nb_f
  clear hb B7
  have B8 := Lib.hid hb'
  have hw8 := hb'.size
  clear hb'
  have hsa70 : w.heap.size < w8.heap.size := by omega
  have hsa71 : w.heap.size < w8.heap.size + 1 := by omega
  have hsa72 : w.heap.size < w8.heap.size + 1 + 1 := by omega
  have hsb70 : w3.heap.size < w8.heap.size := by omega
  have hsb71 : w3.heap.size < w8.heap.size + 1 := by omega
  have hsb72 : w3.heap.size < w8.heap.size + 1 + 1 := by omega
  go_wp2_with fail
  go_ret
  exact ⟨ret_bool (by simp), by have := B8.out; go_grown⟩

set_option maxHeartbeats 4000000 in
theorem may_101 (k mo li sz mt ct ino gen mode size now : Int) (cs : Int) (w : World) (b1 : -9223372036854775808 ≤ li) (b2 : li ≤ 9223372036854775807) (HM : mayB k mo li sz mt ct ino gen = true) (HL : linkedR k mo li sz mt ct ino gen 1 now = .tuple #[.agg #[.int .u8 k, .int .i64 mo, .int .i64 (li + 1), .int .i64 sz, .int .i64 mt, .int .i64 now, .int .i64 ino, .int .i64 gen], .int .i64 0]) (HL2 : linkedR k mo (li + 1) sz mt now ino gen (-1) now = .tuple #[.agg #[.int .u8 k, .int .i64 mo, .int .i64 li, .int .i64 sz, .int .i64 mt, .int .i64 now, .int .i64 ino, .int .i64 gen], .int .i64 0]) (HML : mayB k mo (li + 1) sz mt now ino gen = true) (hli : li + 1 < 9223372036854775808) (HS : sizedR k mo li sz mt ct ino gen size now = .tuple #[.agg #[.int .u8 0, .int .i64 0, .int .i64 0, .int .i64 0, .int .i64 0, .int .i64 0, .int .i64 0, .int .i64 0], .int .i64 cs]) (ncs : (cs == 0) = false) (HD : modedR k mo li sz mt ct ino gen mode now = .tuple #[.agg #[.int .u8 k, .int .i64 mode, .int .i64 li, .int .i64 sz, .int .i64 mt, .int .i64 now, .int .i64 ino, .int .i64 gen], .int .i64 0]) (HMM : mayB k mode li sz mt now ino gen = true) :
    Calls Try.prog 4 #[.agg #[.int .u8 k, .int .i64 mo, .int .i64 li, .int .i64 sz, .int .i64 mt, .int .i64 ct, .int .i64 ino, .int .i64 gen], .int .i64 mode, .int .i64 size, .int .i64 now] w fun e w' => e = .returned (.bool true) ∧ Below w.heap.size w w' := by
  replace HM := Lib.hid HM
  replace HL := Lib.hid HL
  replace HS := Lib.hid HS
  replace HD := Lib.hid HD
  replace HL2 := Lib.hid HL2
  replace HML := Lib.hid HML
  replace HMM := Lib.hid HMM
  go_enter Try.func4, Try.ntmps4
  go_wp2_with fail
  refine (may_any _ _ _ _ _ _ _ _ _).mono ?_
  rintro e w1 ⟨rfl, hb⟩
  rw [HM.out]
  have hb' : Below w.heap.size w w1 := Below.trans (by go_grown) (hb.mono (by first | omega | (simp; omega) | simp))
  have hz1 : w.heap.size + 1 ≤ w1.heap.size := by have := hb.size; first | omega | (simp at this; omega)
  have na_0 : w1.cell? ⟨w.heap.size, 0, none⟩ = some (.int .u8 k) := keep1 hb ((cellN _ _ _ _ (by first | rfl | simp) _).trans rfl)
  have na_1 : w1.cell? ⟨w.heap.size, 1, none⟩ = some (.int .i64 mo) := keep1 hb ((cellN _ _ _ _ (by first | rfl | simp) _).trans rfl)
  have na_2 : w1.cell? ⟨w.heap.size, 2, none⟩ = some (.int .i64 li) := keep1 hb ((cellN _ _ _ _ (by first | rfl | simp) _).trans rfl)
  have na_3 : w1.cell? ⟨w.heap.size, 3, none⟩ = some (.int .i64 sz) := keep1 hb ((cellN _ _ _ _ (by first | rfl | simp) _).trans rfl)
  have na_4 : w1.cell? ⟨w.heap.size, 4, none⟩ = some (.int .i64 mt) := keep1 hb ((cellN _ _ _ _ (by first | rfl | simp) _).trans rfl)
  have na_5 : w1.cell? ⟨w.heap.size, 5, none⟩ = some (.int .i64 ct) := keep1 hb ((cellN _ _ _ _ (by first | rfl | simp) _).trans rfl)
  have na_6 : w1.cell? ⟨w.heap.size, 6, none⟩ = some (.int .i64 ino) := keep1 hb ((cellN _ _ _ _ (by first | rfl | simp) _).trans rfl)
  have na_7 : w1.cell? ⟨w.heap.size, 7, none⟩ = some (.int .i64 gen) := keep1 hb ((cellN _ _ _ _ (by first | rfl | simp) _).trans rfl)
  have na_f : ∀ i, w1.frozen? ⟨w.heap.size, i, none⟩ = false := fun i => (hb.frozen (p := ⟨w.heap.size, i, none⟩) (by first | omega | (simp; omega) | simp)).trans (frozN (by first | rfl | simp))
  have a_0 := na_0; clear na_0
  have a_1 := na_1; clear na_1
  have a_2 := na_2; clear na_2
  have a_3 := na_3; clear na_3
  have a_4 := na_4; clear na_4
  have a_5 := na_5; clear na_5
  have a_6 := na_6; clear na_6
  have a_7 := na_7; clear na_7
  have a_f := na_f; clear na_f
  clear hb
  have B1 := Lib.hid hb'
  have hw1 := hb'.size
  clear hb'
  have hsa00 : w.heap.size < w1.heap.size := by omega
  have hsa01 : w.heap.size < w1.heap.size + 1 := by omega
  have hsa02 : w.heap.size < w1.heap.size + 1 + 1 := by omega
  go_wp2_with fail
  refine (awake20 _).mono ?_
  rintro e w2 ⟨rfl, hb⟩
  have hb' : Below w.heap.size w w2 := Below.trans (by have := B1.out; go_grown) (hb.mono (by first | omega | (simp; omega) | simp))
  have hz2 : w1.heap.size ≤ w2.heap.size := by have := hb.size; first | omega | (simp at this; omega)
  have na_0 : w2.cell? ⟨w.heap.size, 0, none⟩ = some (.int .u8 k) := keep1 hb a_0
  have na_1 : w2.cell? ⟨w.heap.size, 1, none⟩ = some (.int .i64 mo) := keep1 hb a_1
  have na_2 : w2.cell? ⟨w.heap.size, 2, none⟩ = some (.int .i64 li) := keep1 hb a_2
  have na_3 : w2.cell? ⟨w.heap.size, 3, none⟩ = some (.int .i64 sz) := keep1 hb a_3
  have na_4 : w2.cell? ⟨w.heap.size, 4, none⟩ = some (.int .i64 mt) := keep1 hb a_4
  have na_5 : w2.cell? ⟨w.heap.size, 5, none⟩ = some (.int .i64 ct) := keep1 hb a_5
  have na_6 : w2.cell? ⟨w.heap.size, 6, none⟩ = some (.int .i64 ino) := keep1 hb a_6
  have na_7 : w2.cell? ⟨w.heap.size, 7, none⟩ = some (.int .i64 gen) := keep1 hb a_7
  have na_f : ∀ i, w2.frozen? ⟨w.heap.size, i, none⟩ = false := fun i => (hb.frozen (p := ⟨w.heap.size, i, none⟩) (by first | omega | (simp; omega) | simp)).trans (a_f i)
  clear a_0 a_1 a_2 a_3 a_4 a_5 a_6 a_7 a_f
  have a_0 := na_0; clear na_0
  have a_1 := na_1; clear na_1
  have a_2 := na_2; clear na_2
  have a_3 := na_3; clear na_3
  have a_4 := na_4; clear na_4
  have a_5 := na_5; clear na_5
  have a_6 := na_6; clear na_6
  have a_7 := na_7; clear na_7
  have a_f := na_f; clear na_f
  clear hb B1
  have B2 := Lib.hid hb'
  have hw2 := hb'.size
  clear hb'
  have hsa10 : w.heap.size < w2.heap.size := by omega
  have hsa11 : w.heap.size < w2.heap.size + 1 := by omega
  have hsa12 : w.heap.size < w2.heap.size + 1 + 1 := by omega
  go_wp2_with fail
  refine (linked_any _ _ _ _ _ _ _ _ _ _ _ b1 b2).mono ?_
  rintro e w3 ⟨rfl, hb⟩
  rw [HL.out]
  have hb' : Below w.heap.size w w3 := Below.trans (by have := B2.out; go_grown) (hb.mono (by first | omega | (simp; omega) | simp))
  have hz3 : w2.heap.size ≤ w3.heap.size := by have := hb.size; first | omega | (simp at this; omega)
  have na_0 : w3.cell? ⟨w.heap.size, 0, none⟩ = some (.int .u8 k) := keep1 hb a_0
  have na_1 : w3.cell? ⟨w.heap.size, 1, none⟩ = some (.int .i64 mo) := keep1 hb a_1
  have na_2 : w3.cell? ⟨w.heap.size, 2, none⟩ = some (.int .i64 li) := keep1 hb a_2
  have na_3 : w3.cell? ⟨w.heap.size, 3, none⟩ = some (.int .i64 sz) := keep1 hb a_3
  have na_4 : w3.cell? ⟨w.heap.size, 4, none⟩ = some (.int .i64 mt) := keep1 hb a_4
  have na_5 : w3.cell? ⟨w.heap.size, 5, none⟩ = some (.int .i64 ct) := keep1 hb a_5
  have na_6 : w3.cell? ⟨w.heap.size, 6, none⟩ = some (.int .i64 ino) := keep1 hb a_6
  have na_7 : w3.cell? ⟨w.heap.size, 7, none⟩ = some (.int .i64 gen) := keep1 hb a_7
  have na_f : ∀ i, w3.frozen? ⟨w.heap.size, i, none⟩ = false := fun i => (hb.frozen (p := ⟨w.heap.size, i, none⟩) (by first | omega | (simp; omega) | simp)).trans (a_f i)
  clear a_0 a_1 a_2 a_3 a_4 a_5 a_6 a_7 a_f
  have a_0 := na_0; clear na_0
  have a_1 := na_1; clear na_1
  have a_2 := na_2; clear na_2
  have a_3 := na_3; clear na_3
  have a_4 := na_4; clear na_4
  have a_5 := na_5; clear na_5
  have a_6 := na_6; clear na_6
  have a_7 := na_7; clear na_7
  have a_f := na_f; clear na_f
  clear hb B2
  have B3 := Lib.hid hb'
  have hw3 := hb'.size
  clear hb'
  have hsa20 : w.heap.size < w3.heap.size := by omega
  have hsa21 : w.heap.size < w3.heap.size + 1 := by omega
  have hsa22 : w.heap.size < w3.heap.size + 1 + 1 := by omega
  go_wp2_with fail
  refine (linked_any _ _ _ _ _ _ _ _ _ _ _ (by omega) (by omega)).mono ?_
  rintro e w4 ⟨rfl, hb⟩
  rw [HL2.out]
  have hb' : Below w.heap.size w w4 := Below.trans (by have := B3.out; go_grown) (hb.mono (by first | omega | (simp; omega) | simp))
  have hz4 : w3.heap.size + 1 ≤ w4.heap.size := by have := hb.size; first | omega | (simp at this; omega)
  have na_0 : w4.cell? ⟨w.heap.size, 0, none⟩ = some (.int .u8 k) := keep1 hb (cellP (by first | omega | (simp; omega) | simp) a_0)
  have na_1 : w4.cell? ⟨w.heap.size, 1, none⟩ = some (.int .i64 mo) := keep1 hb (cellP (by first | omega | (simp; omega) | simp) a_1)
  have na_2 : w4.cell? ⟨w.heap.size, 2, none⟩ = some (.int .i64 li) := keep1 hb (cellP (by first | omega | (simp; omega) | simp) a_2)
  have na_3 : w4.cell? ⟨w.heap.size, 3, none⟩ = some (.int .i64 sz) := keep1 hb (cellP (by first | omega | (simp; omega) | simp) a_3)
  have na_4 : w4.cell? ⟨w.heap.size, 4, none⟩ = some (.int .i64 mt) := keep1 hb (cellP (by first | omega | (simp; omega) | simp) a_4)
  have na_5 : w4.cell? ⟨w.heap.size, 5, none⟩ = some (.int .i64 ct) := keep1 hb (cellP (by first | omega | (simp; omega) | simp) a_5)
  have na_6 : w4.cell? ⟨w.heap.size, 6, none⟩ = some (.int .i64 ino) := keep1 hb (cellP (by first | omega | (simp; omega) | simp) a_6)
  have na_7 : w4.cell? ⟨w.heap.size, 7, none⟩ = some (.int .i64 gen) := keep1 hb (cellP (by first | omega | (simp; omega) | simp) a_7)
  have na_f : ∀ i, w4.frozen? ⟨w.heap.size, i, none⟩ = false := fun i => (hb.frozen (p := ⟨w.heap.size, i, none⟩) (by first | omega | (simp; omega) | simp)).trans (frozP (by first | omega | (simp; omega) | simp) (a_f i))
  have nb_0 : w4.cell? ⟨w3.heap.size, 0, none⟩ = some (.int .u8 k) := keep1 hb ((cellN _ _ _ _ (by first | rfl | simp) _).trans rfl)
  have nb_1 : w4.cell? ⟨w3.heap.size, 1, none⟩ = some (.int .i64 mo) := keep1 hb ((cellN _ _ _ _ (by first | rfl | simp) _).trans rfl)
  have nb_2 : w4.cell? ⟨w3.heap.size, 2, none⟩ = some (.int .i64 (li + 1)) := keep1 hb ((cellN _ _ _ _ (by first | rfl | simp) _).trans rfl)
  have nb_3 : w4.cell? ⟨w3.heap.size, 3, none⟩ = some (.int .i64 sz) := keep1 hb ((cellN _ _ _ _ (by first | rfl | simp) _).trans rfl)
  have nb_4 : w4.cell? ⟨w3.heap.size, 4, none⟩ = some (.int .i64 mt) := keep1 hb ((cellN _ _ _ _ (by first | rfl | simp) _).trans rfl)
  have nb_5 : w4.cell? ⟨w3.heap.size, 5, none⟩ = some (.int .i64 now) := keep1 hb ((cellN _ _ _ _ (by first | rfl | simp) _).trans rfl)
  have nb_6 : w4.cell? ⟨w3.heap.size, 6, none⟩ = some (.int .i64 ino) := keep1 hb ((cellN _ _ _ _ (by first | rfl | simp) _).trans rfl)
  have nb_7 : w4.cell? ⟨w3.heap.size, 7, none⟩ = some (.int .i64 gen) := keep1 hb ((cellN _ _ _ _ (by first | rfl | simp) _).trans rfl)
  have nb_f : ∀ i, w4.frozen? ⟨w3.heap.size, i, none⟩ = false := fun i => (hb.frozen (p := ⟨w3.heap.size, i, none⟩) (by first | omega | (simp; omega) | simp)).trans (frozN (by first | rfl | simp))
  clear a_0 a_1 a_2 a_3 a_4 a_5 a_6 a_7 a_f
  have a_0 := na_0; clear na_0
  have a_1 := na_1; clear na_1
  have a_2 := na_2; clear na_2
  have a_3 := na_3; clear na_3
  have a_4 := na_4; clear na_4
  have a_5 := na_5; clear na_5
  have a_6 := na_6; clear na_6
  have a_7 := na_7; clear na_7
  have a_f := na_f; clear na_f
  have b_0 := nb_0; clear nb_0
  have b_1 := nb_1; clear nb_1
  have b_2 := nb_2; clear nb_2
  have b_3 := nb_3; clear nb_3
  have b_4 := nb_4; clear nb_4
  have b_5 := nb_5; clear nb_5
  have b_6 := nb_6; clear nb_6
  have b_7 := nb_7; clear nb_7
  have b_f := nb_f; clear nb_f
  clear hb B3
  have B4 := Lib.hid hb'
  have hw4 := hb'.size
  clear hb'
  have hsa30 : w.heap.size < w4.heap.size := by omega
  have hsa31 : w.heap.size < w4.heap.size + 1 := by omega
  have hsa32 : w.heap.size < w4.heap.size + 1 + 1 := by omega
  have hsb30 : w3.heap.size < w4.heap.size := by omega
  have hsb31 : w3.heap.size < w4.heap.size + 1 := by omega
  have hsb32 : w3.heap.size < w4.heap.size + 1 + 1 := by omega
  go_wp2_with fail
  refine (may_any _ _ _ _ _ _ _ _ _).mono ?_
  rintro e w5 ⟨rfl, hb⟩
  rw [HML.out]
  have hb' : Below w.heap.size w w5 := Below.trans (by have := B4.out; go_grown) (hb.mono (by first | omega | (simp; omega) | simp))
  have hz5 : w4.heap.size + 1 ≤ w5.heap.size := by have := hb.size; first | omega | (simp at this; omega)
  have na_0 : w5.cell? ⟨w.heap.size, 0, none⟩ = some (.int .u8 k) := keep1 hb (cellP (by first | omega | (simp; omega) | simp) a_0)
  have na_1 : w5.cell? ⟨w.heap.size, 1, none⟩ = some (.int .i64 mo) := keep1 hb (cellP (by first | omega | (simp; omega) | simp) a_1)
  have na_2 : w5.cell? ⟨w.heap.size, 2, none⟩ = some (.int .i64 li) := keep1 hb (cellP (by first | omega | (simp; omega) | simp) a_2)
  have na_3 : w5.cell? ⟨w.heap.size, 3, none⟩ = some (.int .i64 sz) := keep1 hb (cellP (by first | omega | (simp; omega) | simp) a_3)
  have na_4 : w5.cell? ⟨w.heap.size, 4, none⟩ = some (.int .i64 mt) := keep1 hb (cellP (by first | omega | (simp; omega) | simp) a_4)
  have na_5 : w5.cell? ⟨w.heap.size, 5, none⟩ = some (.int .i64 ct) := keep1 hb (cellP (by first | omega | (simp; omega) | simp) a_5)
  have na_6 : w5.cell? ⟨w.heap.size, 6, none⟩ = some (.int .i64 ino) := keep1 hb (cellP (by first | omega | (simp; omega) | simp) a_6)
  have na_7 : w5.cell? ⟨w.heap.size, 7, none⟩ = some (.int .i64 gen) := keep1 hb (cellP (by first | omega | (simp; omega) | simp) a_7)
  have na_f : ∀ i, w5.frozen? ⟨w.heap.size, i, none⟩ = false := fun i => (hb.frozen (p := ⟨w.heap.size, i, none⟩) (by first | omega | (simp; omega) | simp)).trans (frozP (by first | omega | (simp; omega) | simp) (a_f i))
  have nb_0 : w5.cell? ⟨w3.heap.size, 0, none⟩ = some (.int .u8 k) := keep1 hb (cellP (by first | omega | (simp; omega) | simp) b_0)
  have nb_1 : w5.cell? ⟨w3.heap.size, 1, none⟩ = some (.int .i64 mo) := keep1 hb (cellP (by first | omega | (simp; omega) | simp) b_1)
  have nb_2 : w5.cell? ⟨w3.heap.size, 2, none⟩ = some (.int .i64 (li + 1)) := keep1 hb (cellP (by first | omega | (simp; omega) | simp) b_2)
  have nb_3 : w5.cell? ⟨w3.heap.size, 3, none⟩ = some (.int .i64 sz) := keep1 hb (cellP (by first | omega | (simp; omega) | simp) b_3)
  have nb_4 : w5.cell? ⟨w3.heap.size, 4, none⟩ = some (.int .i64 mt) := keep1 hb (cellP (by first | omega | (simp; omega) | simp) b_4)
  have nb_5 : w5.cell? ⟨w3.heap.size, 5, none⟩ = some (.int .i64 now) := keep1 hb (cellP (by first | omega | (simp; omega) | simp) b_5)
  have nb_6 : w5.cell? ⟨w3.heap.size, 6, none⟩ = some (.int .i64 ino) := keep1 hb (cellP (by first | omega | (simp; omega) | simp) b_6)
  have nb_7 : w5.cell? ⟨w3.heap.size, 7, none⟩ = some (.int .i64 gen) := keep1 hb (cellP (by first | omega | (simp; omega) | simp) b_7)
  have nb_f : ∀ i, w5.frozen? ⟨w3.heap.size, i, none⟩ = false := fun i => (hb.frozen (p := ⟨w3.heap.size, i, none⟩) (by first | omega | (simp; omega) | simp)).trans (frozP (by first | omega | (simp; omega) | simp) (b_f i))
  have nc_0 : w5.cell? ⟨w4.heap.size, 0, none⟩ = some (.int .u8 k) := keep1 hb ((cellN _ _ _ _ (by first | rfl | simp) _).trans rfl)
  have nc_1 : w5.cell? ⟨w4.heap.size, 1, none⟩ = some (.int .i64 mo) := keep1 hb ((cellN _ _ _ _ (by first | rfl | simp) _).trans rfl)
  have nc_2 : w5.cell? ⟨w4.heap.size, 2, none⟩ = some (.int .i64 li) := keep1 hb ((cellN _ _ _ _ (by first | rfl | simp) _).trans rfl)
  have nc_3 : w5.cell? ⟨w4.heap.size, 3, none⟩ = some (.int .i64 sz) := keep1 hb ((cellN _ _ _ _ (by first | rfl | simp) _).trans rfl)
  have nc_4 : w5.cell? ⟨w4.heap.size, 4, none⟩ = some (.int .i64 mt) := keep1 hb ((cellN _ _ _ _ (by first | rfl | simp) _).trans rfl)
  have nc_5 : w5.cell? ⟨w4.heap.size, 5, none⟩ = some (.int .i64 ct) := keep1 hb ((cellN _ _ _ _ (by first | rfl | simp) _).trans rfl)
  have nc_6 : w5.cell? ⟨w4.heap.size, 6, none⟩ = some (.int .i64 ino) := keep1 hb ((cellN _ _ _ _ (by first | rfl | simp) _).trans rfl)
  have nc_7 : w5.cell? ⟨w4.heap.size, 7, none⟩ = some (.int .i64 gen) := keep1 hb ((cellN _ _ _ _ (by first | rfl | simp) _).trans rfl)
  have nc_f : ∀ i, w5.frozen? ⟨w4.heap.size, i, none⟩ = false := fun i => (hb.frozen (p := ⟨w4.heap.size, i, none⟩) (by first | omega | (simp; omega) | simp)).trans (frozN (by first | rfl | simp))
  clear a_0 a_1 a_2 a_3 a_4 a_5 a_6 a_7 a_f b_0 b_1 b_2 b_3 b_4 b_5 b_6 b_7 b_f
  have a_0 := na_0; clear na_0
  have a_1 := na_1; clear na_1
  have a_2 := na_2; clear na_2
  have a_3 := na_3; clear na_3
  have a_4 := na_4; clear na_4
  have a_5 := na_5; clear na_5
  have a_6 := na_6; clear na_6
  have a_7 := na_7; clear na_7
  have a_f := na_f; clear na_f
  have b_0 := nb_0; clear nb_0
  have b_1 := nb_1; clear nb_1
  have b_2 := nb_2; clear nb_2
  have b_3 := nb_3; clear nb_3
  have b_4 := nb_4; clear nb_4
  have b_5 := nb_5; clear nb_5
  have b_6 := nb_6; clear nb_6
  have b_7 := nb_7; clear nb_7
  have b_f := nb_f; clear nb_f
  have c_0 := nc_0; clear nc_0
  have c_1 := nc_1; clear nc_1
  have c_2 := nc_2; clear nc_2
  have c_3 := nc_3; clear nc_3
  have c_4 := nc_4; clear nc_4
  have c_5 := nc_5; clear nc_5
  have c_6 := nc_6; clear nc_6
  have c_7 := nc_7; clear nc_7
  have c_f := nc_f; clear nc_f
  clear hb B4
  have B5 := Lib.hid hb'
  have hw5 := hb'.size
  clear hb'
  have hsa40 : w.heap.size < w5.heap.size := by omega
  have hsa41 : w.heap.size < w5.heap.size + 1 := by omega
  have hsa42 : w.heap.size < w5.heap.size + 1 + 1 := by omega
  have hsb40 : w3.heap.size < w5.heap.size := by omega
  have hsb41 : w3.heap.size < w5.heap.size + 1 := by omega
  have hsb42 : w3.heap.size < w5.heap.size + 1 + 1 := by omega
  have hsc40 : w4.heap.size < w5.heap.size := by omega
  have hsc41 : w4.heap.size < w5.heap.size + 1 := by omega
  have hsc42 : w4.heap.size < w5.heap.size + 1 + 1 := by omega
  go_wp2_with fail
  refine (sized_any _ _ _ _ _ _ _ _ _ _ _).mono ?_
  rintro e w6 ⟨rfl, hb⟩
  rw [HS.out]
  have hb' : Below w.heap.size w w6 := Below.trans (by have := B5.out; go_grown) (hb.mono (by first | omega | (simp; omega) | simp))
  have hz6 : w5.heap.size ≤ w6.heap.size := by have := hb.size; first | omega | (simp at this; omega)
  have na_0 : w6.cell? ⟨w.heap.size, 0, none⟩ = some (.int .u8 k) := keep1 hb a_0
  have na_1 : w6.cell? ⟨w.heap.size, 1, none⟩ = some (.int .i64 mo) := keep1 hb a_1
  have na_2 : w6.cell? ⟨w.heap.size, 2, none⟩ = some (.int .i64 li) := keep1 hb a_2
  have na_3 : w6.cell? ⟨w.heap.size, 3, none⟩ = some (.int .i64 sz) := keep1 hb a_3
  have na_4 : w6.cell? ⟨w.heap.size, 4, none⟩ = some (.int .i64 mt) := keep1 hb a_4
  have na_5 : w6.cell? ⟨w.heap.size, 5, none⟩ = some (.int .i64 ct) := keep1 hb a_5
  have na_6 : w6.cell? ⟨w.heap.size, 6, none⟩ = some (.int .i64 ino) := keep1 hb a_6
  have na_7 : w6.cell? ⟨w.heap.size, 7, none⟩ = some (.int .i64 gen) := keep1 hb a_7
  have na_f : ∀ i, w6.frozen? ⟨w.heap.size, i, none⟩ = false := fun i => (hb.frozen (p := ⟨w.heap.size, i, none⟩) (by first | omega | (simp; omega) | simp)).trans (a_f i)
  have nb_0 : w6.cell? ⟨w3.heap.size, 0, none⟩ = some (.int .u8 k) := keep1 hb b_0
  have nb_1 : w6.cell? ⟨w3.heap.size, 1, none⟩ = some (.int .i64 mo) := keep1 hb b_1
  have nb_2 : w6.cell? ⟨w3.heap.size, 2, none⟩ = some (.int .i64 (li + 1)) := keep1 hb b_2
  have nb_3 : w6.cell? ⟨w3.heap.size, 3, none⟩ = some (.int .i64 sz) := keep1 hb b_3
  have nb_4 : w6.cell? ⟨w3.heap.size, 4, none⟩ = some (.int .i64 mt) := keep1 hb b_4
  have nb_5 : w6.cell? ⟨w3.heap.size, 5, none⟩ = some (.int .i64 now) := keep1 hb b_5
  have nb_6 : w6.cell? ⟨w3.heap.size, 6, none⟩ = some (.int .i64 ino) := keep1 hb b_6
  have nb_7 : w6.cell? ⟨w3.heap.size, 7, none⟩ = some (.int .i64 gen) := keep1 hb b_7
  have nb_f : ∀ i, w6.frozen? ⟨w3.heap.size, i, none⟩ = false := fun i => (hb.frozen (p := ⟨w3.heap.size, i, none⟩) (by first | omega | (simp; omega) | simp)).trans (b_f i)
  clear a_0 a_1 a_2 a_3 a_4 a_5 a_6 a_7 a_f b_0 b_1 b_2 b_3 b_4 b_5 b_6 b_7 b_f c_0 c_1 c_2 c_3 c_4 c_5 c_6 c_7 c_f
  have a_0 := na_0; clear na_0
  have a_1 := na_1; clear na_1
  have a_2 := na_2; clear na_2
  have a_3 := na_3; clear na_3
  have a_4 := na_4; clear na_4
  have a_5 := na_5; clear na_5
  have a_6 := na_6; clear na_6
  have a_7 := na_7; clear na_7
  have a_f := na_f; clear na_f
  have b_0 := nb_0; clear nb_0
  have b_1 := nb_1; clear nb_1
  have b_2 := nb_2; clear nb_2
  have b_3 := nb_3; clear nb_3
  have b_4 := nb_4; clear nb_4
  have b_5 := nb_5; clear nb_5
  have b_6 := nb_6; clear nb_6
  have b_7 := nb_7; clear nb_7
  have b_f := nb_f; clear nb_f
  clear hb B5
  have B6 := Lib.hid hb'
  have hw6 := hb'.size
  clear hb'
  have hsa50 : w.heap.size < w6.heap.size := by omega
  have hsa51 : w.heap.size < w6.heap.size + 1 := by omega
  have hsa52 : w.heap.size < w6.heap.size + 1 + 1 := by omega
  have hsb50 : w3.heap.size < w6.heap.size := by omega
  have hsb51 : w3.heap.size < w6.heap.size + 1 := by omega
  have hsb52 : w3.heap.size < w6.heap.size + 1 + 1 := by omega
  go_wp2_with fail
  refine (moded_any _ _ _ _ _ _ _ _ _ _ _).mono ?_
  rintro e w7 ⟨rfl, hb⟩
  rw [HD.out]
  have hb' : Below w.heap.size w w7 := Below.trans (by have := B6.out; go_grown) (hb.mono (by first | omega | (simp; omega) | simp))
  have hz7 : w6.heap.size ≤ w7.heap.size := by have := hb.size; first | omega | (simp at this; omega)
  have na_0 : w7.cell? ⟨w.heap.size, 0, none⟩ = some (.int .u8 k) := keep1 hb ((setO (by omega)).trans ((setO (by omega)).trans ((setO (by omega)).trans ((setO (by omega)).trans ((setO (by omega)).trans ((setO (by omega)).trans ((setO (by omega)).trans ((setO (by omega)).trans a_0))))))))
  have na_1 : w7.cell? ⟨w.heap.size, 1, none⟩ = some (.int .i64 mo) := keep1 hb ((setO (by omega)).trans ((setO (by omega)).trans ((setO (by omega)).trans ((setO (by omega)).trans ((setO (by omega)).trans ((setO (by omega)).trans ((setO (by omega)).trans ((setO (by omega)).trans a_1))))))))
  have na_2 : w7.cell? ⟨w.heap.size, 2, none⟩ = some (.int .i64 li) := keep1 hb ((setO (by omega)).trans ((setO (by omega)).trans ((setO (by omega)).trans ((setO (by omega)).trans ((setO (by omega)).trans ((setO (by omega)).trans ((setO (by omega)).trans ((setO (by omega)).trans a_2))))))))
  have na_3 : w7.cell? ⟨w.heap.size, 3, none⟩ = some (.int .i64 sz) := keep1 hb ((setO (by omega)).trans ((setO (by omega)).trans ((setO (by omega)).trans ((setO (by omega)).trans ((setO (by omega)).trans ((setO (by omega)).trans ((setO (by omega)).trans ((setO (by omega)).trans a_3))))))))
  have na_4 : w7.cell? ⟨w.heap.size, 4, none⟩ = some (.int .i64 mt) := keep1 hb ((setO (by omega)).trans ((setO (by omega)).trans ((setO (by omega)).trans ((setO (by omega)).trans ((setO (by omega)).trans ((setO (by omega)).trans ((setO (by omega)).trans ((setO (by omega)).trans a_4))))))))
  have na_5 : w7.cell? ⟨w.heap.size, 5, none⟩ = some (.int .i64 ct) := keep1 hb ((setO (by omega)).trans ((setO (by omega)).trans ((setO (by omega)).trans ((setO (by omega)).trans ((setO (by omega)).trans ((setO (by omega)).trans ((setO (by omega)).trans ((setO (by omega)).trans a_5))))))))
  have na_6 : w7.cell? ⟨w.heap.size, 6, none⟩ = some (.int .i64 ino) := keep1 hb ((setO (by omega)).trans ((setO (by omega)).trans ((setO (by omega)).trans ((setO (by omega)).trans ((setO (by omega)).trans ((setO (by omega)).trans ((setO (by omega)).trans ((setO (by omega)).trans a_6))))))))
  have na_7 : w7.cell? ⟨w.heap.size, 7, none⟩ = some (.int .i64 gen) := keep1 hb ((setO (by omega)).trans ((setO (by omega)).trans ((setO (by omega)).trans ((setO (by omega)).trans ((setO (by omega)).trans ((setO (by omega)).trans ((setO (by omega)).trans ((setO (by omega)).trans a_7))))))))
  have na_f : ∀ i, w7.frozen? ⟨w.heap.size, i, none⟩ = false := fun i => (hb.frozen (p := ⟨w.heap.size, i, none⟩) (by first | omega | (simp; omega) | simp)).trans (frozS (frozS (frozS (frozS (frozS (frozS (frozS (frozS (a_f i)))))))))
  have nb_0 : w7.cell? ⟨w3.heap.size, 0, none⟩ = some (.int .u8 0) := keep1 hb ((setO (by omega)).trans ((setO (by omega)).trans ((setO (by omega)).trans ((setO (by omega)).trans ((setO (by omega)).trans ((setO (by omega)).trans ((setO (by omega)).trans (setS b_0))))))))
  have nb_1 : w7.cell? ⟨w3.heap.size, 1, none⟩ = some (.int .i64 0) := keep1 hb ((setO (by omega)).trans ((setO (by omega)).trans ((setO (by omega)).trans ((setO (by omega)).trans ((setO (by omega)).trans ((setO (by omega)).trans (setS ((setO (by omega)).trans b_1))))))))
  have nb_2 : w7.cell? ⟨w3.heap.size, 2, none⟩ = some (.int .i64 0) := keep1 hb ((setO (by omega)).trans ((setO (by omega)).trans ((setO (by omega)).trans ((setO (by omega)).trans ((setO (by omega)).trans (setS ((setO (by omega)).trans ((setO (by omega)).trans b_2))))))))
  have nb_3 : w7.cell? ⟨w3.heap.size, 3, none⟩ = some (.int .i64 0) := keep1 hb ((setO (by omega)).trans ((setO (by omega)).trans ((setO (by omega)).trans ((setO (by omega)).trans (setS ((setO (by omega)).trans ((setO (by omega)).trans ((setO (by omega)).trans b_3))))))))
  have nb_4 : w7.cell? ⟨w3.heap.size, 4, none⟩ = some (.int .i64 0) := keep1 hb ((setO (by omega)).trans ((setO (by omega)).trans ((setO (by omega)).trans (setS ((setO (by omega)).trans ((setO (by omega)).trans ((setO (by omega)).trans ((setO (by omega)).trans b_4))))))))
  have nb_5 : w7.cell? ⟨w3.heap.size, 5, none⟩ = some (.int .i64 0) := keep1 hb ((setO (by omega)).trans ((setO (by omega)).trans (setS ((setO (by omega)).trans ((setO (by omega)).trans ((setO (by omega)).trans ((setO (by omega)).trans ((setO (by omega)).trans b_5))))))))
  have nb_6 : w7.cell? ⟨w3.heap.size, 6, none⟩ = some (.int .i64 0) := keep1 hb ((setO (by omega)).trans (setS ((setO (by omega)).trans ((setO (by omega)).trans ((setO (by omega)).trans ((setO (by omega)).trans ((setO (by omega)).trans ((setO (by omega)).trans b_6))))))))
  have nb_7 : w7.cell? ⟨w3.heap.size, 7, none⟩ = some (.int .i64 0) := keep1 hb (setS ((setO (by omega)).trans ((setO (by omega)).trans ((setO (by omega)).trans ((setO (by omega)).trans ((setO (by omega)).trans ((setO (by omega)).trans ((setO (by omega)).trans b_7))))))))
  have nb_f : ∀ i, w7.frozen? ⟨w3.heap.size, i, none⟩ = false := fun i => (hb.frozen (p := ⟨w3.heap.size, i, none⟩) (by first | omega | (simp; omega) | simp)).trans (frozS (frozS (frozS (frozS (frozS (frozS (frozS (frozS (b_f i)))))))))
  clear a_0 a_1 a_2 a_3 a_4 a_5 a_6 a_7 a_f b_0 b_1 b_2 b_3 b_4 b_5 b_6 b_7 b_f
  have a_0 := na_0; clear na_0
  have a_1 := na_1; clear na_1
  have a_2 := na_2; clear na_2
  have a_3 := na_3; clear na_3
  have a_4 := na_4; clear na_4
  have a_5 := na_5; clear na_5
  have a_6 := na_6; clear na_6
  have a_7 := na_7; clear na_7
  have a_f := na_f; clear na_f
  have b_0 := nb_0; clear nb_0
  have b_1 := nb_1; clear nb_1
  have b_2 := nb_2; clear nb_2
  have b_3 := nb_3; clear nb_3
  have b_4 := nb_4; clear nb_4
  have b_5 := nb_5; clear nb_5
  have b_6 := nb_6; clear nb_6
  have b_7 := nb_7; clear nb_7
  have b_f := nb_f; clear nb_f
  clear hb B6
  have B7 := Lib.hid hb'
  have hw7 := hb'.size
  clear hb'
  have hsa60 : w.heap.size < w7.heap.size := by omega
  have hsa61 : w.heap.size < w7.heap.size + 1 := by omega
  have hsa62 : w.heap.size < w7.heap.size + 1 + 1 := by omega
  have hsb60 : w3.heap.size < w7.heap.size := by omega
  have hsb61 : w3.heap.size < w7.heap.size + 1 := by omega
  have hsb62 : w3.heap.size < w7.heap.size + 1 + 1 := by omega
  go_wp2_with fail
  refine (may_any _ _ _ _ _ _ _ _ _).mono ?_
  rintro e w8 ⟨rfl, hb⟩
  rw [HMM.out]
  have hb' : Below w.heap.size w w8 := Below.trans (by have := B7.out; go_grown) (hb.mono (by first | omega | (simp; omega) | simp))
  have hz8 : w7.heap.size ≤ w8.heap.size := by have := hb.size; first | omega | (simp at this; omega)
  have na_0 : w8.cell? ⟨w.heap.size, 0, none⟩ = some (.int .u8 k) := keep1 hb ((setO (by omega)).trans ((setO (by omega)).trans ((setO (by omega)).trans ((setO (by omega)).trans ((setO (by omega)).trans ((setO (by omega)).trans ((setO (by omega)).trans ((setO (by omega)).trans a_0))))))))
  have na_1 : w8.cell? ⟨w.heap.size, 1, none⟩ = some (.int .i64 mo) := keep1 hb ((setO (by omega)).trans ((setO (by omega)).trans ((setO (by omega)).trans ((setO (by omega)).trans ((setO (by omega)).trans ((setO (by omega)).trans ((setO (by omega)).trans ((setO (by omega)).trans a_1))))))))
  have na_2 : w8.cell? ⟨w.heap.size, 2, none⟩ = some (.int .i64 li) := keep1 hb ((setO (by omega)).trans ((setO (by omega)).trans ((setO (by omega)).trans ((setO (by omega)).trans ((setO (by omega)).trans ((setO (by omega)).trans ((setO (by omega)).trans ((setO (by omega)).trans a_2))))))))
  have na_3 : w8.cell? ⟨w.heap.size, 3, none⟩ = some (.int .i64 sz) := keep1 hb ((setO (by omega)).trans ((setO (by omega)).trans ((setO (by omega)).trans ((setO (by omega)).trans ((setO (by omega)).trans ((setO (by omega)).trans ((setO (by omega)).trans ((setO (by omega)).trans a_3))))))))
  have na_4 : w8.cell? ⟨w.heap.size, 4, none⟩ = some (.int .i64 mt) := keep1 hb ((setO (by omega)).trans ((setO (by omega)).trans ((setO (by omega)).trans ((setO (by omega)).trans ((setO (by omega)).trans ((setO (by omega)).trans ((setO (by omega)).trans ((setO (by omega)).trans a_4))))))))
  have na_5 : w8.cell? ⟨w.heap.size, 5, none⟩ = some (.int .i64 ct) := keep1 hb ((setO (by omega)).trans ((setO (by omega)).trans ((setO (by omega)).trans ((setO (by omega)).trans ((setO (by omega)).trans ((setO (by omega)).trans ((setO (by omega)).trans ((setO (by omega)).trans a_5))))))))
  have na_6 : w8.cell? ⟨w.heap.size, 6, none⟩ = some (.int .i64 ino) := keep1 hb ((setO (by omega)).trans ((setO (by omega)).trans ((setO (by omega)).trans ((setO (by omega)).trans ((setO (by omega)).trans ((setO (by omega)).trans ((setO (by omega)).trans ((setO (by omega)).trans a_6))))))))
  have na_7 : w8.cell? ⟨w.heap.size, 7, none⟩ = some (.int .i64 gen) := keep1 hb ((setO (by omega)).trans ((setO (by omega)).trans ((setO (by omega)).trans ((setO (by omega)).trans ((setO (by omega)).trans ((setO (by omega)).trans ((setO (by omega)).trans ((setO (by omega)).trans a_7))))))))
  have na_f : ∀ i, w8.frozen? ⟨w.heap.size, i, none⟩ = false := fun i => (hb.frozen (p := ⟨w.heap.size, i, none⟩) (by first | omega | (simp; omega) | simp)).trans (frozS (frozS (frozS (frozS (frozS (frozS (frozS (frozS (a_f i)))))))))
  have nb_0 : w8.cell? ⟨w3.heap.size, 0, none⟩ = some (.int .u8 k) := keep1 hb ((setO (by omega)).trans ((setO (by omega)).trans ((setO (by omega)).trans ((setO (by omega)).trans ((setO (by omega)).trans ((setO (by omega)).trans ((setO (by omega)).trans (setS b_0))))))))
  have nb_1 : w8.cell? ⟨w3.heap.size, 1, none⟩ = some (.int .i64 mode) := keep1 hb ((setO (by omega)).trans ((setO (by omega)).trans ((setO (by omega)).trans ((setO (by omega)).trans ((setO (by omega)).trans ((setO (by omega)).trans (setS ((setO (by omega)).trans b_1))))))))
  have nb_2 : w8.cell? ⟨w3.heap.size, 2, none⟩ = some (.int .i64 li) := keep1 hb ((setO (by omega)).trans ((setO (by omega)).trans ((setO (by omega)).trans ((setO (by omega)).trans ((setO (by omega)).trans (setS ((setO (by omega)).trans ((setO (by omega)).trans b_2))))))))
  have nb_3 : w8.cell? ⟨w3.heap.size, 3, none⟩ = some (.int .i64 sz) := keep1 hb ((setO (by omega)).trans ((setO (by omega)).trans ((setO (by omega)).trans ((setO (by omega)).trans (setS ((setO (by omega)).trans ((setO (by omega)).trans ((setO (by omega)).trans b_3))))))))
  have nb_4 : w8.cell? ⟨w3.heap.size, 4, none⟩ = some (.int .i64 mt) := keep1 hb ((setO (by omega)).trans ((setO (by omega)).trans ((setO (by omega)).trans (setS ((setO (by omega)).trans ((setO (by omega)).trans ((setO (by omega)).trans ((setO (by omega)).trans b_4))))))))
  have nb_5 : w8.cell? ⟨w3.heap.size, 5, none⟩ = some (.int .i64 now) := keep1 hb ((setO (by omega)).trans ((setO (by omega)).trans (setS ((setO (by omega)).trans ((setO (by omega)).trans ((setO (by omega)).trans ((setO (by omega)).trans ((setO (by omega)).trans b_5))))))))
  have nb_6 : w8.cell? ⟨w3.heap.size, 6, none⟩ = some (.int .i64 ino) := keep1 hb ((setO (by omega)).trans (setS ((setO (by omega)).trans ((setO (by omega)).trans ((setO (by omega)).trans ((setO (by omega)).trans ((setO (by omega)).trans ((setO (by omega)).trans b_6))))))))
  have nb_7 : w8.cell? ⟨w3.heap.size, 7, none⟩ = some (.int .i64 gen) := keep1 hb (setS ((setO (by omega)).trans ((setO (by omega)).trans ((setO (by omega)).trans ((setO (by omega)).trans ((setO (by omega)).trans ((setO (by omega)).trans ((setO (by omega)).trans b_7))))))))
  have nb_f : ∀ i, w8.frozen? ⟨w3.heap.size, i, none⟩ = false := fun i => (hb.frozen (p := ⟨w3.heap.size, i, none⟩) (by first | omega | (simp; omega) | simp)).trans (frozS (frozS (frozS (frozS (frozS (frozS (frozS (frozS (b_f i)))))))))
  clear a_0 a_1 a_2 a_3 a_4 a_5 a_6 a_7 a_f b_0 b_1 b_2 b_3 b_4 b_5 b_6 b_7 b_f
  have a_0 := na_0; clear na_0
  have a_1 := na_1; clear na_1
  have a_2 := na_2; clear na_2
  have a_3 := na_3; clear na_3
  have a_4 := na_4; clear na_4
  have a_5 := na_5; clear na_5
  have a_6 := na_6; clear na_6
  have a_7 := na_7; clear na_7
  have a_f := na_f; clear na_f
  have b_0 := nb_0; clear nb_0
  have b_1 := nb_1; clear nb_1
  have b_2 := nb_2; clear nb_2
  have b_3 := nb_3; clear nb_3
  have b_4 := nb_4; clear nb_4
  have b_5 := nb_5; clear nb_5
  have b_6 := nb_6; clear nb_6
  have b_7 := nb_7; clear nb_7
  have b_f := nb_f; clear nb_f
  clear hb B7
  have B8 := Lib.hid hb'
  have hw8 := hb'.size
  clear hb'
  have hsa70 : w.heap.size < w8.heap.size := by omega
  have hsa71 : w.heap.size < w8.heap.size + 1 := by omega
  have hsa72 : w.heap.size < w8.heap.size + 1 + 1 := by omega
  have hsb70 : w3.heap.size < w8.heap.size := by omega
  have hsb71 : w3.heap.size < w8.heap.size + 1 := by omega
  have hsb72 : w3.heap.size < w8.heap.size + 1 + 1 := by omega
  go_wp2_with fail
  go_region
  go_wp2_with fail
  go_ret
  exact ⟨ret_bool (by simp), by have := B8.out; go_grown⟩

set_option maxHeartbeats 4000000 in
theorem may_100 (k mo li sz mt ct ino gen mode size now : Int) (cs : Int) (cm : Int) (w : World) (b1 : -9223372036854775808 ≤ li) (b2 : li ≤ 9223372036854775807) (HM : mayB k mo li sz mt ct ino gen = true) (HL : linkedR k mo li sz mt ct ino gen 1 now = .tuple #[.agg #[.int .u8 k, .int .i64 mo, .int .i64 (li + 1), .int .i64 sz, .int .i64 mt, .int .i64 now, .int .i64 ino, .int .i64 gen], .int .i64 0]) (HL2 : linkedR k mo (li + 1) sz mt now ino gen (-1) now = .tuple #[.agg #[.int .u8 k, .int .i64 mo, .int .i64 li, .int .i64 sz, .int .i64 mt, .int .i64 now, .int .i64 ino, .int .i64 gen], .int .i64 0]) (HML : mayB k mo (li + 1) sz mt now ino gen = true) (hli : li + 1 < 9223372036854775808) (HS : sizedR k mo li sz mt ct ino gen size now = .tuple #[.agg #[.int .u8 0, .int .i64 0, .int .i64 0, .int .i64 0, .int .i64 0, .int .i64 0, .int .i64 0, .int .i64 0], .int .i64 cs]) (ncs : (cs == 0) = false) (HD : modedR k mo li sz mt ct ino gen mode now = .tuple #[.agg #[.int .u8 0, .int .i64 0, .int .i64 0, .int .i64 0, .int .i64 0, .int .i64 0, .int .i64 0, .int .i64 0], .int .i64 cm]) (ncm : (cm == 0) = false) :
    Calls Try.prog 4 #[.agg #[.int .u8 k, .int .i64 mo, .int .i64 li, .int .i64 sz, .int .i64 mt, .int .i64 ct, .int .i64 ino, .int .i64 gen], .int .i64 mode, .int .i64 size, .int .i64 now] w fun e w' => e = .returned (.bool true) ∧ Below w.heap.size w w' := by
  replace HM := Lib.hid HM
  replace HL := Lib.hid HL
  replace HS := Lib.hid HS
  replace HD := Lib.hid HD
  replace HL2 := Lib.hid HL2
  replace HML := Lib.hid HML
  go_enter Try.func4, Try.ntmps4
  go_wp2_with fail
  refine (may_any _ _ _ _ _ _ _ _ _).mono ?_
  rintro e w1 ⟨rfl, hb⟩
  rw [HM.out]
  have hb' : Below w.heap.size w w1 := Below.trans (by go_grown) (hb.mono (by first | omega | (simp; omega) | simp))
  have hz1 : w.heap.size + 1 ≤ w1.heap.size := by have := hb.size; first | omega | (simp at this; omega)
  have na_0 : w1.cell? ⟨w.heap.size, 0, none⟩ = some (.int .u8 k) := keep1 hb ((cellN _ _ _ _ (by first | rfl | simp) _).trans rfl)
  have na_1 : w1.cell? ⟨w.heap.size, 1, none⟩ = some (.int .i64 mo) := keep1 hb ((cellN _ _ _ _ (by first | rfl | simp) _).trans rfl)
  have na_2 : w1.cell? ⟨w.heap.size, 2, none⟩ = some (.int .i64 li) := keep1 hb ((cellN _ _ _ _ (by first | rfl | simp) _).trans rfl)
  have na_3 : w1.cell? ⟨w.heap.size, 3, none⟩ = some (.int .i64 sz) := keep1 hb ((cellN _ _ _ _ (by first | rfl | simp) _).trans rfl)
  have na_4 : w1.cell? ⟨w.heap.size, 4, none⟩ = some (.int .i64 mt) := keep1 hb ((cellN _ _ _ _ (by first | rfl | simp) _).trans rfl)
  have na_5 : w1.cell? ⟨w.heap.size, 5, none⟩ = some (.int .i64 ct) := keep1 hb ((cellN _ _ _ _ (by first | rfl | simp) _).trans rfl)
  have na_6 : w1.cell? ⟨w.heap.size, 6, none⟩ = some (.int .i64 ino) := keep1 hb ((cellN _ _ _ _ (by first | rfl | simp) _).trans rfl)
  have na_7 : w1.cell? ⟨w.heap.size, 7, none⟩ = some (.int .i64 gen) := keep1 hb ((cellN _ _ _ _ (by first | rfl | simp) _).trans rfl)
  have na_f : ∀ i, w1.frozen? ⟨w.heap.size, i, none⟩ = false := fun i => (hb.frozen (p := ⟨w.heap.size, i, none⟩) (by first | omega | (simp; omega) | simp)).trans (frozN (by first | rfl | simp))
  have a_0 := na_0; clear na_0
  have a_1 := na_1; clear na_1
  have a_2 := na_2; clear na_2
  have a_3 := na_3; clear na_3
  have a_4 := na_4; clear na_4
  have a_5 := na_5; clear na_5
  have a_6 := na_6; clear na_6
  have a_7 := na_7; clear na_7
  have a_f := na_f; clear na_f
  clear hb
  have B1 := Lib.hid hb'
  have hw1 := hb'.size
  clear hb'
  have hsa00 : w.heap.size < w1.heap.size := by omega
  have hsa01 : w.heap.size < w1.heap.size + 1 := by omega
  have hsa02 : w.heap.size < w1.heap.size + 1 + 1 := by omega
  go_wp2_with fail
  refine (awake20 _).mono ?_
  rintro e w2 ⟨rfl, hb⟩
  have hb' : Below w.heap.size w w2 := Below.trans (by have := B1.out; go_grown) (hb.mono (by first | omega | (simp; omega) | simp))
  have hz2 : w1.heap.size ≤ w2.heap.size := by have := hb.size; first | omega | (simp at this; omega)
  have na_0 : w2.cell? ⟨w.heap.size, 0, none⟩ = some (.int .u8 k) := keep1 hb a_0
  have na_1 : w2.cell? ⟨w.heap.size, 1, none⟩ = some (.int .i64 mo) := keep1 hb a_1
  have na_2 : w2.cell? ⟨w.heap.size, 2, none⟩ = some (.int .i64 li) := keep1 hb a_2
  have na_3 : w2.cell? ⟨w.heap.size, 3, none⟩ = some (.int .i64 sz) := keep1 hb a_3
  have na_4 : w2.cell? ⟨w.heap.size, 4, none⟩ = some (.int .i64 mt) := keep1 hb a_4
  have na_5 : w2.cell? ⟨w.heap.size, 5, none⟩ = some (.int .i64 ct) := keep1 hb a_5
  have na_6 : w2.cell? ⟨w.heap.size, 6, none⟩ = some (.int .i64 ino) := keep1 hb a_6
  have na_7 : w2.cell? ⟨w.heap.size, 7, none⟩ = some (.int .i64 gen) := keep1 hb a_7
  have na_f : ∀ i, w2.frozen? ⟨w.heap.size, i, none⟩ = false := fun i => (hb.frozen (p := ⟨w.heap.size, i, none⟩) (by first | omega | (simp; omega) | simp)).trans (a_f i)
  clear a_0 a_1 a_2 a_3 a_4 a_5 a_6 a_7 a_f
  have a_0 := na_0; clear na_0
  have a_1 := na_1; clear na_1
  have a_2 := na_2; clear na_2
  have a_3 := na_3; clear na_3
  have a_4 := na_4; clear na_4
  have a_5 := na_5; clear na_5
  have a_6 := na_6; clear na_6
  have a_7 := na_7; clear na_7
  have a_f := na_f; clear na_f
  clear hb B1
  have B2 := Lib.hid hb'
  have hw2 := hb'.size
  clear hb'
  have hsa10 : w.heap.size < w2.heap.size := by omega
  have hsa11 : w.heap.size < w2.heap.size + 1 := by omega
  have hsa12 : w.heap.size < w2.heap.size + 1 + 1 := by omega
  go_wp2_with fail
  refine (linked_any _ _ _ _ _ _ _ _ _ _ _ b1 b2).mono ?_
  rintro e w3 ⟨rfl, hb⟩
  rw [HL.out]
  have hb' : Below w.heap.size w w3 := Below.trans (by have := B2.out; go_grown) (hb.mono (by first | omega | (simp; omega) | simp))
  have hz3 : w2.heap.size ≤ w3.heap.size := by have := hb.size; first | omega | (simp at this; omega)
  have na_0 : w3.cell? ⟨w.heap.size, 0, none⟩ = some (.int .u8 k) := keep1 hb a_0
  have na_1 : w3.cell? ⟨w.heap.size, 1, none⟩ = some (.int .i64 mo) := keep1 hb a_1
  have na_2 : w3.cell? ⟨w.heap.size, 2, none⟩ = some (.int .i64 li) := keep1 hb a_2
  have na_3 : w3.cell? ⟨w.heap.size, 3, none⟩ = some (.int .i64 sz) := keep1 hb a_3
  have na_4 : w3.cell? ⟨w.heap.size, 4, none⟩ = some (.int .i64 mt) := keep1 hb a_4
  have na_5 : w3.cell? ⟨w.heap.size, 5, none⟩ = some (.int .i64 ct) := keep1 hb a_5
  have na_6 : w3.cell? ⟨w.heap.size, 6, none⟩ = some (.int .i64 ino) := keep1 hb a_6
  have na_7 : w3.cell? ⟨w.heap.size, 7, none⟩ = some (.int .i64 gen) := keep1 hb a_7
  have na_f : ∀ i, w3.frozen? ⟨w.heap.size, i, none⟩ = false := fun i => (hb.frozen (p := ⟨w.heap.size, i, none⟩) (by first | omega | (simp; omega) | simp)).trans (a_f i)
  clear a_0 a_1 a_2 a_3 a_4 a_5 a_6 a_7 a_f
  have a_0 := na_0; clear na_0
  have a_1 := na_1; clear na_1
  have a_2 := na_2; clear na_2
  have a_3 := na_3; clear na_3
  have a_4 := na_4; clear na_4
  have a_5 := na_5; clear na_5
  have a_6 := na_6; clear na_6
  have a_7 := na_7; clear na_7
  have a_f := na_f; clear na_f
  clear hb B2
  have B3 := Lib.hid hb'
  have hw3 := hb'.size
  clear hb'
  have hsa20 : w.heap.size < w3.heap.size := by omega
  have hsa21 : w.heap.size < w3.heap.size + 1 := by omega
  have hsa22 : w.heap.size < w3.heap.size + 1 + 1 := by omega
  go_wp2_with fail
  refine (linked_any _ _ _ _ _ _ _ _ _ _ _ (by omega) (by omega)).mono ?_
  rintro e w4 ⟨rfl, hb⟩
  rw [HL2.out]
  have hb' : Below w.heap.size w w4 := Below.trans (by have := B3.out; go_grown) (hb.mono (by first | omega | (simp; omega) | simp))
  have hz4 : w3.heap.size + 1 ≤ w4.heap.size := by have := hb.size; first | omega | (simp at this; omega)
  have na_0 : w4.cell? ⟨w.heap.size, 0, none⟩ = some (.int .u8 k) := keep1 hb (cellP (by first | omega | (simp; omega) | simp) a_0)
  have na_1 : w4.cell? ⟨w.heap.size, 1, none⟩ = some (.int .i64 mo) := keep1 hb (cellP (by first | omega | (simp; omega) | simp) a_1)
  have na_2 : w4.cell? ⟨w.heap.size, 2, none⟩ = some (.int .i64 li) := keep1 hb (cellP (by first | omega | (simp; omega) | simp) a_2)
  have na_3 : w4.cell? ⟨w.heap.size, 3, none⟩ = some (.int .i64 sz) := keep1 hb (cellP (by first | omega | (simp; omega) | simp) a_3)
  have na_4 : w4.cell? ⟨w.heap.size, 4, none⟩ = some (.int .i64 mt) := keep1 hb (cellP (by first | omega | (simp; omega) | simp) a_4)
  have na_5 : w4.cell? ⟨w.heap.size, 5, none⟩ = some (.int .i64 ct) := keep1 hb (cellP (by first | omega | (simp; omega) | simp) a_5)
  have na_6 : w4.cell? ⟨w.heap.size, 6, none⟩ = some (.int .i64 ino) := keep1 hb (cellP (by first | omega | (simp; omega) | simp) a_6)
  have na_7 : w4.cell? ⟨w.heap.size, 7, none⟩ = some (.int .i64 gen) := keep1 hb (cellP (by first | omega | (simp; omega) | simp) a_7)
  have na_f : ∀ i, w4.frozen? ⟨w.heap.size, i, none⟩ = false := fun i => (hb.frozen (p := ⟨w.heap.size, i, none⟩) (by first | omega | (simp; omega) | simp)).trans (frozP (by first | omega | (simp; omega) | simp) (a_f i))
  have nb_0 : w4.cell? ⟨w3.heap.size, 0, none⟩ = some (.int .u8 k) := keep1 hb ((cellN _ _ _ _ (by first | rfl | simp) _).trans rfl)
  have nb_1 : w4.cell? ⟨w3.heap.size, 1, none⟩ = some (.int .i64 mo) := keep1 hb ((cellN _ _ _ _ (by first | rfl | simp) _).trans rfl)
  have nb_2 : w4.cell? ⟨w3.heap.size, 2, none⟩ = some (.int .i64 (li + 1)) := keep1 hb ((cellN _ _ _ _ (by first | rfl | simp) _).trans rfl)
  have nb_3 : w4.cell? ⟨w3.heap.size, 3, none⟩ = some (.int .i64 sz) := keep1 hb ((cellN _ _ _ _ (by first | rfl | simp) _).trans rfl)
  have nb_4 : w4.cell? ⟨w3.heap.size, 4, none⟩ = some (.int .i64 mt) := keep1 hb ((cellN _ _ _ _ (by first | rfl | simp) _).trans rfl)
  have nb_5 : w4.cell? ⟨w3.heap.size, 5, none⟩ = some (.int .i64 now) := keep1 hb ((cellN _ _ _ _ (by first | rfl | simp) _).trans rfl)
  have nb_6 : w4.cell? ⟨w3.heap.size, 6, none⟩ = some (.int .i64 ino) := keep1 hb ((cellN _ _ _ _ (by first | rfl | simp) _).trans rfl)
  have nb_7 : w4.cell? ⟨w3.heap.size, 7, none⟩ = some (.int .i64 gen) := keep1 hb ((cellN _ _ _ _ (by first | rfl | simp) _).trans rfl)
  have nb_f : ∀ i, w4.frozen? ⟨w3.heap.size, i, none⟩ = false := fun i => (hb.frozen (p := ⟨w3.heap.size, i, none⟩) (by first | omega | (simp; omega) | simp)).trans (frozN (by first | rfl | simp))
  clear a_0 a_1 a_2 a_3 a_4 a_5 a_6 a_7 a_f
  have a_0 := na_0; clear na_0
  have a_1 := na_1; clear na_1
  have a_2 := na_2; clear na_2
  have a_3 := na_3; clear na_3
  have a_4 := na_4; clear na_4
  have a_5 := na_5; clear na_5
  have a_6 := na_6; clear na_6
  have a_7 := na_7; clear na_7
  have a_f := na_f; clear na_f
  have b_0 := nb_0; clear nb_0
  have b_1 := nb_1; clear nb_1
  have b_2 := nb_2; clear nb_2
  have b_3 := nb_3; clear nb_3
  have b_4 := nb_4; clear nb_4
  have b_5 := nb_5; clear nb_5
  have b_6 := nb_6; clear nb_6
  have b_7 := nb_7; clear nb_7
  have b_f := nb_f; clear nb_f
  clear hb B3
  have B4 := Lib.hid hb'
  have hw4 := hb'.size
  clear hb'
  have hsa30 : w.heap.size < w4.heap.size := by omega
  have hsa31 : w.heap.size < w4.heap.size + 1 := by omega
  have hsa32 : w.heap.size < w4.heap.size + 1 + 1 := by omega
  have hsb30 : w3.heap.size < w4.heap.size := by omega
  have hsb31 : w3.heap.size < w4.heap.size + 1 := by omega
  have hsb32 : w3.heap.size < w4.heap.size + 1 + 1 := by omega
  go_wp2_with fail
  refine (may_any _ _ _ _ _ _ _ _ _).mono ?_
  rintro e w5 ⟨rfl, hb⟩
  rw [HML.out]
  have hb' : Below w.heap.size w w5 := Below.trans (by have := B4.out; go_grown) (hb.mono (by first | omega | (simp; omega) | simp))
  have hz5 : w4.heap.size + 1 ≤ w5.heap.size := by have := hb.size; first | omega | (simp at this; omega)
  have na_0 : w5.cell? ⟨w.heap.size, 0, none⟩ = some (.int .u8 k) := keep1 hb (cellP (by first | omega | (simp; omega) | simp) a_0)
  have na_1 : w5.cell? ⟨w.heap.size, 1, none⟩ = some (.int .i64 mo) := keep1 hb (cellP (by first | omega | (simp; omega) | simp) a_1)
  have na_2 : w5.cell? ⟨w.heap.size, 2, none⟩ = some (.int .i64 li) := keep1 hb (cellP (by first | omega | (simp; omega) | simp) a_2)
  have na_3 : w5.cell? ⟨w.heap.size, 3, none⟩ = some (.int .i64 sz) := keep1 hb (cellP (by first | omega | (simp; omega) | simp) a_3)
  have na_4 : w5.cell? ⟨w.heap.size, 4, none⟩ = some (.int .i64 mt) := keep1 hb (cellP (by first | omega | (simp; omega) | simp) a_4)
  have na_5 : w5.cell? ⟨w.heap.size, 5, none⟩ = some (.int .i64 ct) := keep1 hb (cellP (by first | omega | (simp; omega) | simp) a_5)
  have na_6 : w5.cell? ⟨w.heap.size, 6, none⟩ = some (.int .i64 ino) := keep1 hb (cellP (by first | omega | (simp; omega) | simp) a_6)
  have na_7 : w5.cell? ⟨w.heap.size, 7, none⟩ = some (.int .i64 gen) := keep1 hb (cellP (by first | omega | (simp; omega) | simp) a_7)
  have na_f : ∀ i, w5.frozen? ⟨w.heap.size, i, none⟩ = false := fun i => (hb.frozen (p := ⟨w.heap.size, i, none⟩) (by first | omega | (simp; omega) | simp)).trans (frozP (by first | omega | (simp; omega) | simp) (a_f i))
  have nb_0 : w5.cell? ⟨w3.heap.size, 0, none⟩ = some (.int .u8 k) := keep1 hb (cellP (by first | omega | (simp; omega) | simp) b_0)
  have nb_1 : w5.cell? ⟨w3.heap.size, 1, none⟩ = some (.int .i64 mo) := keep1 hb (cellP (by first | omega | (simp; omega) | simp) b_1)
  have nb_2 : w5.cell? ⟨w3.heap.size, 2, none⟩ = some (.int .i64 (li + 1)) := keep1 hb (cellP (by first | omega | (simp; omega) | simp) b_2)
  have nb_3 : w5.cell? ⟨w3.heap.size, 3, none⟩ = some (.int .i64 sz) := keep1 hb (cellP (by first | omega | (simp; omega) | simp) b_3)
  have nb_4 : w5.cell? ⟨w3.heap.size, 4, none⟩ = some (.int .i64 mt) := keep1 hb (cellP (by first | omega | (simp; omega) | simp) b_4)
  have nb_5 : w5.cell? ⟨w3.heap.size, 5, none⟩ = some (.int .i64 now) := keep1 hb (cellP (by first | omega | (simp; omega) | simp) b_5)
  have nb_6 : w5.cell? ⟨w3.heap.size, 6, none⟩ = some (.int .i64 ino) := keep1 hb (cellP (by first | omega | (simp; omega) | simp) b_6)
  have nb_7 : w5.cell? ⟨w3.heap.size, 7, none⟩ = some (.int .i64 gen) := keep1 hb (cellP (by first | omega | (simp; omega) | simp) b_7)
  have nb_f : ∀ i, w5.frozen? ⟨w3.heap.size, i, none⟩ = false := fun i => (hb.frozen (p := ⟨w3.heap.size, i, none⟩) (by first | omega | (simp; omega) | simp)).trans (frozP (by first | omega | (simp; omega) | simp) (b_f i))
  have nc_0 : w5.cell? ⟨w4.heap.size, 0, none⟩ = some (.int .u8 k) := keep1 hb ((cellN _ _ _ _ (by first | rfl | simp) _).trans rfl)
  have nc_1 : w5.cell? ⟨w4.heap.size, 1, none⟩ = some (.int .i64 mo) := keep1 hb ((cellN _ _ _ _ (by first | rfl | simp) _).trans rfl)
  have nc_2 : w5.cell? ⟨w4.heap.size, 2, none⟩ = some (.int .i64 li) := keep1 hb ((cellN _ _ _ _ (by first | rfl | simp) _).trans rfl)
  have nc_3 : w5.cell? ⟨w4.heap.size, 3, none⟩ = some (.int .i64 sz) := keep1 hb ((cellN _ _ _ _ (by first | rfl | simp) _).trans rfl)
  have nc_4 : w5.cell? ⟨w4.heap.size, 4, none⟩ = some (.int .i64 mt) := keep1 hb ((cellN _ _ _ _ (by first | rfl | simp) _).trans rfl)
  have nc_5 : w5.cell? ⟨w4.heap.size, 5, none⟩ = some (.int .i64 ct) := keep1 hb ((cellN _ _ _ _ (by first | rfl | simp) _).trans rfl)
  have nc_6 : w5.cell? ⟨w4.heap.size, 6, none⟩ = some (.int .i64 ino) := keep1 hb ((cellN _ _ _ _ (by first | rfl | simp) _).trans rfl)
  have nc_7 : w5.cell? ⟨w4.heap.size, 7, none⟩ = some (.int .i64 gen) := keep1 hb ((cellN _ _ _ _ (by first | rfl | simp) _).trans rfl)
  have nc_f : ∀ i, w5.frozen? ⟨w4.heap.size, i, none⟩ = false := fun i => (hb.frozen (p := ⟨w4.heap.size, i, none⟩) (by first | omega | (simp; omega) | simp)).trans (frozN (by first | rfl | simp))
  clear a_0 a_1 a_2 a_3 a_4 a_5 a_6 a_7 a_f b_0 b_1 b_2 b_3 b_4 b_5 b_6 b_7 b_f
  have a_0 := na_0; clear na_0
  have a_1 := na_1; clear na_1
  have a_2 := na_2; clear na_2
  have a_3 := na_3; clear na_3
  have a_4 := na_4; clear na_4
  have a_5 := na_5; clear na_5
  have a_6 := na_6; clear na_6
  have a_7 := na_7; clear na_7
  have a_f := na_f; clear na_f
  have b_0 := nb_0; clear nb_0
  have b_1 := nb_1; clear nb_1
  have b_2 := nb_2; clear nb_2
  have b_3 := nb_3; clear nb_3
  have b_4 := nb_4; clear nb_4
  have b_5 := nb_5; clear nb_5
  have b_6 := nb_6; clear nb_6
  have b_7 := nb_7; clear nb_7
  have b_f := nb_f; clear nb_f
  have c_0 := nc_0; clear nc_0
  have c_1 := nc_1; clear nc_1
  have c_2 := nc_2; clear nc_2
  have c_3 := nc_3; clear nc_3
  have c_4 := nc_4; clear nc_4
  have c_5 := nc_5; clear nc_5
  have c_6 := nc_6; clear nc_6
  have c_7 := nc_7; clear nc_7
  have c_f := nc_f; clear nc_f
  clear hb B4
  have B5 := Lib.hid hb'
  have hw5 := hb'.size
  clear hb'
  have hsa40 : w.heap.size < w5.heap.size := by omega
  have hsa41 : w.heap.size < w5.heap.size + 1 := by omega
  have hsa42 : w.heap.size < w5.heap.size + 1 + 1 := by omega
  have hsb40 : w3.heap.size < w5.heap.size := by omega
  have hsb41 : w3.heap.size < w5.heap.size + 1 := by omega
  have hsb42 : w3.heap.size < w5.heap.size + 1 + 1 := by omega
  have hsc40 : w4.heap.size < w5.heap.size := by omega
  have hsc41 : w4.heap.size < w5.heap.size + 1 := by omega
  have hsc42 : w4.heap.size < w5.heap.size + 1 + 1 := by omega
  go_wp2_with fail
  refine (sized_any _ _ _ _ _ _ _ _ _ _ _).mono ?_
  rintro e w6 ⟨rfl, hb⟩
  rw [HS.out]
  have hb' : Below w.heap.size w w6 := Below.trans (by have := B5.out; go_grown) (hb.mono (by first | omega | (simp; omega) | simp))
  have hz6 : w5.heap.size ≤ w6.heap.size := by have := hb.size; first | omega | (simp at this; omega)
  have na_0 : w6.cell? ⟨w.heap.size, 0, none⟩ = some (.int .u8 k) := keep1 hb a_0
  have na_1 : w6.cell? ⟨w.heap.size, 1, none⟩ = some (.int .i64 mo) := keep1 hb a_1
  have na_2 : w6.cell? ⟨w.heap.size, 2, none⟩ = some (.int .i64 li) := keep1 hb a_2
  have na_3 : w6.cell? ⟨w.heap.size, 3, none⟩ = some (.int .i64 sz) := keep1 hb a_3
  have na_4 : w6.cell? ⟨w.heap.size, 4, none⟩ = some (.int .i64 mt) := keep1 hb a_4
  have na_5 : w6.cell? ⟨w.heap.size, 5, none⟩ = some (.int .i64 ct) := keep1 hb a_5
  have na_6 : w6.cell? ⟨w.heap.size, 6, none⟩ = some (.int .i64 ino) := keep1 hb a_6
  have na_7 : w6.cell? ⟨w.heap.size, 7, none⟩ = some (.int .i64 gen) := keep1 hb a_7
  have na_f : ∀ i, w6.frozen? ⟨w.heap.size, i, none⟩ = false := fun i => (hb.frozen (p := ⟨w.heap.size, i, none⟩) (by first | omega | (simp; omega) | simp)).trans (a_f i)
  have nb_0 : w6.cell? ⟨w3.heap.size, 0, none⟩ = some (.int .u8 k) := keep1 hb b_0
  have nb_1 : w6.cell? ⟨w3.heap.size, 1, none⟩ = some (.int .i64 mo) := keep1 hb b_1
  have nb_2 : w6.cell? ⟨w3.heap.size, 2, none⟩ = some (.int .i64 (li + 1)) := keep1 hb b_2
  have nb_3 : w6.cell? ⟨w3.heap.size, 3, none⟩ = some (.int .i64 sz) := keep1 hb b_3
  have nb_4 : w6.cell? ⟨w3.heap.size, 4, none⟩ = some (.int .i64 mt) := keep1 hb b_4
  have nb_5 : w6.cell? ⟨w3.heap.size, 5, none⟩ = some (.int .i64 now) := keep1 hb b_5
  have nb_6 : w6.cell? ⟨w3.heap.size, 6, none⟩ = some (.int .i64 ino) := keep1 hb b_6
  have nb_7 : w6.cell? ⟨w3.heap.size, 7, none⟩ = some (.int .i64 gen) := keep1 hb b_7
  have nb_f : ∀ i, w6.frozen? ⟨w3.heap.size, i, none⟩ = false := fun i => (hb.frozen (p := ⟨w3.heap.size, i, none⟩) (by first | omega | (simp; omega) | simp)).trans (b_f i)
  clear a_0 a_1 a_2 a_3 a_4 a_5 a_6 a_7 a_f b_0 b_1 b_2 b_3 b_4 b_5 b_6 b_7 b_f c_0 c_1 c_2 c_3 c_4 c_5 c_6 c_7 c_f
  have a_0 := na_0; clear na_0
  have a_1 := na_1; clear na_1
  have a_2 := na_2; clear na_2
  have a_3 := na_3; clear na_3
  have a_4 := na_4; clear na_4
  have a_5 := na_5; clear na_5
  have a_6 := na_6; clear na_6
  have a_7 := na_7; clear na_7
  have a_f := na_f; clear na_f
  have b_0 := nb_0; clear nb_0
  have b_1 := nb_1; clear nb_1
  have b_2 := nb_2; clear nb_2
  have b_3 := nb_3; clear nb_3
  have b_4 := nb_4; clear nb_4
  have b_5 := nb_5; clear nb_5
  have b_6 := nb_6; clear nb_6
  have b_7 := nb_7; clear nb_7
  have b_f := nb_f; clear nb_f
  clear hb B5
  have B6 := Lib.hid hb'
  have hw6 := hb'.size
  clear hb'
  have hsa50 : w.heap.size < w6.heap.size := by omega
  have hsa51 : w.heap.size < w6.heap.size + 1 := by omega
  have hsa52 : w.heap.size < w6.heap.size + 1 + 1 := by omega
  have hsb50 : w3.heap.size < w6.heap.size := by omega
  have hsb51 : w3.heap.size < w6.heap.size + 1 := by omega
  have hsb52 : w3.heap.size < w6.heap.size + 1 + 1 := by omega
  go_wp2_with fail
  refine (moded_any _ _ _ _ _ _ _ _ _ _ _).mono ?_
  rintro e w7 ⟨rfl, hb⟩
  rw [HD.out]
  have hb' : Below w.heap.size w w7 := Below.trans (by have := B6.out; go_grown) (hb.mono (by first | omega | (simp; omega) | simp))
  have hz7 : w6.heap.size ≤ w7.heap.size := by have := hb.size; first | omega | (simp at this; omega)
  have na_0 : w7.cell? ⟨w.heap.size, 0, none⟩ = some (.int .u8 k) := keep1 hb ((setO (by omega)).trans ((setO (by omega)).trans ((setO (by omega)).trans ((setO (by omega)).trans ((setO (by omega)).trans ((setO (by omega)).trans ((setO (by omega)).trans ((setO (by omega)).trans a_0))))))))
  have na_1 : w7.cell? ⟨w.heap.size, 1, none⟩ = some (.int .i64 mo) := keep1 hb ((setO (by omega)).trans ((setO (by omega)).trans ((setO (by omega)).trans ((setO (by omega)).trans ((setO (by omega)).trans ((setO (by omega)).trans ((setO (by omega)).trans ((setO (by omega)).trans a_1))))))))
  have na_2 : w7.cell? ⟨w.heap.size, 2, none⟩ = some (.int .i64 li) := keep1 hb ((setO (by omega)).trans ((setO (by omega)).trans ((setO (by omega)).trans ((setO (by omega)).trans ((setO (by omega)).trans ((setO (by omega)).trans ((setO (by omega)).trans ((setO (by omega)).trans a_2))))))))
  have na_3 : w7.cell? ⟨w.heap.size, 3, none⟩ = some (.int .i64 sz) := keep1 hb ((setO (by omega)).trans ((setO (by omega)).trans ((setO (by omega)).trans ((setO (by omega)).trans ((setO (by omega)).trans ((setO (by omega)).trans ((setO (by omega)).trans ((setO (by omega)).trans a_3))))))))
  have na_4 : w7.cell? ⟨w.heap.size, 4, none⟩ = some (.int .i64 mt) := keep1 hb ((setO (by omega)).trans ((setO (by omega)).trans ((setO (by omega)).trans ((setO (by omega)).trans ((setO (by omega)).trans ((setO (by omega)).trans ((setO (by omega)).trans ((setO (by omega)).trans a_4))))))))
  have na_5 : w7.cell? ⟨w.heap.size, 5, none⟩ = some (.int .i64 ct) := keep1 hb ((setO (by omega)).trans ((setO (by omega)).trans ((setO (by omega)).trans ((setO (by omega)).trans ((setO (by omega)).trans ((setO (by omega)).trans ((setO (by omega)).trans ((setO (by omega)).trans a_5))))))))
  have na_6 : w7.cell? ⟨w.heap.size, 6, none⟩ = some (.int .i64 ino) := keep1 hb ((setO (by omega)).trans ((setO (by omega)).trans ((setO (by omega)).trans ((setO (by omega)).trans ((setO (by omega)).trans ((setO (by omega)).trans ((setO (by omega)).trans ((setO (by omega)).trans a_6))))))))
  have na_7 : w7.cell? ⟨w.heap.size, 7, none⟩ = some (.int .i64 gen) := keep1 hb ((setO (by omega)).trans ((setO (by omega)).trans ((setO (by omega)).trans ((setO (by omega)).trans ((setO (by omega)).trans ((setO (by omega)).trans ((setO (by omega)).trans ((setO (by omega)).trans a_7))))))))
  have na_f : ∀ i, w7.frozen? ⟨w.heap.size, i, none⟩ = false := fun i => (hb.frozen (p := ⟨w.heap.size, i, none⟩) (by first | omega | (simp; omega) | simp)).trans (frozS (frozS (frozS (frozS (frozS (frozS (frozS (frozS (a_f i)))))))))
  have nb_0 : w7.cell? ⟨w3.heap.size, 0, none⟩ = some (.int .u8 0) := keep1 hb ((setO (by omega)).trans ((setO (by omega)).trans ((setO (by omega)).trans ((setO (by omega)).trans ((setO (by omega)).trans ((setO (by omega)).trans ((setO (by omega)).trans (setS b_0))))))))
  have nb_1 : w7.cell? ⟨w3.heap.size, 1, none⟩ = some (.int .i64 0) := keep1 hb ((setO (by omega)).trans ((setO (by omega)).trans ((setO (by omega)).trans ((setO (by omega)).trans ((setO (by omega)).trans ((setO (by omega)).trans (setS ((setO (by omega)).trans b_1))))))))
  have nb_2 : w7.cell? ⟨w3.heap.size, 2, none⟩ = some (.int .i64 0) := keep1 hb ((setO (by omega)).trans ((setO (by omega)).trans ((setO (by omega)).trans ((setO (by omega)).trans ((setO (by omega)).trans (setS ((setO (by omega)).trans ((setO (by omega)).trans b_2))))))))
  have nb_3 : w7.cell? ⟨w3.heap.size, 3, none⟩ = some (.int .i64 0) := keep1 hb ((setO (by omega)).trans ((setO (by omega)).trans ((setO (by omega)).trans ((setO (by omega)).trans (setS ((setO (by omega)).trans ((setO (by omega)).trans ((setO (by omega)).trans b_3))))))))
  have nb_4 : w7.cell? ⟨w3.heap.size, 4, none⟩ = some (.int .i64 0) := keep1 hb ((setO (by omega)).trans ((setO (by omega)).trans ((setO (by omega)).trans (setS ((setO (by omega)).trans ((setO (by omega)).trans ((setO (by omega)).trans ((setO (by omega)).trans b_4))))))))
  have nb_5 : w7.cell? ⟨w3.heap.size, 5, none⟩ = some (.int .i64 0) := keep1 hb ((setO (by omega)).trans ((setO (by omega)).trans (setS ((setO (by omega)).trans ((setO (by omega)).trans ((setO (by omega)).trans ((setO (by omega)).trans ((setO (by omega)).trans b_5))))))))
  have nb_6 : w7.cell? ⟨w3.heap.size, 6, none⟩ = some (.int .i64 0) := keep1 hb ((setO (by omega)).trans (setS ((setO (by omega)).trans ((setO (by omega)).trans ((setO (by omega)).trans ((setO (by omega)).trans ((setO (by omega)).trans ((setO (by omega)).trans b_6))))))))
  have nb_7 : w7.cell? ⟨w3.heap.size, 7, none⟩ = some (.int .i64 0) := keep1 hb (setS ((setO (by omega)).trans ((setO (by omega)).trans ((setO (by omega)).trans ((setO (by omega)).trans ((setO (by omega)).trans ((setO (by omega)).trans ((setO (by omega)).trans b_7))))))))
  have nb_f : ∀ i, w7.frozen? ⟨w3.heap.size, i, none⟩ = false := fun i => (hb.frozen (p := ⟨w3.heap.size, i, none⟩) (by first | omega | (simp; omega) | simp)).trans (frozS (frozS (frozS (frozS (frozS (frozS (frozS (frozS (b_f i)))))))))
  clear a_0 a_1 a_2 a_3 a_4 a_5 a_6 a_7 a_f b_0 b_1 b_2 b_3 b_4 b_5 b_6 b_7 b_f
  have a_0 := na_0; clear na_0
  have a_1 := na_1; clear na_1
  have a_2 := na_2; clear na_2
  have a_3 := na_3; clear na_3
  have a_4 := na_4; clear na_4
  have a_5 := na_5; clear na_5
  have a_6 := na_6; clear na_6
  have a_7 := na_7; clear na_7
  have a_f := na_f; clear na_f
  have b_0 := nb_0; clear nb_0
  have b_1 := nb_1; clear nb_1
  have b_2 := nb_2; clear nb_2
  have b_3 := nb_3; clear nb_3
  have b_4 := nb_4; clear nb_4
  have b_5 := nb_5; clear nb_5
  have b_6 := nb_6; clear nb_6
  have b_7 := nb_7; clear nb_7
  have b_f := nb_f; clear nb_f
  clear hb B6
  have B7 := Lib.hid hb'
  have hw7 := hb'.size
  clear hb'
  have hsa60 : w.heap.size < w7.heap.size := by omega
  have hsa61 : w.heap.size < w7.heap.size + 1 := by omega
  have hsa62 : w.heap.size < w7.heap.size + 1 + 1 := by omega
  have hsb60 : w3.heap.size < w7.heap.size := by omega
  have hsb61 : w3.heap.size < w7.heap.size + 1 := by omega
  have hsb62 : w3.heap.size < w7.heap.size + 1 + 1 := by omega
  go_wp2_with fail
  go_ret
  exact ⟨ret_bool (by simp), by have := B7.out; go_grown⟩

set_option maxHeartbeats 4000000 in
theorem may_011 (k mo li sz mt ct ino gen mode size now : Int) (cl : Int) (w : World) (b1 : -9223372036854775808 ≤ li) (b2 : li ≤ 9223372036854775807) (HM : mayB k mo li sz mt ct ino gen = true) (HL : linkedR k mo li sz mt ct ino gen 1 now = .tuple #[.agg #[.int .u8 0, .int .i64 0, .int .i64 0, .int .i64 0, .int .i64 0, .int .i64 0, .int .i64 0, .int .i64 0], .int .i64 cl]) (ncl : (cl == 0) = false) (HS : sizedR k mo li sz mt ct ino gen size now = .tuple #[.agg #[.int .u8 k, .int .i64 mo, .int .i64 li, .int .i64 size, .int .i64 now, .int .i64 now, .int .i64 ino, .int .i64 gen], .int .i64 0]) (HMS : mayB k mo li size now now ino gen = true) (HD : modedR k mo li sz mt ct ino gen mode now = .tuple #[.agg #[.int .u8 k, .int .i64 mode, .int .i64 li, .int .i64 sz, .int .i64 mt, .int .i64 now, .int .i64 ino, .int .i64 gen], .int .i64 0]) (HMM : mayB k mode li sz mt now ino gen = true) :
    Calls Try.prog 4 #[.agg #[.int .u8 k, .int .i64 mo, .int .i64 li, .int .i64 sz, .int .i64 mt, .int .i64 ct, .int .i64 ino, .int .i64 gen], .int .i64 mode, .int .i64 size, .int .i64 now] w fun e w' => e = .returned (.bool true) ∧ Below w.heap.size w w' := by
  replace HM := Lib.hid HM
  replace HL := Lib.hid HL
  replace HS := Lib.hid HS
  replace HD := Lib.hid HD
  replace HMS := Lib.hid HMS
  replace HMM := Lib.hid HMM
  go_enter Try.func4, Try.ntmps4
  go_wp2_with fail
  refine (may_any _ _ _ _ _ _ _ _ _).mono ?_
  rintro e w1 ⟨rfl, hb⟩
  rw [HM.out]
  have hb' : Below w.heap.size w w1 := Below.trans (by go_grown) (hb.mono (by first | omega | (simp; omega) | simp))
  have hz1 : w.heap.size + 1 ≤ w1.heap.size := by have := hb.size; first | omega | (simp at this; omega)
  have na_0 : w1.cell? ⟨w.heap.size, 0, none⟩ = some (.int .u8 k) := keep1 hb ((cellN _ _ _ _ (by first | rfl | simp) _).trans rfl)
  have na_1 : w1.cell? ⟨w.heap.size, 1, none⟩ = some (.int .i64 mo) := keep1 hb ((cellN _ _ _ _ (by first | rfl | simp) _).trans rfl)
  have na_2 : w1.cell? ⟨w.heap.size, 2, none⟩ = some (.int .i64 li) := keep1 hb ((cellN _ _ _ _ (by first | rfl | simp) _).trans rfl)
  have na_3 : w1.cell? ⟨w.heap.size, 3, none⟩ = some (.int .i64 sz) := keep1 hb ((cellN _ _ _ _ (by first | rfl | simp) _).trans rfl)
  have na_4 : w1.cell? ⟨w.heap.size, 4, none⟩ = some (.int .i64 mt) := keep1 hb ((cellN _ _ _ _ (by first | rfl | simp) _).trans rfl)
  have na_5 : w1.cell? ⟨w.heap.size, 5, none⟩ = some (.int .i64 ct) := keep1 hb ((cellN _ _ _ _ (by first | rfl | simp) _).trans rfl)
  have na_6 : w1.cell? ⟨w.heap.size, 6, none⟩ = some (.int .i64 ino) := keep1 hb ((cellN _ _ _ _ (by first | rfl | simp) _).trans rfl)
  have na_7 : w1.cell? ⟨w.heap.size, 7, none⟩ = some (.int .i64 gen) := keep1 hb ((cellN _ _ _ _ (by first | rfl | simp) _).trans rfl)
  have na_f : ∀ i, w1.frozen? ⟨w.heap.size, i, none⟩ = false := fun i => (hb.frozen (p := ⟨w.heap.size, i, none⟩) (by first | omega | (simp; omega) | simp)).trans (frozN (by first | rfl | simp))
  have a_0 := na_0; clear na_0
  have a_1 := na_1; clear na_1
  have a_2 := na_2; clear na_2
  have a_3 := na_3; clear na_3
  have a_4 := na_4; clear na_4
  have a_5 := na_5; clear na_5
  have a_6 := na_6; clear na_6
  have a_7 := na_7; clear na_7
  have a_f := na_f; clear na_f
  clear hb
  have B1 := Lib.hid hb'
  have hw1 := hb'.size
  clear hb'
  have hsa00 : w.heap.size < w1.heap.size := by omega
  have hsa01 : w.heap.size < w1.heap.size + 1 := by omega
  have hsa02 : w.heap.size < w1.heap.size + 1 + 1 := by omega
  go_wp2_with fail
  refine (awake20 _).mono ?_
  rintro e w2 ⟨rfl, hb⟩
  have hb' : Below w.heap.size w w2 := Below.trans (by have := B1.out; go_grown) (hb.mono (by first | omega | (simp; omega) | simp))
  have hz2 : w1.heap.size ≤ w2.heap.size := by have := hb.size; first | omega | (simp at this; omega)
  have na_0 : w2.cell? ⟨w.heap.size, 0, none⟩ = some (.int .u8 k) := keep1 hb a_0
  have na_1 : w2.cell? ⟨w.heap.size, 1, none⟩ = some (.int .i64 mo) := keep1 hb a_1
  have na_2 : w2.cell? ⟨w.heap.size, 2, none⟩ = some (.int .i64 li) := keep1 hb a_2
  have na_3 : w2.cell? ⟨w.heap.size, 3, none⟩ = some (.int .i64 sz) := keep1 hb a_3
  have na_4 : w2.cell? ⟨w.heap.size, 4, none⟩ = some (.int .i64 mt) := keep1 hb a_4
  have na_5 : w2.cell? ⟨w.heap.size, 5, none⟩ = some (.int .i64 ct) := keep1 hb a_5
  have na_6 : w2.cell? ⟨w.heap.size, 6, none⟩ = some (.int .i64 ino) := keep1 hb a_6
  have na_7 : w2.cell? ⟨w.heap.size, 7, none⟩ = some (.int .i64 gen) := keep1 hb a_7
  have na_f : ∀ i, w2.frozen? ⟨w.heap.size, i, none⟩ = false := fun i => (hb.frozen (p := ⟨w.heap.size, i, none⟩) (by first | omega | (simp; omega) | simp)).trans (a_f i)
  clear a_0 a_1 a_2 a_3 a_4 a_5 a_6 a_7 a_f
  have a_0 := na_0; clear na_0
  have a_1 := na_1; clear na_1
  have a_2 := na_2; clear na_2
  have a_3 := na_3; clear na_3
  have a_4 := na_4; clear na_4
  have a_5 := na_5; clear na_5
  have a_6 := na_6; clear na_6
  have a_7 := na_7; clear na_7
  have a_f := na_f; clear na_f
  clear hb B1
  have B2 := Lib.hid hb'
  have hw2 := hb'.size
  clear hb'
  have hsa10 : w.heap.size < w2.heap.size := by omega
  have hsa11 : w.heap.size < w2.heap.size + 1 := by omega
  have hsa12 : w.heap.size < w2.heap.size + 1 + 1 := by omega
  go_wp2_with fail
  refine (linked_any _ _ _ _ _ _ _ _ _ _ _ b1 b2).mono ?_
  rintro e w3 ⟨rfl, hb⟩
  rw [HL.out]
  have hb' : Below w.heap.size w w3 := Below.trans (by have := B2.out; go_grown) (hb.mono (by first | omega | (simp; omega) | simp))
  have hz3 : w2.heap.size ≤ w3.heap.size := by have := hb.size; first | omega | (simp at this; omega)
  have na_0 : w3.cell? ⟨w.heap.size, 0, none⟩ = some (.int .u8 k) := keep1 hb a_0
  have na_1 : w3.cell? ⟨w.heap.size, 1, none⟩ = some (.int .i64 mo) := keep1 hb a_1
  have na_2 : w3.cell? ⟨w.heap.size, 2, none⟩ = some (.int .i64 li) := keep1 hb a_2
  have na_3 : w3.cell? ⟨w.heap.size, 3, none⟩ = some (.int .i64 sz) := keep1 hb a_3
  have na_4 : w3.cell? ⟨w.heap.size, 4, none⟩ = some (.int .i64 mt) := keep1 hb a_4
  have na_5 : w3.cell? ⟨w.heap.size, 5, none⟩ = some (.int .i64 ct) := keep1 hb a_5
  have na_6 : w3.cell? ⟨w.heap.size, 6, none⟩ = some (.int .i64 ino) := keep1 hb a_6
  have na_7 : w3.cell? ⟨w.heap.size, 7, none⟩ = some (.int .i64 gen) := keep1 hb a_7
  have na_f : ∀ i, w3.frozen? ⟨w.heap.size, i, none⟩ = false := fun i => (hb.frozen (p := ⟨w.heap.size, i, none⟩) (by first | omega | (simp; omega) | simp)).trans (a_f i)
  clear a_0 a_1 a_2 a_3 a_4 a_5 a_6 a_7 a_f
  have a_0 := na_0; clear na_0
  have a_1 := na_1; clear na_1
  have a_2 := na_2; clear na_2
  have a_3 := na_3; clear na_3
  have a_4 := na_4; clear na_4
  have a_5 := na_5; clear na_5
  have a_6 := na_6; clear na_6
  have a_7 := na_7; clear na_7
  have a_f := na_f; clear na_f
  clear hb B2
  have B3 := Lib.hid hb'
  have hw3 := hb'.size
  clear hb'
  have hsa20 : w.heap.size < w3.heap.size := by omega
  have hsa21 : w.heap.size < w3.heap.size + 1 := by omega
  have hsa22 : w.heap.size < w3.heap.size + 1 + 1 := by omega
  go_wp2_with fail
  refine (sized_any _ _ _ _ _ _ _ _ _ _ _).mono ?_
  rintro e w4 ⟨rfl, hb⟩
  rw [HS.out]
  have hb' : Below w.heap.size w w4 := Below.trans (by have := B3.out; go_grown) (hb.mono (by first | omega | (simp; omega) | simp))
  have hz4 : w3.heap.size + 1 ≤ w4.heap.size := by have := hb.size; first | omega | (simp at this; omega)
  have na_0 : w4.cell? ⟨w.heap.size, 0, none⟩ = some (.int .u8 k) := keep1 hb (cellP (by first | omega | (simp; omega) | simp) a_0)
  have na_1 : w4.cell? ⟨w.heap.size, 1, none⟩ = some (.int .i64 mo) := keep1 hb (cellP (by first | omega | (simp; omega) | simp) a_1)
  have na_2 : w4.cell? ⟨w.heap.size, 2, none⟩ = some (.int .i64 li) := keep1 hb (cellP (by first | omega | (simp; omega) | simp) a_2)
  have na_3 : w4.cell? ⟨w.heap.size, 3, none⟩ = some (.int .i64 sz) := keep1 hb (cellP (by first | omega | (simp; omega) | simp) a_3)
  have na_4 : w4.cell? ⟨w.heap.size, 4, none⟩ = some (.int .i64 mt) := keep1 hb (cellP (by first | omega | (simp; omega) | simp) a_4)
  have na_5 : w4.cell? ⟨w.heap.size, 5, none⟩ = some (.int .i64 ct) := keep1 hb (cellP (by first | omega | (simp; omega) | simp) a_5)
  have na_6 : w4.cell? ⟨w.heap.size, 6, none⟩ = some (.int .i64 ino) := keep1 hb (cellP (by first | omega | (simp; omega) | simp) a_6)
  have na_7 : w4.cell? ⟨w.heap.size, 7, none⟩ = some (.int .i64 gen) := keep1 hb (cellP (by first | omega | (simp; omega) | simp) a_7)
  have na_f : ∀ i, w4.frozen? ⟨w.heap.size, i, none⟩ = false := fun i => (hb.frozen (p := ⟨w.heap.size, i, none⟩) (by first | omega | (simp; omega) | simp)).trans (frozP (by first | omega | (simp; omega) | simp) (a_f i))
  have nb_0 : w4.cell? ⟨w3.heap.size, 0, none⟩ = some (.int .u8 0) := keep1 hb ((cellN _ _ _ _ (by first | rfl | simp) _).trans rfl)
  have nb_1 : w4.cell? ⟨w3.heap.size, 1, none⟩ = some (.int .i64 0) := keep1 hb ((cellN _ _ _ _ (by first | rfl | simp) _).trans rfl)
  have nb_2 : w4.cell? ⟨w3.heap.size, 2, none⟩ = some (.int .i64 0) := keep1 hb ((cellN _ _ _ _ (by first | rfl | simp) _).trans rfl)
  have nb_3 : w4.cell? ⟨w3.heap.size, 3, none⟩ = some (.int .i64 0) := keep1 hb ((cellN _ _ _ _ (by first | rfl | simp) _).trans rfl)
  have nb_4 : w4.cell? ⟨w3.heap.size, 4, none⟩ = some (.int .i64 0) := keep1 hb ((cellN _ _ _ _ (by first | rfl | simp) _).trans rfl)
  have nb_5 : w4.cell? ⟨w3.heap.size, 5, none⟩ = some (.int .i64 0) := keep1 hb ((cellN _ _ _ _ (by first | rfl | simp) _).trans rfl)
  have nb_6 : w4.cell? ⟨w3.heap.size, 6, none⟩ = some (.int .i64 0) := keep1 hb ((cellN _ _ _ _ (by first | rfl | simp) _).trans rfl)
  have nb_7 : w4.cell? ⟨w3.heap.size, 7, none⟩ = some (.int .i64 0) := keep1 hb ((cellN _ _ _ _ (by first | rfl | simp) _).trans rfl)
  have nb_f : ∀ i, w4.frozen? ⟨w3.heap.size, i, none⟩ = false := fun i => (hb.frozen (p := ⟨w3.heap.size, i, none⟩) (by first | omega | (simp; omega) | simp)).trans (frozN (by first | rfl | simp))
  clear a_0 a_1 a_2 a_3 a_4 a_5 a_6 a_7 a_f
  have a_0 := na_0; clear na_0
  have a_1 := na_1; clear na_1
  have a_2 := na_2; clear na_2
  have a_3 := na_3; clear na_3
  have a_4 := na_4; clear na_4
  have a_5 := na_5; clear na_5
  have a_6 := na_6; clear na_6
  have a_7 := na_7; clear na_7
  have a_f := na_f; clear na_f
  have b_0 := nb_0; clear nb_0
  have b_1 := nb_1; clear nb_1
  have b_2 := nb_2; clear nb_2
  have b_3 := nb_3; clear nb_3
  have b_4 := nb_4; clear nb_4
  have b_5 := nb_5; clear nb_5
  have b_6 := nb_6; clear nb_6
  have b_7 := nb_7; clear nb_7
  have b_f := nb_f; clear nb_f
  clear hb B3
  have B4 := Lib.hid hb'
  have hw4 := hb'.size
  clear hb'
  have hsa30 : w.heap.size < w4.heap.size := by omega
  have hsa31 : w.heap.size < w4.heap.size + 1 := by omega
  have hsa32 : w.heap.size < w4.heap.size + 1 + 1 := by omega
  have hsb30 : w3.heap.size < w4.heap.size := by omega
  have hsb31 : w3.heap.size < w4.heap.size + 1 := by omega
  have hsb32 : w3.heap.size < w4.heap.size + 1 + 1 := by omega
  go_wp2_with fail
  refine (may_any _ _ _ _ _ _ _ _ _).mono ?_
  rintro e w5 ⟨rfl, hb⟩
  rw [HMS.out]
  have hb' : Below w.heap.size w w5 := Below.trans (by have := B4.out; go_grown) (hb.mono (by first | omega | (simp; omega) | simp))
  have hz5 : w4.heap.size ≤ w5.heap.size := by have := hb.size; first | omega | (simp at this; omega)
  have na_0 : w5.cell? ⟨w.heap.size, 0, none⟩ = some (.int .u8 k) := keep1 hb ((setO (by omega)).trans ((setO (by omega)).trans ((setO (by omega)).trans ((setO (by omega)).trans ((setO (by omega)).trans ((setO (by omega)).trans ((setO (by omega)).trans ((setO (by omega)).trans a_0))))))))
  have na_1 : w5.cell? ⟨w.heap.size, 1, none⟩ = some (.int .i64 mo) := keep1 hb ((setO (by omega)).trans ((setO (by omega)).trans ((setO (by omega)).trans ((setO (by omega)).trans ((setO (by omega)).trans ((setO (by omega)).trans ((setO (by omega)).trans ((setO (by omega)).trans a_1))))))))
  have na_2 : w5.cell? ⟨w.heap.size, 2, none⟩ = some (.int .i64 li) := keep1 hb ((setO (by omega)).trans ((setO (by omega)).trans ((setO (by omega)).trans ((setO (by omega)).trans ((setO (by omega)).trans ((setO (by omega)).trans ((setO (by omega)).trans ((setO (by omega)).trans a_2))))))))
  have na_3 : w5.cell? ⟨w.heap.size, 3, none⟩ = some (.int .i64 sz) := keep1 hb ((setO (by omega)).trans ((setO (by omega)).trans ((setO (by omega)).trans ((setO (by omega)).trans ((setO (by omega)).trans ((setO (by omega)).trans ((setO (by omega)).trans ((setO (by omega)).trans a_3))))))))
  have na_4 : w5.cell? ⟨w.heap.size, 4, none⟩ = some (.int .i64 mt) := keep1 hb ((setO (by omega)).trans ((setO (by omega)).trans ((setO (by omega)).trans ((setO (by omega)).trans ((setO (by omega)).trans ((setO (by omega)).trans ((setO (by omega)).trans ((setO (by omega)).trans a_4))))))))
  have na_5 : w5.cell? ⟨w.heap.size, 5, none⟩ = some (.int .i64 ct) := keep1 hb ((setO (by omega)).trans ((setO (by omega)).trans ((setO (by omega)).trans ((setO (by omega)).trans ((setO (by omega)).trans ((setO (by omega)).trans ((setO (by omega)).trans ((setO (by omega)).trans a_5))))))))
  have na_6 : w5.cell? ⟨w.heap.size, 6, none⟩ = some (.int .i64 ino) := keep1 hb ((setO (by omega)).trans ((setO (by omega)).trans ((setO (by omega)).trans ((setO (by omega)).trans ((setO (by omega)).trans ((setO (by omega)).trans ((setO (by omega)).trans ((setO (by omega)).trans a_6))))))))
  have na_7 : w5.cell? ⟨w.heap.size, 7, none⟩ = some (.int .i64 gen) := keep1 hb ((setO (by omega)).trans ((setO (by omega)).trans ((setO (by omega)).trans ((setO (by omega)).trans ((setO (by omega)).trans ((setO (by omega)).trans ((setO (by omega)).trans ((setO (by omega)).trans a_7))))))))
  have na_f : ∀ i, w5.frozen? ⟨w.heap.size, i, none⟩ = false := fun i => (hb.frozen (p := ⟨w.heap.size, i, none⟩) (by first | omega | (simp; omega) | simp)).trans (frozS (frozS (frozS (frozS (frozS (frozS (frozS (frozS (a_f i)))))))))
  have nb_0 : w5.cell? ⟨w3.heap.size, 0, none⟩ = some (.int .u8 k) := keep1 hb ((setO (by omega)).trans ((setO (by omega)).trans ((setO (by omega)).trans ((setO (by omega)).trans ((setO (by omega)).trans ((setO (by omega)).trans ((setO (by omega)).trans (setS b_0))))))))
  have nb_1 : w5.cell? ⟨w3.heap.size, 1, none⟩ = some (.int .i64 mo) := keep1 hb ((setO (by omega)).trans ((setO (by omega)).trans ((setO (by omega)).trans ((setO (by omega)).trans ((setO (by omega)).trans ((setO (by omega)).trans (setS ((setO (by omega)).trans b_1))))))))
  have nb_2 : w5.cell? ⟨w3.heap.size, 2, none⟩ = some (.int .i64 li) := keep1 hb ((setO (by omega)).trans ((setO (by omega)).trans ((setO (by omega)).trans ((setO (by omega)).trans ((setO (by omega)).trans (setS ((setO (by omega)).trans ((setO (by omega)).trans b_2))))))))
  have nb_3 : w5.cell? ⟨w3.heap.size, 3, none⟩ = some (.int .i64 size) := keep1 hb ((setO (by omega)).trans ((setO (by omega)).trans ((setO (by omega)).trans ((setO (by omega)).trans (setS ((setO (by omega)).trans ((setO (by omega)).trans ((setO (by omega)).trans b_3))))))))
  have nb_4 : w5.cell? ⟨w3.heap.size, 4, none⟩ = some (.int .i64 now) := keep1 hb ((setO (by omega)).trans ((setO (by omega)).trans ((setO (by omega)).trans (setS ((setO (by omega)).trans ((setO (by omega)).trans ((setO (by omega)).trans ((setO (by omega)).trans b_4))))))))
  have nb_5 : w5.cell? ⟨w3.heap.size, 5, none⟩ = some (.int .i64 now) := keep1 hb ((setO (by omega)).trans ((setO (by omega)).trans (setS ((setO (by omega)).trans ((setO (by omega)).trans ((setO (by omega)).trans ((setO (by omega)).trans ((setO (by omega)).trans b_5))))))))
  have nb_6 : w5.cell? ⟨w3.heap.size, 6, none⟩ = some (.int .i64 ino) := keep1 hb ((setO (by omega)).trans (setS ((setO (by omega)).trans ((setO (by omega)).trans ((setO (by omega)).trans ((setO (by omega)).trans ((setO (by omega)).trans ((setO (by omega)).trans b_6))))))))
  have nb_7 : w5.cell? ⟨w3.heap.size, 7, none⟩ = some (.int .i64 gen) := keep1 hb (setS ((setO (by omega)).trans ((setO (by omega)).trans ((setO (by omega)).trans ((setO (by omega)).trans ((setO (by omega)).trans ((setO (by omega)).trans ((setO (by omega)).trans b_7))))))))
  have nb_f : ∀ i, w5.frozen? ⟨w3.heap.size, i, none⟩ = false := fun i => (hb.frozen (p := ⟨w3.heap.size, i, none⟩) (by first | omega | (simp; omega) | simp)).trans (frozS (frozS (frozS (frozS (frozS (frozS (frozS (frozS (b_f i)))))))))
  clear a_0 a_1 a_2 a_3 a_4 a_5 a_6 a_7 a_f b_0 b_1 b_2 b_3 b_4 b_5 b_6 b_7 b_f
  have a_0 := na_0; clear na_0
  have a_1 := na_1; clear na_1
  have a_2 := na_2; clear na_2
  have a_3 := na_3; clear na_3
  have a_4 := na_4; clear na_4
  have a_5 := na_5; clear na_5
  have a_6 := na_6; clear na_6
  have a_7 := na_7; clear na_7
  have a_f := na_f; clear na_f
  have b_0 := nb_0; clear nb_0
  have b_1 := nb_1; clear nb_1
  have b_2 := nb_2; clear nb_2
  have b_3 := nb_3; clear nb_3
  have b_4 := nb_4; clear nb_4
  have b_5 := nb_5; clear nb_5
  have b_6 := nb_6; clear nb_6
  have b_7 := nb_7; clear nb_7
  have b_f := nb_f; clear nb_f
  clear hb B4
  have B5 := Lib.hid hb'
  have hw5 := hb'.size
  clear hb'
  have hsa40 : w.heap.size < w5.heap.size := by omega
  have hsa41 : w.heap.size < w5.heap.size + 1 := by omega
  have hsa42 : w.heap.size < w5.heap.size + 1 + 1 := by omega
  have hsb40 : w3.heap.size < w5.heap.size := by omega
  have hsb41 : w3.heap.size < w5.heap.size + 1 := by omega
  have hsb42 : w3.heap.size < w5.heap.size + 1 + 1 := by omega
  go_wp2_with fail
  go_region
  go_wp2_with fail
  refine (moded_any _ _ _ _ _ _ _ _ _ _ _).mono ?_
  rintro e w6 ⟨rfl, hb⟩
  rw [HD.out]
  have hb' : Below w.heap.size w w6 := Below.trans (by have := B5.out; go_grown) (hb.mono (by first | omega | (simp; omega) | simp))
  have hz6 : w5.heap.size ≤ w6.heap.size := by have := hb.size; first | omega | (simp at this; omega)
  have na_0 : w6.cell? ⟨w.heap.size, 0, none⟩ = some (.int .u8 k) := keep1 hb ((setO (by omega)).trans ((setO (by omega)).trans ((setO (by omega)).trans a_0)))
  have na_1 : w6.cell? ⟨w.heap.size, 1, none⟩ = some (.int .i64 mo) := keep1 hb ((setO (by omega)).trans ((setO (by omega)).trans ((setO (by omega)).trans a_1)))
  have na_2 : w6.cell? ⟨w.heap.size, 2, none⟩ = some (.int .i64 li) := keep1 hb ((setO (by omega)).trans ((setO (by omega)).trans ((setO (by omega)).trans a_2)))
  have na_3 : w6.cell? ⟨w.heap.size, 3, none⟩ = some (.int .i64 sz) := keep1 hb ((setO (by omega)).trans ((setO (by omega)).trans ((setO (by omega)).trans a_3)))
  have na_4 : w6.cell? ⟨w.heap.size, 4, none⟩ = some (.int .i64 mt) := keep1 hb ((setO (by omega)).trans ((setO (by omega)).trans ((setO (by omega)).trans a_4)))
  have na_5 : w6.cell? ⟨w.heap.size, 5, none⟩ = some (.int .i64 ct) := keep1 hb ((setO (by omega)).trans ((setO (by omega)).trans ((setO (by omega)).trans a_5)))
  have na_6 : w6.cell? ⟨w.heap.size, 6, none⟩ = some (.int .i64 ino) := keep1 hb ((setO (by omega)).trans ((setO (by omega)).trans ((setO (by omega)).trans a_6)))
  have na_7 : w6.cell? ⟨w.heap.size, 7, none⟩ = some (.int .i64 gen) := keep1 hb ((setO (by omega)).trans ((setO (by omega)).trans ((setO (by omega)).trans a_7)))
  have na_f : ∀ i, w6.frozen? ⟨w.heap.size, i, none⟩ = false := fun i => (hb.frozen (p := ⟨w.heap.size, i, none⟩) (by first | omega | (simp; omega) | simp)).trans (frozS (frozS (frozS (a_f i))))
  have nb_0 : w6.cell? ⟨w3.heap.size, 0, none⟩ = some (.int .u8 k) := keep1 hb ((setO (by omega)).trans ((setO (by omega)).trans ((setO (by omega)).trans b_0)))
  have nb_1 : w6.cell? ⟨w3.heap.size, 1, none⟩ = some (.int .i64 mo) := keep1 hb ((setO (by omega)).trans ((setO (by omega)).trans ((setO (by omega)).trans b_1)))
  have nb_2 : w6.cell? ⟨w3.heap.size, 2, none⟩ = some (.int .i64 li) := keep1 hb ((setO (by omega)).trans ((setO (by omega)).trans ((setO (by omega)).trans b_2)))
  have nb_3 : w6.cell? ⟨w3.heap.size, 3, none⟩ = some (.int .i64 sz) := keep1 hb ((setO (by omega)).trans ((setO (by omega)).trans (setS b_3)))
  have nb_4 : w6.cell? ⟨w3.heap.size, 4, none⟩ = some (.int .i64 mt) := keep1 hb ((setO (by omega)).trans (setS ((setO (by omega)).trans b_4)))
  have nb_5 : w6.cell? ⟨w3.heap.size, 5, none⟩ = some (.int .i64 ct) := keep1 hb (setS ((setO (by omega)).trans ((setO (by omega)).trans b_5)))
  have nb_6 : w6.cell? ⟨w3.heap.size, 6, none⟩ = some (.int .i64 ino) := keep1 hb ((setO (by omega)).trans ((setO (by omega)).trans ((setO (by omega)).trans b_6)))
  have nb_7 : w6.cell? ⟨w3.heap.size, 7, none⟩ = some (.int .i64 gen) := keep1 hb ((setO (by omega)).trans ((setO (by omega)).trans ((setO (by omega)).trans b_7)))
  have nb_f : ∀ i, w6.frozen? ⟨w3.heap.size, i, none⟩ = false := fun i => (hb.frozen (p := ⟨w3.heap.size, i, none⟩) (by first | omega | (simp; omega) | simp)).trans (frozS (frozS (frozS (b_f i))))
  clear a_0 a_1 a_2 a_3 a_4 a_5 a_6 a_7 a_f b_0 b_1 b_2 b_3 b_4 b_5 b_6 b_7 b_f
  have a_0 := na_0; clear na_0
  have a_1 := na_1; clear na_1
  have a_2 := na_2; clear na_2
  have a_3 := na_3; clear na_3
  have a_4 := na_4; clear na_4
  have a_5 := na_5; clear na_5
  have a_6 := na_6; clear na_6
  have a_7 := na_7; clear na_7
  have a_f := na_f; clear na_f
  have b_0 := nb_0; clear nb_0
  have b_1 := nb_1; clear nb_1
  have b_2 := nb_2; clear nb_2
  have b_3 := nb_3; clear nb_3
  have b_4 := nb_4; clear nb_4
  have b_5 := nb_5; clear nb_5
  have b_6 := nb_6; clear nb_6
  have b_7 := nb_7; clear nb_7
  have b_f := nb_f; clear nb_f
  clear hb B5
  have B6 := Lib.hid hb'
  have hw6 := hb'.size
  clear hb'
  have hsa50 : w.heap.size < w6.heap.size := by omega
  have hsa51 : w.heap.size < w6.heap.size + 1 := by omega
  have hsa52 : w.heap.size < w6.heap.size + 1 + 1 := by omega
  have hsb50 : w3.heap.size < w6.heap.size := by omega
  have hsb51 : w3.heap.size < w6.heap.size + 1 := by omega
  have hsb52 : w3.heap.size < w6.heap.size + 1 + 1 := by omega
  go_wp2_with fail
  refine (may_any _ _ _ _ _ _ _ _ _).mono ?_
  rintro e w7 ⟨rfl, hb⟩
  rw [HMM.out]
  have hb' : Below w.heap.size w w7 := Below.trans (by have := B6.out; go_grown) (hb.mono (by first | omega | (simp; omega) | simp))
  have hz7 : w6.heap.size ≤ w7.heap.size := by have := hb.size; first | omega | (simp at this; omega)
  have na_0 : w7.cell? ⟨w.heap.size, 0, none⟩ = some (.int .u8 k) := keep1 hb ((setO (by omega)).trans ((setO (by omega)).trans ((setO (by omega)).trans ((setO (by omega)).trans ((setO (by omega)).trans ((setO (by omega)).trans ((setO (by omega)).trans ((setO (by omega)).trans a_0))))))))
  have na_1 : w7.cell? ⟨w.heap.size, 1, none⟩ = some (.int .i64 mo) := keep1 hb ((setO (by omega)).trans ((setO (by omega)).trans ((setO (by omega)).trans ((setO (by omega)).trans ((setO (by omega)).trans ((setO (by omega)).trans ((setO (by omega)).trans ((setO (by omega)).trans a_1))))))))
  have na_2 : w7.cell? ⟨w.heap.size, 2, none⟩ = some (.int .i64 li) := keep1 hb ((setO (by omega)).trans ((setO (by omega)).trans ((setO (by omega)).trans ((setO (by omega)).trans ((setO (by omega)).trans ((setO (by omega)).trans ((setO (by omega)).trans ((setO (by omega)).trans a_2))))))))
  have na_3 : w7.cell? ⟨w.heap.size, 3, none⟩ = some (.int .i64 sz) := keep1 hb ((setO (by omega)).trans ((setO (by omega)).trans ((setO (by omega)).trans ((setO (by omega)).trans ((setO (by omega)).trans ((setO (by omega)).trans ((setO (by omega)).trans ((setO (by omega)).trans a_3))))))))
  have na_4 : w7.cell? ⟨w.heap.size, 4, none⟩ = some (.int .i64 mt) := keep1 hb ((setO (by omega)).trans ((setO (by omega)).trans ((setO (by omega)).trans ((setO (by omega)).trans ((setO (by omega)).trans ((setO (by omega)).trans ((setO (by omega)).trans ((setO (by omega)).trans a_4))))))))
  have na_5 : w7.cell? ⟨w.heap.size, 5, none⟩ = some (.int .i64 ct) := keep1 hb ((setO (by omega)).trans ((setO (by omega)).trans ((setO (by omega)).trans ((setO (by omega)).trans ((setO (by omega)).trans ((setO (by omega)).trans ((setO (by omega)).trans ((setO (by omega)).trans a_5))))))))
  have na_6 : w7.cell? ⟨w.heap.size, 6, none⟩ = some (.int .i64 ino) := keep1 hb ((setO (by omega)).trans ((setO (by omega)).trans ((setO (by omega)).trans ((setO (by omega)).trans ((setO (by omega)).trans ((setO (by omega)).trans ((setO (by omega)).trans ((setO (by omega)).trans a_6))))))))
  have na_7 : w7.cell? ⟨w.heap.size, 7, none⟩ = some (.int .i64 gen) := keep1 hb ((setO (by omega)).trans ((setO (by omega)).trans ((setO (by omega)).trans ((setO (by omega)).trans ((setO (by omega)).trans ((setO (by omega)).trans ((setO (by omega)).trans ((setO (by omega)).trans a_7))))))))
  have na_f : ∀ i, w7.frozen? ⟨w.heap.size, i, none⟩ = false := fun i => (hb.frozen (p := ⟨w.heap.size, i, none⟩) (by first | omega | (simp; omega) | simp)).trans (frozS (frozS (frozS (frozS (frozS (frozS (frozS (frozS (a_f i)))))))))
  have nb_0 : w7.cell? ⟨w3.heap.size, 0, none⟩ = some (.int .u8 k) := keep1 hb ((setO (by omega)).trans ((setO (by omega)).trans ((setO (by omega)).trans ((setO (by omega)).trans ((setO (by omega)).trans ((setO (by omega)).trans ((setO (by omega)).trans (setS b_0))))))))
  have nb_1 : w7.cell? ⟨w3.heap.size, 1, none⟩ = some (.int .i64 mode) := keep1 hb ((setO (by omega)).trans ((setO (by omega)).trans ((setO (by omega)).trans ((setO (by omega)).trans ((setO (by omega)).trans ((setO (by omega)).trans (setS ((setO (by omega)).trans b_1))))))))
  have nb_2 : w7.cell? ⟨w3.heap.size, 2, none⟩ = some (.int .i64 li) := keep1 hb ((setO (by omega)).trans ((setO (by omega)).trans ((setO (by omega)).trans ((setO (by omega)).trans ((setO (by omega)).trans (setS ((setO (by omega)).trans ((setO (by omega)).trans b_2))))))))
  have nb_3 : w7.cell? ⟨w3.heap.size, 3, none⟩ = some (.int .i64 sz) := keep1 hb ((setO (by omega)).trans ((setO (by omega)).trans ((setO (by omega)).trans ((setO (by omega)).trans (setS ((setO (by omega)).trans ((setO (by omega)).trans ((setO (by omega)).trans b_3))))))))
  have nb_4 : w7.cell? ⟨w3.heap.size, 4, none⟩ = some (.int .i64 mt) := keep1 hb ((setO (by omega)).trans ((setO (by omega)).trans ((setO (by omega)).trans (setS ((setO (by omega)).trans ((setO (by omega)).trans ((setO (by omega)).trans ((setO (by omega)).trans b_4))))))))
  have nb_5 : w7.cell? ⟨w3.heap.size, 5, none⟩ = some (.int .i64 now) := keep1 hb ((setO (by omega)).trans ((setO (by omega)).trans (setS ((setO (by omega)).trans ((setO (by omega)).trans ((setO (by omega)).trans ((setO (by omega)).trans ((setO (by omega)).trans b_5))))))))
  have nb_6 : w7.cell? ⟨w3.heap.size, 6, none⟩ = some (.int .i64 ino) := keep1 hb ((setO (by omega)).trans (setS ((setO (by omega)).trans ((setO (by omega)).trans ((setO (by omega)).trans ((setO (by omega)).trans ((setO (by omega)).trans ((setO (by omega)).trans b_6))))))))
  have nb_7 : w7.cell? ⟨w3.heap.size, 7, none⟩ = some (.int .i64 gen) := keep1 hb (setS ((setO (by omega)).trans ((setO (by omega)).trans ((setO (by omega)).trans ((setO (by omega)).trans ((setO (by omega)).trans ((setO (by omega)).trans ((setO (by omega)).trans b_7))))))))
  have nb_f : ∀ i, w7.frozen? ⟨w3.heap.size, i, none⟩ = false := fun i => (hb.frozen (p := ⟨w3.heap.size, i, none⟩) (by first | omega | (simp; omega) | simp)).trans (frozS (frozS (frozS (frozS (frozS (frozS (frozS (frozS (b_f i)))))))))
  clear a_0 a_1 a_2 a_3 a_4 a_5 a_6 a_7 a_f b_0 b_1 b_2 b_3 b_4 b_5 b_6 b_7 b_f
  have a_0 := na_0; clear na_0
  have a_1 := na_1; clear na_1
  have a_2 := na_2; clear na_2
  have a_3 := na_3; clear na_3
  have a_4 := na_4; clear na_4
  have a_5 := na_5; clear na_5
  have a_6 := na_6; clear na_6
  have a_7 := na_7; clear na_7
  have a_f := na_f; clear na_f
  have b_0 := nb_0; clear nb_0
  have b_1 := nb_1; clear nb_1
  have b_2 := nb_2; clear nb_2
  have b_3 := nb_3; clear nb_3
  have b_4 := nb_4; clear nb_4
  have b_5 := nb_5; clear nb_5
  have b_6 := nb_6; clear nb_6
  have b_7 := nb_7; clear nb_7
  have b_f := nb_f; clear nb_f
  clear hb B6
  have B7 := Lib.hid hb'
  have hw7 := hb'.size
  clear hb'
  have hsa60 : w.heap.size < w7.heap.size := by omega
  have hsa61 : w.heap.size < w7.heap.size + 1 := by omega
  have hsa62 : w.heap.size < w7.heap.size + 1 + 1 := by omega
  have hsb60 : w3.heap.size < w7.heap.size := by omega
  have hsb61 : w3.heap.size < w7.heap.size + 1 := by omega
  have hsb62 : w3.heap.size < w7.heap.size + 1 + 1 := by omega
  go_wp2_with fail
  go_region
  go_wp2_with fail
  go_ret
  exact ⟨ret_bool (by simp), by have := B7.out; go_grown⟩

set_option maxHeartbeats 4000000 in
theorem may_010 (k mo li sz mt ct ino gen mode size now : Int) (cl : Int) (cm : Int) (w : World) (b1 : -9223372036854775808 ≤ li) (b2 : li ≤ 9223372036854775807) (HM : mayB k mo li sz mt ct ino gen = true) (HL : linkedR k mo li sz mt ct ino gen 1 now = .tuple #[.agg #[.int .u8 0, .int .i64 0, .int .i64 0, .int .i64 0, .int .i64 0, .int .i64 0, .int .i64 0, .int .i64 0], .int .i64 cl]) (ncl : (cl == 0) = false) (HS : sizedR k mo li sz mt ct ino gen size now = .tuple #[.agg #[.int .u8 k, .int .i64 mo, .int .i64 li, .int .i64 size, .int .i64 now, .int .i64 now, .int .i64 ino, .int .i64 gen], .int .i64 0]) (HMS : mayB k mo li size now now ino gen = true) (HD : modedR k mo li sz mt ct ino gen mode now = .tuple #[.agg #[.int .u8 0, .int .i64 0, .int .i64 0, .int .i64 0, .int .i64 0, .int .i64 0, .int .i64 0, .int .i64 0], .int .i64 cm]) (ncm : (cm == 0) = false) :
    Calls Try.prog 4 #[.agg #[.int .u8 k, .int .i64 mo, .int .i64 li, .int .i64 sz, .int .i64 mt, .int .i64 ct, .int .i64 ino, .int .i64 gen], .int .i64 mode, .int .i64 size, .int .i64 now] w fun e w' => e = .returned (.bool true) ∧ Below w.heap.size w w' := by
  replace HM := Lib.hid HM
  replace HL := Lib.hid HL
  replace HS := Lib.hid HS
  replace HD := Lib.hid HD
  replace HMS := Lib.hid HMS
  go_enter Try.func4, Try.ntmps4
  go_wp2_with fail
  refine (may_any _ _ _ _ _ _ _ _ _).mono ?_
  rintro e w1 ⟨rfl, hb⟩
  rw [HM.out]
  have hb' : Below w.heap.size w w1 := Below.trans (by go_grown) (hb.mono (by first | omega | (simp; omega) | simp))
  have hz1 : w.heap.size + 1 ≤ w1.heap.size := by have := hb.size; first | omega | (simp at this; omega)
  have na_0 : w1.cell? ⟨w.heap.size, 0, none⟩ = some (.int .u8 k) := keep1 hb ((cellN _ _ _ _ (by first | rfl | simp) _).trans rfl)
  have na_1 : w1.cell? ⟨w.heap.size, 1, none⟩ = some (.int .i64 mo) := keep1 hb ((cellN _ _ _ _ (by first | rfl | simp) _).trans rfl)
  have na_2 : w1.cell? ⟨w.heap.size, 2, none⟩ = some (.int .i64 li) := keep1 hb ((cellN _ _ _ _ (by first | rfl | simp) _).trans rfl)
  have na_3 : w1.cell? ⟨w.heap.size, 3, none⟩ = some (.int .i64 sz) := keep1 hb ((cellN _ _ _ _ (by first | rfl | simp) _).trans rfl)
  have na_4 : w1.cell? ⟨w.heap.size, 4, none⟩ = some (.int .i64 mt) := keep1 hb ((cellN _ _ _ _ (by first | rfl | simp) _).trans rfl)
  have na_5 : w1.cell? ⟨w.heap.size, 5, none⟩ = some (.int .i64 ct) := keep1 hb ((cellN _ _ _ _ (by first | rfl | simp) _).trans rfl)
  have na_6 : w1.cell? ⟨w.heap.size, 6, none⟩ = some (.int .i64 ino) := keep1 hb ((cellN _ _ _ _ (by first | rfl | simp) _).trans rfl)
  have na_7 : w1.cell? ⟨w.heap.size, 7, none⟩ = some (.int .i64 gen) := keep1 hb ((cellN _ _ _ _ (by first | rfl | simp) _).trans rfl)
  have na_f : ∀ i, w1.frozen? ⟨w.heap.size, i, none⟩ = false := fun i => (hb.frozen (p := ⟨w.heap.size, i, none⟩) (by first | omega | (simp; omega) | simp)).trans (frozN (by first | rfl | simp))
  have a_0 := na_0; clear na_0
  have a_1 := na_1; clear na_1
  have a_2 := na_2; clear na_2
  have a_3 := na_3; clear na_3
  have a_4 := na_4; clear na_4
  have a_5 := na_5; clear na_5
  have a_6 := na_6; clear na_6
  have a_7 := na_7; clear na_7
  have a_f := na_f; clear na_f
  clear hb
  have B1 := Lib.hid hb'
  have hw1 := hb'.size
  clear hb'
  have hsa00 : w.heap.size < w1.heap.size := by omega
  have hsa01 : w.heap.size < w1.heap.size + 1 := by omega
  have hsa02 : w.heap.size < w1.heap.size + 1 + 1 := by omega
  go_wp2_with fail
  refine (awake20 _).mono ?_
  rintro e w2 ⟨rfl, hb⟩
  have hb' : Below w.heap.size w w2 := Below.trans (by have := B1.out; go_grown) (hb.mono (by first | omega | (simp; omega) | simp))
  have hz2 : w1.heap.size ≤ w2.heap.size := by have := hb.size; first | omega | (simp at this; omega)
  have na_0 : w2.cell? ⟨w.heap.size, 0, none⟩ = some (.int .u8 k) := keep1 hb a_0
  have na_1 : w2.cell? ⟨w.heap.size, 1, none⟩ = some (.int .i64 mo) := keep1 hb a_1
  have na_2 : w2.cell? ⟨w.heap.size, 2, none⟩ = some (.int .i64 li) := keep1 hb a_2
  have na_3 : w2.cell? ⟨w.heap.size, 3, none⟩ = some (.int .i64 sz) := keep1 hb a_3
  have na_4 : w2.cell? ⟨w.heap.size, 4, none⟩ = some (.int .i64 mt) := keep1 hb a_4
  have na_5 : w2.cell? ⟨w.heap.size, 5, none⟩ = some (.int .i64 ct) := keep1 hb a_5
  have na_6 : w2.cell? ⟨w.heap.size, 6, none⟩ = some (.int .i64 ino) := keep1 hb a_6
  have na_7 : w2.cell? ⟨w.heap.size, 7, none⟩ = some (.int .i64 gen) := keep1 hb a_7
  have na_f : ∀ i, w2.frozen? ⟨w.heap.size, i, none⟩ = false := fun i => (hb.frozen (p := ⟨w.heap.size, i, none⟩) (by first | omega | (simp; omega) | simp)).trans (a_f i)
  clear a_0 a_1 a_2 a_3 a_4 a_5 a_6 a_7 a_f
  have a_0 := na_0; clear na_0
  have a_1 := na_1; clear na_1
  have a_2 := na_2; clear na_2
  have a_3 := na_3; clear na_3
  have a_4 := na_4; clear na_4
  have a_5 := na_5; clear na_5
  have a_6 := na_6; clear na_6
  have a_7 := na_7; clear na_7
  have a_f := na_f; clear na_f
  clear hb B1
  have B2 := Lib.hid hb'
  have hw2 := hb'.size
  clear hb'
  have hsa10 : w.heap.size < w2.heap.size := by omega
  have hsa11 : w.heap.size < w2.heap.size + 1 := by omega
  have hsa12 : w.heap.size < w2.heap.size + 1 + 1 := by omega
  go_wp2_with fail
  refine (linked_any _ _ _ _ _ _ _ _ _ _ _ b1 b2).mono ?_
  rintro e w3 ⟨rfl, hb⟩
  rw [HL.out]
  have hb' : Below w.heap.size w w3 := Below.trans (by have := B2.out; go_grown) (hb.mono (by first | omega | (simp; omega) | simp))
  have hz3 : w2.heap.size ≤ w3.heap.size := by have := hb.size; first | omega | (simp at this; omega)
  have na_0 : w3.cell? ⟨w.heap.size, 0, none⟩ = some (.int .u8 k) := keep1 hb a_0
  have na_1 : w3.cell? ⟨w.heap.size, 1, none⟩ = some (.int .i64 mo) := keep1 hb a_1
  have na_2 : w3.cell? ⟨w.heap.size, 2, none⟩ = some (.int .i64 li) := keep1 hb a_2
  have na_3 : w3.cell? ⟨w.heap.size, 3, none⟩ = some (.int .i64 sz) := keep1 hb a_3
  have na_4 : w3.cell? ⟨w.heap.size, 4, none⟩ = some (.int .i64 mt) := keep1 hb a_4
  have na_5 : w3.cell? ⟨w.heap.size, 5, none⟩ = some (.int .i64 ct) := keep1 hb a_5
  have na_6 : w3.cell? ⟨w.heap.size, 6, none⟩ = some (.int .i64 ino) := keep1 hb a_6
  have na_7 : w3.cell? ⟨w.heap.size, 7, none⟩ = some (.int .i64 gen) := keep1 hb a_7
  have na_f : ∀ i, w3.frozen? ⟨w.heap.size, i, none⟩ = false := fun i => (hb.frozen (p := ⟨w.heap.size, i, none⟩) (by first | omega | (simp; omega) | simp)).trans (a_f i)
  clear a_0 a_1 a_2 a_3 a_4 a_5 a_6 a_7 a_f
  have a_0 := na_0; clear na_0
  have a_1 := na_1; clear na_1
  have a_2 := na_2; clear na_2
  have a_3 := na_3; clear na_3
  have a_4 := na_4; clear na_4
  have a_5 := na_5; clear na_5
  have a_6 := na_6; clear na_6
  have a_7 := na_7; clear na_7
  have a_f := na_f; clear na_f
  clear hb B2
  have B3 := Lib.hid hb'
  have hw3 := hb'.size
  clear hb'
  have hsa20 : w.heap.size < w3.heap.size := by omega
  have hsa21 : w.heap.size < w3.heap.size + 1 := by omega
  have hsa22 : w.heap.size < w3.heap.size + 1 + 1 := by omega
  go_wp2_with fail
  refine (sized_any _ _ _ _ _ _ _ _ _ _ _).mono ?_
  rintro e w4 ⟨rfl, hb⟩
  rw [HS.out]
  have hb' : Below w.heap.size w w4 := Below.trans (by have := B3.out; go_grown) (hb.mono (by first | omega | (simp; omega) | simp))
  have hz4 : w3.heap.size + 1 ≤ w4.heap.size := by have := hb.size; first | omega | (simp at this; omega)
  have na_0 : w4.cell? ⟨w.heap.size, 0, none⟩ = some (.int .u8 k) := keep1 hb (cellP (by first | omega | (simp; omega) | simp) a_0)
  have na_1 : w4.cell? ⟨w.heap.size, 1, none⟩ = some (.int .i64 mo) := keep1 hb (cellP (by first | omega | (simp; omega) | simp) a_1)
  have na_2 : w4.cell? ⟨w.heap.size, 2, none⟩ = some (.int .i64 li) := keep1 hb (cellP (by first | omega | (simp; omega) | simp) a_2)
  have na_3 : w4.cell? ⟨w.heap.size, 3, none⟩ = some (.int .i64 sz) := keep1 hb (cellP (by first | omega | (simp; omega) | simp) a_3)
  have na_4 : w4.cell? ⟨w.heap.size, 4, none⟩ = some (.int .i64 mt) := keep1 hb (cellP (by first | omega | (simp; omega) | simp) a_4)
  have na_5 : w4.cell? ⟨w.heap.size, 5, none⟩ = some (.int .i64 ct) := keep1 hb (cellP (by first | omega | (simp; omega) | simp) a_5)
  have na_6 : w4.cell? ⟨w.heap.size, 6, none⟩ = some (.int .i64 ino) := keep1 hb (cellP (by first | omega | (simp; omega) | simp) a_6)
  have na_7 : w4.cell? ⟨w.heap.size, 7, none⟩ = some (.int .i64 gen) := keep1 hb (cellP (by first | omega | (simp; omega) | simp) a_7)
  have na_f : ∀ i, w4.frozen? ⟨w.heap.size, i, none⟩ = false := fun i => (hb.frozen (p := ⟨w.heap.size, i, none⟩) (by first | omega | (simp; omega) | simp)).trans (frozP (by first | omega | (simp; omega) | simp) (a_f i))
  have nb_0 : w4.cell? ⟨w3.heap.size, 0, none⟩ = some (.int .u8 0) := keep1 hb ((cellN _ _ _ _ (by first | rfl | simp) _).trans rfl)
  have nb_1 : w4.cell? ⟨w3.heap.size, 1, none⟩ = some (.int .i64 0) := keep1 hb ((cellN _ _ _ _ (by first | rfl | simp) _).trans rfl)
  have nb_2 : w4.cell? ⟨w3.heap.size, 2, none⟩ = some (.int .i64 0) := keep1 hb ((cellN _ _ _ _ (by first | rfl | simp) _).trans rfl)
  have nb_3 : w4.cell? ⟨w3.heap.size, 3, none⟩ = some (.int .i64 0) := keep1 hb ((cellN _ _ _ _ (by first | rfl | simp) _).trans rfl)
  have nb_4 : w4.cell? ⟨w3.heap.size, 4, none⟩ = some (.int .i64 0) := keep1 hb ((cellN _ _ _ _ (by first | rfl | simp) _).trans rfl)
  have nb_5 : w4.cell? ⟨w3.heap.size, 5, none⟩ = some (.int .i64 0) := keep1 hb ((cellN _ _ _ _ (by first | rfl | simp) _).trans rfl)
  have nb_6 : w4.cell? ⟨w3.heap.size, 6, none⟩ = some (.int .i64 0) := keep1 hb ((cellN _ _ _ _ (by first | rfl | simp) _).trans rfl)
  have nb_7 : w4.cell? ⟨w3.heap.size, 7, none⟩ = some (.int .i64 0) := keep1 hb ((cellN _ _ _ _ (by first | rfl | simp) _).trans rfl)
  have nb_f : ∀ i, w4.frozen? ⟨w3.heap.size, i, none⟩ = false := fun i => (hb.frozen (p := ⟨w3.heap.size, i, none⟩) (by first | omega | (simp; omega) | simp)).trans (frozN (by first | rfl | simp))
  clear a_0 a_1 a_2 a_3 a_4 a_5 a_6 a_7 a_f
  have a_0 := na_0; clear na_0
  have a_1 := na_1; clear na_1
  have a_2 := na_2; clear na_2
  have a_3 := na_3; clear na_3
  have a_4 := na_4; clear na_4
  have a_5 := na_5; clear na_5
  have a_6 := na_6; clear na_6
  have a_7 := na_7; clear na_7
  have a_f := na_f; clear na_f
  have b_0 := nb_0; clear nb_0
  have b_1 := nb_1; clear nb_1
  have b_2 := nb_2; clear nb_2
  have b_3 := nb_3; clear nb_3
  have b_4 := nb_4; clear nb_4
  have b_5 := nb_5; clear nb_5
  have b_6 := nb_6; clear nb_6
  have b_7 := nb_7; clear nb_7
  have b_f := nb_f; clear nb_f
  clear hb B3
  have B4 := Lib.hid hb'
  have hw4 := hb'.size
  clear hb'
  have hsa30 : w.heap.size < w4.heap.size := by omega
  have hsa31 : w.heap.size < w4.heap.size + 1 := by omega
  have hsa32 : w.heap.size < w4.heap.size + 1 + 1 := by omega
  have hsb30 : w3.heap.size < w4.heap.size := by omega
  have hsb31 : w3.heap.size < w4.heap.size + 1 := by omega
  have hsb32 : w3.heap.size < w4.heap.size + 1 + 1 := by omega
  go_wp2_with fail
  refine (may_any _ _ _ _ _ _ _ _ _).mono ?_
  rintro e w5 ⟨rfl, hb⟩
  rw [HMS.out]
  have hb' : Below w.heap.size w w5 := Below.trans (by have := B4.out; go_grown) (hb.mono (by first | omega | (simp; omega) | simp))
  have hz5 : w4.heap.size ≤ w5.heap.size := by have := hb.size; first | omega | (simp at this; omega)
  have na_0 : w5.cell? ⟨w.heap.size, 0, none⟩ = some (.int .u8 k) := keep1 hb ((setO (by omega)).trans ((setO (by omega)).trans ((setO (by omega)).trans ((setO (by omega)).trans ((setO (by omega)).trans ((setO (by omega)).trans ((setO (by omega)).trans ((setO (by omega)).trans a_0))))))))
  have na_1 : w5.cell? ⟨w.heap.size, 1, none⟩ = some (.int .i64 mo) := keep1 hb ((setO (by omega)).trans ((setO (by omega)).trans ((setO (by omega)).trans ((setO (by omega)).trans ((setO (by omega)).trans ((setO (by omega)).trans ((setO (by omega)).trans ((setO (by omega)).trans a_1))))))))
  have na_2 : w5.cell? ⟨w.heap.size, 2, none⟩ = some (.int .i64 li) := keep1 hb ((setO (by omega)).trans ((setO (by omega)).trans ((setO (by omega)).trans ((setO (by omega)).trans ((setO (by omega)).trans ((setO (by omega)).trans ((setO (by omega)).trans ((setO (by omega)).trans a_2))))))))
  have na_3 : w5.cell? ⟨w.heap.size, 3, none⟩ = some (.int .i64 sz) := keep1 hb ((setO (by omega)).trans ((setO (by omega)).trans ((setO (by omega)).trans ((setO (by omega)).trans ((setO (by omega)).trans ((setO (by omega)).trans ((setO (by omega)).trans ((setO (by omega)).trans a_3))))))))
  have na_4 : w5.cell? ⟨w.heap.size, 4, none⟩ = some (.int .i64 mt) := keep1 hb ((setO (by omega)).trans ((setO (by omega)).trans ((setO (by omega)).trans ((setO (by omega)).trans ((setO (by omega)).trans ((setO (by omega)).trans ((setO (by omega)).trans ((setO (by omega)).trans a_4))))))))
  have na_5 : w5.cell? ⟨w.heap.size, 5, none⟩ = some (.int .i64 ct) := keep1 hb ((setO (by omega)).trans ((setO (by omega)).trans ((setO (by omega)).trans ((setO (by omega)).trans ((setO (by omega)).trans ((setO (by omega)).trans ((setO (by omega)).trans ((setO (by omega)).trans a_5))))))))
  have na_6 : w5.cell? ⟨w.heap.size, 6, none⟩ = some (.int .i64 ino) := keep1 hb ((setO (by omega)).trans ((setO (by omega)).trans ((setO (by omega)).trans ((setO (by omega)).trans ((setO (by omega)).trans ((setO (by omega)).trans ((setO (by omega)).trans ((setO (by omega)).trans a_6))))))))
  have na_7 : w5.cell? ⟨w.heap.size, 7, none⟩ = some (.int .i64 gen) := keep1 hb ((setO (by omega)).trans ((setO (by omega)).trans ((setO (by omega)).trans ((setO (by omega)).trans ((setO (by omega)).trans ((setO (by omega)).trans ((setO (by omega)).trans ((setO (by omega)).trans a_7))))))))
  have na_f : ∀ i, w5.frozen? ⟨w.heap.size, i, none⟩ = false := fun i => (hb.frozen (p := ⟨w.heap.size, i, none⟩) (by first | omega | (simp; omega) | simp)).trans (frozS (frozS (frozS (frozS (frozS (frozS (frozS (frozS (a_f i)))))))))
  have nb_0 : w5.cell? ⟨w3.heap.size, 0, none⟩ = some (.int .u8 k) := keep1 hb ((setO (by omega)).trans ((setO (by omega)).trans ((setO (by omega)).trans ((setO (by omega)).trans ((setO (by omega)).trans ((setO (by omega)).trans ((setO (by omega)).trans (setS b_0))))))))
  have nb_1 : w5.cell? ⟨w3.heap.size, 1, none⟩ = some (.int .i64 mo) := keep1 hb ((setO (by omega)).trans ((setO (by omega)).trans ((setO (by omega)).trans ((setO (by omega)).trans ((setO (by omega)).trans ((setO (by omega)).trans (setS ((setO (by omega)).trans b_1))))))))
  have nb_2 : w5.cell? ⟨w3.heap.size, 2, none⟩ = some (.int .i64 li) := keep1 hb ((setO (by omega)).trans ((setO (by omega)).trans ((setO (by omega)).trans ((setO (by omega)).trans ((setO (by omega)).trans (setS ((setO (by omega)).trans ((setO (by omega)).trans b_2))))))))
  have nb_3 : w5.cell? ⟨w3.heap.size, 3, none⟩ = some (.int .i64 size) := keep1 hb ((setO (by omega)).trans ((setO (by omega)).trans ((setO (by omega)).trans ((setO (by omega)).trans (setS ((setO (by omega)).trans ((setO (by omega)).trans ((setO (by omega)).trans b_3))))))))
  have nb_4 : w5.cell? ⟨w3.heap.size, 4, none⟩ = some (.int .i64 now) := keep1 hb ((setO (by omega)).trans ((setO (by omega)).trans ((setO (by omega)).trans (setS ((setO (by omega)).trans ((setO (by omega)).trans ((setO (by omega)).trans ((setO (by omega)).trans b_4))))))))
  have nb_5 : w5.cell? ⟨w3.heap.size, 5, none⟩ = some (.int .i64 now) := keep1 hb ((setO (by omega)).trans ((setO (by omega)).trans (setS ((setO (by omega)).trans ((setO (by omega)).trans ((setO (by omega)).trans ((setO (by omega)).trans ((setO (by omega)).trans b_5))))))))
  have nb_6 : w5.cell? ⟨w3.heap.size, 6, none⟩ = some (.int .i64 ino) := keep1 hb ((setO (by omega)).trans (setS ((setO (by omega)).trans ((setO (by omega)).trans ((setO (by omega)).trans ((setO (by omega)).trans ((setO (by omega)).trans ((setO (by omega)).trans b_6))))))))
  have nb_7 : w5.cell? ⟨w3.heap.size, 7, none⟩ = some (.int .i64 gen) := keep1 hb (setS ((setO (by omega)).trans ((setO (by omega)).trans ((setO (by omega)).trans ((setO (by omega)).trans ((setO (by omega)).trans ((setO (by omega)).trans ((setO (by omega)).trans b_7))))))))
  have nb_f : ∀ i, w5.frozen? ⟨w3.heap.size, i, none⟩ = false := fun i => (hb.frozen (p := ⟨w3.heap.size, i, none⟩) (by first | omega | (simp; omega) | simp)).trans (frozS (frozS (frozS (frozS (frozS (frozS (frozS (frozS (b_f i)))))))))
  clear a_0 a_1 a_2 a_3 a_4 a_5 a_6 a_7 a_f b_0 b_1 b_2 b_3 b_4 b_5 b_6 b_7 b_f
  have a_0 := na_0; clear na_0
  have a_1 := na_1; clear na_1
  have a_2 := na_2; clear na_2
  have a_3 := na_3; clear na_3
  have a_4 := na_4; clear na_4
  have a_5 := na_5; clear na_5
  have a_6 := na_6; clear na_6
  have a_7 := na_7; clear na_7
  have a_f := na_f; clear na_f
  have b_0 := nb_0; clear nb_0
  have b_1 := nb_1; clear nb_1
  have b_2 := nb_2; clear nb_2
  have b_3 := nb_3; clear nb_3
  have b_4 := nb_4; clear nb_4
  have b_5 := nb_5; clear nb_5
  have b_6 := nb_6; clear nb_6
  have b_7 := nb_7; clear nb_7
  have b_f := nb_f; clear nb_f
  clear hb B4
  have B5 := Lib.hid hb'
  have hw5 := hb'.size
  clear hb'
  have hsa40 : w.heap.size < w5.heap.size := by omega
  have hsa41 : w.heap.size < w5.heap.size + 1 := by omega
  have hsa42 : w.heap.size < w5.heap.size + 1 + 1 := by omega
  have hsb40 : w3.heap.size < w5.heap.size := by omega
  have hsb41 : w3.heap.size < w5.heap.size + 1 := by omega
  have hsb42 : w3.heap.size < w5.heap.size + 1 + 1 := by omega
  go_wp2_with fail
  go_region
  go_wp2_with fail
  refine (moded_any _ _ _ _ _ _ _ _ _ _ _).mono ?_
  rintro e w6 ⟨rfl, hb⟩
  rw [HD.out]
  have hb' : Below w.heap.size w w6 := Below.trans (by have := B5.out; go_grown) (hb.mono (by first | omega | (simp; omega) | simp))
  have hz6 : w5.heap.size ≤ w6.heap.size := by have := hb.size; first | omega | (simp at this; omega)
  have na_0 : w6.cell? ⟨w.heap.size, 0, none⟩ = some (.int .u8 k) := keep1 hb ((setO (by omega)).trans ((setO (by omega)).trans ((setO (by omega)).trans a_0)))
  have na_1 : w6.cell? ⟨w.heap.size, 1, none⟩ = some (.int .i64 mo) := keep1 hb ((setO (by omega)).trans ((setO (by omega)).trans ((setO (by omega)).trans a_1)))
  have na_2 : w6.cell? ⟨w.heap.size, 2, none⟩ = some (.int .i64 li) := keep1 hb ((setO (by omega)).trans ((setO (by omega)).trans ((setO (by omega)).trans a_2)))
  have na_3 : w6.cell? ⟨w.heap.size, 3, none⟩ = some (.int .i64 sz) := keep1 hb ((setO (by omega)).trans ((setO (by omega)).trans ((setO (by omega)).trans a_3)))
  have na_4 : w6.cell? ⟨w.heap.size, 4, none⟩ = some (.int .i64 mt) := keep1 hb ((setO (by omega)).trans ((setO (by omega)).trans ((setO (by omega)).trans a_4)))
  have na_5 : w6.cell? ⟨w.heap.size, 5, none⟩ = some (.int .i64 ct) := keep1 hb ((setO (by omega)).trans ((setO (by omega)).trans ((setO (by omega)).trans a_5)))
  have na_6 : w6.cell? ⟨w.heap.size, 6, none⟩ = some (.int .i64 ino) := keep1 hb ((setO (by omega)).trans ((setO (by omega)).trans ((setO (by omega)).trans a_6)))
  have na_7 : w6.cell? ⟨w.heap.size, 7, none⟩ = some (.int .i64 gen) := keep1 hb ((setO (by omega)).trans ((setO (by omega)).trans ((setO (by omega)).trans a_7)))
  have na_f : ∀ i, w6.frozen? ⟨w.heap.size, i, none⟩ = false := fun i => (hb.frozen (p := ⟨w.heap.size, i, none⟩) (by first | omega | (simp; omega) | simp)).trans (frozS (frozS (frozS (a_f i))))
  have nb_0 : w6.cell? ⟨w3.heap.size, 0, none⟩ = some (.int .u8 k) := keep1 hb ((setO (by omega)).trans ((setO (by omega)).trans ((setO (by omega)).trans b_0)))
  have nb_1 : w6.cell? ⟨w3.heap.size, 1, none⟩ = some (.int .i64 mo) := keep1 hb ((setO (by omega)).trans ((setO (by omega)).trans ((setO (by omega)).trans b_1)))
  have nb_2 : w6.cell? ⟨w3.heap.size, 2, none⟩ = some (.int .i64 li) := keep1 hb ((setO (by omega)).trans ((setO (by omega)).trans ((setO (by omega)).trans b_2)))
  have nb_3 : w6.cell? ⟨w3.heap.size, 3, none⟩ = some (.int .i64 sz) := keep1 hb ((setO (by omega)).trans ((setO (by omega)).trans (setS b_3)))
  have nb_4 : w6.cell? ⟨w3.heap.size, 4, none⟩ = some (.int .i64 mt) := keep1 hb ((setO (by omega)).trans (setS ((setO (by omega)).trans b_4)))
  have nb_5 : w6.cell? ⟨w3.heap.size, 5, none⟩ = some (.int .i64 ct) := keep1 hb (setS ((setO (by omega)).trans ((setO (by omega)).trans b_5)))
  have nb_6 : w6.cell? ⟨w3.heap.size, 6, none⟩ = some (.int .i64 ino) := keep1 hb ((setO (by omega)).trans ((setO (by omega)).trans ((setO (by omega)).trans b_6)))
  have nb_7 : w6.cell? ⟨w3.heap.size, 7, none⟩ = some (.int .i64 gen) := keep1 hb ((setO (by omega)).trans ((setO (by omega)).trans ((setO (by omega)).trans b_7)))
  have nb_f : ∀ i, w6.frozen? ⟨w3.heap.size, i, none⟩ = false := fun i => (hb.frozen (p := ⟨w3.heap.size, i, none⟩) (by first | omega | (simp; omega) | simp)).trans (frozS (frozS (frozS (b_f i))))
  clear a_0 a_1 a_2 a_3 a_4 a_5 a_6 a_7 a_f b_0 b_1 b_2 b_3 b_4 b_5 b_6 b_7 b_f
  have a_0 := na_0; clear na_0
  have a_1 := na_1; clear na_1
  have a_2 := na_2; clear na_2
  have a_3 := na_3; clear na_3
  have a_4 := na_4; clear na_4
  have a_5 := na_5; clear na_5
  have a_6 := na_6; clear na_6
  have a_7 := na_7; clear na_7
  have a_f := na_f; clear na_f
  have b_0 := nb_0; clear nb_0
  have b_1 := nb_1; clear nb_1
  have b_2 := nb_2; clear nb_2
  have b_3 := nb_3; clear nb_3
  have b_4 := nb_4; clear nb_4
  have b_5 := nb_5; clear nb_5
  have b_6 := nb_6; clear nb_6
  have b_7 := nb_7; clear nb_7
  have b_f := nb_f; clear nb_f
  clear hb B5
  have B6 := Lib.hid hb'
  have hw6 := hb'.size
  clear hb'
  have hsa50 : w.heap.size < w6.heap.size := by omega
  have hsa51 : w.heap.size < w6.heap.size + 1 := by omega
  have hsa52 : w.heap.size < w6.heap.size + 1 + 1 := by omega
  have hsb50 : w3.heap.size < w6.heap.size := by omega
  have hsb51 : w3.heap.size < w6.heap.size + 1 := by omega
  have hsb52 : w3.heap.size < w6.heap.size + 1 + 1 := by omega
  go_wp2_with fail
  go_ret
  exact ⟨ret_bool (by simp), by have := B6.out; go_grown⟩

set_option maxHeartbeats 4000000 in
theorem may_001 (k mo li sz mt ct ino gen mode size now : Int) (cl : Int) (cs : Int) (w : World) (b1 : -9223372036854775808 ≤ li) (b2 : li ≤ 9223372036854775807) (HM : mayB k mo li sz mt ct ino gen = true) (HL : linkedR k mo li sz mt ct ino gen 1 now = .tuple #[.agg #[.int .u8 0, .int .i64 0, .int .i64 0, .int .i64 0, .int .i64 0, .int .i64 0, .int .i64 0, .int .i64 0], .int .i64 cl]) (ncl : (cl == 0) = false) (HS : sizedR k mo li sz mt ct ino gen size now = .tuple #[.agg #[.int .u8 0, .int .i64 0, .int .i64 0, .int .i64 0, .int .i64 0, .int .i64 0, .int .i64 0, .int .i64 0], .int .i64 cs]) (ncs : (cs == 0) = false) (HD : modedR k mo li sz mt ct ino gen mode now = .tuple #[.agg #[.int .u8 k, .int .i64 mode, .int .i64 li, .int .i64 sz, .int .i64 mt, .int .i64 now, .int .i64 ino, .int .i64 gen], .int .i64 0]) (HMM : mayB k mode li sz mt now ino gen = true) :
    Calls Try.prog 4 #[.agg #[.int .u8 k, .int .i64 mo, .int .i64 li, .int .i64 sz, .int .i64 mt, .int .i64 ct, .int .i64 ino, .int .i64 gen], .int .i64 mode, .int .i64 size, .int .i64 now] w fun e w' => e = .returned (.bool true) ∧ Below w.heap.size w w' := by
  replace HM := Lib.hid HM
  replace HL := Lib.hid HL
  replace HS := Lib.hid HS
  replace HD := Lib.hid HD
  replace HMM := Lib.hid HMM
  go_enter Try.func4, Try.ntmps4
  go_wp2_with fail
  refine (may_any _ _ _ _ _ _ _ _ _).mono ?_
  rintro e w1 ⟨rfl, hb⟩
  rw [HM.out]
  have hb' : Below w.heap.size w w1 := Below.trans (by go_grown) (hb.mono (by first | omega | (simp; omega) | simp))
  have hz1 : w.heap.size + 1 ≤ w1.heap.size := by have := hb.size; first | omega | (simp at this; omega)
  have na_0 : w1.cell? ⟨w.heap.size, 0, none⟩ = some (.int .u8 k) := keep1 hb ((cellN _ _ _ _ (by first | rfl | simp) _).trans rfl)
  have na_1 : w1.cell? ⟨w.heap.size, 1, none⟩ = some (.int .i64 mo) := keep1 hb ((cellN _ _ _ _ (by first | rfl | simp) _).trans rfl)
  have na_2 : w1.cell? ⟨w.heap.size, 2, none⟩ = some (.int .i64 li) := keep1 hb ((cellN _ _ _ _ (by first | rfl | simp) _).trans rfl)
  have na_3 : w1.cell? ⟨w.heap.size, 3, none⟩ = some (.int .i64 sz) := keep1 hb ((cellN _ _ _ _ (by first | rfl | simp) _).trans rfl)
  have na_4 : w1.cell? ⟨w.heap.size, 4, none⟩ = some (.int .i64 mt) := keep1 hb ((cellN _ _ _ _ (by first | rfl | simp) _).trans rfl)
  have na_5 : w1.cell? ⟨w.heap.size, 5, none⟩ = some (.int .i64 ct) := keep1 hb ((cellN _ _ _ _ (by first | rfl | simp) _).trans rfl)
  have na_6 : w1.cell? ⟨w.heap.size, 6, none⟩ = some (.int .i64 ino) := keep1 hb ((cellN _ _ _ _ (by first | rfl | simp) _).trans rfl)
  have na_7 : w1.cell? ⟨w.heap.size, 7, none⟩ = some (.int .i64 gen) := keep1 hb ((cellN _ _ _ _ (by first | rfl | simp) _).trans rfl)
  have na_f : ∀ i, w1.frozen? ⟨w.heap.size, i, none⟩ = false := fun i => (hb.frozen (p := ⟨w.heap.size, i, none⟩) (by first | omega | (simp; omega) | simp)).trans (frozN (by first | rfl | simp))
  have a_0 := na_0; clear na_0
  have a_1 := na_1; clear na_1
  have a_2 := na_2; clear na_2
  have a_3 := na_3; clear na_3
  have a_4 := na_4; clear na_4
  have a_5 := na_5; clear na_5
  have a_6 := na_6; clear na_6
  have a_7 := na_7; clear na_7
  have a_f := na_f; clear na_f
  clear hb
  have B1 := Lib.hid hb'
  have hw1 := hb'.size
  clear hb'
  have hsa00 : w.heap.size < w1.heap.size := by omega
  have hsa01 : w.heap.size < w1.heap.size + 1 := by omega
  have hsa02 : w.heap.size < w1.heap.size + 1 + 1 := by omega
  go_wp2_with fail
  refine (awake20 _).mono ?_
  rintro e w2 ⟨rfl, hb⟩
  have hb' : Below w.heap.size w w2 := Below.trans (by have := B1.out; go_grown) (hb.mono (by first | omega | (simp; omega) | simp))
  have hz2 : w1.heap.size ≤ w2.heap.size := by have := hb.size; first | omega | (simp at this; omega)
  have na_0 : w2.cell? ⟨w.heap.size, 0, none⟩ = some (.int .u8 k) := keep1 hb a_0
  have na_1 : w2.cell? ⟨w.heap.size, 1, none⟩ = some (.int .i64 mo) := keep1 hb a_1
  have na_2 : w2.cell? ⟨w.heap.size, 2, none⟩ = some (.int .i64 li) := keep1 hb a_2
  have na_3 : w2.cell? ⟨w.heap.size, 3, none⟩ = some (.int .i64 sz) := keep1 hb a_3
  have na_4 : w2.cell? ⟨w.heap.size, 4, none⟩ = some (.int .i64 mt) := keep1 hb a_4
  have na_5 : w2.cell? ⟨w.heap.size, 5, none⟩ = some (.int .i64 ct) := keep1 hb a_5
  have na_6 : w2.cell? ⟨w.heap.size, 6, none⟩ = some (.int .i64 ino) := keep1 hb a_6
  have na_7 : w2.cell? ⟨w.heap.size, 7, none⟩ = some (.int .i64 gen) := keep1 hb a_7
  have na_f : ∀ i, w2.frozen? ⟨w.heap.size, i, none⟩ = false := fun i => (hb.frozen (p := ⟨w.heap.size, i, none⟩) (by first | omega | (simp; omega) | simp)).trans (a_f i)
  clear a_0 a_1 a_2 a_3 a_4 a_5 a_6 a_7 a_f
  have a_0 := na_0; clear na_0
  have a_1 := na_1; clear na_1
  have a_2 := na_2; clear na_2
  have a_3 := na_3; clear na_3
  have a_4 := na_4; clear na_4
  have a_5 := na_5; clear na_5
  have a_6 := na_6; clear na_6
  have a_7 := na_7; clear na_7
  have a_f := na_f; clear na_f
  clear hb B1
  have B2 := Lib.hid hb'
  have hw2 := hb'.size
  clear hb'
  have hsa10 : w.heap.size < w2.heap.size := by omega
  have hsa11 : w.heap.size < w2.heap.size + 1 := by omega
  have hsa12 : w.heap.size < w2.heap.size + 1 + 1 := by omega
  go_wp2_with fail
  refine (linked_any _ _ _ _ _ _ _ _ _ _ _ b1 b2).mono ?_
  rintro e w3 ⟨rfl, hb⟩
  rw [HL.out]
  have hb' : Below w.heap.size w w3 := Below.trans (by have := B2.out; go_grown) (hb.mono (by first | omega | (simp; omega) | simp))
  have hz3 : w2.heap.size ≤ w3.heap.size := by have := hb.size; first | omega | (simp at this; omega)
  have na_0 : w3.cell? ⟨w.heap.size, 0, none⟩ = some (.int .u8 k) := keep1 hb a_0
  have na_1 : w3.cell? ⟨w.heap.size, 1, none⟩ = some (.int .i64 mo) := keep1 hb a_1
  have na_2 : w3.cell? ⟨w.heap.size, 2, none⟩ = some (.int .i64 li) := keep1 hb a_2
  have na_3 : w3.cell? ⟨w.heap.size, 3, none⟩ = some (.int .i64 sz) := keep1 hb a_3
  have na_4 : w3.cell? ⟨w.heap.size, 4, none⟩ = some (.int .i64 mt) := keep1 hb a_4
  have na_5 : w3.cell? ⟨w.heap.size, 5, none⟩ = some (.int .i64 ct) := keep1 hb a_5
  have na_6 : w3.cell? ⟨w.heap.size, 6, none⟩ = some (.int .i64 ino) := keep1 hb a_6
  have na_7 : w3.cell? ⟨w.heap.size, 7, none⟩ = some (.int .i64 gen) := keep1 hb a_7
  have na_f : ∀ i, w3.frozen? ⟨w.heap.size, i, none⟩ = false := fun i => (hb.frozen (p := ⟨w.heap.size, i, none⟩) (by first | omega | (simp; omega) | simp)).trans (a_f i)
  clear a_0 a_1 a_2 a_3 a_4 a_5 a_6 a_7 a_f
  have a_0 := na_0; clear na_0
  have a_1 := na_1; clear na_1
  have a_2 := na_2; clear na_2
  have a_3 := na_3; clear na_3
  have a_4 := na_4; clear na_4
  have a_5 := na_5; clear na_5
  have a_6 := na_6; clear na_6
  have a_7 := na_7; clear na_7
  have a_f := na_f; clear na_f
  clear hb B2
  have B3 := Lib.hid hb'
  have hw3 := hb'.size
  clear hb'
  have hsa20 : w.heap.size < w3.heap.size := by omega
  have hsa21 : w.heap.size < w3.heap.size + 1 := by omega
  have hsa22 : w.heap.size < w3.heap.size + 1 + 1 := by omega
  go_wp2_with fail
  refine (sized_any _ _ _ _ _ _ _ _ _ _ _).mono ?_
  rintro e w4 ⟨rfl, hb⟩
  rw [HS.out]
  have hb' : Below w.heap.size w w4 := Below.trans (by have := B3.out; go_grown) (hb.mono (by first | omega | (simp; omega) | simp))
  have hz4 : w3.heap.size + 1 ≤ w4.heap.size := by have := hb.size; first | omega | (simp at this; omega)
  have na_0 : w4.cell? ⟨w.heap.size, 0, none⟩ = some (.int .u8 k) := keep1 hb (cellP (by first | omega | (simp; omega) | simp) a_0)
  have na_1 : w4.cell? ⟨w.heap.size, 1, none⟩ = some (.int .i64 mo) := keep1 hb (cellP (by first | omega | (simp; omega) | simp) a_1)
  have na_2 : w4.cell? ⟨w.heap.size, 2, none⟩ = some (.int .i64 li) := keep1 hb (cellP (by first | omega | (simp; omega) | simp) a_2)
  have na_3 : w4.cell? ⟨w.heap.size, 3, none⟩ = some (.int .i64 sz) := keep1 hb (cellP (by first | omega | (simp; omega) | simp) a_3)
  have na_4 : w4.cell? ⟨w.heap.size, 4, none⟩ = some (.int .i64 mt) := keep1 hb (cellP (by first | omega | (simp; omega) | simp) a_4)
  have na_5 : w4.cell? ⟨w.heap.size, 5, none⟩ = some (.int .i64 ct) := keep1 hb (cellP (by first | omega | (simp; omega) | simp) a_5)
  have na_6 : w4.cell? ⟨w.heap.size, 6, none⟩ = some (.int .i64 ino) := keep1 hb (cellP (by first | omega | (simp; omega) | simp) a_6)
  have na_7 : w4.cell? ⟨w.heap.size, 7, none⟩ = some (.int .i64 gen) := keep1 hb (cellP (by first | omega | (simp; omega) | simp) a_7)
  have na_f : ∀ i, w4.frozen? ⟨w.heap.size, i, none⟩ = false := fun i => (hb.frozen (p := ⟨w.heap.size, i, none⟩) (by first | omega | (simp; omega) | simp)).trans (frozP (by first | omega | (simp; omega) | simp) (a_f i))
  have nb_0 : w4.cell? ⟨w3.heap.size, 0, none⟩ = some (.int .u8 0) := keep1 hb ((cellN _ _ _ _ (by first | rfl | simp) _).trans rfl)
  have nb_1 : w4.cell? ⟨w3.heap.size, 1, none⟩ = some (.int .i64 0) := keep1 hb ((cellN _ _ _ _ (by first | rfl | simp) _).trans rfl)
  have nb_2 : w4.cell? ⟨w3.heap.size, 2, none⟩ = some (.int .i64 0) := keep1 hb ((cellN _ _ _ _ (by first | rfl | simp) _).trans rfl)
  have nb_3 : w4.cell? ⟨w3.heap.size, 3, none⟩ = some (.int .i64 0) := keep1 hb ((cellN _ _ _ _ (by first | rfl | simp) _).trans rfl)
  have nb_4 : w4.cell? ⟨w3.heap.size, 4, none⟩ = some (.int .i64 0) := keep1 hb ((cellN _ _ _ _ (by first | rfl | simp) _).trans rfl)
  have nb_5 : w4.cell? ⟨w3.heap.size, 5, none⟩ = some (.int .i64 0) := keep1 hb ((cellN _ _ _ _ (by first | rfl | simp) _).trans rfl)
  have nb_6 : w4.cell? ⟨w3.heap.size, 6, none⟩ = some (.int .i64 0) := keep1 hb ((cellN _ _ _ _ (by first | rfl | simp) _).trans rfl)
  have nb_7 : w4.cell? ⟨w3.heap.size, 7, none⟩ = some (.int .i64 0) := keep1 hb ((cellN _ _ _ _ (by first | rfl | simp) _).trans rfl)
  have nb_f : ∀ i, w4.frozen? ⟨w3.heap.size, i, none⟩ = false := fun i => (hb.frozen (p := ⟨w3.heap.size, i, none⟩) (by first | omega | (simp; omega) | simp)).trans (frozN (by first | rfl | simp))
  clear a_0 a_1 a_2 a_3 a_4 a_5 a_6 a_7 a_f
  have a_0 := na_0; clear na_0
  have a_1 := na_1; clear na_1
  have a_2 := na_2; clear na_2
  have a_3 := na_3; clear na_3
  have a_4 := na_4; clear na_4
  have a_5 := na_5; clear na_5
  have a_6 := na_6; clear na_6
  have a_7 := na_7; clear na_7
  have a_f := na_f; clear na_f
  have b_0 := nb_0; clear nb_0
  have b_1 := nb_1; clear nb_1
  have b_2 := nb_2; clear nb_2
  have b_3 := nb_3; clear nb_3
  have b_4 := nb_4; clear nb_4
  have b_5 := nb_5; clear nb_5
  have b_6 := nb_6; clear nb_6
  have b_7 := nb_7; clear nb_7
  have b_f := nb_f; clear nb_f
  clear hb B3
  have B4 := Lib.hid hb'
  have hw4 := hb'.size
  clear hb'
  have hsa30 : w.heap.size < w4.heap.size := by omega
  have hsa31 : w.heap.size < w4.heap.size + 1 := by omega
  have hsa32 : w.heap.size < w4.heap.size + 1 + 1 := by omega
  have hsb30 : w3.heap.size < w4.heap.size := by omega
  have hsb31 : w3.heap.size < w4.heap.size + 1 := by omega
  have hsb32 : w3.heap.size < w4.heap.size + 1 + 1 := by omega
  go_wp2_with fail
  refine (moded_any _ _ _ _ _ _ _ _ _ _ _).mono ?_
  rintro e w5 ⟨rfl, hb⟩
  rw [HD.out]
  have hb' : Below w.heap.size w w5 := Below.trans (by have := B4.out; go_grown) (hb.mono (by first | omega | (simp; omega) | simp))
  have hz5 : w4.heap.size ≤ w5.heap.size := by have := hb.size; first | omega | (simp at this; omega)
  have na_0 : w5.cell? ⟨w.heap.size, 0, none⟩ = some (.int .u8 k) := keep1 hb ((setO (by omega)).trans ((setO (by omega)).trans ((setO (by omega)).trans ((setO (by omega)).trans ((setO (by omega)).trans ((setO (by omega)).trans ((setO (by omega)).trans ((setO (by omega)).trans a_0))))))))
  have na_1 : w5.cell? ⟨w.heap.size, 1, none⟩ = some (.int .i64 mo) := keep1 hb ((setO (by omega)).trans ((setO (by omega)).trans ((setO (by omega)).trans ((setO (by omega)).trans ((setO (by omega)).trans ((setO (by omega)).trans ((setO (by omega)).trans ((setO (by omega)).trans a_1))))))))
  have na_2 : w5.cell? ⟨w.heap.size, 2, none⟩ = some (.int .i64 li) := keep1 hb ((setO (by omega)).trans ((setO (by omega)).trans ((setO (by omega)).trans ((setO (by omega)).trans ((setO (by omega)).trans ((setO (by omega)).trans ((setO (by omega)).trans ((setO (by omega)).trans a_2))))))))
  have na_3 : w5.cell? ⟨w.heap.size, 3, none⟩ = some (.int .i64 sz) := keep1 hb ((setO (by omega)).trans ((setO (by omega)).trans ((setO (by omega)).trans ((setO (by omega)).trans ((setO (by omega)).trans ((setO (by omega)).trans ((setO (by omega)).trans ((setO (by omega)).trans a_3))))))))
  have na_4 : w5.cell? ⟨w.heap.size, 4, none⟩ = some (.int .i64 mt) := keep1 hb ((setO (by omega)).trans ((setO (by omega)).trans ((setO (by omega)).trans ((setO (by omega)).trans ((setO (by omega)).trans ((setO (by omega)).trans ((setO (by omega)).trans ((setO (by omega)).trans a_4))))))))
  have na_5 : w5.cell? ⟨w.heap.size, 5, none⟩ = some (.int .i64 ct) := keep1 hb ((setO (by omega)).trans ((setO (by omega)).trans ((setO (by omega)).trans ((setO (by omega)).trans ((setO (by omega)).trans ((setO (by omega)).trans ((setO (by omega)).trans ((setO (by omega)).trans a_5))))))))
  have na_6 : w5.cell? ⟨w.heap.size, 6, none⟩ = some (.int .i64 ino) := keep1 hb ((setO (by omega)).trans ((setO (by omega)).trans ((setO (by omega)).trans ((setO (by omega)).trans ((setO (by omega)).trans ((setO (by omega)).trans ((setO (by omega)).trans ((setO (by omega)).trans a_6))))))))
  have na_7 : w5.cell? ⟨w.heap.size, 7, none⟩ = some (.int .i64 gen) := keep1 hb ((setO (by omega)).trans ((setO (by omega)).trans ((setO (by omega)).trans ((setO (by omega)).trans ((setO (by omega)).trans ((setO (by omega)).trans ((setO (by omega)).trans ((setO (by omega)).trans a_7))))))))
  have na_f : ∀ i, w5.frozen? ⟨w.heap.size, i, none⟩ = false := fun i => (hb.frozen (p := ⟨w.heap.size, i, none⟩) (by first | omega | (simp; omega) | simp)).trans (frozS (frozS (frozS (frozS (frozS (frozS (frozS (frozS (a_f i)))))))))
  have nb_0 : w5.cell? ⟨w3.heap.size, 0, none⟩ = some (.int .u8 0) := keep1 hb ((setO (by omega)).trans ((setO (by omega)).trans ((setO (by omega)).trans ((setO (by omega)).trans ((setO (by omega)).trans ((setO (by omega)).trans ((setO (by omega)).trans (setS b_0))))))))
  have nb_1 : w5.cell? ⟨w3.heap.size, 1, none⟩ = some (.int .i64 0) := keep1 hb ((setO (by omega)).trans ((setO (by omega)).trans ((setO (by omega)).trans ((setO (by omega)).trans ((setO (by omega)).trans ((setO (by omega)).trans (setS ((setO (by omega)).trans b_1))))))))
  have nb_2 : w5.cell? ⟨w3.heap.size, 2, none⟩ = some (.int .i64 0) := keep1 hb ((setO (by omega)).trans ((setO (by omega)).trans ((setO (by omega)).trans ((setO (by omega)).trans ((setO (by omega)).trans (setS ((setO (by omega)).trans ((setO (by omega)).trans b_2))))))))
  have nb_3 : w5.cell? ⟨w3.heap.size, 3, none⟩ = some (.int .i64 0) := keep1 hb ((setO (by omega)).trans ((setO (by omega)).trans ((setO (by omega)).trans ((setO (by omega)).trans (setS ((setO (by omega)).trans ((setO (by omega)).trans ((setO (by omega)).trans b_3))))))))
  have nb_4 : w5.cell? ⟨w3.heap.size, 4, none⟩ = some (.int .i64 0) := keep1 hb ((setO (by omega)).trans ((setO (by omega)).trans ((setO (by omega)).trans (setS ((setO (by omega)).trans ((setO (by omega)).trans ((setO (by omega)).trans ((setO (by omega)).trans b_4))))))))
  have nb_5 : w5.cell? ⟨w3.heap.size, 5, none⟩ = some (.int .i64 0) := keep1 hb ((setO (by omega)).trans ((setO (by omega)).trans (setS ((setO (by omega)).trans ((setO (by omega)).trans ((setO (by omega)).trans ((setO (by omega)).trans ((setO (by omega)).trans b_5))))))))
  have nb_6 : w5.cell? ⟨w3.heap.size, 6, none⟩ = some (.int .i64 0) := keep1 hb ((setO (by omega)).trans (setS ((setO (by omega)).trans ((setO (by omega)).trans ((setO (by omega)).trans ((setO (by omega)).trans ((setO (by omega)).trans ((setO (by omega)).trans b_6))))))))
  have nb_7 : w5.cell? ⟨w3.heap.size, 7, none⟩ = some (.int .i64 0) := keep1 hb (setS ((setO (by omega)).trans ((setO (by omega)).trans ((setO (by omega)).trans ((setO (by omega)).trans ((setO (by omega)).trans ((setO (by omega)).trans ((setO (by omega)).trans b_7))))))))
  have nb_f : ∀ i, w5.frozen? ⟨w3.heap.size, i, none⟩ = false := fun i => (hb.frozen (p := ⟨w3.heap.size, i, none⟩) (by first | omega | (simp; omega) | simp)).trans (frozS (frozS (frozS (frozS (frozS (frozS (frozS (frozS (b_f i)))))))))
  clear a_0 a_1 a_2 a_3 a_4 a_5 a_6 a_7 a_f b_0 b_1 b_2 b_3 b_4 b_5 b_6 b_7 b_f
  have a_0 := na_0; clear na_0
  have a_1 := na_1; clear na_1
  have a_2 := na_2; clear na_2
  have a_3 := na_3; clear na_3
  have a_4 := na_4; clear na_4
  have a_5 := na_5; clear na_5
  have a_6 := na_6; clear na_6
  have a_7 := na_7; clear na_7
  have a_f := na_f; clear na_f
  have b_0 := nb_0; clear nb_0
  have b_1 := nb_1; clear nb_1
  have b_2 := nb_2; clear nb_2
  have b_3 := nb_3; clear nb_3
  have b_4 := nb_4; clear nb_4
  have b_5 := nb_5; clear nb_5
  have b_6 := nb_6; clear nb_6
  have b_7 := nb_7; clear nb_7
  have b_f := nb_f; clear nb_f
  clear hb B4
  have B5 := Lib.hid hb'
  have hw5 := hb'.size
  clear hb'
  have hsa40 : w.heap.size < w5.heap.size := by omega
  have hsa41 : w.heap.size < w5.heap.size + 1 := by omega
  have hsa42 : w.heap.size < w5.heap.size + 1 + 1 := by omega
  have hsb40 : w3.heap.size < w5.heap.size := by omega
  have hsb41 : w3.heap.size < w5.heap.size + 1 := by omega
  have hsb42 : w3.heap.size < w5.heap.size + 1 + 1 := by omega
  go_wp2_with fail
  refine (may_any _ _ _ _ _ _ _ _ _).mono ?_
  rintro e w6 ⟨rfl, hb⟩
  rw [HMM.out]
  have hb' : Below w.heap.size w w6 := Below.trans (by have := B5.out; go_grown) (hb.mono (by first | omega | (simp; omega) | simp))
  have hz6 : w5.heap.size ≤ w6.heap.size := by have := hb.size; first | omega | (simp at this; omega)
  have na_0 : w6.cell? ⟨w.heap.size, 0, none⟩ = some (.int .u8 k) := keep1 hb ((setO (by omega)).trans ((setO (by omega)).trans ((setO (by omega)).trans ((setO (by omega)).trans ((setO (by omega)).trans ((setO (by omega)).trans ((setO (by omega)).trans ((setO (by omega)).trans a_0))))))))
  have na_1 : w6.cell? ⟨w.heap.size, 1, none⟩ = some (.int .i64 mo) := keep1 hb ((setO (by omega)).trans ((setO (by omega)).trans ((setO (by omega)).trans ((setO (by omega)).trans ((setO (by omega)).trans ((setO (by omega)).trans ((setO (by omega)).trans ((setO (by omega)).trans a_1))))))))
  have na_2 : w6.cell? ⟨w.heap.size, 2, none⟩ = some (.int .i64 li) := keep1 hb ((setO (by omega)).trans ((setO (by omega)).trans ((setO (by omega)).trans ((setO (by omega)).trans ((setO (by omega)).trans ((setO (by omega)).trans ((setO (by omega)).trans ((setO (by omega)).trans a_2))))))))
  have na_3 : w6.cell? ⟨w.heap.size, 3, none⟩ = some (.int .i64 sz) := keep1 hb ((setO (by omega)).trans ((setO (by omega)).trans ((setO (by omega)).trans ((setO (by omega)).trans ((setO (by omega)).trans ((setO (by omega)).trans ((setO (by omega)).trans ((setO (by omega)).trans a_3))))))))
  have na_4 : w6.cell? ⟨w.heap.size, 4, none⟩ = some (.int .i64 mt) := keep1 hb ((setO (by omega)).trans ((setO (by omega)).trans ((setO (by omega)).trans ((setO (by omega)).trans ((setO (by omega)).trans ((setO (by omega)).trans ((setO (by omega)).trans ((setO (by omega)).trans a_4))))))))
  have na_5 : w6.cell? ⟨w.heap.size, 5, none⟩ = some (.int .i64 ct) := keep1 hb ((setO (by omega)).trans ((setO (by omega)).trans ((setO (by omega)).trans ((setO (by omega)).trans ((setO (by omega)).trans ((setO (by omega)).trans ((setO (by omega)).trans ((setO (by omega)).trans a_5))))))))
  have na_6 : w6.cell? ⟨w.heap.size, 6, none⟩ = some (.int .i64 ino) := keep1 hb ((setO (by omega)).trans ((setO (by omega)).trans ((setO (by omega)).trans ((setO (by omega)).trans ((setO (by omega)).trans ((setO (by omega)).trans ((setO (by omega)).trans ((setO (by omega)).trans a_6))))))))
  have na_7 : w6.cell? ⟨w.heap.size, 7, none⟩ = some (.int .i64 gen) := keep1 hb ((setO (by omega)).trans ((setO (by omega)).trans ((setO (by omega)).trans ((setO (by omega)).trans ((setO (by omega)).trans ((setO (by omega)).trans ((setO (by omega)).trans ((setO (by omega)).trans a_7))))))))
  have na_f : ∀ i, w6.frozen? ⟨w.heap.size, i, none⟩ = false := fun i => (hb.frozen (p := ⟨w.heap.size, i, none⟩) (by first | omega | (simp; omega) | simp)).trans (frozS (frozS (frozS (frozS (frozS (frozS (frozS (frozS (a_f i)))))))))
  have nb_0 : w6.cell? ⟨w3.heap.size, 0, none⟩ = some (.int .u8 k) := keep1 hb ((setO (by omega)).trans ((setO (by omega)).trans ((setO (by omega)).trans ((setO (by omega)).trans ((setO (by omega)).trans ((setO (by omega)).trans ((setO (by omega)).trans (setS b_0))))))))
  have nb_1 : w6.cell? ⟨w3.heap.size, 1, none⟩ = some (.int .i64 mode) := keep1 hb ((setO (by omega)).trans ((setO (by omega)).trans ((setO (by omega)).trans ((setO (by omega)).trans ((setO (by omega)).trans ((setO (by omega)).trans (setS ((setO (by omega)).trans b_1))))))))
  have nb_2 : w6.cell? ⟨w3.heap.size, 2, none⟩ = some (.int .i64 li) := keep1 hb ((setO (by omega)).trans ((setO (by omega)).trans ((setO (by omega)).trans ((setO (by omega)).trans ((setO (by omega)).trans (setS ((setO (by omega)).trans ((setO (by omega)).trans b_2))))))))
  have nb_3 : w6.cell? ⟨w3.heap.size, 3, none⟩ = some (.int .i64 sz) := keep1 hb ((setO (by omega)).trans ((setO (by omega)).trans ((setO (by omega)).trans ((setO (by omega)).trans (setS ((setO (by omega)).trans ((setO (by omega)).trans ((setO (by omega)).trans b_3))))))))
  have nb_4 : w6.cell? ⟨w3.heap.size, 4, none⟩ = some (.int .i64 mt) := keep1 hb ((setO (by omega)).trans ((setO (by omega)).trans ((setO (by omega)).trans (setS ((setO (by omega)).trans ((setO (by omega)).trans ((setO (by omega)).trans ((setO (by omega)).trans b_4))))))))
  have nb_5 : w6.cell? ⟨w3.heap.size, 5, none⟩ = some (.int .i64 now) := keep1 hb ((setO (by omega)).trans ((setO (by omega)).trans (setS ((setO (by omega)).trans ((setO (by omega)).trans ((setO (by omega)).trans ((setO (by omega)).trans ((setO (by omega)).trans b_5))))))))
  have nb_6 : w6.cell? ⟨w3.heap.size, 6, none⟩ = some (.int .i64 ino) := keep1 hb ((setO (by omega)).trans (setS ((setO (by omega)).trans ((setO (by omega)).trans ((setO (by omega)).trans ((setO (by omega)).trans ((setO (by omega)).trans ((setO (by omega)).trans b_6))))))))
  have nb_7 : w6.cell? ⟨w3.heap.size, 7, none⟩ = some (.int .i64 gen) := keep1 hb (setS ((setO (by omega)).trans ((setO (by omega)).trans ((setO (by omega)).trans ((setO (by omega)).trans ((setO (by omega)).trans ((setO (by omega)).trans ((setO (by omega)).trans b_7))))))))
  have nb_f : ∀ i, w6.frozen? ⟨w3.heap.size, i, none⟩ = false := fun i => (hb.frozen (p := ⟨w3.heap.size, i, none⟩) (by first | omega | (simp; omega) | simp)).trans (frozS (frozS (frozS (frozS (frozS (frozS (frozS (frozS (b_f i)))))))))
  clear a_0 a_1 a_2 a_3 a_4 a_5 a_6 a_7 a_f b_0 b_1 b_2 b_3 b_4 b_5 b_6 b_7 b_f
  have a_0 := na_0; clear na_0
  have a_1 := na_1; clear na_1
  have a_2 := na_2; clear na_2
  have a_3 := na_3; clear na_3
  have a_4 := na_4; clear na_4
  have a_5 := na_5; clear na_5
  have a_6 := na_6; clear na_6
  have a_7 := na_7; clear na_7
  have a_f := na_f; clear na_f
  have b_0 := nb_0; clear nb_0
  have b_1 := nb_1; clear nb_1
  have b_2 := nb_2; clear nb_2
  have b_3 := nb_3; clear nb_3
  have b_4 := nb_4; clear nb_4
  have b_5 := nb_5; clear nb_5
  have b_6 := nb_6; clear nb_6
  have b_7 := nb_7; clear nb_7
  have b_f := nb_f; clear nb_f
  clear hb B5
  have B6 := Lib.hid hb'
  have hw6 := hb'.size
  clear hb'
  have hsa50 : w.heap.size < w6.heap.size := by omega
  have hsa51 : w.heap.size < w6.heap.size + 1 := by omega
  have hsa52 : w.heap.size < w6.heap.size + 1 + 1 := by omega
  have hsb50 : w3.heap.size < w6.heap.size := by omega
  have hsb51 : w3.heap.size < w6.heap.size + 1 := by omega
  have hsb52 : w3.heap.size < w6.heap.size + 1 + 1 := by omega
  go_wp2_with fail
  go_region
  go_wp2_with fail
  go_ret
  exact ⟨ret_bool (by simp), by have := B6.out; go_grown⟩

set_option maxHeartbeats 4000000 in
theorem may_000 (k mo li sz mt ct ino gen mode size now : Int) (cl : Int) (cs : Int) (cm : Int) (w : World) (b1 : -9223372036854775808 ≤ li) (b2 : li ≤ 9223372036854775807) (HM : mayB k mo li sz mt ct ino gen = true) (HL : linkedR k mo li sz mt ct ino gen 1 now = .tuple #[.agg #[.int .u8 0, .int .i64 0, .int .i64 0, .int .i64 0, .int .i64 0, .int .i64 0, .int .i64 0, .int .i64 0], .int .i64 cl]) (ncl : (cl == 0) = false) (HS : sizedR k mo li sz mt ct ino gen size now = .tuple #[.agg #[.int .u8 0, .int .i64 0, .int .i64 0, .int .i64 0, .int .i64 0, .int .i64 0, .int .i64 0, .int .i64 0], .int .i64 cs]) (ncs : (cs == 0) = false) (HD : modedR k mo li sz mt ct ino gen mode now = .tuple #[.agg #[.int .u8 0, .int .i64 0, .int .i64 0, .int .i64 0, .int .i64 0, .int .i64 0, .int .i64 0, .int .i64 0], .int .i64 cm]) (ncm : (cm == 0) = false) :
    Calls Try.prog 4 #[.agg #[.int .u8 k, .int .i64 mo, .int .i64 li, .int .i64 sz, .int .i64 mt, .int .i64 ct, .int .i64 ino, .int .i64 gen], .int .i64 mode, .int .i64 size, .int .i64 now] w fun e w' => e = .returned (.bool true) ∧ Below w.heap.size w w' := by
  replace HM := Lib.hid HM
  replace HL := Lib.hid HL
  replace HS := Lib.hid HS
  replace HD := Lib.hid HD
  go_enter Try.func4, Try.ntmps4
  go_wp2_with fail
  refine (may_any _ _ _ _ _ _ _ _ _).mono ?_
  rintro e w1 ⟨rfl, hb⟩
  rw [HM.out]
  have hb' : Below w.heap.size w w1 := Below.trans (by go_grown) (hb.mono (by first | omega | (simp; omega) | simp))
  have hz1 : w.heap.size + 1 ≤ w1.heap.size := by have := hb.size; first | omega | (simp at this; omega)
  have na_0 : w1.cell? ⟨w.heap.size, 0, none⟩ = some (.int .u8 k) := keep1 hb ((cellN _ _ _ _ (by first | rfl | simp) _).trans rfl)
  have na_1 : w1.cell? ⟨w.heap.size, 1, none⟩ = some (.int .i64 mo) := keep1 hb ((cellN _ _ _ _ (by first | rfl | simp) _).trans rfl)
  have na_2 : w1.cell? ⟨w.heap.size, 2, none⟩ = some (.int .i64 li) := keep1 hb ((cellN _ _ _ _ (by first | rfl | simp) _).trans rfl)
  have na_3 : w1.cell? ⟨w.heap.size, 3, none⟩ = some (.int .i64 sz) := keep1 hb ((cellN _ _ _ _ (by first | rfl | simp) _).trans rfl)
  have na_4 : w1.cell? ⟨w.heap.size, 4, none⟩ = some (.int .i64 mt) := keep1 hb ((cellN _ _ _ _ (by first | rfl | simp) _).trans rfl)
  have na_5 : w1.cell? ⟨w.heap.size, 5, none⟩ = some (.int .i64 ct) := keep1 hb ((cellN _ _ _ _ (by first | rfl | simp) _).trans rfl)
  have na_6 : w1.cell? ⟨w.heap.size, 6, none⟩ = some (.int .i64 ino) := keep1 hb ((cellN _ _ _ _ (by first | rfl | simp) _).trans rfl)
  have na_7 : w1.cell? ⟨w.heap.size, 7, none⟩ = some (.int .i64 gen) := keep1 hb ((cellN _ _ _ _ (by first | rfl | simp) _).trans rfl)
  have na_f : ∀ i, w1.frozen? ⟨w.heap.size, i, none⟩ = false := fun i => (hb.frozen (p := ⟨w.heap.size, i, none⟩) (by first | omega | (simp; omega) | simp)).trans (frozN (by first | rfl | simp))
  have a_0 := na_0; clear na_0
  have a_1 := na_1; clear na_1
  have a_2 := na_2; clear na_2
  have a_3 := na_3; clear na_3
  have a_4 := na_4; clear na_4
  have a_5 := na_5; clear na_5
  have a_6 := na_6; clear na_6
  have a_7 := na_7; clear na_7
  have a_f := na_f; clear na_f
  clear hb
  have B1 := Lib.hid hb'
  have hw1 := hb'.size
  clear hb'
  have hsa00 : w.heap.size < w1.heap.size := by omega
  have hsa01 : w.heap.size < w1.heap.size + 1 := by omega
  have hsa02 : w.heap.size < w1.heap.size + 1 + 1 := by omega
  go_wp2_with fail
  refine (awake20 _).mono ?_
  rintro e w2 ⟨rfl, hb⟩
  have hb' : Below w.heap.size w w2 := Below.trans (by have := B1.out; go_grown) (hb.mono (by first | omega | (simp; omega) | simp))
  have hz2 : w1.heap.size ≤ w2.heap.size := by have := hb.size; first | omega | (simp at this; omega)
  have na_0 : w2.cell? ⟨w.heap.size, 0, none⟩ = some (.int .u8 k) := keep1 hb a_0
  have na_1 : w2.cell? ⟨w.heap.size, 1, none⟩ = some (.int .i64 mo) := keep1 hb a_1
  have na_2 : w2.cell? ⟨w.heap.size, 2, none⟩ = some (.int .i64 li) := keep1 hb a_2
  have na_3 : w2.cell? ⟨w.heap.size, 3, none⟩ = some (.int .i64 sz) := keep1 hb a_3
  have na_4 : w2.cell? ⟨w.heap.size, 4, none⟩ = some (.int .i64 mt) := keep1 hb a_4
  have na_5 : w2.cell? ⟨w.heap.size, 5, none⟩ = some (.int .i64 ct) := keep1 hb a_5
  have na_6 : w2.cell? ⟨w.heap.size, 6, none⟩ = some (.int .i64 ino) := keep1 hb a_6
  have na_7 : w2.cell? ⟨w.heap.size, 7, none⟩ = some (.int .i64 gen) := keep1 hb a_7
  have na_f : ∀ i, w2.frozen? ⟨w.heap.size, i, none⟩ = false := fun i => (hb.frozen (p := ⟨w.heap.size, i, none⟩) (by first | omega | (simp; omega) | simp)).trans (a_f i)
  clear a_0 a_1 a_2 a_3 a_4 a_5 a_6 a_7 a_f
  have a_0 := na_0; clear na_0
  have a_1 := na_1; clear na_1
  have a_2 := na_2; clear na_2
  have a_3 := na_3; clear na_3
  have a_4 := na_4; clear na_4
  have a_5 := na_5; clear na_5
  have a_6 := na_6; clear na_6
  have a_7 := na_7; clear na_7
  have a_f := na_f; clear na_f
  clear hb B1
  have B2 := Lib.hid hb'
  have hw2 := hb'.size
  clear hb'
  have hsa10 : w.heap.size < w2.heap.size := by omega
  have hsa11 : w.heap.size < w2.heap.size + 1 := by omega
  have hsa12 : w.heap.size < w2.heap.size + 1 + 1 := by omega
  go_wp2_with fail
  refine (linked_any _ _ _ _ _ _ _ _ _ _ _ b1 b2).mono ?_
  rintro e w3 ⟨rfl, hb⟩
  rw [HL.out]
  have hb' : Below w.heap.size w w3 := Below.trans (by have := B2.out; go_grown) (hb.mono (by first | omega | (simp; omega) | simp))
  have hz3 : w2.heap.size ≤ w3.heap.size := by have := hb.size; first | omega | (simp at this; omega)
  have na_0 : w3.cell? ⟨w.heap.size, 0, none⟩ = some (.int .u8 k) := keep1 hb a_0
  have na_1 : w3.cell? ⟨w.heap.size, 1, none⟩ = some (.int .i64 mo) := keep1 hb a_1
  have na_2 : w3.cell? ⟨w.heap.size, 2, none⟩ = some (.int .i64 li) := keep1 hb a_2
  have na_3 : w3.cell? ⟨w.heap.size, 3, none⟩ = some (.int .i64 sz) := keep1 hb a_3
  have na_4 : w3.cell? ⟨w.heap.size, 4, none⟩ = some (.int .i64 mt) := keep1 hb a_4
  have na_5 : w3.cell? ⟨w.heap.size, 5, none⟩ = some (.int .i64 ct) := keep1 hb a_5
  have na_6 : w3.cell? ⟨w.heap.size, 6, none⟩ = some (.int .i64 ino) := keep1 hb a_6
  have na_7 : w3.cell? ⟨w.heap.size, 7, none⟩ = some (.int .i64 gen) := keep1 hb a_7
  have na_f : ∀ i, w3.frozen? ⟨w.heap.size, i, none⟩ = false := fun i => (hb.frozen (p := ⟨w.heap.size, i, none⟩) (by first | omega | (simp; omega) | simp)).trans (a_f i)
  clear a_0 a_1 a_2 a_3 a_4 a_5 a_6 a_7 a_f
  have a_0 := na_0; clear na_0
  have a_1 := na_1; clear na_1
  have a_2 := na_2; clear na_2
  have a_3 := na_3; clear na_3
  have a_4 := na_4; clear na_4
  have a_5 := na_5; clear na_5
  have a_6 := na_6; clear na_6
  have a_7 := na_7; clear na_7
  have a_f := na_f; clear na_f
  clear hb B2
  have B3 := Lib.hid hb'
  have hw3 := hb'.size
  clear hb'
  have hsa20 : w.heap.size < w3.heap.size := by omega
  have hsa21 : w.heap.size < w3.heap.size + 1 := by omega
  have hsa22 : w.heap.size < w3.heap.size + 1 + 1 := by omega
  go_wp2_with fail
  refine (sized_any _ _ _ _ _ _ _ _ _ _ _).mono ?_
  rintro e w4 ⟨rfl, hb⟩
  rw [HS.out]
  have hb' : Below w.heap.size w w4 := Below.trans (by have := B3.out; go_grown) (hb.mono (by first | omega | (simp; omega) | simp))
  have hz4 : w3.heap.size + 1 ≤ w4.heap.size := by have := hb.size; first | omega | (simp at this; omega)
  have na_0 : w4.cell? ⟨w.heap.size, 0, none⟩ = some (.int .u8 k) := keep1 hb (cellP (by first | omega | (simp; omega) | simp) a_0)
  have na_1 : w4.cell? ⟨w.heap.size, 1, none⟩ = some (.int .i64 mo) := keep1 hb (cellP (by first | omega | (simp; omega) | simp) a_1)
  have na_2 : w4.cell? ⟨w.heap.size, 2, none⟩ = some (.int .i64 li) := keep1 hb (cellP (by first | omega | (simp; omega) | simp) a_2)
  have na_3 : w4.cell? ⟨w.heap.size, 3, none⟩ = some (.int .i64 sz) := keep1 hb (cellP (by first | omega | (simp; omega) | simp) a_3)
  have na_4 : w4.cell? ⟨w.heap.size, 4, none⟩ = some (.int .i64 mt) := keep1 hb (cellP (by first | omega | (simp; omega) | simp) a_4)
  have na_5 : w4.cell? ⟨w.heap.size, 5, none⟩ = some (.int .i64 ct) := keep1 hb (cellP (by first | omega | (simp; omega) | simp) a_5)
  have na_6 : w4.cell? ⟨w.heap.size, 6, none⟩ = some (.int .i64 ino) := keep1 hb (cellP (by first | omega | (simp; omega) | simp) a_6)
  have na_7 : w4.cell? ⟨w.heap.size, 7, none⟩ = some (.int .i64 gen) := keep1 hb (cellP (by first | omega | (simp; omega) | simp) a_7)
  have na_f : ∀ i, w4.frozen? ⟨w.heap.size, i, none⟩ = false := fun i => (hb.frozen (p := ⟨w.heap.size, i, none⟩) (by first | omega | (simp; omega) | simp)).trans (frozP (by first | omega | (simp; omega) | simp) (a_f i))
  have nb_0 : w4.cell? ⟨w3.heap.size, 0, none⟩ = some (.int .u8 0) := keep1 hb ((cellN _ _ _ _ (by first | rfl | simp) _).trans rfl)
  have nb_1 : w4.cell? ⟨w3.heap.size, 1, none⟩ = some (.int .i64 0) := keep1 hb ((cellN _ _ _ _ (by first | rfl | simp) _).trans rfl)
  have nb_2 : w4.cell? ⟨w3.heap.size, 2, none⟩ = some (.int .i64 0) := keep1 hb ((cellN _ _ _ _ (by first | rfl | simp) _).trans rfl)
  have nb_3 : w4.cell? ⟨w3.heap.size, 3, none⟩ = some (.int .i64 0) := keep1 hb ((cellN _ _ _ _ (by first | rfl | simp) _).trans rfl)
  have nb_4 : w4.cell? ⟨w3.heap.size, 4, none⟩ = some (.int .i64 0) := keep1 hb ((cellN _ _ _ _ (by first | rfl | simp) _).trans rfl)
  have nb_5 : w4.cell? ⟨w3.heap.size, 5, none⟩ = some (.int .i64 0) := keep1 hb ((cellN _ _ _ _ (by first | rfl | simp) _).trans rfl)
  have nb_6 : w4.cell? ⟨w3.heap.size, 6, none⟩ = some (.int .i64 0) := keep1 hb ((cellN _ _ _ _ (by first | rfl | simp) _).trans rfl)
  have nb_7 : w4.cell? ⟨w3.heap.size, 7, none⟩ = some (.int .i64 0) := keep1 hb ((cellN _ _ _ _ (by first | rfl | simp) _).trans rfl)
  have nb_f : ∀ i, w4.frozen? ⟨w3.heap.size, i, none⟩ = false := fun i => (hb.frozen (p := ⟨w3.heap.size, i, none⟩) (by first | omega | (simp; omega) | simp)).trans (frozN (by first | rfl | simp))
  clear a_0 a_1 a_2 a_3 a_4 a_5 a_6 a_7 a_f
  have a_0 := na_0; clear na_0
  have a_1 := na_1; clear na_1
  have a_2 := na_2; clear na_2
  have a_3 := na_3; clear na_3
  have a_4 := na_4; clear na_4
  have a_5 := na_5; clear na_5
  have a_6 := na_6; clear na_6
  have a_7 := na_7; clear na_7
  have a_f := na_f; clear na_f
  have b_0 := nb_0; clear nb_0
  have b_1 := nb_1; clear nb_1
  have b_2 := nb_2; clear nb_2
  have b_3 := nb_3; clear nb_3
  have b_4 := nb_4; clear nb_4
  have b_5 := nb_5; clear nb_5
  have b_6 := nb_6; clear nb_6
  have b_7 := nb_7; clear nb_7
  have b_f := nb_f; clear nb_f
  clear hb B3
  have B4 := Lib.hid hb'
  have hw4 := hb'.size
  clear hb'
  have hsa30 : w.heap.size < w4.heap.size := by omega
  have hsa31 : w.heap.size < w4.heap.size + 1 := by omega
  have hsa32 : w.heap.size < w4.heap.size + 1 + 1 := by omega
  have hsb30 : w3.heap.size < w4.heap.size := by omega
  have hsb31 : w3.heap.size < w4.heap.size + 1 := by omega
  have hsb32 : w3.heap.size < w4.heap.size + 1 + 1 := by omega
  go_wp2_with fail
  refine (moded_any _ _ _ _ _ _ _ _ _ _ _).mono ?_
  rintro e w5 ⟨rfl, hb⟩
  rw [HD.out]
  have hb' : Below w.heap.size w w5 := Below.trans (by have := B4.out; go_grown) (hb.mono (by first | omega | (simp; omega) | simp))
  have hz5 : w4.heap.size ≤ w5.heap.size := by have := hb.size; first | omega | (simp at this; omega)
  have na_0 : w5.cell? ⟨w.heap.size, 0, none⟩ = some (.int .u8 k) := keep1 hb ((setO (by omega)).trans ((setO (by omega)).trans ((setO (by omega)).trans ((setO (by omega)).trans ((setO (by omega)).trans ((setO (by omega)).trans ((setO (by omega)).trans ((setO (by omega)).trans a_0))))))))
  have na_1 : w5.cell? ⟨w.heap.size, 1, none⟩ = some (.int .i64 mo) := keep1 hb ((setO (by omega)).trans ((setO (by omega)).trans ((setO (by omega)).trans ((setO (by omega)).trans ((setO (by omega)).trans ((setO (by omega)).trans ((setO (by omega)).trans ((setO (by omega)).trans a_1))))))))
  have na_2 : w5.cell? ⟨w.heap.size, 2, none⟩ = some (.int .i64 li) := keep1 hb ((setO (by omega)).trans ((setO (by omega)).trans ((setO (by omega)).trans ((setO (by omega)).trans ((setO (by omega)).trans ((setO (by omega)).trans ((setO (by omega)).trans ((setO (by omega)).trans a_2))))))))
  have na_3 : w5.cell? ⟨w.heap.size, 3, none⟩ = some (.int .i64 sz) := keep1 hb ((setO (by omega)).trans ((setO (by omega)).trans ((setO (by omega)).trans ((setO (by omega)).trans ((setO (by omega)).trans ((setO (by omega)).trans ((setO (by omega)).trans ((setO (by omega)).trans a_3))))))))
  have na_4 : w5.cell? ⟨w.heap.size, 4, none⟩ = some (.int .i64 mt) := keep1 hb ((setO (by omega)).trans ((setO (by omega)).trans ((setO (by omega)).trans ((setO (by omega)).trans ((setO (by omega)).trans ((setO (by omega)).trans ((setO (by omega)).trans ((setO (by omega)).trans a_4))))))))
  have na_5 : w5.cell? ⟨w.heap.size, 5, none⟩ = some (.int .i64 ct) := keep1 hb ((setO (by omega)).trans ((setO (by omega)).trans ((setO (by omega)).trans ((setO (by omega)).trans ((setO (by omega)).trans ((setO (by omega)).trans ((setO (by omega)).trans ((setO (by omega)).trans a_5))))))))
  have na_6 : w5.cell? ⟨w.heap.size, 6, none⟩ = some (.int .i64 ino) := keep1 hb ((setO (by omega)).trans ((setO (by omega)).trans ((setO (by omega)).trans ((setO (by omega)).trans ((setO (by omega)).trans ((setO (by omega)).trans ((setO (by omega)).trans ((setO (by omega)).trans a_6))))))))
  have na_7 : w5.cell? ⟨w.heap.size, 7, none⟩ = some (.int .i64 gen) := keep1 hb ((setO (by omega)).trans ((setO (by omega)).trans ((setO (by omega)).trans ((setO (by omega)).trans ((setO (by omega)).trans ((setO (by omega)).trans ((setO (by omega)).trans ((setO (by omega)).trans a_7))))))))
  have na_f : ∀ i, w5.frozen? ⟨w.heap.size, i, none⟩ = false := fun i => (hb.frozen (p := ⟨w.heap.size, i, none⟩) (by first | omega | (simp; omega) | simp)).trans (frozS (frozS (frozS (frozS (frozS (frozS (frozS (frozS (a_f i)))))))))
  have nb_0 : w5.cell? ⟨w3.heap.size, 0, none⟩ = some (.int .u8 0) := keep1 hb ((setO (by omega)).trans ((setO (by omega)).trans ((setO (by omega)).trans ((setO (by omega)).trans ((setO (by omega)).trans ((setO (by omega)).trans ((setO (by omega)).trans (setS b_0))))))))
  have nb_1 : w5.cell? ⟨w3.heap.size, 1, none⟩ = some (.int .i64 0) := keep1 hb ((setO (by omega)).trans ((setO (by omega)).trans ((setO (by omega)).trans ((setO (by omega)).trans ((setO (by omega)).trans ((setO (by omega)).trans (setS ((setO (by omega)).trans b_1))))))))
  have nb_2 : w5.cell? ⟨w3.heap.size, 2, none⟩ = some (.int .i64 0) := keep1 hb ((setO (by omega)).trans ((setO (by omega)).trans ((setO (by omega)).trans ((setO (by omega)).trans ((setO (by omega)).trans (setS ((setO (by omega)).trans ((setO (by omega)).trans b_2))))))))
  have nb_3 : w5.cell? ⟨w3.heap.size, 3, none⟩ = some (.int .i64 0) := keep1 hb ((setO (by omega)).trans ((setO (by omega)).trans ((setO (by omega)).trans ((setO (by omega)).trans (setS ((setO (by omega)).trans ((setO (by omega)).trans ((setO (by omega)).trans b_3))))))))
  have nb_4 : w5.cell? ⟨w3.heap.size, 4, none⟩ = some (.int .i64 0) := keep1 hb ((setO (by omega)).trans ((setO (by omega)).trans ((setO (by omega)).trans (setS ((setO (by omega)).trans ((setO (by omega)).trans ((setO (by omega)).trans ((setO (by omega)).trans b_4))))))))
  have nb_5 : w5.cell? ⟨w3.heap.size, 5, none⟩ = some (.int .i64 0) := keep1 hb ((setO (by omega)).trans ((setO (by omega)).trans (setS ((setO (by omega)).trans ((setO (by omega)).trans ((setO (by omega)).trans ((setO (by omega)).trans ((setO (by omega)).trans b_5))))))))
  have nb_6 : w5.cell? ⟨w3.heap.size, 6, none⟩ = some (.int .i64 0) := keep1 hb ((setO (by omega)).trans (setS ((setO (by omega)).trans ((setO (by omega)).trans ((setO (by omega)).trans ((setO (by omega)).trans ((setO (by omega)).trans ((setO (by omega)).trans b_6))))))))
  have nb_7 : w5.cell? ⟨w3.heap.size, 7, none⟩ = some (.int .i64 0) := keep1 hb (setS ((setO (by omega)).trans ((setO (by omega)).trans ((setO (by omega)).trans ((setO (by omega)).trans ((setO (by omega)).trans ((setO (by omega)).trans ((setO (by omega)).trans b_7))))))))
  have nb_f : ∀ i, w5.frozen? ⟨w3.heap.size, i, none⟩ = false := fun i => (hb.frozen (p := ⟨w3.heap.size, i, none⟩) (by first | omega | (simp; omega) | simp)).trans (frozS (frozS (frozS (frozS (frozS (frozS (frozS (frozS (b_f i)))))))))
  clear a_0 a_1 a_2 a_3 a_4 a_5 a_6 a_7 a_f b_0 b_1 b_2 b_3 b_4 b_5 b_6 b_7 b_f
  have a_0 := na_0; clear na_0
  have a_1 := na_1; clear na_1
  have a_2 := na_2; clear na_2
  have a_3 := na_3; clear na_3
  have a_4 := na_4; clear na_4
  have a_5 := na_5; clear na_5
  have a_6 := na_6; clear na_6
  have a_7 := na_7; clear na_7
  have a_f := na_f; clear na_f
  have b_0 := nb_0; clear nb_0
  have b_1 := nb_1; clear nb_1
  have b_2 := nb_2; clear nb_2
  have b_3 := nb_3; clear nb_3
  have b_4 := nb_4; clear nb_4
  have b_5 := nb_5; clear nb_5
  have b_6 := nb_6; clear nb_6
  have b_7 := nb_7; clear nb_7
  have b_f := nb_f; clear nb_f
  clear hb B4
  have B5 := Lib.hid hb'
  have hw5 := hb'.size
  clear hb'
  have hsa40 : w.heap.size < w5.heap.size := by omega
  have hsa41 : w.heap.size < w5.heap.size + 1 := by omega
  have hsa42 : w.heap.size < w5.heap.size + 1 + 1 := by omega
  have hsb40 : w3.heap.size < w5.heap.size := by omega
  have hsb41 : w3.heap.size < w5.heap.size + 1 := by omega
  have hsb42 : w3.heap.size < w5.heap.size + 1 + 1 := by omega
  go_wp2_with fail
  go_ret
  exact ⟨ret_bool (by simp), by have := B5.out; go_grown⟩

/-- What is known of the numbers, of a thing that may be. -/
theorem mayB_open {k mo li sz mt ct ino gen : Int} (h : mayB k mo li sz mt ct ino gen = true) : 0 ≤ mo ∧ mo ≤ 4095 ∧ 0 ≤ li ∧ li ≤ 2147483647 ∧ 0 ≤ sz ∧ sz ≤ 2147483647 ∧ 0 ≤ mt ∧ mt ≤ 2147483647 ∧ 0 ≤ ct ∧ ct ≤ 2147483647 ∧ 1 ≤ ino ∧ ino < 2147483647 ∧ 0 ≤ gen ∧ gen ≤ 2147483647 ∧
    1 ≤ k ∧ k ≤ 3 ∧ (k = 1 → sz ≤ 32768) ∧ (k = 3 → sz ≤ 160) := of_decide_eq_true h
theorem linked_cases {k mo li sz mt ct ino gen now : Int} (h : mayB k mo li sz mt ct ino gen = true) :
    (linkedR k mo li sz mt ct ino gen 1 now = .tuple #[.agg #[.int .u8 k, .int .i64 mo, .int .i64 (li + 1), .int .i64 sz, .int .i64 mt, .int .i64 now, .int .i64 ino, .int .i64 gen], .int .i64 0] ∧ linkedR k mo (li + 1) sz mt now ino gen (-1) now = .tuple #[.agg #[.int .u8 k, .int .i64 mo, .int .i64 li, .int .i64 sz, .int .i64 mt, .int .i64 now, .int .i64 ino, .int .i64 gen], .int .i64 0] ∧ mayB k mo (li + 1) sz mt now ino gen = true ∧ li + 1 < 9223372036854775808) ∨
    ∃ cl, linkedR k mo li sz mt ct ino gen 1 now = .tuple #[.agg #[.int .u8 0, .int .i64 0, .int .i64 0, .int .i64 0, .int .i64 0, .int .i64 0, .int .i64 0, .int .i64 0], .int .i64 cl] ∧ (cl == 0) = false := by
  have ho := mayB_open h
  by_cases h1 : now < 0 ∨ 2147483647 < now
  · refine .inr ⟨1, ?_, rfl⟩
    unfold linkedR; rw [if_pos (by omega)]; rfl
  · by_cases h2 : li = 2147483647
    · refine .inr ⟨50, ?_, rfl⟩
      unfold linkedR; rw [if_neg (by omega), if_pos (by omega)]; rfl
    · refine .inl ⟨?_, ?_, (mayB_t (by omega)).symm, by omega⟩
      · unfold linkedR; rw [if_neg (by omega), if_neg (by omega)]; rfl
      · unfold linkedR; rw [if_neg (by omega), if_neg (by omega), show li + 1 + -1 = li from by omega]; rfl
theorem sized_cases {k mo li sz mt ct ino gen size now : Int} (h : mayB k mo li sz mt ct ino gen = true) :
    (sizedR k mo li sz mt ct ino gen size now = .tuple #[.agg #[.int .u8 k, .int .i64 mo, .int .i64 li, .int .i64 size, .int .i64 now, .int .i64 now, .int .i64 ino, .int .i64 gen], .int .i64 0] ∧ mayB k mo li size now now ino gen = true) ∨ ∃ cs, sizedR k mo li sz mt ct ino gen size now = .tuple #[.agg #[.int .u8 0, .int .i64 0, .int .i64 0, .int .i64 0, .int .i64 0, .int .i64 0, .int .i64 0, .int .i64 0], .int .i64 cs] ∧ (cs == 0) = false := by
  have ho := mayB_open h
  by_cases h1 : k ≠ 1
  · refine .inr ⟨55, ?_, rfl⟩
    unfold sizedR; rw [if_pos h1]; rfl
  · by_cases h2 : size < 0 ∨ now < 0 ∨ 2147483647 < now
    · refine .inr ⟨1, ?_, rfl⟩
      unfold sizedR; rw [if_neg h1, if_pos h2]; rfl
    · by_cases h3 : 32768 < size
      · refine .inr ⟨40, ?_, rfl⟩
        unfold sizedR; rw [if_neg h1, if_neg h2, if_pos h3]; rfl
      · refine .inl ⟨?_, (mayB_t (by omega)).symm⟩
        unfold sizedR; rw [if_neg h1, if_neg h2, if_neg h3]; rfl
theorem moded_cases {k mo li sz mt ct ino gen mode now : Int} (h : mayB k mo li sz mt ct ino gen = true) :
    (modedR k mo li sz mt ct ino gen mode now = .tuple #[.agg #[.int .u8 k, .int .i64 mode, .int .i64 li, .int .i64 sz, .int .i64 mt, .int .i64 now, .int .i64 ino, .int .i64 gen], .int .i64 0] ∧ mayB k mode li sz mt now ino gen = true) ∨ ∃ cm, modedR k mo li sz mt ct ino gen mode now = .tuple #[.agg #[.int .u8 0, .int .i64 0, .int .i64 0, .int .i64 0, .int .i64 0, .int .i64 0, .int .i64 0, .int .i64 0], .int .i64 cm] ∧ (cm == 0) = false := by
  have ho := mayB_open h
  by_cases h1 : mode < 0 ∨ 4095 < mode ∨ now < 0 ∨ 2147483647 < now
  · refine .inr ⟨1, ?_, rfl⟩
    unfold modedR; rw [if_pos h1]; rfl
  · refine .inl ⟨?_, (mayB_t (by omega)).symm⟩
    unfold modedR; rw [if_neg h1]; rfl

set_option maxHeartbeats 1000000 in
theorem may_no (k mo li sz mt ct ino gen mode size now : Int) (w : World) (HM : mayB k mo li sz mt ct ino gen = false) :
    Calls Try.prog 4 #[.agg #[.int .u8 k, .int .i64 mo, .int .i64 li, .int .i64 sz, .int .i64 mt, .int .i64 ct, .int .i64 ino, .int .i64 gen], .int .i64 mode, .int .i64 size, .int .i64 now] w fun e w' => e = .returned (.bool true) ∧ Below w.heap.size w w' := by
  replace HM := Lib.hid HM
  go_enter Try.func4, Try.ntmps4
  go_wp2_with fail
  refine (may_any _ _ _ _ _ _ _ _ _).mono ?_
  rintro e w1 ⟨rfl, hb⟩
  rw [HM.out]
  have hb' : Below w.heap.size w w1 := Below.trans (by go_grown) (hb.mono (by first | omega | (simp; omega) | simp))
  have hz1 : w.heap.size + 1 ≤ w1.heap.size := by have := hb.size; first | omega | (simp at this; omega)
  have na_0 : w1.cell? ⟨w.heap.size, 0, none⟩ = some (.int .u8 k) := keep1 hb ((cellN _ _ _ _ (by first | rfl | simp) _).trans rfl)
  have na_1 : w1.cell? ⟨w.heap.size, 1, none⟩ = some (.int .i64 mo) := keep1 hb ((cellN _ _ _ _ (by first | rfl | simp) _).trans rfl)
  have na_2 : w1.cell? ⟨w.heap.size, 2, none⟩ = some (.int .i64 li) := keep1 hb ((cellN _ _ _ _ (by first | rfl | simp) _).trans rfl)
  have na_3 : w1.cell? ⟨w.heap.size, 3, none⟩ = some (.int .i64 sz) := keep1 hb ((cellN _ _ _ _ (by first | rfl | simp) _).trans rfl)
  have na_4 : w1.cell? ⟨w.heap.size, 4, none⟩ = some (.int .i64 mt) := keep1 hb ((cellN _ _ _ _ (by first | rfl | simp) _).trans rfl)
  have na_5 : w1.cell? ⟨w.heap.size, 5, none⟩ = some (.int .i64 ct) := keep1 hb ((cellN _ _ _ _ (by first | rfl | simp) _).trans rfl)
  have na_6 : w1.cell? ⟨w.heap.size, 6, none⟩ = some (.int .i64 ino) := keep1 hb ((cellN _ _ _ _ (by first | rfl | simp) _).trans rfl)
  have na_7 : w1.cell? ⟨w.heap.size, 7, none⟩ = some (.int .i64 gen) := keep1 hb ((cellN _ _ _ _ (by first | rfl | simp) _).trans rfl)
  have na_f : ∀ i, w1.frozen? ⟨w.heap.size, i, none⟩ = false := fun i => (hb.frozen (p := ⟨w.heap.size, i, none⟩) (by first | omega | (simp; omega) | simp)).trans (frozN (by first | rfl | simp))
  have a_0 := na_0; clear na_0
  have a_1 := na_1; clear na_1
  have a_2 := na_2; clear na_2
  have a_3 := na_3; clear na_3
  have a_4 := na_4; clear na_4
  have a_5 := na_5; clear na_5
  have a_6 := na_6; clear na_6
  have a_7 := na_7; clear na_7
  have a_f := na_f; clear na_f
  clear hb
  have B1 := Lib.hid hb'
  have hw1 := hb'.size
  clear hb'
  have hsa00 : w.heap.size < w1.heap.size := by omega
  have hsa01 : w.heap.size < w1.heap.size + 1 := by omega
  have hsa02 : w.heap.size < w1.heap.size + 1 + 1 := by omega
  go_wp2_with fail
  refine (awake20 _).mono ?_
  rintro e w2 ⟨rfl, hb⟩
  have hb' : Below w.heap.size w w2 := Below.trans (by have := B1.out; go_grown) (hb.mono (by first | omega | (simp; omega) | simp))
  have hz2 : w1.heap.size ≤ w2.heap.size := by have := hb.size; first | omega | (simp at this; omega)
  have na_0 : w2.cell? ⟨w.heap.size, 0, none⟩ = some (.int .u8 k) := keep1 hb a_0
  have na_1 : w2.cell? ⟨w.heap.size, 1, none⟩ = some (.int .i64 mo) := keep1 hb a_1
  have na_2 : w2.cell? ⟨w.heap.size, 2, none⟩ = some (.int .i64 li) := keep1 hb a_2
  have na_3 : w2.cell? ⟨w.heap.size, 3, none⟩ = some (.int .i64 sz) := keep1 hb a_3
  have na_4 : w2.cell? ⟨w.heap.size, 4, none⟩ = some (.int .i64 mt) := keep1 hb a_4
  have na_5 : w2.cell? ⟨w.heap.size, 5, none⟩ = some (.int .i64 ct) := keep1 hb a_5
  have na_6 : w2.cell? ⟨w.heap.size, 6, none⟩ = some (.int .i64 ino) := keep1 hb a_6
  have na_7 : w2.cell? ⟨w.heap.size, 7, none⟩ = some (.int .i64 gen) := keep1 hb a_7
  have na_f : ∀ i, w2.frozen? ⟨w.heap.size, i, none⟩ = false := fun i => (hb.frozen (p := ⟨w.heap.size, i, none⟩) (by first | omega | (simp; omega) | simp)).trans (a_f i)
  clear a_0 a_1 a_2 a_3 a_4 a_5 a_6 a_7 a_f
  have a_0 := na_0; clear na_0
  have a_1 := na_1; clear na_1
  have a_2 := na_2; clear na_2
  have a_3 := na_3; clear na_3
  have a_4 := na_4; clear na_4
  have a_5 := na_5; clear na_5
  have a_6 := na_6; clear na_6
  have a_7 := na_7; clear na_7
  have a_f := na_f; clear na_f
  clear hb B1
  have B2 := Lib.hid hb'
  have hw2 := hb'.size
  clear hb'
  have hsa10 : w.heap.size < w2.heap.size := by omega
  have hsa11 : w.heap.size < w2.heap.size + 1 := by omega
  have hsa12 : w.heap.size < w2.heap.size + 1 + 1 := by omega
  go_wp2_with fail
  go_ret
  exact ⟨ret_bool (by simp), by have := B2.out; go_grown⟩

theorem may_walk (k mo li sz mt ct ino gen mode size now : Int) (w : World) (b1 : -9223372036854775808 ≤ li) (b2 : li ≤ 9223372036854775807) :
    Calls Try.prog 4 #[.agg #[.int .u8 k, .int .i64 mo, .int .i64 li, .int .i64 sz, .int .i64 mt, .int .i64 ct, .int .i64 ino, .int .i64 gen], .int .i64 mode, .int .i64 size, .int .i64 now] w fun e w' => e = .returned (.bool true) ∧ Below w.heap.size w w' := by
  cases h : mayB k mo li sz mt ct ino gen with
  | false => exact may_no _ _ _ _ _ _ _ _ _ _ _ w h
  | true =>
    rcases linked_cases (now := now) h with ⟨l1, l2, l3, l4⟩ | ⟨cl, l1, l2⟩ <;> rcases sized_cases (size := size) (now := now) h with ⟨s1, s2⟩ | ⟨cs, s1, s2⟩ <;> rcases moded_cases (mode := mode) (now := now) h with ⟨m1, m2⟩ | ⟨cm, m1, m2⟩
    · exact may_111 _ _ _ _ _ _ _ _ _ _ _ w b1 b2 h l1 l2 l3 l4 s1 s2 m1 m2
    · exact may_110 _ _ _ _ _ _ _ _ _ _ _ cm w b1 b2 h l1 l2 l3 l4 s1 s2 m1 m2
    · exact may_101 _ _ _ _ _ _ _ _ _ _ _ cs w b1 b2 h l1 l2 l3 l4 s1 s2 m1 m2
    · exact may_100 _ _ _ _ _ _ _ _ _ _ _ cs cm w b1 b2 h l1 l2 l3 l4 s1 s2 m1 m2
    · exact may_011 _ _ _ _ _ _ _ _ _ _ _ cl w b1 b2 h l1 l2 s1 s2 m1 m2
    · exact may_010 _ _ _ _ _ _ _ _ _ _ _ cl cm w b1 b2 h l1 l2 s1 s2 m1 m2
    · exact may_001 _ _ _ _ _ _ _ _ _ _ _ cl cs w b1 b2 h l1 l2 s1 s2 m1 m2
    · exact may_000 _ _ _ _ _ _ _ _ _ _ _ cl cs cm w b1 b2 h l1 l2 s1 s2 m1 m2
end Go.Proofs.Ytlkjgnnnamkfeaa
