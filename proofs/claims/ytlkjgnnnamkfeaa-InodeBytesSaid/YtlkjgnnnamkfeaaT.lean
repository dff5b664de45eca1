/- WALK of InodeBytes. -/
import Derived.Test.YtlkjgnnnamkfeaaS
import Derived.Test.YtlkjgnnnamkfeaaE
import Derived.Test.YtlkjgnnnamkfeaaH
set_option linter.unusedVariables false
namespace Go.Proofs.Ytlkjgnnnamkfeaa
open Go.RowKit Go.ChangeShapes Go.WideShapes Go.ChangeAt

theorem setO {w : World} {b i c j : Nat} {v : Value} (h : b ≠ c ∨ i ≠ j) : (w.setCell ⟨b, i, none⟩ v).cell? ⟨c, j, none⟩ = w.cell? ⟨c, j, none⟩ := World.cell?_setCell_other _ _ _ _ (by intro h'; simp at h'; omega)
theorem setS {w : World} {a : Addr} {v u : Value} (h : w.cell? a = some u) : (w.setCell a v).cell? a = some v := World.cell?_setCell_same _ _ _ h
theorem frozS {w : World} {a p : Addr} {v : Value} {x : Bool} (h : w.frozen? p = x) : (w.setCell a v).frozen? p = x := (World.frozen?_setCell w a p v).trans h
theorem frozN {w : World} {cs : Array Value} {t : TypeId} {b i : Nat} (h : w.heap.size = b) : (w.alloc (.cells cs t)).frozen? ⟨b, i, none⟩ = false := by subst h; exact World.frozen?_alloc_new w _ _ _
theorem cellD {w : World} {p : Addr} {v : Option Value} (h : w.cell? p = v) : w.drew.cell? p = v := h
theorem frozD {w : World} {p : Addr} {v : Bool} (h : w.frozen? p = v) : w.drew.frozen? p = v := h
theorem encR_is (k mo li sz mt ct ino gen : Int) : ∃ b e, encR k mo li sz mt ct ino gen = .tuple #[.string b, .int .i64 e] := by
  unfold encR; split
  · exact ⟨_, _, rfl⟩
  · exact ⟨_, _, rfl⟩
theorem mencR_is (g b : Int) : ∃ s e, mencR g b = .tuple #[.string s, .int .i64 e] := by
  unfold mencR; split
  · exact ⟨_, _, rfl⟩
  · exact ⟨_, _, rfl⟩
theorem decR_is (s : ByteArray) : ∃ k mo li sz mt ct ino gen e, decR s = .tuple #[.agg #[.int .u8 k, .int .i64 mo, .int .i64 li, .int .i64 sz, .int .i64 mt, .int .i64 ct, .int .i64 ino, .int .i64 gen], .int .i64 e] := by
  unfold decR; split
  · exact ⟨0, 0, 0, 0, 0, 0, 0, 0, 4, rfl⟩
  · split
    · exact ⟨_, _, _, _, _, _, _, _, _, rfl⟩
    · exact ⟨0, 0, 0, 0, 0, 0, 0, 0, 4, rfl⟩
theorem decMR_is (s : ByteArray) : ∃ g b e, decMR s = .tuple #[.agg #[.int .i64 g, .int .i64 b], .int .i64 e] := by
  unfold decMR; split
  · exact ⟨_, _, _, rfl⟩
  · split
    · exact ⟨_, _, _, rfl⟩
    · exact ⟨_, _, _, rfl⟩
theorem may_is {k mo li sz mt ct ino gen : Int} {m : Bool} (h : mayB k mo li sz mt ct ino gen = m) (w : World) : Calls Try.prog 15 #[.agg #[.int .u8 k, .int .i64 mo, .int .i64 li, .int .i64 sz, .int .i64 mt, .int .i64 ct, .int .i64 ino, .int .i64 gen]] w fun e w' => e = .returned (.bool m) ∧ Below w.heap.size w w' := by subst h; exact may_any _ _ _ _ _ _ _ _ w
theorem refmay_is {k mo li sz mt ct ino gen : Int} {m : Bool} (h : mayB k mo li sz mt ct ino gen = m) (w : World) : Calls Try.prog 24 #[.agg #[.int .u8 k, .int .i64 mo, .int .i64 li, .int .i64 sz, .int .i64 mt, .int .i64 ct, .int .i64 ino, .int .i64 gen]] w fun e w' => e = .returned (.bool m) ∧ Below w.heap.size w w' := by subst h; exact refmay_any _ _ _ _ _ _ _ _ w
set_option maxRecDepth 20000 in
set_option maxHeartbeats 8000000 in
theorem bytes_in (k mo li sz mt ct ino gen g bt e1 e2 e3 e4 k2 mo2 li2 sz2 mt2 ct2 ino2 gen2 g2 bt2 : Int) (m : Bool) (s t b mb : ByteArray) (w : World) (lo_mo : -9223372036854775808 ≤ mo) (hi_mo : mo ≤ 9223372036854775807) (lo_li : -9223372036854775808 ≤ li) (hi_li : li ≤ 9223372036854775807) (lo_sz : -9223372036854775808 ≤ sz) (hi_sz : sz ≤ 9223372036854775807) (lo_mt : -9223372036854775808 ≤ mt) (hi_mt : mt ≤ 9223372036854775807) (lo_ct : -9223372036854775808 ≤ ct) (hi_ct : ct ≤ 9223372036854775807) (lo_ino : -9223372036854775808 ≤ ino) (hi_ino : ino ≤ 9223372036854775807) (lo_gen : -9223372036854775808 ≤ gen) (hi_gen : gen ≤ 9223372036854775807) (lo_g : -9223372036854775808 ≤ g) (hi_g : g ≤ 9223372036854775807) (lo_bt : -9223372036854775808 ≤ bt) (hi_bt : bt ≤ 9223372036854775807) (hs : s.size ≤ 1000) (ht : t.size ≤ 1000) (HE : encR k mo li sz mt ct ino gen = .tuple #[.string b, .int .i64 e1]) (HD : decR s = .tuple #[.agg #[.int .u8 k2, .int .i64 mo2, .int .i64 li2, .int .i64 sz2, .int .i64 mt2, .int .i64 ct2, .int .i64 ino2, .int .i64 gen2], .int .i64 e2]) (HME : mencR g bt = .tuple #[.string mb, .int .i64 e3]) (HMD : decMR t = .tuple #[.agg #[.int .i64 g2, .int .i64 bt2], .int .i64 e4]) (HM : mayB k mo li sz mt ct ino gen = m) :
    Calls Try.prog 5 #[.agg #[.int .u8 k, .int .i64 mo, .int .i64 li, .int .i64 sz, .int .i64 mt, .int .i64 ct, .int .i64 ino, .int .i64 gen], .agg #[.int .i64 g, .int .i64 bt], .string s, .string t] w fun e w' => e = .returned (.bool true) ∧ Below w.heap.size w w' := by
  replace HE := Lib.hid HE
  replace HD := Lib.hid HD
  replace HME := Lib.hid HME
  replace HMD := Lib.hid HMD
  replace HM := Lib.hid HM
  go_enter Try.func5, Try.ntmps5
  go_wp2_with fail
  refine (encode_any _ _ _ _ _ _ _ _ _ (by assumption) (by assumption) (by assumption) (by assumption) (by assumption) (by assumption) (by assumption) (by assumption) (by assumption) (by assumption) (by assumption) (by assumption) (by assumption) (by assumption)).mono ?_
  rintro e w1 ⟨rfl, hb⟩
  rw [HE.out]
  have hb' : Below w.heap.size w w1 := Below.trans (by go_grown) (hb.mono (by first | omega | (simp; omega) | simp))
  have hz1 : w.heap.size + 2 ≤ w1.heap.size := by have := hb.size; first | omega | (simp at this; omega)
  have na_0 : w1.cell? ⟨w.heap.size, 0, none⟩ = some (.int .u8 k) := keep1 hb (cellP (by first | omega | (simp; omega) | simp) ((cellN _ _ _ _ (by first | rfl | simp) _).trans rfl))
  have na_1 : w1.cell? ⟨w.heap.size, 1, none⟩ = some (.int .i64 mo) := keep1 hb (cellP (by first | omega | (simp; omega) | simp) ((cellN _ _ _ _ (by first | rfl | simp) _).trans rfl))
  have na_2 : w1.cell? ⟨w.heap.size, 2, none⟩ = some (.int .i64 li) := keep1 hb (cellP (by first | omega | (simp; omega) | simp) ((cellN _ _ _ _ (by first | rfl | simp) _).trans rfl))
  have na_3 : w1.cell? ⟨w.heap.size, 3, none⟩ = some (.int .i64 sz) := keep1 hb (cellP (by first | omega | (simp; omega) | simp) ((cellN _ _ _ _ (by first | rfl | simp) _).trans rfl))
  have na_4 : w1.cell? ⟨w.heap.size, 4, none⟩ = some (.int .i64 mt) := keep1 hb (cellP (by first | omega | (simp; omega) | simp) ((cellN _ _ _ _ (by first | rfl | simp) _).trans rfl))
  have na_5 : w1.cell? ⟨w.heap.size, 5, none⟩ = some (.int .i64 ct) := keep1 hb (cellP (by first | omega | (simp; omega) | simp) ((cellN _ _ _ _ (by first | rfl | simp) _).trans rfl))
  have na_6 : w1.cell? ⟨w.heap.size, 6, none⟩ = some (.int .i64 ino) := keep1 hb (cellP (by first | omega | (simp; omega) | simp) ((cellN _ _ _ _ (by first | rfl | simp) _).trans rfl))
  have na_7 : w1.cell? ⟨w.heap.size, 7, none⟩ = some (.int .i64 gen) := keep1 hb (cellP (by first | omega | (simp; omega) | simp) ((cellN _ _ _ _ (by first | rfl | simp) _).trans rfl))
  have na_f : ∀ i, w1.frozen? ⟨w.heap.size, i, none⟩ = false := fun i => (hb.frozen (p := ⟨w.heap.size, i, none⟩) (by first | omega | (simp; omega) | simp)).trans (frozP (by first | omega | (simp; omega) | simp) (frozN (by first | rfl | simp)))
  have nm_0 : w1.cell? ⟨w.heap.size + 1, 0, none⟩ = some (.int .i64 g) := keep1 hb ((cellN _ _ _ _ (by first | rfl | simp) _).trans rfl)
  have nm_1 : w1.cell? ⟨w.heap.size + 1, 1, none⟩ = some (.int .i64 bt) := keep1 hb ((cellN _ _ _ _ (by first | rfl | simp) _).trans rfl)
  have nm_f : ∀ i, w1.frozen? ⟨w.heap.size + 1, i, none⟩ = false := fun i => (hb.frozen (p := ⟨w.heap.size + 1, i, none⟩) (by first | omega | (simp; omega) | simp)).trans (frozN (by first | rfl | simp))
  have a_0 := na_0; clear na_0
  have a_1 := na_1; clear na_1
  have a_2 := na_2; clear na_2
  have a_3 := na_3; clear na_3
  have a_4 := na_4; clear na_4
  have a_5 := na_5; clear na_5
  have a_6 := na_6; clear na_6
  have a_7 := na_7; clear na_7
  have a_f := na_f; clear na_f
  have m_0 := nm_0; clear nm_0
  have m_1 := nm_1; clear nm_1
  have m_f := nm_f; clear nm_f
  clear hb
  have B1 := Lib.hid hb'
  have hw1 := hb'.size
  clear hb'
  have hsa00 : w.heap.size < w1.heap.size := by omega
  have hsa01 : w.heap.size < w1.heap.size + 1 := by omega
  have hsa02 : w.heap.size < w1.heap.size + 1 + 1 := by omega
  have hsm00 : w.heap.size + 1 < w1.heap.size := by omega
  have hsm01 : w.heap.size + 1 < w1.heap.size + 1 := by omega
  have hsm02 : w.heap.size + 1 < w1.heap.size + 1 + 1 := by omega
  go_wp2_with fail
  refine (refencode_any _ _ _ _ _ _ _ _ _ (by assumption) (by assumption) (by assumption) (by assumption) (by assumption) (by assumption) (by assumption) (by assumption) (by assumption) (by assumption) (by assumption) (by assumption) (by assumption) (by assumption)).mono ?_
  rintro e w2 ⟨rfl, hb⟩
  rw [HE.out]
  have hb' : Below w.heap.size w w2 := Below.trans (by have := B1.out; go_grown) (hb.mono (by first | omega | (simp; omega) | simp))
  have hz2 : w1.heap.size ≤ w2.heap.size := by have := hb.size; first | omega | (simp at this; omega)
  have na_0 : w2.cell? ⟨w.heap.size, 0, none⟩ = some (.int .u8 k) := keep1 hb a_0
  have na_1 : w2.cell? ⟨w.heap.size, 1, none⟩ = some (.int .i64 mo) := keep1 hb a_1
  have na_2 : w2.cell? ⟨w.heap.size, 2, none⟩ = some (.int .i64 li) := keep1 hb a_2
  have na_3 : w2.cell? ⟨w.heap.size, 3, none⟩ = some (.int .i64 sz) := keep1 hb a_3
  have na_4 : w2.cell? ⟨w.heap.size, 4, none⟩ = some (.int .i64 mt) := keep1 hb a_4
  have na_5 : w2.cell? ⟨w.heap.size, 5, none⟩ = some (.int .i64 ct) := keep1 hb a_5
  have na_6 : w2.cell? ⟨w.heap.size, 6, none⟩ = some (.int .i64 ino) := keep1 hb a_6
  have na_7 : w2.cell? ⟨w.heap.size, 7, none⟩ = some (.int .i64 gen) := keep1 hb a_7
  have na_f : ∀ i, w2.frozen? ⟨w.heap.size, i, none⟩ = false := fun i => (hb.frozen (p := ⟨w.heap.size, i, none⟩) (by first | omega | (simp; omega) | simp)).trans (a_f i)
  have nm_0 : w2.cell? ⟨w.heap.size + 1, 0, none⟩ = some (.int .i64 g) := keep1 hb m_0
  have nm_1 : w2.cell? ⟨w.heap.size + 1, 1, none⟩ = some (.int .i64 bt) := keep1 hb m_1
  have nm_f : ∀ i, w2.frozen? ⟨w.heap.size + 1, i, none⟩ = false := fun i => (hb.frozen (p := ⟨w.heap.size + 1, i, none⟩) (by first | omega | (simp; omega) | simp)).trans (m_f i)
  clear a_0 a_1 a_2 a_3 a_4 a_5 a_6 a_7 a_f m_0 m_1 m_f
  have a_0 := na_0; clear na_0
  have a_1 := na_1; clear na_1
  have a_2 := na_2; clear na_2
  have a_3 := na_3; clear na_3
  have a_4 := na_4; clear na_4
  have a_5 := na_5; clear na_5
  have a_6 := na_6; clear na_6
  have a_7 := na_7; clear na_7
  have a_f := na_f; clear na_f
  have m_0 := nm_0; clear nm_0
  have m_1 := nm_1; clear nm_1
  have m_f := nm_f; clear nm_f
  clear hb B1
  have B2 := Lib.hid hb'
  have hw2 := hb'.size
  clear hb'
  have hsa10 : w.heap.size < w2.heap.size := by omega
  have hsa11 : w.heap.size < w2.heap.size + 1 := by omega
  have hsa12 : w.heap.size < w2.heap.size + 1 + 1 := by omega
  have hsm10 : w.heap.size + 1 < w2.heap.size := by omega
  have hsm11 : w.heap.size + 1 < w2.heap.size + 1 := by omega
  have hsm12 : w.heap.size + 1 < w2.heap.size + 1 + 1 := by omega
  go_wp2_with fail
  refine (decode_any s _).mono ?_
  rintro e w3 ⟨rfl, hb⟩
  rw [HD.out]
  have hb' : Below w.heap.size w w3 := Below.trans (by have := B2.out; go_grown) (hb.mono (by first | omega | (simp; omega) | simp))
  have hz3 : w2.heap.size ≤ w3.heap.size := by have := hb.size; first | omega | (simp at this; omega)
  have na_0 : w3.cell? ⟨w.heap.size, 0, none⟩ = some (.int .u8 k) := keep1 hb a_0
  have na_1 : w3.cell? ⟨w.heap.size, 1, none⟩ = some (.int .i64 mo) := keep1 hb a_1
  have na_2 : w3.cell? ⟨w.heap.size, 2, none⟩ = some (.int .i64 li) := keep1 hb a_2
  have na_3 : w3.cell? ⟨w.heap.size, 3, none⟩ = some (.int .i64 sz) := keep1 hb a_3
  have na_4 : w3.cell? ⟨w.heap.size, 4, none⟩ = some (.int .i64 mt) := keep1 hb a_4
  have na_5 : w3.cell? ⟨w.heap.size, 5, none⟩ = some (.int .i64 ct) := keep1 hb a_5
  have na_6 : w3.cell? ⟨w.heap.size, 6, none⟩ = some (.int .i64 ino) := keep1 hb a_6
  have na_7 : w3.cell? ⟨w.heap.size, 7, none⟩ = some (.int .i64 gen) := keep1 hb a_7
  have na_f : ∀ i, w3.frozen? ⟨w.heap.size, i, none⟩ = false := fun i => (hb.frozen (p := ⟨w.heap.size, i, none⟩) (by first | omega | (simp; omega) | simp)).trans (a_f i)
  have nm_0 : w3.cell? ⟨w.heap.size + 1, 0, none⟩ = some (.int .i64 g) := keep1 hb m_0
  have nm_1 : w3.cell? ⟨w.heap.size + 1, 1, none⟩ = some (.int .i64 bt) := keep1 hb m_1
  have nm_f : ∀ i, w3.frozen? ⟨w.heap.size + 1, i, none⟩ = false := fun i => (hb.frozen (p := ⟨w.heap.size + 1, i, none⟩) (by first | omega | (simp; omega) | simp)).trans (m_f i)
  clear a_0 a_1 a_2 a_3 a_4 a_5 a_6 a_7 a_f m_0 m_1 m_f
  have a_0 := na_0; clear na_0
  have a_1 := na_1; clear na_1
  have a_2 := na_2; clear na_2
  have a_3 := na_3; clear na_3
  have a_4 := na_4; clear na_4
  have a_5 := na_5; clear na_5
  have a_6 := na_6; clear na_6
  have a_7 := na_7; clear na_7
  have a_f := na_f; clear na_f
  have m_0 := nm_0; clear nm_0
  have m_1 := nm_1; clear nm_1
  have m_f := nm_f; clear nm_f
  clear hb B2
  have B3 := Lib.hid hb'
  have hw3 := hb'.size
  clear hb'
  have hsa20 : w.heap.size < w3.heap.size := by omega
  have hsa21 : w.heap.size < w3.heap.size + 1 := by omega
  have hsa22 : w.heap.size < w3.heap.size + 1 + 1 := by omega
  have hsm20 : w.heap.size + 1 < w3.heap.size := by omega
  have hsm21 : w.heap.size + 1 < w3.heap.size + 1 := by omega
  have hsm22 : w.heap.size + 1 < w3.heap.size + 1 + 1 := by omega
  go_wp2_with fail
  refine (refdecode_any s _).mono ?_
  rintro e w4 ⟨rfl, hb⟩
  rw [HD.out]
  have hb' : Below w.heap.size w w4 := Below.trans (by have := B3.out; go_grown) (hb.mono (by first | omega | (simp; omega) | simp))
  have hz4 : w3.heap.size + 1 ≤ w4.heap.size := by have := hb.size; first | omega | (simp at this; omega)
  have na_0 : w4.cell? ⟨w.heap.size, 0, none⟩ = some (.int .u8 k) := keep1 hb (cellP (by first | omega | (simp; omega) | simp) a_0)
  have na_1 : w4.cell? ⟨w.heap.size, 1, none⟩ = some (.int .i64 mo) := keep1 hb (cellP (by first | omega | (simp; omega) | simp) a_1)
  have na_2 : w4.cell? ⟨w.heap.size, 2, none⟩ = some (.int .i64 li) := keep1 hb (cellP (by first | omega | (simp; omega) | simp) a_2)
  have na_3 : w4.cell? ⟨w.heap.size, 3, none⟩ = some (.int .i64 sz) := keep1 hb (cellP (by first | omega | (simp; omega) | simp) a_3)
  have na_4 : w4.cell? ⟨w.heap.size, 4, none⟩ = some (.int .i64 mt) := keep1 hb (cellP (by first | omega | (simp; omega) | simp) a_4)
  have na_5 : w4.cell? ⟨w.heap.size, 5, none⟩ = some (.int .i64 ct) := keep1 hb (cellP (by first | omega | (simp; omega) | simp) a_5)
  have na_6 : w4.cell? ⟨w.heap.size, 6, none⟩ = some (.int .i64 ino) := keep1 hb (cellP (by first | omega | (simp; omega) | simp) a_6)
  have na_7 : w4.cell? ⟨w.heap.size, 7, none⟩ = some (.int .i64 gen) := keep1 hb (cellP (by first | omega | (simp; omega) | simp) a_7)
  have na_f : ∀ i, w4.frozen? ⟨w.heap.size, i, none⟩ = false := fun i => (hb.frozen (p := ⟨w.heap.size, i, none⟩) (by first | omega | (simp; omega) | simp)).trans (frozP (by first | omega | (simp; omega) | simp) (a_f i))
  have nm_0 : w4.cell? ⟨w.heap.size + 1, 0, none⟩ = some (.int .i64 g) := keep1 hb (cellP (by first | omega | (simp; omega) | simp) m_0)
  have nm_1 : w4.cell? ⟨w.heap.size + 1, 1, none⟩ = some (.int .i64 bt) := keep1 hb (cellP (by first | omega | (simp; omega) | simp) m_1)
  have nm_f : ∀ i, w4.frozen? ⟨w.heap.size + 1, i, none⟩ = false := fun i => (hb.frozen (p := ⟨w.heap.size + 1, i, none⟩) (by first | omega | (simp; omega) | simp)).trans (frozP (by first | omega | (simp; omega) | simp) (m_f i))
  have nd_0 : w4.cell? ⟨w3.heap.size, 0, none⟩ = some (.int .u8 k2) := keep1 hb ((cellN _ _ _ _ (by first | rfl | simp) _).trans rfl)
  have nd_1 : w4.cell? ⟨w3.heap.size, 1, none⟩ = some (.int .i64 mo2) := keep1 hb ((cellN _ _ _ _ (by first | rfl | simp) _).trans rfl)
  have nd_2 : w4.cell? ⟨w3.heap.size, 2, none⟩ = some (.int .i64 li2) := keep1 hb ((cellN _ _ _ _ (by first | rfl | simp) _).trans rfl)
  have nd_3 : w4.cell? ⟨w3.heap.size, 3, none⟩ = some (.int .i64 sz2) := keep1 hb ((cellN _ _ _ _ (by first | rfl | simp) _).trans rfl)
  have nd_4 : w4.cell? ⟨w3.heap.size, 4, none⟩ = some (.int .i64 mt2) := keep1 hb ((cellN _ _ _ _ (by first | rfl | simp) _).trans rfl)
  have nd_5 : w4.cell? ⟨w3.heap.size, 5, none⟩ = some (.int .i64 ct2) := keep1 hb ((cellN _ _ _ _ (by first | rfl | simp) _).trans rfl)
  have nd_6 : w4.cell? ⟨w3.heap.size, 6, none⟩ = some (.int .i64 ino2) := keep1 hb ((cellN _ _ _ _ (by first | rfl | simp) _).trans rfl)
  have nd_7 : w4.cell? ⟨w3.heap.size, 7, none⟩ = some (.int .i64 gen2) := keep1 hb ((cellN _ _ _ _ (by first | rfl | simp) _).trans rfl)
  have nd_f : ∀ i, w4.frozen? ⟨w3.heap.size, i, none⟩ = false := fun i => (hb.frozen (p := ⟨w3.heap.size, i, none⟩) (by first | omega | (simp; omega) | simp)).trans (frozN (by first | rfl | simp))
  clear a_0 a_1 a_2 a_3 a_4 a_5 a_6 a_7 a_f m_0 m_1 m_f
  have a_0 := na_0; clear na_0
  have a_1 := na_1; clear na_1
  have a_2 := na_2; clear na_2
  have a_3 := na_3; clear na_3
  have a_4 := na_4; clear na_4
  have a_5 := na_5; clear na_5
  have a_6 := na_6; clear na_6
  have a_7 := na_7; clear na_7
  have a_f := na_f; clear na_f
  have m_0 := nm_0; clear nm_0
  have m_1 := nm_1; clear nm_1
  have m_f := nm_f; clear nm_f
  have d_0 := nd_0; clear nd_0
  have d_1 := nd_1; clear nd_1
  have d_2 := nd_2; clear nd_2
  have d_3 := nd_3; clear nd_3
  have d_4 := nd_4; clear nd_4
  have d_5 := nd_5; clear nd_5
  have d_6 := nd_6; clear nd_6
  have d_7 := nd_7; clear nd_7
  have d_f := nd_f; clear nd_f
  clear hb B3
  have B4 := Lib.hid hb'
  have hw4 := hb'.size
  clear hb'
  have hsa30 : w.heap.size < w4.heap.size := by omega
  have hsa31 : w.heap.size < w4.heap.size + 1 := by omega
  have hsa32 : w.heap.size < w4.heap.size + 1 + 1 := by omega
  have hsm30 : w.heap.size + 1 < w4.heap.size := by omega
  have hsm31 : w.heap.size + 1 < w4.heap.size + 1 := by omega
  have hsm32 : w.heap.size + 1 < w4.heap.size + 1 + 1 := by omega
  have hsd30 : w3.heap.size < w4.heap.size := by omega
  have hsd31 : w3.heap.size < w4.heap.size + 1 := by omega
  have hsd32 : w3.heap.size < w4.heap.size + 1 + 1 := by omega
  go_wp2_with fail
  have na_0 : (w4.alloc (.cells #[.int .u8 k2, .int .i64 mo2, .int .i64 li2, .int .i64 sz2, .int .i64 mt2, .int .i64 ct2, .int .i64 ino2, .int .i64 gen2] 37)).cell? ⟨w.heap.size, 0, none⟩ = some (.int .u8 k) := cellP (by first | omega | (simp; omega)) a_0
  have na_1 : (w4.alloc (.cells #[.int .u8 k2, .int .i64 mo2, .int .i64 li2, .int .i64 sz2, .int .i64 mt2, .int .i64 ct2, .int .i64 ino2, .int .i64 gen2] 37)).cell? ⟨w.heap.size, 1, none⟩ = some (.int .i64 mo) := cellP (by first | omega | (simp; omega)) a_1
  have na_2 : (w4.alloc (.cells #[.int .u8 k2, .int .i64 mo2, .int .i64 li2, .int .i64 sz2, .int .i64 mt2, .int .i64 ct2, .int .i64 ino2, .int .i64 gen2] 37)).cell? ⟨w.heap.size, 2, none⟩ = some (.int .i64 li) := cellP (by first | omega | (simp; omega)) a_2
  have na_3 : (w4.alloc (.cells #[.int .u8 k2, .int .i64 mo2, .int .i64 li2, .int .i64 sz2, .int .i64 mt2, .int .i64 ct2, .int .i64 ino2, .int .i64 gen2] 37)).cell? ⟨w.heap.size, 3, none⟩ = some (.int .i64 sz) := cellP (by first | omega | (simp; omega)) a_3
  have na_4 : (w4.alloc (.cells #[.int .u8 k2, .int .i64 mo2, .int .i64 li2, .int .i64 sz2, .int .i64 mt2, .int .i64 ct2, .int .i64 ino2, .int .i64 gen2] 37)).cell? ⟨w.heap.size, 4, none⟩ = some (.int .i64 mt) := cellP (by first | omega | (simp; omega)) a_4
  have na_5 : (w4.alloc (.cells #[.int .u8 k2, .int .i64 mo2, .int .i64 li2, .int .i64 sz2, .int .i64 mt2, .int .i64 ct2, .int .i64 ino2, .int .i64 gen2] 37)).cell? ⟨w.heap.size, 5, none⟩ = some (.int .i64 ct) := cellP (by first | omega | (simp; omega)) a_5
  have na_6 : (w4.alloc (.cells #[.int .u8 k2, .int .i64 mo2, .int .i64 li2, .int .i64 sz2, .int .i64 mt2, .int .i64 ct2, .int .i64 ino2, .int .i64 gen2] 37)).cell? ⟨w.heap.size, 6, none⟩ = some (.int .i64 ino) := cellP (by first | omega | (simp; omega)) a_6
  have na_7 : (w4.alloc (.cells #[.int .u8 k2, .int .i64 mo2, .int .i64 li2, .int .i64 sz2, .int .i64 mt2, .int .i64 ct2, .int .i64 ino2, .int .i64 gen2] 37)).cell? ⟨w.heap.size, 7, none⟩ = some (.int .i64 gen) := cellP (by first | omega | (simp; omega)) a_7
  have nm_0 : (w4.alloc (.cells #[.int .u8 k2, .int .i64 mo2, .int .i64 li2, .int .i64 sz2, .int .i64 mt2, .int .i64 ct2, .int .i64 ino2, .int .i64 gen2] 37)).cell? ⟨w.heap.size + 1, 0, none⟩ = some (.int .i64 g) := cellP (by first | omega | (simp; omega)) m_0
  have nm_1 : (w4.alloc (.cells #[.int .u8 k2, .int .i64 mo2, .int .i64 li2, .int .i64 sz2, .int .i64 mt2, .int .i64 ct2, .int .i64 ino2, .int .i64 gen2] 37)).cell? ⟨w.heap.size + 1, 1, none⟩ = some (.int .i64 bt) := cellP (by first | omega | (simp; omega)) m_1
  have nd_0 : (w4.alloc (.cells #[.int .u8 k2, .int .i64 mo2, .int .i64 li2, .int .i64 sz2, .int .i64 mt2, .int .i64 ct2, .int .i64 ino2, .int .i64 gen2] 37)).cell? ⟨w3.heap.size, 0, none⟩ = some (.int .u8 k2) := cellP (by first | omega | (simp; omega)) d_0
  have nd_1 : (w4.alloc (.cells #[.int .u8 k2, .int .i64 mo2, .int .i64 li2, .int .i64 sz2, .int .i64 mt2, .int .i64 ct2, .int .i64 ino2, .int .i64 gen2] 37)).cell? ⟨w3.heap.size, 1, none⟩ = some (.int .i64 mo2) := cellP (by first | omega | (simp; omega)) d_1
  have nd_2 : (w4.alloc (.cells #[.int .u8 k2, .int .i64 mo2, .int .i64 li2, .int .i64 sz2, .int .i64 mt2, .int .i64 ct2, .int .i64 ino2, .int .i64 gen2] 37)).cell? ⟨w3.heap.size, 2, none⟩ = some (.int .i64 li2) := cellP (by first | omega | (simp; omega)) d_2
  have nd_3 : (w4.alloc (.cells #[.int .u8 k2, .int .i64 mo2, .int .i64 li2, .int .i64 sz2, .int .i64 mt2, .int .i64 ct2, .int .i64 ino2, .int .i64 gen2] 37)).cell? ⟨w3.heap.size, 3, none⟩ = some (.int .i64 sz2) := cellP (by first | omega | (simp; omega)) d_3
  have nd_4 : (w4.alloc (.cells #[.int .u8 k2, .int .i64 mo2, .int .i64 li2, .int .i64 sz2, .int .i64 mt2, .int .i64 ct2, .int .i64 ino2, .int .i64 gen2] 37)).cell? ⟨w3.heap.size, 4, none⟩ = some (.int .i64 mt2) := cellP (by first | omega | (simp; omega)) d_4
  have nd_5 : (w4.alloc (.cells #[.int .u8 k2, .int .i64 mo2, .int .i64 li2, .int .i64 sz2, .int .i64 mt2, .int .i64 ct2, .int .i64 ino2, .int .i64 gen2] 37)).cell? ⟨w3.heap.size, 5, none⟩ = some (.int .i64 ct2) := cellP (by first | omega | (simp; omega)) d_5
  have nd_6 : (w4.alloc (.cells #[.int .u8 k2, .int .i64 mo2, .int .i64 li2, .int .i64 sz2, .int .i64 mt2, .int .i64 ct2, .int .i64 ino2, .int .i64 gen2] 37)).cell? ⟨w3.heap.size, 6, none⟩ = some (.int .i64 ino2) := cellP (by first | omega | (simp; omega)) d_6
  have nd_7 : (w4.alloc (.cells #[.int .u8 k2, .int .i64 mo2, .int .i64 li2, .int .i64 sz2, .int .i64 mt2, .int .i64 ct2, .int .i64 ino2, .int .i64 gen2] 37)).cell? ⟨w3.heap.size, 7, none⟩ = some (.int .i64 gen2) := cellP (by first | omega | (simp; omega)) d_7
  have nh_0 : (w4.alloc (.cells #[.int .u8 k2, .int .i64 mo2, .int .i64 li2, .int .i64 sz2, .int .i64 mt2, .int .i64 ct2, .int .i64 ino2, .int .i64 gen2] 37)).cell? ⟨w4.heap.size, 0, none⟩ = some (.int .u8 k2) := (cellN _ _ _ _ rfl _).trans rfl
  have nh_1 : (w4.alloc (.cells #[.int .u8 k2, .int .i64 mo2, .int .i64 li2, .int .i64 sz2, .int .i64 mt2, .int .i64 ct2, .int .i64 ino2, .int .i64 gen2] 37)).cell? ⟨w4.heap.size, 1, none⟩ = some (.int .i64 mo2) := (cellN _ _ _ _ rfl _).trans rfl
  have nh_2 : (w4.alloc (.cells #[.int .u8 k2, .int .i64 mo2, .int .i64 li2, .int .i64 sz2, .int .i64 mt2, .int .i64 ct2, .int .i64 ino2, .int .i64 gen2] 37)).cell? ⟨w4.heap.size, 2, none⟩ = some (.int .i64 li2) := (cellN _ _ _ _ rfl _).trans rfl
  have nh_3 : (w4.alloc (.cells #[.int .u8 k2, .int .i64 mo2, .int .i64 li2, .int .i64 sz2, .int .i64 mt2, .int .i64 ct2, .int .i64 ino2, .int .i64 gen2] 37)).cell? ⟨w4.heap.size, 3, none⟩ = some (.int .i64 sz2) := (cellN _ _ _ _ rfl _).trans rfl
  have nh_4 : (w4.alloc (.cells #[.int .u8 k2, .int .i64 mo2, .int .i64 li2, .int .i64 sz2, .int .i64 mt2, .int .i64 ct2, .int .i64 ino2, .int .i64 gen2] 37)).cell? ⟨w4.heap.size, 4, none⟩ = some (.int .i64 mt2) := (cellN _ _ _ _ rfl _).trans rfl
  have nh_5 : (w4.alloc (.cells #[.int .u8 k2, .int .i64 mo2, .int .i64 li2, .int .i64 sz2, .int .i64 mt2, .int .i64 ct2, .int .i64 ino2, .int .i64 gen2] 37)).cell? ⟨w4.heap.size, 5, none⟩ = some (.int .i64 ct2) := (cellN _ _ _ _ rfl _).trans rfl
  have nh_6 : (w4.alloc (.cells #[.int .u8 k2, .int .i64 mo2, .int .i64 li2, .int .i64 sz2, .int .i64 mt2, .int .i64 ct2, .int .i64 ino2, .int .i64 gen2] 37)).cell? ⟨w4.heap.size, 6, none⟩ = some (.int .i64 ino2) := (cellN _ _ _ _ rfl _).trans rfl
  have nh_7 : (w4.alloc (.cells #[.int .u8 k2, .int .i64 mo2, .int .i64 li2, .int .i64 sz2, .int .i64 mt2, .int .i64 ct2, .int .i64 ino2, .int .i64 gen2] 37)).cell? ⟨w4.heap.size, 7, none⟩ = some (.int .i64 gen2) := (cellN _ _ _ _ rfl _).trans rfl
  have hz5 : w4.heap.size < (w4.alloc (.cells #[.int .u8 k2, .int .i64 mo2, .int .i64 li2, .int .i64 sz2, .int .i64 mt2, .int .i64 ct2, .int .i64 ino2, .int .i64 gen2] 37)).heap.size := by simp
  have hb' : Below w.heap.size w (w4.alloc (.cells #[.int .u8 k2, .int .i64 mo2, .int .i64 li2, .int .i64 sz2, .int .i64 mt2, .int .i64 ct2, .int .i64 ino2, .int .i64 gen2] 37)) := B4.out.alloc B4.out.size _
  clear a_0 a_1 a_2 a_3 a_4 a_5 a_6 a_7 a_f m_0 m_1 m_f d_0 d_1 d_2 d_3 d_4 d_5 d_6 d_7 d_f B4
  generalize (w4.alloc (.cells #[.int .u8 k2, .int .i64 mo2, .int .i64 li2, .int .i64 sz2, .int .i64 mt2, .int .i64 ct2, .int .i64 ino2, .int .i64 gen2] 37)) = w5 at *
  go_region_held3 (fun w' => w'.cell? ⟨w.heap.size, 0, none⟩ = some (.int .u8 k) ∧ w'.cell? ⟨w.heap.size, 1, none⟩ = some (.int .i64 mo) ∧ w'.cell? ⟨w.heap.size, 2, none⟩ = some (.int .i64 li) ∧ w'.cell? ⟨w.heap.size, 3, none⟩ = some (.int .i64 sz) ∧ w'.cell? ⟨w.heap.size, 4, none⟩ = some (.int .i64 mt) ∧ w'.cell? ⟨w.heap.size, 5, none⟩ = some (.int .i64 ct) ∧ w'.cell? ⟨w.heap.size, 6, none⟩ = some (.int .i64 ino) ∧ w'.cell? ⟨w.heap.size, 7, none⟩ = some (.int .i64 gen) ∧ w'.cell? ⟨w.heap.size + 1, 0, none⟩ = some (.int .i64 g) ∧ w'.cell? ⟨w.heap.size + 1, 1, none⟩ = some (.int .i64 bt) ∧ w'.cell? ⟨w3.heap.size, 0, none⟩ = some (.int .u8 k2) ∧ w'.cell? ⟨w3.heap.size, 1, none⟩ = some (.int .i64 mo2) ∧ w'.cell? ⟨w3.heap.size, 2, none⟩ = some (.int .i64 li2) ∧ w'.cell? ⟨w3.heap.size, 3, none⟩ = some (.int .i64 sz2) ∧ w'.cell? ⟨w3.heap.size, 4, none⟩ = some (.int .i64 mt2) ∧ w'.cell? ⟨w3.heap.size, 5, none⟩ = some (.int .i64 ct2) ∧ w'.cell? ⟨w3.heap.size, 6, none⟩ = some (.int .i64 ino2) ∧ w'.cell? ⟨w3.heap.size, 7, none⟩ = some (.int .i64 gen2) ∧ w'.cell? ⟨w4.heap.size, 0, none⟩ = some (.int .u8 k2) ∧ w'.cell? ⟨w4.heap.size, 1, none⟩ = some (.int .i64 mo2) ∧ w'.cell? ⟨w4.heap.size, 2, none⟩ = some (.int .i64 li2) ∧ w'.cell? ⟨w4.heap.size, 3, none⟩ = some (.int .i64 sz2) ∧ w'.cell? ⟨w4.heap.size, 4, none⟩ = some (.int .i64 mt2) ∧ w'.cell? ⟨w4.heap.size, 5, none⟩ = some (.int .i64 ct2) ∧ w'.cell? ⟨w4.heap.size, 6, none⟩ = some (.int .i64 ino2) ∧ w'.cell? ⟨w4.heap.size, 7, none⟩ = some (.int .i64 gen2) ∧ w5.heap.size ≤ w'.heap.size ∧ Below w.heap.size w w')
    (first | exact ⟨na_0, na_1, na_2, na_3, na_4, na_5, na_6, na_7, nm_0, nm_1, nd_0, nd_1, nd_2, nd_3, nd_4, nd_5, nd_6, nd_7, nh_0, nh_1, nh_2, nh_3, nh_4, nh_5, nh_6, nh_7, Nat.le_refl _, hb'.drew⟩ | (go_split_ands; refine ⟨?_, ?_, ?_, ?_, ?_, ?_, ?_, ?_, ?_, ?_, ?_, ?_, ?_, ?_, ?_, ?_, ?_, ?_, ?_, ?_, ?_, ?_, ?_, ?_, ?_, ?_, ?_, ?_⟩; (iterate 26 (exact keep1 hb (by assumption))); all_goals first | (have := hb.size; omega) | (have := hb.size; simp at this; omega) | exact Below.trans (by assumption) (hb.mono (Below.size (by assumption)))))
    (first | (go_at_call 15; refine (may_is HM.out _).mono ?_; rintro e w6 ⟨rfl, hb⟩) | (go_at_call 24; refine (refmay_is HM.out _).mono ?_; rintro e w6 ⟨rfl, hb⟩) | (go_at_call 25; refine (key_any _ _ (by assumption) (by assumption)).mono ?_; rintro e w6 ⟨rfl, hb⟩) | (go_at_call 26; refine (refkey_any _ _ (by assumption) (by assumption)).mono ?_; rintro e w6 ⟨rfl, hb⟩))
  rename_i hS
  obtain ⟨a_0, a_1, a_2, a_3, a_4, a_5, a_6, a_7, m_0, m_1, d_0, d_1, d_2, d_3, d_4, d_5, d_6, d_7, h_0, h_1, h_2, h_3, h_4, h_5, h_6, h_7, hz6, hb6⟩ := hS
  clear na_0 na_1 na_2 na_3 na_4 na_5 na_6 na_7 nm_0 nm_1 nd_0 nd_1 nd_2 nd_3 nd_4 nd_5 nd_6 nd_7 nh_0 nh_1 nh_2 nh_3 nh_4 nh_5 nh_6 nh_7 hb' hb
  clear a_0 a_1 a_2 a_3 a_4 a_5 a_6 a_7 d_0 d_1 d_2 d_3 d_4 d_5 d_6 d_7 h_0 h_1 h_2 h_3 h_4 h_5 h_6 h_7
  have B6 := Lib.hid hb6
  have hw6 := hb6.size
  clear hb6
  go_wp2_with fail
  refine (encmeta_any _ _ _ (by assumption) (by assumption) (by assumption) (by assumption)).mono ?_
  rintro e w7 ⟨rfl, hb⟩
  rw [HME.out]
  have hb' : Below w.heap.size w w7 := Below.trans (by have := B6.out; go_grown) (hb.mono (by first | omega | (simp; omega) | simp))
  have hz7 : w6.heap.size ≤ w7.heap.size := by have := hb.size; first | omega | (simp at this; omega)
  have nm_0 : w7.cell? ⟨w.heap.size + 1, 0, none⟩ = some (.int .i64 g) := keep1 hb m_0
  have nm_1 : w7.cell? ⟨w.heap.size + 1, 1, none⟩ = some (.int .i64 bt) := keep1 hb m_1
  clear m_0 m_1
  have m_0 := nm_0; clear nm_0
  have m_1 := nm_1; clear nm_1
  clear hb B6
  have B7 := Lib.hid hb'
  have hw7 := hb'.size
  clear hb'
  have hsm60 : w.heap.size + 1 < w7.heap.size := by omega
  have hsm61 : w.heap.size + 1 < w7.heap.size + 1 := by omega
  have hsm62 : w.heap.size + 1 < w7.heap.size + 1 + 1 := by omega
  go_wp2_with fail
  refine (refencmeta_any _ _ _ (by assumption) (by assumption) (by assumption) (by assumption)).mono ?_
  rintro e w8 ⟨rfl, hb⟩
  rw [HME.out]
  have hb' : Below w.heap.size w w8 := Below.trans (by have := B7.out; go_grown) (hb.mono (by first | omega | (simp; omega) | simp))
  have hz8 : w7.heap.size ≤ w8.heap.size := by have := hb.size; first | omega | (simp at this; omega)
  have nm_0 : w8.cell? ⟨w.heap.size + 1, 0, none⟩ = some (.int .i64 g) := keep1 hb m_0
  have nm_1 : w8.cell? ⟨w.heap.size + 1, 1, none⟩ = some (.int .i64 bt) := keep1 hb m_1
  clear m_0 m_1
  have m_0 := nm_0; clear nm_0
  have m_1 := nm_1; clear nm_1
  clear hb B7
  have B8 := Lib.hid hb'
  have hw8 := hb'.size
  clear hb'
  have hsm70 : w.heap.size + 1 < w8.heap.size := by omega
  have hsm71 : w.heap.size + 1 < w8.heap.size + 1 := by omega
  have hsm72 : w.heap.size + 1 < w8.heap.size + 1 + 1 := by omega
  go_wp2_with fail
  refine (decmeta_any t _).mono ?_
  rintro e w9 ⟨rfl, hb⟩
  rw [HMD.out]
  have hb' : Below w.heap.size w w9 := Below.trans (by have := B8.out; go_grown) (hb.mono (by first | omega | (simp; omega) | simp))
  have hz9 : w8.heap.size ≤ w9.heap.size := by have := hb.size; first | omega | (simp at this; omega)
  clear m_0 m_1
  clear hb B8
  have B9 := Lib.hid hb'
  have hw9 := hb'.size
  clear hb'
  go_wp2_with fail
  refine (refdecmeta_any t _).mono ?_
  rintro e w10 ⟨rfl, hb⟩
  rw [HMD.out]
  have hb' : Below w.heap.size w w10 := Below.trans (by have := B9.out; go_grown) (hb.mono (by first | omega | (simp; omega) | simp))
  have hz10 : w9.heap.size + 1 ≤ w10.heap.size := by have := hb.size; first | omega | (simp at this; omega)
  have nj_0 : w10.cell? ⟨w9.heap.size, 0, none⟩ = some (.int .i64 g2) := keep1 hb ((cellN _ _ _ _ (by first | rfl | simp) _).trans rfl)
  have nj_1 : w10.cell? ⟨w9.heap.size, 1, none⟩ = some (.int .i64 bt2) := keep1 hb ((cellN _ _ _ _ (by first | rfl | simp) _).trans rfl)
  have j_0 := nj_0; clear nj_0
  have j_1 := nj_1; clear nj_1
  clear hb B9
  have B10 := Lib.hid hb'
  have hw10 := hb'.size
  clear hb'
  have hsj90 : w9.heap.size < w10.heap.size := by omega
  have hsj91 : w9.heap.size < w10.heap.size + 1 := by omega
  have hsj92 : w9.heap.size < w10.heap.size + 1 + 1 := by omega
  go_wp2_with fail
  refine (awake20 _).mono ?_
  rintro e w11 ⟨rfl, hb⟩
  have hb' : Below w.heap.size w w11 := Below.trans (by have := B10.out; go_grown) (hb.mono (by first | omega | (simp; omega) | simp))
  have hz11 : w10.heap.size + 1 ≤ w11.heap.size := by have := hb.size; first | omega | (simp at this; omega)
  have nq_0 : w11.cell? ⟨w10.heap.size, 0, none⟩ = some (.int .i64 g2) := keep1 hb ((cellN _ _ _ _ (by first | rfl | simp) _).trans rfl)
  have nq_1 : w11.cell? ⟨w10.heap.size, 1, none⟩ = some (.int .i64 bt2) := keep1 hb ((cellN _ _ _ _ (by first | rfl | simp) _).trans rfl)
  clear j_0 j_1
  have q_0 := nq_0; clear nq_0
  have q_1 := nq_1; clear nq_1
  clear hb B10
  have B11 := Lib.hid hb'
  have hw11 := hb'.size
  clear hb'
  have hsq100 : w10.heap.size < w11.heap.size := by omega
  have hsq101 : w10.heap.size < w11.heap.size + 1 := by omega
  have hsq102 : w10.heap.size < w11.heap.size + 1 + 1 := by omega
  go_wp2_with fail
  go_ret
  exact ⟨ret_bool (by first | rfl | simp), by have := B11.out; go_grown⟩

set_option maxHeartbeats 1000000 in
theorem bytes_walk (k mo li sz mt ct ino gen g bt : Int) (s t : ByteArray) (w : World) (lo_mo : -9223372036854775808 ≤ mo) (hi_mo : mo ≤ 9223372036854775807) (lo_li : -9223372036854775808 ≤ li) (hi_li : li ≤ 9223372036854775807) (lo_sz : -9223372036854775808 ≤ sz) (hi_sz : sz ≤ 9223372036854775807) (lo_mt : -9223372036854775808 ≤ mt) (hi_mt : mt ≤ 9223372036854775807) (lo_ct : -9223372036854775808 ≤ ct) (hi_ct : ct ≤ 9223372036854775807) (lo_ino : -9223372036854775808 ≤ ino) (hi_ino : ino ≤ 9223372036854775807) (lo_gen : -9223372036854775808 ≤ gen) (hi_gen : gen ≤ 9223372036854775807) (lo_g : -9223372036854775808 ≤ g) (hi_g : g ≤ 9223372036854775807) (lo_bt : -9223372036854775808 ≤ bt) (hi_bt : bt ≤ 9223372036854775807) (hsm : s.size ≤ maxLen) (htm : t.size ≤ maxLen) :
    Calls Try.prog 5 #[.agg #[.int .u8 k, .int .i64 mo, .int .i64 li, .int .i64 sz, .int .i64 mt, .int .i64 ct, .int .i64 ino, .int .i64 gen], .agg #[.int .i64 g, .int .i64 bt], .string s, .string t] w fun e w' => e = .returned (.bool true) ∧ Below w.heap.size w w' := by
  unfold maxLen at hsm htm
  by_cases hs : 1000 < s.size
  · go_enter Try.func5, Try.ntmps5
    go_wp2_with fail
    refine (awake20 _).mono ?_
    rintro e w1 ⟨rfl, hb⟩
    have HB := Lib.hid (show Below w.heap.size w w1 from Below.trans (by go_grown) (hb.mono (by simp; omega)))
    clear hb
    go_wp2_with fail
    go_ret
    exact ⟨rfl, HB.out⟩
  by_cases ht : 1000 < t.size
  · go_enter Try.func5, Try.ntmps5
    go_wp2_with fail
    refine (awake20 _).mono ?_
    rintro e w1 ⟨rfl, hb⟩
    have HB := Lib.hid (show Below w.heap.size w w1 from Below.trans (by go_grown) (hb.mono (by simp; omega)))
    clear hb
    go_wp2_with fail
    go_ret
    exact ⟨rfl, HB.out⟩
  obtain ⟨b, e1, HE⟩ := encR_is k mo li sz mt ct ino gen
  obtain ⟨mb, e3, HME⟩ := mencR_is g bt
  obtain ⟨k2, mo2, li2, sz2, mt2, ct2, ino2, gen2, e2, HD⟩ := decR_is s
  obtain ⟨g2, bt2, e4, HMD⟩ := decMR_is t
  exact bytes_in k mo li sz mt ct ino gen g bt e1 e2 e3 e4 k2 mo2 li2 sz2 mt2 ct2 ino2 gen2 g2 bt2 _ s t b mb w lo_mo hi_mo lo_li hi_li lo_sz hi_sz lo_mt hi_mt lo_ct hi_ct lo_ino hi_ino lo_gen hi_gen lo_g hi_g lo_bt hi_bt (by omega) (by omega) HE HD HME HMD rfl
end Go.Proofs.Ytlkjgnnnamkfeaa
