/- WALKS of layer 20: InodeBack, what may not be. -/
import Derived.Test.YtlkjgnnnamkfeaaKa
set_option linter.unusedVariables false
namespace Go.Proofs.Ytlkjgnnnamkfeaa
open Go.RowKit Go.ChangeShapes Go.WideShapes Go.ChangeAt

set_option maxHeartbeats 4000000 in
theorem back_0111 (k mo li sz mt ct ino gn gen boot k2 mo2 li2 sz2 mt2 ct2 ino2 gn2 g2 b2 : Int) (s t mb : ByteArray) (w : World) (hs : s.size ≤ 1000) (ht : t.size ≤ 1000) (lo_mo : -9223372036854775808 ≤ mo) (hi_mo : mo ≤ 9223372036854775807) (lo_li : -9223372036854775808 ≤ li) (hi_li : li ≤ 9223372036854775807) (lo_sz : -9223372036854775808 ≤ sz) (hi_sz : sz ≤ 9223372036854775807) (lo_mt : -9223372036854775808 ≤ mt) (hi_mt : mt ≤ 9223372036854775807) (lo_ct : -9223372036854775808 ≤ ct) (hi_ct : ct ≤ 9223372036854775807) (lo_ino : -9223372036854775808 ≤ ino) (hi_ino : ino ≤ 9223372036854775807) (lo_gn : -9223372036854775808 ≤ gn) (hi_gn : gn ≤ 9223372036854775807) (lo_gen : -9223372036854775808 ≤ gen) (hi_gen : gen ≤ 9223372036854775807) (lo_boot : -9223372036854775808 ≤ boot) (hi_boot : boot ≤ 9223372036854775807) (HM : mayB k mo li sz mt ct ino gn = false) (HE : encR k mo li sz mt ct ino gn = .tuple #[.string ByteArray.empty, .int .i64 4]) (lo_mo2 : -9223372036854775808 ≤ mo2) (hi_mo2 : mo2 ≤ 9223372036854775807) (lo_li2 : -9223372036854775808 ≤ li2) (hi_li2 : li2 ≤ 9223372036854775807) (lo_sz2 : -9223372036854775808 ≤ sz2) (hi_sz2 : sz2 ≤ 9223372036854775807) (lo_mt2 : -9223372036854775808 ≤ mt2) (hi_mt2 : mt2 ≤ 9223372036854775807) (lo_ct2 : -9223372036854775808 ≤ ct2) (hi_ct2 : ct2 ≤ 9223372036854775807) (lo_ino2 : -9223372036854775808 ≤ ino2) (hi_ino2 : ino2 ≤ 9223372036854775807) (lo_gn2 : -9223372036854775808 ≤ gn2) (hi_gn2 : gn2 ≤ 9223372036854775807) (HD : decR s = .tuple #[.agg #[.int .u8 k2, .int .i64 mo2, .int .i64 li2, .int .i64 sz2, .int .i64 mt2, .int .i64 ct2, .int .i64 ino2, .int .i64 gn2], .int .i64 0]) (HD2 : encR k2 mo2 li2 sz2 mt2 ct2 ino2 gn2 = .tuple #[.string s, .int .i64 0]) (HN : mencR gen boot = .tuple #[.string mb, .int .i64 0]) (HN2 : decMR mb = .tuple #[.agg #[.int .i64 gen, .int .i64 boot], .int .i64 0]) (lo_g2 : -9223372036854775808 ≤ g2) (hi_g2 : g2 ≤ 9223372036854775807) (lo_b2 : -9223372036854775808 ≤ b2) (hi_b2 : b2 ≤ 9223372036854775807) (HT : decMR t = .tuple #[.agg #[.int .i64 g2, .int .i64 b2], .int .i64 0]) (HT2 : mencR g2 b2 = .tuple #[.string t, .int .i64 0]) :
    Calls Try.prog 7 #[.agg #[.int .u8 k, .int .i64 mo, .int .i64 li, .int .i64 sz, .int .i64 mt, .int .i64 ct, .int .i64 ino, .int .i64 gn], .int .i64 gen, .int .i64 boot, .string s, .string t] w fun e w' => e = .returned (.bool true) ∧ Below w.heap.size w w' := by
  replace HM := Lib.hid HM
  replace HE := Lib.hid HE
  replace HD := Lib.hid HD
  replace HN := Lib.hid HN
  replace HT := Lib.hid HT
  replace HD2 := Lib.hid HD2
  replace HN2 := Lib.hid HN2
  replace HT2 := Lib.hid HT2
  have ls : ¬ ((s.size : Int) > 1000) := by omega
  have lt : ¬ ((t.size : Int) > 1000) := by omega
  go_enter Try.func7, Try.ntmps7
  go_wp2_with fail
  refine (awake20 _).mono ?_
  rintro e w1 ⟨rfl, hb⟩
  have hb' : Below w.heap.size w w1 := Below.trans (by go_grown) (hb.mono (by first | omega | (simp; omega) | simp))
  have hz1 : w.heap.size + 1 ≤ w1.heap.size := by have := hb.size; first | omega | (simp at this; omega)
  have na_0 : w1.cell? ⟨w.heap.size, 0, none⟩ = some (.int .u8 k) := keep1 hb ((cellN _ _ _ _ (by first | rfl | simp) _).trans rfl)
  have na_1 : w1.cell? ⟨w.heap.size, 1, none⟩ = some (.int .i64 mo) := keep1 hb ((cellN _ _ _ _ (by first | rfl | simp) _).trans rfl)
  have na_2 : w1.cell? ⟨w.heap.size, 2, none⟩ = some (.int .i64 li) := keep1 hb ((cellN _ _ _ _ (by first | rfl | simp) _).trans rfl)
  have na_3 : w1.cell? ⟨w.heap.size, 3, none⟩ = some (.int .i64 sz) := keep1 hb ((cellN _ _ _ _ (by first | rfl | simp) _).trans rfl)
  have na_4 : w1.cell? ⟨w.heap.size, 4, none⟩ = some (.int .i64 mt) := keep1 hb ((cellN _ _ _ _ (by first | rfl | simp) _).trans rfl)
  have na_5 : w1.cell? ⟨w.heap.size, 5, none⟩ = some (.int .i64 ct) := keep1 hb ((cellN _ _ _ _ (by first | rfl | simp) _).trans rfl)
  have na_6 : w1.cell? ⟨w.heap.size, 6, none⟩ = some (.int .i64 ino) := keep1 hb ((cellN _ _ _ _ (by first | rfl | simp) _).trans rfl)
  have na_7 : w1.cell? ⟨w.heap.size, 7, none⟩ = some (.int .i64 gn) := keep1 hb ((cellN _ _ _ _ (by first | rfl | simp) _).trans rfl)
  have na_f : ∀ i, w1.frozen? ⟨w.heap.size, i, none⟩ = false := fun i => (hb.frozen (p := ⟨w.heap.size, i, none⟩) (by first | omega | (simp; omega) | simp)).trans (frozN (by first | rfl | simp))
  have a_0 := na_0; clear na_0
  have a_1 := na_1; clear na_1
  have a_2 := na_2; clear na_2
  have a_3 := na_3; clear na_3
  have a_4 := na_4; clear na_4
  have a_5 := na_5; clear na_5
  have a_6 := na_6; clear na_6
  have a_7 := na_7; clear na_7
  have a_f := na_f; clear na_f
  clear hb
  have B1 := Lib.hid hb'
  have hw1 := hb'.size
  clear hb'
  have hsa00 : w.heap.size < w1.heap.size := by omega
  have hsa01 : w.heap.size < w1.heap.size + 1 := by omega
  have hsa02 : w.heap.size < w1.heap.size + 1 + 1 := by omega
  go_wp2_with fail
  refine (encode_any k mo li sz mt ct ino gn _ lo_mo hi_mo lo_li hi_li lo_sz hi_sz lo_mt hi_mt lo_ct hi_ct lo_ino hi_ino lo_gn hi_gn).mono ?_
  rintro e w2 ⟨rfl, hb⟩
  rw [HE.out]
  have hb' : Below w.heap.size w w2 := Below.trans (by have := B1.out; go_grown) (hb.mono (by first | omega | (simp; omega) | simp))
  have hz2 : w1.heap.size ≤ w2.heap.size := by have := hb.size; first | omega | (simp at this; omega)
  have na_0 : w2.cell? ⟨w.heap.size, 0, none⟩ = some (.int .u8 k) := keep1 hb a_0
  have na_1 : w2.cell? ⟨w.heap.size, 1, none⟩ = some (.int .i64 mo) := keep1 hb a_1
  have na_2 : w2.cell? ⟨w.heap.size, 2, none⟩ = some (.int .i64 li) := keep1 hb a_2
  have na_3 : w2.cell? ⟨w.heap.size, 3, none⟩ = some (.int .i64 sz) := keep1 hb a_3
  have na_4 : w2.cell? ⟨w.heap.size, 4, none⟩ = some (.int .i64 mt) := keep1 hb a_4
  have na_5 : w2.cell? ⟨w.heap.size, 5, none⟩ = some (.int .i64 ct) := keep1 hb a_5
  have na_6 : w2.cell? ⟨w.heap.size, 6, none⟩ = some (.int .i64 ino) := keep1 hb a_6
  have na_7 : w2.cell? ⟨w.heap.size, 7, none⟩ = some (.int .i64 gn) := keep1 hb a_7
  have na_f : ∀ i, w2.frozen? ⟨w.heap.size, i, none⟩ = false := fun i => (hb.frozen (p := ⟨w.heap.size, i, none⟩) (by first | omega | (simp; omega) | simp)).trans (a_f i)
  clear a_0 a_1 a_2 a_3 a_4 a_5 a_6 a_7 a_f
  have a_0 := na_0; clear na_0
  have a_1 := na_1; clear na_1
  have a_2 := na_2; clear na_2
  have a_3 := na_3; clear na_3
  have a_4 := na_4; clear na_4
  have a_5 := na_5; clear na_5
  have a_6 := na_6; clear na_6
  have a_7 := na_7; clear na_7
  have a_f := na_f; clear na_f
  clear hb B1
  have B2 := Lib.hid hb'
  have hw2 := hb'.size
  clear hb'
  have hsa10 : w.heap.size < w2.heap.size := by omega
  have hsa11 : w.heap.size < w2.heap.size + 1 := by omega
  have hsa12 : w.heap.size < w2.heap.size + 1 + 1 := by omega
  go_wp2_with fail
  refine (may_any _ _ _ _ _ _ _ _ _).mono ?_
  rintro e w3 ⟨rfl, hb⟩
  rw [HM.out]
  have hb' : Below w.heap.size w w3 := Below.trans (by have := B2.out; go_grown) (hb.mono (by first | omega | (simp; omega) | simp))
  have hz3 : w2.heap.size ≤ w3.heap.size := by have := hb.size; first | omega | (simp at this; omega)
  have na_0 : w3.cell? ⟨w.heap.size, 0, none⟩ = some (.int .u8 k) := keep1 hb a_0
  have na_1 : w3.cell? ⟨w.heap.size, 1, none⟩ = some (.int .i64 mo) := keep1 hb a_1
  have na_2 : w3.cell? ⟨w.heap.size, 2, none⟩ = some (.int .i64 li) := keep1 hb a_2
  have na_3 : w3.cell? ⟨w.heap.size, 3, none⟩ = some (.int .i64 sz) := keep1 hb a_3
  have na_4 : w3.cell? ⟨w.heap.size, 4, none⟩ = some (.int .i64 mt) := keep1 hb a_4
  have na_5 : w3.cell? ⟨w.heap.size, 5, none⟩ = some (.int .i64 ct) := keep1 hb a_5
  have na_6 : w3.cell? ⟨w.heap.size, 6, none⟩ = some (.int .i64 ino) := keep1 hb a_6
  have na_7 : w3.cell? ⟨w.heap.size, 7, none⟩ = some (.int .i64 gn) := keep1 hb a_7
  have na_f : ∀ i, w3.frozen? ⟨w.heap.size, i, none⟩ = false := fun i => (hb.frozen (p := ⟨w.heap.size, i, none⟩) (by first | omega | (simp; omega) | simp)).trans (a_f i)
  clear a_0 a_1 a_2 a_3 a_4 a_5 a_6 a_7 a_f
  have a_0 := na_0; clear na_0
  have a_1 := na_1; clear na_1
  have a_2 := na_2; clear na_2
  have a_3 := na_3; clear na_3
  have a_4 := na_4; clear na_4
  have a_5 := na_5; clear na_5
  have a_6 := na_6; clear na_6
  have a_7 := na_7; clear na_7
  have a_f := na_f; clear na_f
  clear hb B2
  have B3 := Lib.hid hb'
  have hw3 := hb'.size
  clear hb'
  have hsa20 : w.heap.size < w3.heap.size := by omega
  have hsa21 : w.heap.size < w3.heap.size + 1 := by omega
  have hsa22 : w.heap.size < w3.heap.size + 1 + 1 := by omega
  go_wp2_with fail
  refine (decode_any _ _).mono ?_
  rintro e w4 ⟨rfl, hb⟩
  rw [HD.out]
  have hb' : Below w.heap.size w w4 := Below.trans (by have := B3.out; go_grown) (hb.mono (by first | omega | (simp; omega) | simp))
  have hz4 : w3.heap.size ≤ w4.heap.size := by have := hb.size; first | omega | (simp at this; omega)
  have na_0 : w4.cell? ⟨w.heap.size, 0, none⟩ = some (.int .u8 k) := keep1 hb a_0
  have na_1 : w4.cell? ⟨w.heap.size, 1, none⟩ = some (.int .i64 mo) := keep1 hb a_1
  have na_2 : w4.cell? ⟨w.heap.size, 2, none⟩ = some (.int .i64 li) := keep1 hb a_2
  have na_3 : w4.cell? ⟨w.heap.size, 3, none⟩ = some (.int .i64 sz) := keep1 hb a_3
  have na_4 : w4.cell? ⟨w.heap.size, 4, none⟩ = some (.int .i64 mt) := keep1 hb a_4
  have na_5 : w4.cell? ⟨w.heap.size, 5, none⟩ = some (.int .i64 ct) := keep1 hb a_5
  have na_6 : w4.cell? ⟨w.heap.size, 6, none⟩ = some (.int .i64 ino) := keep1 hb a_6
  have na_7 : w4.cell? ⟨w.heap.size, 7, none⟩ = some (.int .i64 gn) := keep1 hb a_7
  have na_f : ∀ i, w4.frozen? ⟨w.heap.size, i, none⟩ = false := fun i => (hb.frozen (p := ⟨w.heap.size, i, none⟩) (by first | omega | (simp; omega) | simp)).trans (a_f i)
  clear a_0 a_1 a_2 a_3 a_4 a_5 a_6 a_7 a_f
  have a_0 := na_0; clear na_0
  have a_1 := na_1; clear na_1
  have a_2 := na_2; clear na_2
  have a_3 := na_3; clear na_3
  have a_4 := na_4; clear na_4
  have a_5 := na_5; clear na_5
  have a_6 := na_6; clear na_6
  have a_7 := na_7; clear na_7
  have a_f := na_f; clear na_f
  clear hb B3
  have B4 := Lib.hid hb'
  have hw4 := hb'.size
  clear hb'
  have hsa30 : w.heap.size < w4.heap.size := by omega
  have hsa31 : w.heap.size < w4.heap.size + 1 := by omega
  have hsa32 : w.heap.size < w4.heap.size + 1 + 1 := by omega
  go_wp2_with fail
  refine (encode_any k2 mo2 li2 sz2 mt2 ct2 ino2 gn2 _ lo_mo2 hi_mo2 lo_li2 hi_li2 lo_sz2 hi_sz2 lo_mt2 hi_mt2 lo_ct2 hi_ct2 lo_ino2 hi_ino2 lo_gn2 hi_gn2).mono ?_
  rintro e w5 ⟨rfl, hb⟩
  rw [HD2.out]
  have hb' : Below w.heap.size w w5 := Below.trans (by have := B4.out; go_grown) (hb.mono (by first | omega | (simp; omega) | simp))
  have hz5 : w4.heap.size + 1 ≤ w5.heap.size := by have := hb.size; first | omega | (simp at this; omega)
  have na_0 : w5.cell? ⟨w.heap.size, 0, none⟩ = some (.int .u8 k) := keep1 hb (cellP (by first | omega | (simp; omega) | simp) a_0)
  have na_1 : w5.cell? ⟨w.heap.size, 1, none⟩ = some (.int .i64 mo) := keep1 hb (cellP (by first | omega | (simp; omega) | simp) a_1)
  have na_2 : w5.cell? ⟨w.heap.size, 2, none⟩ = some (.int .i64 li) := keep1 hb (cellP (by first | omega | (simp; omega) | simp) a_2)
  have na_3 : w5.cell? ⟨w.heap.size, 3, none⟩ = some (.int .i64 sz) := keep1 hb (cellP (by first | omega | (simp; omega) | simp) a_3)
  have na_4 : w5.cell? ⟨w.heap.size, 4, none⟩ = some (.int .i64 mt) := keep1 hb (cellP (by first | omega | (simp; omega) | simp) a_4)
  have na_5 : w5.cell? ⟨w.heap.size, 5, none⟩ = some (.int .i64 ct) := keep1 hb (cellP (by first | omega | (simp; omega) | simp) a_5)
  have na_6 : w5.cell? ⟨w.heap.size, 6, none⟩ = some (.int .i64 ino) := keep1 hb (cellP (by first | omega | (simp; omega) | simp) a_6)
  have na_7 : w5.cell? ⟨w.heap.size, 7, none⟩ = some (.int .i64 gn) := keep1 hb (cellP (by first | omega | (simp; omega) | simp) a_7)
  have na_f : ∀ i, w5.frozen? ⟨w.heap.size, i, none⟩ = false := fun i => (hb.frozen (p := ⟨w.heap.size, i, none⟩) (by first | omega | (simp; omega) | simp)).trans (frozP (by first | omega | (simp; omega) | simp) (a_f i))
  clear a_0 a_1 a_2 a_3 a_4 a_5 a_6 a_7 a_f
  have a_0 := na_0; clear na_0
  have a_1 := na_1; clear na_1
  have a_2 := na_2; clear na_2
  have a_3 := na_3; clear na_3
  have a_4 := na_4; clear na_4
  have a_5 := na_5; clear na_5
  have a_6 := na_6; clear na_6
  have a_7 := na_7; clear na_7
  have a_f := na_f; clear na_f
  clear hb B4
  have B5 := Lib.hid hb'
  have hw5 := hb'.size
  clear hb'
  have hsa40 : w.heap.size < w5.heap.size := by omega
  have hsa41 : w.heap.size < w5.heap.size + 1 := by omega
  have hsa42 : w.heap.size < w5.heap.size + 1 + 1 := by omega
  go_wp2_with fail
  refine (encmeta_any gen boot _ lo_gen hi_gen lo_boot hi_boot).mono ?_
  rintro e w6 ⟨rfl, hb⟩
  rw [HN.out]
  have hb' : Below w.heap.size w w6 := Below.trans (by have := B5.out; go_grown) (hb.mono (by first | omega | (simp; omega) | simp))
  have hz6 : w5.heap.size + 1 ≤ w6.heap.size := by have := hb.size; first | omega | (simp at this; omega)
  have na_0 : w6.cell? ⟨w.heap.size, 0, none⟩ = some (.int .u8 k) := keep1 hb (cellP (by first | omega | (simp; omega) | simp) a_0)
  have na_1 : w6.cell? ⟨w.heap.size, 1, none⟩ = some (.int .i64 mo) := keep1 hb (cellP (by first | omega | (simp; omega) | simp) a_1)
  have na_2 : w6.cell? ⟨w.heap.size, 2, none⟩ = some (.int .i64 li) := keep1 hb (cellP (by first | omega | (simp; omega) | simp) a_2)
  have na_3 : w6.cell? ⟨w.heap.size, 3, none⟩ = some (.int .i64 sz) := keep1 hb (cellP (by first | omega | (simp; omega) | simp) a_3)
  have na_4 : w6.cell? ⟨w.heap.size, 4, none⟩ = some (.int .i64 mt) := keep1 hb (cellP (by first | omega | (simp; omega) | simp) a_4)
  have na_5 : w6.cell? ⟨w.heap.size, 5, none⟩ = some (.int .i64 ct) := keep1 hb (cellP (by first | omega | (simp; omega) | simp) a_5)
  have na_6 : w6.cell? ⟨w.heap.size, 6, none⟩ = some (.int .i64 ino) := keep1 hb (cellP (by first | omega | (simp; omega) | simp) a_6)
  have na_7 : w6.cell? ⟨w.heap.size, 7, none⟩ = some (.int .i64 gn) := keep1 hb (cellP (by first | omega | (simp; omega) | simp) a_7)
  have na_f : ∀ i, w6.frozen? ⟨w.heap.size, i, none⟩ = false := fun i => (hb.frozen (p := ⟨w.heap.size, i, none⟩) (by first | omega | (simp; omega) | simp)).trans (frozP (by first | omega | (simp; omega) | simp) (a_f i))
  have nm_0 : w6.cell? ⟨w5.heap.size, 0, none⟩ = some (.int .i64 gen) := keep1 hb ((cellN _ _ _ _ (by first | rfl | simp) _).trans rfl)
  have nm_1 : w6.cell? ⟨w5.heap.size, 1, none⟩ = some (.int .i64 boot) := keep1 hb ((cellN _ _ _ _ (by first | rfl | simp) _).trans rfl)
  have nm_f : ∀ i, w6.frozen? ⟨w5.heap.size, i, none⟩ = false := fun i => (hb.frozen (p := ⟨w5.heap.size, i, none⟩) (by first | omega | (simp; omega) | simp)).trans (frozN (by first | rfl | simp))
  clear a_0 a_1 a_2 a_3 a_4 a_5 a_6 a_7 a_f
  have a_0 := na_0; clear na_0
  have a_1 := na_1; clear na_1
  have a_2 := na_2; clear na_2
  have a_3 := na_3; clear na_3
  have a_4 := na_4; clear na_4
  have a_5 := na_5; clear na_5
  have a_6 := na_6; clear na_6
  have a_7 := na_7; clear na_7
  have a_f := na_f; clear na_f
  have m_0 := nm_0; clear nm_0
  have m_1 := nm_1; clear nm_1
  have m_f := nm_f; clear nm_f
  clear hb B5
  have B6 := Lib.hid hb'
  have hw6 := hb'.size
  clear hb'
  have hsa50 : w.heap.size < w6.heap.size := by omega
  have hsa51 : w.heap.size < w6.heap.size + 1 := by omega
  have hsa52 : w.heap.size < w6.heap.size + 1 + 1 := by omega
  have hsm50 : w5.heap.size < w6.heap.size := by omega
  have hsm51 : w5.heap.size < w6.heap.size + 1 := by omega
  have hsm52 : w5.heap.size < w6.heap.size + 1 + 1 := by omega
  go_wp2_with fail
  refine (decmeta_any _ _).mono ?_
  rintro e w7 ⟨rfl, hb⟩
  rw [HN2.out]
  have hb' : Below w.heap.size w w7 := Below.trans (by have := B6.out; go_grown) (hb.mono (by first | omega | (simp; omega) | simp))
  have hz7 : w6.heap.size ≤ w7.heap.size := by have := hb.size; first | omega | (simp at this; omega)
  have na_0 : w7.cell? ⟨w.heap.size, 0, none⟩ = some (.int .u8 k) := keep1 hb a_0
  have na_1 : w7.cell? ⟨w.heap.size, 1, none⟩ = some (.int .i64 mo) := keep1 hb a_1
  have na_2 : w7.cell? ⟨w.heap.size, 2, none⟩ = some (.int .i64 li) := keep1 hb a_2
  have na_3 : w7.cell? ⟨w.heap.size, 3, none⟩ = some (.int .i64 sz) := keep1 hb a_3
  have na_4 : w7.cell? ⟨w.heap.size, 4, none⟩ = some (.int .i64 mt) := keep1 hb a_4
  have na_5 : w7.cell? ⟨w.heap.size, 5, none⟩ = some (.int .i64 ct) := keep1 hb a_5
  have na_6 : w7.cell? ⟨w.heap.size, 6, none⟩ = some (.int .i64 ino) := keep1 hb a_6
  have na_7 : w7.cell? ⟨w.heap.size, 7, none⟩ = some (.int .i64 gn) := keep1 hb a_7
  have na_f : ∀ i, w7.frozen? ⟨w.heap.size, i, none⟩ = false := fun i => (hb.frozen (p := ⟨w.heap.size, i, none⟩) (by first | omega | (simp; omega) | simp)).trans (a_f i)
  have nm_0 : w7.cell? ⟨w5.heap.size, 0, none⟩ = some (.int .i64 gen) := keep1 hb m_0
  have nm_1 : w7.cell? ⟨w5.heap.size, 1, none⟩ = some (.int .i64 boot) := keep1 hb m_1
  have nm_f : ∀ i, w7.frozen? ⟨w5.heap.size, i, none⟩ = false := fun i => (hb.frozen (p := ⟨w5.heap.size, i, none⟩) (by first | omega | (simp; omega) | simp)).trans (m_f i)
  clear a_0 a_1 a_2 a_3 a_4 a_5 a_6 a_7 a_f m_0 m_1 m_f
  have a_0 := na_0; clear na_0
  have a_1 := na_1; clear na_1
  have a_2 := na_2; clear na_2
  have a_3 := na_3; clear na_3
  have a_4 := na_4; clear na_4
  have a_5 := na_5; clear na_5
  have a_6 := na_6; clear na_6
  have a_7 := na_7; clear na_7
  have a_f := na_f; clear na_f
  have m_0 := nm_0; clear nm_0
  have m_1 := nm_1; clear nm_1
  have m_f := nm_f; clear nm_f
  clear hb B6
  have B7 := Lib.hid hb'
  have hw7 := hb'.size
  clear hb'
  have hsa60 : w.heap.size < w7.heap.size := by omega
  have hsa61 : w.heap.size < w7.heap.size + 1 := by omega
  have hsa62 : w.heap.size < w7.heap.size + 1 + 1 := by omega
  have hsm60 : w5.heap.size < w7.heap.size := by omega
  have hsm61 : w5.heap.size < w7.heap.size + 1 := by omega
  have hsm62 : w5.heap.size < w7.heap.size + 1 + 1 := by omega
  go_wp2_with fail
  refine (decmeta_any _ _).mono ?_
  rintro e w8 ⟨rfl, hb⟩
  rw [HT.out]
  have hb' : Below w.heap.size w w8 := Below.trans (by have := B7.out; go_grown) (hb.mono (by first | omega | (simp; omega) | simp))
  have hz8 : w7.heap.size + 1 ≤ w8.heap.size := by have := hb.size; first | omega | (simp at this; omega)
  have na_0 : w8.cell? ⟨w.heap.size, 0, none⟩ = some (.int .u8 k) := keep1 hb (cellP (by first | omega | (simp; omega) | simp) a_0)
  have na_1 : w8.cell? ⟨w.heap.size, 1, none⟩ = some (.int .i64 mo) := keep1 hb (cellP (by first | omega | (simp; omega) | simp) a_1)
  have na_2 : w8.cell? ⟨w.heap.size, 2, none⟩ = some (.int .i64 li) := keep1 hb (cellP (by first | omega | (simp; omega) | simp) a_2)
  have na_3 : w8.cell? ⟨w.heap.size, 3, none⟩ = some (.int .i64 sz) := keep1 hb (cellP (by first | omega | (simp; omega) | simp) a_3)
  have na_4 : w8.cell? ⟨w.heap.size, 4, none⟩ = some (.int .i64 mt) := keep1 hb (cellP (by first | omega | (simp; omega) | simp) a_4)
  have na_5 : w8.cell? ⟨w.heap.size, 5, none⟩ = some (.int .i64 ct) := keep1 hb (cellP (by first | omega | (simp; omega) | simp) a_5)
  have na_6 : w8.cell? ⟨w.heap.size, 6, none⟩ = some (.int .i64 ino) := keep1 hb (cellP (by first | omega | (simp; omega) | simp) a_6)
  have na_7 : w8.cell? ⟨w.heap.size, 7, none⟩ = some (.int .i64 gn) := keep1 hb (cellP (by first | omega | (simp; omega) | simp) a_7)
  have na_f : ∀ i, w8.frozen? ⟨w.heap.size, i, none⟩ = false := fun i => (hb.frozen (p := ⟨w.heap.size, i, none⟩) (by first | omega | (simp; omega) | simp)).trans (frozP (by first | omega | (simp; omega) | simp) (a_f i))
  have nm_0 : w8.cell? ⟨w5.heap.size, 0, none⟩ = some (.int .i64 gen) := keep1 hb (cellP (by first | omega | (simp; omega) | simp) m_0)
  have nm_1 : w8.cell? ⟨w5.heap.size, 1, none⟩ = some (.int .i64 boot) := keep1 hb (cellP (by first | omega | (simp; omega) | simp) m_1)
  have nm_f : ∀ i, w8.frozen? ⟨w5.heap.size, i, none⟩ = false := fun i => (hb.frozen (p := ⟨w5.heap.size, i, none⟩) (by first | omega | (simp; omega) | simp)).trans (frozP (by first | omega | (simp; omega) | simp) (m_f i))
  have nn_0 : w8.cell? ⟨w7.heap.size, 0, none⟩ = some (.int .i64 gen) := keep1 hb ((cellN _ _ _ _ (by first | rfl | simp) _).trans rfl)
  have nn_1 : w8.cell? ⟨w7.heap.size, 1, none⟩ = some (.int .i64 boot) := keep1 hb ((cellN _ _ _ _ (by first | rfl | simp) _).trans rfl)
  have nn_f : ∀ i, w8.frozen? ⟨w7.heap.size, i, none⟩ = false := fun i => (hb.frozen (p := ⟨w7.heap.size, i, none⟩) (by first | omega | (simp; omega) | simp)).trans (frozN (by first | rfl | simp))
  clear a_0 a_1 a_2 a_3 a_4 a_5 a_6 a_7 a_f m_0 m_1 m_f
  have a_0 := na_0; clear na_0
  have a_1 := na_1; clear na_1
  have a_2 := na_2; clear na_2
  have a_3 := na_3; clear na_3
  have a_4 := na_4; clear na_4
  have a_5 := na_5; clear na_5
  have a_6 := na_6; clear na_6
  have a_7 := na_7; clear na_7
  have a_f := na_f; clear na_f
  have m_0 := nm_0; clear nm_0
  have m_1 := nm_1; clear nm_1
  have m_f := nm_f; clear nm_f
  have n_0 := nn_0; clear nn_0
  have n_1 := nn_1; clear nn_1
  have n_f := nn_f; clear nn_f
  clear hb B7
  have B8 := Lib.hid hb'
  have hw8 := hb'.size
  clear hb'
  have hsa70 : w.heap.size < w8.heap.size := by omega
  have hsa71 : w.heap.size < w8.heap.size + 1 := by omega
  have hsa72 : w.heap.size < w8.heap.size + 1 + 1 := by omega
  have hsm70 : w5.heap.size < w8.heap.size := by omega
  have hsm71 : w5.heap.size < w8.heap.size + 1 := by omega
  have hsm72 : w5.heap.size < w8.heap.size + 1 + 1 := by omega
  have hsn70 : w7.heap.size < w8.heap.size := by omega
  have hsn71 : w7.heap.size < w8.heap.size + 1 := by omega
  have hsn72 : w7.heap.size < w8.heap.size + 1 + 1 := by omega
  go_wp2_with fail
  refine (encmeta_any g2 b2 _ lo_g2 hi_g2 lo_b2 hi_b2).mono ?_
  rintro e w9 ⟨rfl, hb⟩
  rw [HT2.out]
  have hb' : Below w.heap.size w w9 := Below.trans (by have := B8.out; go_grown) (hb.mono (by first | omega | (simp; omega) | simp))
  have hz9 : w8.heap.size + 1 ≤ w9.heap.size := by have := hb.size; first | omega | (simp at this; omega)
  have na_0 : w9.cell? ⟨w.heap.size, 0, none⟩ = some (.int .u8 k) := keep1 hb (cellP (by first | omega | (simp; omega) | simp) a_0)
  have na_1 : w9.cell? ⟨w.heap.size, 1, none⟩ = some (.int .i64 mo) := keep1 hb (cellP (by first | omega | (simp; omega) | simp) a_1)
  have na_2 : w9.cell? ⟨w.heap.size, 2, none⟩ = some (.int .i64 li) := keep1 hb (cellP (by first | omega | (simp; omega) | simp) a_2)
  have na_3 : w9.cell? ⟨w.heap.size, 3, none⟩ = some (.int .i64 sz) := keep1 hb (cellP (by first | omega | (simp; omega) | simp) a_3)
  have na_4 : w9.cell? ⟨w.heap.size, 4, none⟩ = some (.int .i64 mt) := keep1 hb (cellP (by first | omega | (simp; omega) | simp) a_4)
  have na_5 : w9.cell? ⟨w.heap.size, 5, none⟩ = some (.int .i64 ct) := keep1 hb (cellP (by first | omega | (simp; omega) | simp) a_5)
  have na_6 : w9.cell? ⟨w.heap.size, 6, none⟩ = some (.int .i64 ino) := keep1 hb (cellP (by first | omega | (simp; omega) | simp) a_6)
  have na_7 : w9.cell? ⟨w.heap.size, 7, none⟩ = some (.int .i64 gn) := keep1 hb (cellP (by first | omega | (simp; omega) | simp) a_7)
  have na_f : ∀ i, w9.frozen? ⟨w.heap.size, i, none⟩ = false := fun i => (hb.frozen (p := ⟨w.heap.size, i, none⟩) (by first | omega | (simp; omega) | simp)).trans (frozP (by first | omega | (simp; omega) | simp) (a_f i))
  have nm_0 : w9.cell? ⟨w5.heap.size, 0, none⟩ = some (.int .i64 gen) := keep1 hb (cellP (by first | omega | (simp; omega) | simp) m_0)
  have nm_1 : w9.cell? ⟨w5.heap.size, 1, none⟩ = some (.int .i64 boot) := keep1 hb (cellP (by first | omega | (simp; omega) | simp) m_1)
  have nm_f : ∀ i, w9.frozen? ⟨w5.heap.size, i, none⟩ = false := fun i => (hb.frozen (p := ⟨w5.heap.size, i, none⟩) (by first | omega | (simp; omega) | simp)).trans (frozP (by first | omega | (simp; omega) | simp) (m_f i))
  have nn_0 : w9.cell? ⟨w7.heap.size, 0, none⟩ = some (.int .i64 gen) := keep1 hb (cellP (by first | omega | (simp; omega) | simp) n_0)
  have nn_1 : w9.cell? ⟨w7.heap.size, 1, none⟩ = some (.int .i64 boot) := keep1 hb (cellP (by first | omega | (simp; omega) | simp) n_1)
  have nn_f : ∀ i, w9.frozen? ⟨w7.heap.size, i, none⟩ = false := fun i => (hb.frozen (p := ⟨w7.heap.size, i, none⟩) (by first | omega | (simp; omega) | simp)).trans (frozP (by first | omega | (simp; omega) | simp) (n_f i))
  have nn2_0 : w9.cell? ⟨w8.heap.size, 0, none⟩ = some (.int .i64 g2) := keep1 hb ((cellN _ _ _ _ (by first | rfl | simp) _).trans rfl)
  have nn2_1 : w9.cell? ⟨w8.heap.size, 1, none⟩ = some (.int .i64 b2) := keep1 hb ((cellN _ _ _ _ (by first | rfl | simp) _).trans rfl)
  have nn2_f : ∀ i, w9.frozen? ⟨w8.heap.size, i, none⟩ = false := fun i => (hb.frozen (p := ⟨w8.heap.size, i, none⟩) (by first | omega | (simp; omega) | simp)).trans (frozN (by first | rfl | simp))
  clear a_0 a_1 a_2 a_3 a_4 a_5 a_6 a_7 a_f m_0 m_1 m_f n_0 n_1 n_f
  have a_0 := na_0; clear na_0
  have a_1 := na_1; clear na_1
  have a_2 := na_2; clear na_2
  have a_3 := na_3; clear na_3
  have a_4 := na_4; clear na_4
  have a_5 := na_5; clear na_5
  have a_6 := na_6; clear na_6
  have a_7 := na_7; clear na_7
  have a_f := na_f; clear na_f
  have m_0 := nm_0; clear nm_0
  have m_1 := nm_1; clear nm_1
  have m_f := nm_f; clear nm_f
  have n_0 := nn_0; clear nn_0
  have n_1 := nn_1; clear nn_1
  have n_f := nn_f; clear nn_f
  have n2_0 := nn2_0; clear nn2_0
  have n2_1 := nn2_1; clear nn2_1
  have n2_f := nn2_f; clear nn2_f
  clear hb B8
  have B9 := Lib.hid hb'
  have hw9 := hb'.size
  clear hb'
  have hsa80 : w.heap.size < w9.heap.size := by omega
  have hsa81 : w.heap.size < w9.heap.size + 1 := by omega
  have hsa82 : w.heap.size < w9.heap.size + 1 + 1 := by omega
  have hsm80 : w5.heap.size < w9.heap.size := by omega
  have hsm81 : w5.heap.size < w9.heap.size + 1 := by omega
  have hsm82 : w5.heap.size < w9.heap.size + 1 + 1 := by omega
  have hsn80 : w7.heap.size < w9.heap.size := by omega
  have hsn81 : w7.heap.size < w9.heap.size + 1 := by omega
  have hsn82 : w7.heap.size < w9.heap.size + 1 + 1 := by omega
  have hsn280 : w8.heap.size < w9.heap.size := by omega
  have hsn281 : w8.heap.size < w9.heap.size + 1 := by omega
  have hsn282 : w8.heap.size < w9.heap.size + 1 + 1 := by omega
  go_wp2_with fail
  go_ret
  exact ⟨ret_bool (by simp), by have := B9.out; go_grown⟩

set_option maxHeartbeats 4000000 in
theorem back_0110 (k mo li sz mt ct ino gn gen boot k2 mo2 li2 sz2 mt2 ct2 ino2 gn2 : Int) (s t mb : ByteArray) (w : World) (hs : s.size ≤ 1000) (ht : t.size ≤ 1000) (lo_mo : -9223372036854775808 ≤ mo) (hi_mo : mo ≤ 9223372036854775807) (lo_li : -9223372036854775808 ≤ li) (hi_li : li ≤ 9223372036854775807) (lo_sz : -9223372036854775808 ≤ sz) (hi_sz : sz ≤ 9223372036854775807) (lo_mt : -9223372036854775808 ≤ mt) (hi_mt : mt ≤ 9223372036854775807) (lo_ct : -9223372036854775808 ≤ ct) (hi_ct : ct ≤ 9223372036854775807) (lo_ino : -9223372036854775808 ≤ ino) (hi_ino : ino ≤ 9223372036854775807) (lo_gn : -9223372036854775808 ≤ gn) (hi_gn : gn ≤ 9223372036854775807) (lo_gen : -9223372036854775808 ≤ gen) (hi_gen : gen ≤ 9223372036854775807) (lo_boot : -9223372036854775808 ≤ boot) (hi_boot : boot ≤ 9223372036854775807) (HM : mayB k mo li sz mt ct ino gn = false) (HE : encR k mo li sz mt ct ino gn = .tuple #[.string ByteArray.empty, .int .i64 4]) (lo_mo2 : -9223372036854775808 ≤ mo2) (hi_mo2 : mo2 ≤ 9223372036854775807) (lo_li2 : -9223372036854775808 ≤ li2) (hi_li2 : li2 ≤ 9223372036854775807) (lo_sz2 : -9223372036854775808 ≤ sz2) (hi_sz2 : sz2 ≤ 9223372036854775807) (lo_mt2 : -9223372036854775808 ≤ mt2) (hi_mt2 : mt2 ≤ 9223372036854775807) (lo_ct2 : -9223372036854775808 ≤ ct2) (hi_ct2 : ct2 ≤ 9223372036854775807) (lo_ino2 : -9223372036854775808 ≤ ino2) (hi_ino2 : ino2 ≤ 9223372036854775807) (lo_gn2 : -9223372036854775808 ≤ gn2) (hi_gn2 : gn2 ≤ 9223372036854775807) (HD : decR s = .tuple #[.agg #[.int .u8 k2, .int .i64 mo2, .int .i64 li2, .int .i64 sz2, .int .i64 mt2, .int .i64 ct2, .int .i64 ino2, .int .i64 gn2], .int .i64 0]) (HD2 : encR k2 mo2 li2 sz2 mt2 ct2 ino2 gn2 = .tuple #[.string s, .int .i64 0]) (HN : mencR gen boot = .tuple #[.string mb, .int .i64 0]) (HN2 : decMR mb = .tuple #[.agg #[.int .i64 gen, .int .i64 boot], .int .i64 0]) (HT : decMR t = .tuple #[.agg #[.int .i64 0, .int .i64 0], .int .i64 4]) :
    Calls Try.prog 7 #[.agg #[.int .u8 k, .int .i64 mo, .int .i64 li, .int .i64 sz, .int .i64 mt, .int .i64 ct, .int .i64 ino, .int .i64 gn], .int .i64 gen, .int .i64 boot, .string s, .string t] w fun e w' => e = .returned (.bool true) ∧ Below w.heap.size w w' := by
  replace HM := Lib.hid HM
  replace HE := Lib.hid HE
  replace HD := Lib.hid HD
  replace HN := Lib.hid HN
  replace HT := Lib.hid HT
  replace HD2 := Lib.hid HD2
  replace HN2 := Lib.hid HN2
  have ls : ¬ ((s.size : Int) > 1000) := by omega
  have lt : ¬ ((t.size : Int) > 1000) := by omega
  go_enter Try.func7, Try.ntmps7
  go_wp2_with fail
  refine (awake20 _).mono ?_
  rintro e w1 ⟨rfl, hb⟩
  have hb' : Below w.heap.size w w1 := Below.trans (by go_grown) (hb.mono (by first | omega | (simp; omega) | simp))
  have hz1 : w.heap.size + 1 ≤ w1.heap.size := by have := hb.size; first | omega | (simp at this; omega)
  have na_0 : w1.cell? ⟨w.heap.size, 0, none⟩ = some (.int .u8 k) := keep1 hb ((cellN _ _ _ _ (by first | rfl | simp) _).trans rfl)
  have na_1 : w1.cell? ⟨w.heap.size, 1, none⟩ = some (.int .i64 mo) := keep1 hb ((cellN _ _ _ _ (by first | rfl | simp) _).trans rfl)
  have na_2 : w1.cell? ⟨w.heap.size, 2, none⟩ = some (.int .i64 li) := keep1 hb ((cellN _ _ _ _ (by first | rfl | simp) _).trans rfl)
  have na_3 : w1.cell? ⟨w.heap.size, 3, none⟩ = some (.int .i64 sz) := keep1 hb ((cellN _ _ _ _ (by first | rfl | simp) _).trans rfl)
  have na_4 : w1.cell? ⟨w.heap.size, 4, none⟩ = some (.int .i64 mt) := keep1 hb ((cellN _ _ _ _ (by first | rfl | simp) _).trans rfl)
  have na_5 : w1.cell? ⟨w.heap.size, 5, none⟩ = some (.int .i64 ct) := keep1 hb ((cellN _ _ _ _ (by first | rfl | simp) _).trans rfl)
  have na_6 : w1.cell? ⟨w.heap.size, 6, none⟩ = some (.int .i64 ino) := keep1 hb ((cellN _ _ _ _ (by first | rfl | simp) _).trans rfl)
  have na_7 : w1.cell? ⟨w.heap.size, 7, none⟩ = some (.int .i64 gn) := keep1 hb ((cellN _ _ _ _ (by first | rfl | simp) _).trans rfl)
  have na_f : ∀ i, w1.frozen? ⟨w.heap.size, i, none⟩ = false := fun i => (hb.frozen (p := ⟨w.heap.size, i, none⟩) (by first | omega | (simp; omega) | simp)).trans (frozN (by first | rfl | simp))
  have a_0 := na_0; clear na_0
  have a_1 := na_1; clear na_1
  have a_2 := na_2; clear na_2
  have a_3 := na_3; clear na_3
  have a_4 := na_4; clear na_4
  have a_5 := na_5; clear na_5
  have a_6 := na_6; clear na_6
  have a_7 := na_7; clear na_7
  have a_f := na_f; clear na_f
  clear hb
  have B1 := Lib.hid hb'
  have hw1 := hb'.size
  clear hb'
  have hsa00 : w.heap.size < w1.heap.size := by omega
  have hsa01 : w.heap.size < w1.heap.size + 1 := by omega
  have hsa02 : w.heap.size < w1.heap.size + 1 + 1 := by omega
  go_wp2_with fail
  refine (encode_any k mo li sz mt ct ino gn _ lo_mo hi_mo lo_li hi_li lo_sz hi_sz lo_mt hi_mt lo_ct hi_ct lo_ino hi_ino lo_gn hi_gn).mono ?_
  rintro e w2 ⟨rfl, hb⟩
  rw [HE.out]
  have hb' : Below w.heap.size w w2 := Below.trans (by have := B1.out; go_grown) (hb.mono (by first | omega | (simp; omega) | simp))
  have hz2 : w1.heap.size ≤ w2.heap.size := by have := hb.size; first | omega | (simp at this; omega)
  have na_0 : w2.cell? ⟨w.heap.size, 0, none⟩ = some (.int .u8 k) := keep1 hb a_0
  have na_1 : w2.cell? ⟨w.heap.size, 1, none⟩ = some (.int .i64 mo) := keep1 hb a_1
  have na_2 : w2.cell? ⟨w.heap.size, 2, none⟩ = some (.int .i64 li) := keep1 hb a_2
  have na_3 : w2.cell? ⟨w.heap.size, 3, none⟩ = some (.int .i64 sz) := keep1 hb a_3
  have na_4 : w2.cell? ⟨w.heap.size, 4, none⟩ = some (.int .i64 mt) := keep1 hb a_4
  have na_5 : w2.cell? ⟨w.heap.size, 5, none⟩ = some (.int .i64 ct) := keep1 hb a_5
  have na_6 : w2.cell? ⟨w.heap.size, 6, none⟩ = some (.int .i64 ino) := keep1 hb a_6
  have na_7 : w2.cell? ⟨w.heap.size, 7, none⟩ = some (.int .i64 gn) := keep1 hb a_7
  have na_f : ∀ i, w2.frozen? ⟨w.heap.size, i, none⟩ = false := fun i => (hb.frozen (p := ⟨w.heap.size, i, none⟩) (by first | omega | (simp; omega) | simp)).trans (a_f i)
  clear a_0 a_1 a_2 a_3 a_4 a_5 a_6 a_7 a_f
  have a_0 := na_0; clear na_0
  have a_1 := na_1; clear na_1
  have a_2 := na_2; clear na_2
  have a_3 := na_3; clear na_3
  have a_4 := na_4; clear na_4
  have a_5 := na_5; clear na_5
  have a_6 := na_6; clear na_6
  have a_7 := na_7; clear na_7
  have a_f := na_f; clear na_f
  clear hb B1
  have B2 := Lib.hid hb'
  have hw2 := hb'.size
  clear hb'
  have hsa10 : w.heap.size < w2.heap.size := by omega
  have hsa11 : w.heap.size < w2.heap.size + 1 := by omega
  have hsa12 : w.heap.size < w2.heap.size + 1 + 1 := by omega
  go_wp2_with fail
  refine (may_any _ _ _ _ _ _ _ _ _).mono ?_
  rintro e w3 ⟨rfl, hb⟩
  rw [HM.out]
  have hb' : Below w.heap.size w w3 := Below.trans (by have := B2.out; go_grown) (hb.mono (by first | omega | (simp; omega) | simp))
  have hz3 : w2.heap.size ≤ w3.heap.size := by have := hb.size; first | omega | (simp at this; omega)
  have na_0 : w3.cell? ⟨w.heap.size, 0, none⟩ = some (.int .u8 k) := keep1 hb a_0
  have na_1 : w3.cell? ⟨w.heap.size, 1, none⟩ = some (.int .i64 mo) := keep1 hb a_1
  have na_2 : w3.cell? ⟨w.heap.size, 2, none⟩ = some (.int .i64 li) := keep1 hb a_2
  have na_3 : w3.cell? ⟨w.heap.size, 3, none⟩ = some (.int .i64 sz) := keep1 hb a_3
  have na_4 : w3.cell? ⟨w.heap.size, 4, none⟩ = some (.int .i64 mt) := keep1 hb a_4
  have na_5 : w3.cell? ⟨w.heap.size, 5, none⟩ = some (.int .i64 ct) := keep1 hb a_5
  have na_6 : w3.cell? ⟨w.heap.size, 6, none⟩ = some (.int .i64 ino) := keep1 hb a_6
  have na_7 : w3.cell? ⟨w.heap.size, 7, none⟩ = some (.int .i64 gn) := keep1 hb a_7
  have na_f : ∀ i, w3.frozen? ⟨w.heap.size, i, none⟩ = false := fun i => (hb.frozen (p := ⟨w.heap.size, i, none⟩) (by first | omega | (simp; omega) | simp)).trans (a_f i)
  clear a_0 a_1 a_2 a_3 a_4 a_5 a_6 a_7 a_f
  have a_0 := na_0; clear na_0
  have a_1 := na_1; clear na_1
  have a_2 := na_2; clear na_2
  have a_3 := na_3; clear na_3
  have a_4 := na_4; clear na_4
  have a_5 := na_5; clear na_5
  have a_6 := na_6; clear na_6
  have a_7 := na_7; clear na_7
  have a_f := na_f; clear na_f
  clear hb B2
  have B3 := Lib.hid hb'
  have hw3 := hb'.size
  clear hb'
  have hsa20 : w.heap.size < w3.heap.size := by omega
  have hsa21 : w.heap.size < w3.heap.size + 1 := by omega
  have hsa22 : w.heap.size < w3.heap.size + 1 + 1 := by omega
  go_wp2_with fail
  refine (decode_any _ _).mono ?_
  rintro e w4 ⟨rfl, hb⟩
  rw [HD.out]
  have hb' : Below w.heap.size w w4 := Below.trans (by have := B3.out; go_grown) (hb.mono (by first | omega | (simp; omega) | simp))
  have hz4 : w3.heap.size ≤ w4.heap.size := by have := hb.size; first | omega | (simp at this; omega)
  have na_0 : w4.cell? ⟨w.heap.size, 0, none⟩ = some (.int .u8 k) := keep1 hb a_0
  have na_1 : w4.cell? ⟨w.heap.size, 1, none⟩ = some (.int .i64 mo) := keep1 hb a_1
  have na_2 : w4.cell? ⟨w.heap.size, 2, none⟩ = some (.int .i64 li) := keep1 hb a_2
  have na_3 : w4.cell? ⟨w.heap.size, 3, none⟩ = some (.int .i64 sz) := keep1 hb a_3
  have na_4 : w4.cell? ⟨w.heap.size, 4, none⟩ = some (.int .i64 mt) := keep1 hb a_4
  have na_5 : w4.cell? ⟨w.heap.size, 5, none⟩ = some (.int .i64 ct) := keep1 hb a_5
  have na_6 : w4.cell? ⟨w.heap.size, 6, none⟩ = some (.int .i64 ino) := keep1 hb a_6
  have na_7 : w4.cell? ⟨w.heap.size, 7, none⟩ = some (.int .i64 gn) := keep1 hb a_7
  have na_f : ∀ i, w4.frozen? ⟨w.heap.size, i, none⟩ = false := fun i => (hb.frozen (p := ⟨w.heap.size, i, none⟩) (by first | omega | (simp; omega) | simp)).trans (a_f i)
  clear a_0 a_1 a_2 a_3 a_4 a_5 a_6 a_7 a_f
  have a_0 := na_0; clear na_0
  have a_1 := na_1; clear na_1
  have a_2 := na_2; clear na_2
  have a_3 := na_3; clear na_3
  have a_4 := na_4; clear na_4
  have a_5 := na_5; clear na_5
  have a_6 := na_6; clear na_6
  have a_7 := na_7; clear na_7
  have a_f := na_f; clear na_f
  clear hb B3
  have B4 := Lib.hid hb'
  have hw4 := hb'.size
  clear hb'
  have hsa30 : w.heap.size < w4.heap.size := by omega
  have hsa31 : w.heap.size < w4.heap.size + 1 := by omega
  have hsa32 : w.heap.size < w4.heap.size + 1 + 1 := by omega
  go_wp2_with fail
  refine (encode_any k2 mo2 li2 sz2 mt2 ct2 ino2 gn2 _ lo_mo2 hi_mo2 lo_li2 hi_li2 lo_sz2 hi_sz2 lo_mt2 hi_mt2 lo_ct2 hi_ct2 lo_ino2 hi_ino2 lo_gn2 hi_gn2).mono ?_
  rintro e w5 ⟨rfl, hb⟩
  rw [HD2.out]
  have hb' : Below w.heap.size w w5 := Below.trans (by have := B4.out; go_grown) (hb.mono (by first | omega | (simp; omega) | simp))
  have hz5 : w4.heap.size + 1 ≤ w5.heap.size := by have := hb.size; first | omega | (simp at this; omega)
  have na_0 : w5.cell? ⟨w.heap.size, 0, none⟩ = some (.int .u8 k) := keep1 hb (cellP (by first | omega | (simp; omega) | simp) a_0)
  have na_1 : w5.cell? ⟨w.heap.size, 1, none⟩ = some (.int .i64 mo) := keep1 hb (cellP (by first | omega | (simp; omega) | simp) a_1)
  have na_2 : w5.cell? ⟨w.heap.size, 2, none⟩ = some (.int .i64 li) := keep1 hb (cellP (by first | omega | (simp; omega) | simp) a_2)
  have na_3 : w5.cell? ⟨w.heap.size, 3, none⟩ = some (.int .i64 sz) := keep1 hb (cellP (by first | omega | (simp; omega) | simp) a_3)
  have na_4 : w5.cell? ⟨w.heap.size, 4, none⟩ = some (.int .i64 mt) := keep1 hb (cellP (by first | omega | (simp; omega) | simp) a_4)
  have na_5 : w5.cell? ⟨w.heap.size, 5, none⟩ = some (.int .i64 ct) := keep1 hb (cellP (by first | omega | (simp; omega) | simp) a_5)
  have na_6 : w5.cell? ⟨w.heap.size, 6, none⟩ = some (.int .i64 ino) := keep1 hb (cellP (by first | omega | (simp; omega) | simp) a_6)
  have na_7 : w5.cell? ⟨w.heap.size, 7, none⟩ = some (.int .i64 gn) := keep1 hb (cellP (by first | omega | (simp; omega) | simp) a_7)
  have na_f : ∀ i, w5.frozen? ⟨w.heap.size, i, none⟩ = false := fun i => (hb.frozen (p := ⟨w.heap.size, i, none⟩) (by first | omega | (simp; omega) | simp)).trans (frozP (by first | omega | (simp; omega) | simp) (a_f i))
  clear a_0 a_1 a_2 a_3 a_4 a_5 a_6 a_7 a_f
  have a_0 := na_0; clear na_0
  have a_1 := na_1; clear na_1
  have a_2 := na_2; clear na_2
  have a_3 := na_3; clear na_3
  have a_4 := na_4; clear na_4
  have a_5 := na_5; clear na_5
  have a_6 := na_6; clear na_6
  have a_7 := na_7; clear na_7
  have a_f := na_f; clear na_f
  clear hb B4
  have B5 := Lib.hid hb'
  have hw5 := hb'.size
  clear hb'
  have hsa40 : w.heap.size < w5.heap.size := by omega
  have hsa41 : w.heap.size < w5.heap.size + 1 := by omega
  have hsa42 : w.heap.size < w5.heap.size + 1 + 1 := by omega
  go_wp2_with fail
  refine (encmeta_any gen boot _ lo_gen hi_gen lo_boot hi_boot).mono ?_
  rintro e w6 ⟨rfl, hb⟩
  rw [HN.out]
  have hb' : Below w.heap.size w w6 := Below.trans (by have := B5.out; go_grown) (hb.mono (by first | omega | (simp; omega) | simp))
  have hz6 : w5.heap.size + 1 ≤ w6.heap.size := by have := hb.size; first | omega | (simp at this; omega)
  have na_0 : w6.cell? ⟨w.heap.size, 0, none⟩ = some (.int .u8 k) := keep1 hb (cellP (by first | omega | (simp; omega) | simp) a_0)
  have na_1 : w6.cell? ⟨w.heap.size, 1, none⟩ = some (.int .i64 mo) := keep1 hb (cellP (by first | omega | (simp; omega) | simp) a_1)
  have na_2 : w6.cell? ⟨w.heap.size, 2, none⟩ = some (.int .i64 li) := keep1 hb (cellP (by first | omega | (simp; omega) | simp) a_2)
  have na_3 : w6.cell? ⟨w.heap.size, 3, none⟩ = some (.int .i64 sz) := keep1 hb (cellP (by first | omega | (simp; omega) | simp) a_3)
  have na_4 : w6.cell? ⟨w.heap.size, 4, none⟩ = some (.int .i64 mt) := keep1 hb (cellP (by first | omega | (simp; omega) | simp) a_4)
  have na_5 : w6.cell? ⟨w.heap.size, 5, none⟩ = some (.int .i64 ct) := keep1 hb (cellP (by first | omega | (simp; omega) | simp) a_5)
  have na_6 : w6.cell? ⟨w.heap.size, 6, none⟩ = some (.int .i64 ino) := keep1 hb (cellP (by first | omega | (simp; omega) | simp) a_6)
  have na_7 : w6.cell? ⟨w.heap.size, 7, none⟩ = some (.int .i64 gn) := keep1 hb (cellP (by first | omega | (simp; omega) | simp) a_7)
  have na_f : ∀ i, w6.frozen? ⟨w.heap.size, i, none⟩ = false := fun i => (hb.frozen (p := ⟨w.heap.size, i, none⟩) (by first | omega | (simp; omega) | simp)).trans (frozP (by first | omega | (simp; omega) | simp) (a_f i))
  have nm_0 : w6.cell? ⟨w5.heap.size, 0, none⟩ = some (.int .i64 gen) := keep1 hb ((cellN _ _ _ _ (by first | rfl | simp) _).trans rfl)
  have nm_1 : w6.cell? ⟨w5.heap.size, 1, none⟩ = some (.int .i64 boot) := keep1 hb ((cellN _ _ _ _ (by first | rfl | simp) _).trans rfl)
  have nm_f : ∀ i, w6.frozen? ⟨w5.heap.size, i, none⟩ = false := fun i => (hb.frozen (p := ⟨w5.heap.size, i, none⟩) (by first | omega | (simp; omega) | simp)).trans (frozN (by first | rfl | simp))
  clear a_0 a_1 a_2 a_3 a_4 a_5 a_6 a_7 a_f
  have a_0 := na_0; clear na_0
  have a_1 := na_1; clear na_1
  have a_2 := na_2; clear na_2
  have a_3 := na_3; clear na_3
  have a_4 := na_4; clear na_4
  have a_5 := na_5; clear na_5
  have a_6 := na_6; clear na_6
  have a_7 := na_7; clear na_7
  have a_f := na_f; clear na_f
  have m_0 := nm_0; clear nm_0
  have m_1 := nm_1; clear nm_1
  have m_f := nm_f; clear nm_f
  clear hb B5
  have B6 := Lib.hid hb'
  have hw6 := hb'.size
  clear hb'
  have hsa50 : w.heap.size < w6.heap.size := by omega
  have hsa51 : w.heap.size < w6.heap.size + 1 := by omega
  have hsa52 : w.heap.size < w6.heap.size + 1 + 1 := by omega
  have hsm50 : w5.heap.size < w6.heap.size := by omega
  have hsm51 : w5.heap.size < w6.heap.size + 1 := by omega
  have hsm52 : w5.heap.size < w6.heap.size + 1 + 1 := by omega
  go_wp2_with fail
  refine (decmeta_any _ _).mono ?_
  rintro e w7 ⟨rfl, hb⟩
  rw [HN2.out]
  have hb' : Below w.heap.size w w7 := Below.trans (by have := B6.out; go_grown) (hb.mono (by first | omega | (simp; omega) | simp))
  have hz7 : w6.heap.size ≤ w7.heap.size := by have := hb.size; first | omega | (simp at this; omega)
  have na_0 : w7.cell? ⟨w.heap.size, 0, none⟩ = some (.int .u8 k) := keep1 hb a_0
  have na_1 : w7.cell? ⟨w.heap.size, 1, none⟩ = some (.int .i64 mo) := keep1 hb a_1
  have na_2 : w7.cell? ⟨w.heap.size, 2, none⟩ = some (.int .i64 li) := keep1 hb a_2
  have na_3 : w7.cell? ⟨w.heap.size, 3, none⟩ = some (.int .i64 sz) := keep1 hb a_3
  have na_4 : w7.cell? ⟨w.heap.size, 4, none⟩ = some (.int .i64 mt) := keep1 hb a_4
  have na_5 : w7.cell? ⟨w.heap.size, 5, none⟩ = some (.int .i64 ct) := keep1 hb a_5
  have na_6 : w7.cell? ⟨w.heap.size, 6, none⟩ = some (.int .i64 ino) := keep1 hb a_6
  have na_7 : w7.cell? ⟨w.heap.size, 7, none⟩ = some (.int .i64 gn) := keep1 hb a_7
  have na_f : ∀ i, w7.frozen? ⟨w.heap.size, i, none⟩ = false := fun i => (hb.frozen (p := ⟨w.heap.size, i, none⟩) (by first | omega | (simp; omega) | simp)).trans (a_f i)
  have nm_0 : w7.cell? ⟨w5.heap.size, 0, none⟩ = some (.int .i64 gen) := keep1 hb m_0
  have nm_1 : w7.cell? ⟨w5.heap.size, 1, none⟩ = some (.int .i64 boot) := keep1 hb m_1
  have nm_f : ∀ i, w7.frozen? ⟨w5.heap.size, i, none⟩ = false := fun i => (hb.frozen (p := ⟨w5.heap.size, i, none⟩) (by first | omega | (simp; omega) | simp)).trans (m_f i)
  clear a_0 a_1 a_2 a_3 a_4 a_5 a_6 a_7 a_f m_0 m_1 m_f
  have a_0 := na_0; clear na_0
  have a_1 := na_1; clear na_1
  have a_2 := na_2; clear na_2
  have a_3 := na_3; clear na_3
  have a_4 := na_4; clear na_4
  have a_5 := na_5; clear na_5
  have a_6 := na_6; clear na_6
  have a_7 := na_7; clear na_7
  have a_f := na_f; clear na_f
  have m_0 := nm_0; clear nm_0
  have m_1 := nm_1; clear nm_1
  have m_f := nm_f; clear nm_f
  clear hb B6
  have B7 := Lib.hid hb'
  have hw7 := hb'.size
  clear hb'
  have hsa60 : w.heap.size < w7.heap.size := by omega
  have hsa61 : w.heap.size < w7.heap.size + 1 := by omega
  have hsa62 : w.heap.size < w7.heap.size + 1 + 1 := by omega
  have hsm60 : w5.heap.size < w7.heap.size := by omega
  have hsm61 : w5.heap.size < w7.heap.size + 1 := by omega
  have hsm62 : w5.heap.size < w7.heap.size + 1 + 1 := by omega
  go_wp2_with fail
  refine (decmeta_any _ _).mono ?_
  rintro e w8 ⟨rfl, hb⟩
  rw [HT.out]
  have hb' : Below w.heap.size w w8 := Below.trans (by have := B7.out; go_grown) (hb.mono (by first | omega | (simp; omega) | simp))
  have hz8 : w7.heap.size + 1 ≤ w8.heap.size := by have := hb.size; first | omega | (simp at this; omega)
  have na_0 : w8.cell? ⟨w.heap.size, 0, none⟩ = some (.int .u8 k) := keep1 hb (cellP (by first | omega | (simp; omega) | simp) a_0)
  have na_1 : w8.cell? ⟨w.heap.size, 1, none⟩ = some (.int .i64 mo) := keep1 hb (cellP (by first | omega | (simp; omega) | simp) a_1)
  have na_2 : w8.cell? ⟨w.heap.size, 2, none⟩ = some (.int .i64 li) := keep1 hb (cellP (by first | omega | (simp; omega) | simp) a_2)
  have na_3 : w8.cell? ⟨w.heap.size, 3, none⟩ = some (.int .i64 sz) := keep1 hb (cellP (by first | omega | (simp; omega) | simp) a_3)
  have na_4 : w8.cell? ⟨w.heap.size, 4, none⟩ = some (.int .i64 mt) := keep1 hb (cellP (by first | omega | (simp; omega) | simp) a_4)
  have na_5 : w8.cell? ⟨w.heap.size, 5, none⟩ = some (.int .i64 ct) := keep1 hb (cellP (by first | omega | (simp; omega) | simp) a_5)
  have na_6 : w8.cell? ⟨w.heap.size, 6, none⟩ = some (.int .i64 ino) := keep1 hb (cellP (by first | omega | (simp; omega) | simp) a_6)
  have na_7 : w8.cell? ⟨w.heap.size, 7, none⟩ = some (.int .i64 gn) := keep1 hb (cellP (by first | omega | (simp; omega) | simp) a_7)
  have na_f : ∀ i, w8.frozen? ⟨w.heap.size, i, none⟩ = false := fun i => (hb.frozen (p := ⟨w.heap.size, i, none⟩) (by first | omega | (simp; omega) | simp)).trans (frozP (by first | omega | (simp; omega) | simp) (a_f i))
  have nm_0 : w8.cell? ⟨w5.heap.size, 0, none⟩ = some (.int .i64 gen) := keep1 hb (cellP (by first | omega | (simp; omega) | simp) m_0)
  have nm_1 : w8.cell? ⟨w5.heap.size, 1, none⟩ = some (.int .i64 boot) := keep1 hb (cellP (by first | omega | (simp; omega) | simp) m_1)
  have nm_f : ∀ i, w8.frozen? ⟨w5.heap.size, i, none⟩ = false := fun i => (hb.frozen (p := ⟨w5.heap.size, i, none⟩) (by first | omega | (simp; omega) | simp)).trans (frozP (by first | omega | (simp; omega) | simp) (m_f i))
  have nn_0 : w8.cell? ⟨w7.heap.size, 0, none⟩ = some (.int .i64 gen) := keep1 hb ((cellN _ _ _ _ (by first | rfl | simp) _).trans rfl)
  have nn_1 : w8.cell? ⟨w7.heap.size, 1, none⟩ = some (.int .i64 boot) := keep1 hb ((cellN _ _ _ _ (by first | rfl | simp) _).trans rfl)
  have nn_f : ∀ i, w8.frozen? ⟨w7.heap.size, i, none⟩ = false := fun i => (hb.frozen (p := ⟨w7.heap.size, i, none⟩) (by first | omega | (simp; omega) | simp)).trans (frozN (by first | rfl | simp))
  clear a_0 a_1 a_2 a_3 a_4 a_5 a_6 a_7 a_f m_0 m_1 m_f
  have a_0 := na_0; clear na_0
  have a_1 := na_1; clear na_1
  have a_2 := na_2; clear na_2
  have a_3 := na_3; clear na_3
  have a_4 := na_4; clear na_4
  have a_5 := na_5; clear na_5
  have a_6 := na_6; clear na_6
  have a_7 := na_7; clear na_7
  have a_f := na_f; clear na_f
  have m_0 := nm_0; clear nm_0
  have m_1 := nm_1; clear nm_1
  have m_f := nm_f; clear nm_f
  have n_0 := nn_0; clear nn_0
  have n_1 := nn_1; clear nn_1
  have n_f := nn_f; clear nn_f
  clear hb B7
  have B8 := Lib.hid hb'
  have hw8 := hb'.size
  clear hb'
  have hsa70 : w.heap.size < w8.heap.size := by omega
  have hsa71 : w.heap.size < w8.heap.size + 1 := by omega
  have hsa72 : w.heap.size < w8.heap.size + 1 + 1 := by omega
  have hsm70 : w5.heap.size < w8.heap.size := by omega
  have hsm71 : w5.heap.size < w8.heap.size + 1 := by omega
  have hsm72 : w5.heap.size < w8.heap.size + 1 + 1 := by omega
  have hsn70 : w7.heap.size < w8.heap.size := by omega
  have hsn71 : w7.heap.size < w8.heap.size + 1 := by omega
  have hsn72 : w7.heap.size < w8.heap.size + 1 + 1 := by omega
  go_wp2_with fail
  go_ret
  exact ⟨ret_bool (by simp), by have := B8.out; go_grown⟩

set_option maxHeartbeats 4000000 in
theorem back_0101 (k mo li sz mt ct ino gn gen boot k2 mo2 li2 sz2 mt2 ct2 ino2 gn2 g2 b2 : Int) (s t : ByteArray) (w : World) (hs : s.size ≤ 1000) (ht : t.size ≤ 1000) (lo_mo : -9223372036854775808 ≤ mo) (hi_mo : mo ≤ 9223372036854775807) (lo_li : -9223372036854775808 ≤ li) (hi_li : li ≤ 9223372036854775807) (lo_sz : -9223372036854775808 ≤ sz) (hi_sz : sz ≤ 9223372036854775807) (lo_mt : -9223372036854775808 ≤ mt) (hi_mt : mt ≤ 9223372036854775807) (lo_ct : -9223372036854775808 ≤ ct) (hi_ct : ct ≤ 9223372036854775807) (lo_ino : -9223372036854775808 ≤ ino) (hi_ino : ino ≤ 9223372036854775807) (lo_gn : -9223372036854775808 ≤ gn) (hi_gn : gn ≤ 9223372036854775807) (lo_gen : -9223372036854775808 ≤ gen) (hi_gen : gen ≤ 9223372036854775807) (lo_boot : -9223372036854775808 ≤ boot) (hi_boot : boot ≤ 9223372036854775807) (HM : mayB k mo li sz mt ct ino gn = false) (HE : encR k mo li sz mt ct ino gn = .tuple #[.string ByteArray.empty, .int .i64 4]) (lo_mo2 : -9223372036854775808 ≤ mo2) (hi_mo2 : mo2 ≤ 9223372036854775807) (lo_li2 : -9223372036854775808 ≤ li2) (hi_li2 : li2 ≤ 9223372036854775807) (lo_sz2 : -9223372036854775808 ≤ sz2) (hi_sz2 : sz2 ≤ 9223372036854775807) (lo_mt2 : -9223372036854775808 ≤ mt2) (hi_mt2 : mt2 ≤ 9223372036854775807) (lo_ct2 : -9223372036854775808 ≤ ct2) (hi_ct2 : ct2 ≤ 9223372036854775807) (lo_ino2 : -9223372036854775808 ≤ ino2) (hi_ino2 : ino2 ≤ 9223372036854775807) (lo_gn2 : -9223372036854775808 ≤ gn2) (hi_gn2 : gn2 ≤ 9223372036854775807) (HD : decR s = .tuple #[.agg #[.int .u8 k2, .int .i64 mo2, .int .i64 li2, .int .i64 sz2, .int .i64 mt2, .int .i64 ct2, .int .i64 ino2, .int .i64 gn2], .int .i64 0]) (HD2 : encR k2 mo2 li2 sz2 mt2 ct2 ino2 gn2 = .tuple #[.string s, .int .i64 0]) (HN : mencR gen boot = .tuple #[.string ByteArray.empty, .int .i64 4]) (lo_g2 : -9223372036854775808 ≤ g2) (hi_g2 : g2 ≤ 9223372036854775807) (lo_b2 : -9223372036854775808 ≤ b2) (hi_b2 : b2 ≤ 9223372036854775807) (HT : decMR t = .tuple #[.agg #[.int .i64 g2, .int .i64 b2], .int .i64 0]) (HT2 : mencR g2 b2 = .tuple #[.string t, .int .i64 0]) :
    Calls Try.prog 7 #[.agg #[.int .u8 k, .int .i64 mo, .int .i64 li, .int .i64 sz, .int .i64 mt, .int .i64 ct, .int .i64 ino, .int .i64 gn], .int .i64 gen, .int .i64 boot, .string s, .string t] w fun e w' => e = .returned (.bool true) ∧ Below w.heap.size w w' := by
  replace HM := Lib.hid HM
  replace HE := Lib.hid HE
  replace HD := Lib.hid HD
  replace HN := Lib.hid HN
  replace HT := Lib.hid HT
  replace HD2 := Lib.hid HD2
  replace HT2 := Lib.hid HT2
  have ls : ¬ ((s.size : Int) > 1000) := by omega
  have lt : ¬ ((t.size : Int) > 1000) := by omega
  go_enter Try.func7, Try.ntmps7
  go_wp2_with fail
  refine (awake20 _).mono ?_
  rintro e w1 ⟨rfl, hb⟩
  have hb' : Below w.heap.size w w1 := Below.trans (by go_grown) (hb.mono (by first | omega | (simp; omega) | simp))
  have hz1 : w.heap.size + 1 ≤ w1.heap.size := by have := hb.size; first | omega | (simp at this; omega)
  have na_0 : w1.cell? ⟨w.heap.size, 0, none⟩ = some (.int .u8 k) := keep1 hb ((cellN _ _ _ _ (by first | rfl | simp) _).trans rfl)
  have na_1 : w1.cell? ⟨w.heap.size, 1, none⟩ = some (.int .i64 mo) := keep1 hb ((cellN _ _ _ _ (by first | rfl | simp) _).trans rfl)
  have na_2 : w1.cell? ⟨w.heap.size, 2, none⟩ = some (.int .i64 li) := keep1 hb ((cellN _ _ _ _ (by first | rfl | simp) _).trans rfl)
  have na_3 : w1.cell? ⟨w.heap.size, 3, none⟩ = some (.int .i64 sz) := keep1 hb ((cellN _ _ _ _ (by first | rfl | simp) _).trans rfl)
  have na_4 : w1.cell? ⟨w.heap.size, 4, none⟩ = some (.int .i64 mt) := keep1 hb ((cellN _ _ _ _ (by first | rfl | simp) _).trans rfl)
  have na_5 : w1.cell? ⟨w.heap.size, 5, none⟩ = some (.int .i64 ct) := keep1 hb ((cellN _ _ _ _ (by first | rfl | simp) _).trans rfl)
  have na_6 : w1.cell? ⟨w.heap.size, 6, none⟩ = some (.int .i64 ino) := keep1 hb ((cellN _ _ _ _ (by first | rfl | simp) _).trans rfl)
  have na_7 : w1.cell? ⟨w.heap.size, 7, none⟩ = some (.int .i64 gn) := keep1 hb ((cellN _ _ _ _ (by first | rfl | simp) _).trans rfl)
  have na_f : ∀ i, w1.frozen? ⟨w.heap.size, i, none⟩ = false := fun i => (hb.frozen (p := ⟨w.heap.size, i, none⟩) (by first | omega | (simp; omega) | simp)).trans (frozN (by first | rfl | simp))
  have a_0 := na_0; clear na_0
  have a_1 := na_1; clear na_1
  have a_2 := na_2; clear na_2
  have a_3 := na_3; clear na_3
  have a_4 := na_4; clear na_4
  have a_5 := na_5; clear na_5
  have a_6 := na_6; clear na_6
  have a_7 := na_7; clear na_7
  have a_f := na_f; clear na_f
  clear hb
  have B1 := Lib.hid hb'
  have hw1 := hb'.size
  clear hb'
  have hsa00 : w.heap.size < w1.heap.size := by omega
  have hsa01 : w.heap.size < w1.heap.size + 1 := by omega
  have hsa02 : w.heap.size < w1.heap.size + 1 + 1 := by omega
  go_wp2_with fail
  refine (encode_any k mo li sz mt ct ino gn _ lo_mo hi_mo lo_li hi_li lo_sz hi_sz lo_mt hi_mt lo_ct hi_ct lo_ino hi_ino lo_gn hi_gn).mono ?_
  rintro e w2 ⟨rfl, hb⟩
  rw [HE.out]
  have hb' : Below w.heap.size w w2 := Below.trans (by have := B1.out; go_grown) (hb.mono (by first | omega | (simp; omega) | simp))
  have hz2 : w1.heap.size ≤ w2.heap.size := by have := hb.size; first | omega | (simp at this; omega)
  have na_0 : w2.cell? ⟨w.heap.size, 0, none⟩ = some (.int .u8 k) := keep1 hb a_0
  have na_1 : w2.cell? ⟨w.heap.size, 1, none⟩ = some (.int .i64 mo) := keep1 hb a_1
  have na_2 : w2.cell? ⟨w.heap.size, 2, none⟩ = some (.int .i64 li) := keep1 hb a_2
  have na_3 : w2.cell? ⟨w.heap.size, 3, none⟩ = some (.int .i64 sz) := keep1 hb a_3
  have na_4 : w2.cell? ⟨w.heap.size, 4, none⟩ = some (.int .i64 mt) := keep1 hb a_4
  have na_5 : w2.cell? ⟨w.heap.size, 5, none⟩ = some (.int .i64 ct) := keep1 hb a_5
  have na_6 : w2.cell? ⟨w.heap.size, 6, none⟩ = some (.int .i64 ino) := keep1 hb a_6
  have na_7 : w2.cell? ⟨w.heap.size, 7, none⟩ = some (.int .i64 gn) := keep1 hb a_7
  have na_f : ∀ i, w2.frozen? ⟨w.heap.size, i, none⟩ = false := fun i => (hb.frozen (p := ⟨w.heap.size, i, none⟩) (by first | omega | (simp; omega) | simp)).trans (a_f i)
  clear a_0 a_1 a_2 a_3 a_4 a_5 a_6 a_7 a_f
  have a_0 := na_0; clear na_0
  have a_1 := na_1; clear na_1
  have a_2 := na_2; clear na_2
  have a_3 := na_3; clear na_3
  have a_4 := na_4; clear na_4
  have a_5 := na_5; clear na_5
  have a_6 := na_6; clear na_6
  have a_7 := na_7; clear na_7
  have a_f := na_f; clear na_f
  clear hb B1
  have B2 := Lib.hid hb'
  have hw2 := hb'.size
  clear hb'
  have hsa10 : w.heap.size < w2.heap.size := by omega
  have hsa11 : w.heap.size < w2.heap.size + 1 := by omega
  have hsa12 : w.heap.size < w2.heap.size + 1 + 1 := by omega
  go_wp2_with fail
  refine (may_any _ _ _ _ _ _ _ _ _).mono ?_
  rintro e w3 ⟨rfl, hb⟩
  rw [HM.out]
  have hb' : Below w.heap.size w w3 := Below.trans (by have := B2.out; go_grown) (hb.mono (by first | omega | (simp; omega) | simp))
  have hz3 : w2.heap.size ≤ w3.heap.size := by have := hb.size; first | omega | (simp at this; omega)
  have na_0 : w3.cell? ⟨w.heap.size, 0, none⟩ = some (.int .u8 k) := keep1 hb a_0
  have na_1 : w3.cell? ⟨w.heap.size, 1, none⟩ = some (.int .i64 mo) := keep1 hb a_1
  have na_2 : w3.cell? ⟨w.heap.size, 2, none⟩ = some (.int .i64 li) := keep1 hb a_2
  have na_3 : w3.cell? ⟨w.heap.size, 3, none⟩ = some (.int .i64 sz) := keep1 hb a_3
  have na_4 : w3.cell? ⟨w.heap.size, 4, none⟩ = some (.int .i64 mt) := keep1 hb a_4
  have na_5 : w3.cell? ⟨w.heap.size, 5, none⟩ = some (.int .i64 ct) := keep1 hb a_5
  have na_6 : w3.cell? ⟨w.heap.size, 6, none⟩ = some (.int .i64 ino) := keep1 hb a_6
  have na_7 : w3.cell? ⟨w.heap.size, 7, none⟩ = some (.int .i64 gn) := keep1 hb a_7
  have na_f : ∀ i, w3.frozen? ⟨w.heap.size, i, none⟩ = false := fun i => (hb.frozen (p := ⟨w.heap.size, i, none⟩) (by first | omega | (simp; omega) | simp)).trans (a_f i)
  clear a_0 a_1 a_2 a_3 a_4 a_5 a_6 a_7 a_f
  have a_0 := na_0; clear na_0
  have a_1 := na_1; clear na_1
  have a_2 := na_2; clear na_2
  have a_3 := na_3; clear na_3
  have a_4 := na_4; clear na_4
  have a_5 := na_5; clear na_5
  have a_6 := na_6; clear na_6
  have a_7 := na_7; clear na_7
  have a_f := na_f; clear na_f
  clear hb B2
  have B3 := Lib.hid hb'
  have hw3 := hb'.size
  clear hb'
  have hsa20 : w.heap.size < w3.heap.size := by omega
  have hsa21 : w.heap.size < w3.heap.size + 1 := by omega
  have hsa22 : w.heap.size < w3.heap.size + 1 + 1 := by omega
  go_wp2_with fail
  refine (decode_any _ _).mono ?_
  rintro e w4 ⟨rfl, hb⟩
  rw [HD.out]
  have hb' : Below w.heap.size w w4 := Below.trans (by have := B3.out; go_grown) (hb.mono (by first | omega | (simp; omega) | simp))
  have hz4 : w3.heap.size ≤ w4.heap.size := by have := hb.size; first | omega | (simp at this; omega)
  have na_0 : w4.cell? ⟨w.heap.size, 0, none⟩ = some (.int .u8 k) := keep1 hb a_0
  have na_1 : w4.cell? ⟨w.heap.size, 1, none⟩ = some (.int .i64 mo) := keep1 hb a_1
  have na_2 : w4.cell? ⟨w.heap.size, 2, none⟩ = some (.int .i64 li) := keep1 hb a_2
  have na_3 : w4.cell? ⟨w.heap.size, 3, none⟩ = some (.int .i64 sz) := keep1 hb a_3
  have na_4 : w4.cell? ⟨w.heap.size, 4, none⟩ = some (.int .i64 mt) := keep1 hb a_4
  have na_5 : w4.cell? ⟨w.heap.size, 5, none⟩ = some (.int .i64 ct) := keep1 hb a_5
  have na_6 : w4.cell? ⟨w.heap.size, 6, none⟩ = some (.int .i64 ino) := keep1 hb a_6
  have na_7 : w4.cell? ⟨w.heap.size, 7, none⟩ = some (.int .i64 gn) := keep1 hb a_7
  have na_f : ∀ i, w4.frozen? ⟨w.heap.size, i, none⟩ = false := fun i => (hb.frozen (p := ⟨w.heap.size, i, none⟩) (by first | omega | (simp; omega) | simp)).trans (a_f i)
  clear a_0 a_1 a_2 a_3 a_4 a_5 a_6 a_7 a_f
  have a_0 := na_0; clear na_0
  have a_1 := na_1; clear na_1
  have a_2 := na_2; clear na_2
  have a_3 := na_3; clear na_3
  have a_4 := na_4; clear na_4
  have a_5 := na_5; clear na_5
  have a_6 := na_6; clear na_6
  have a_7 := na_7; clear na_7
  have a_f := na_f; clear na_f
  clear hb B3
  have B4 := Lib.hid hb'
  have hw4 := hb'.size
  clear hb'
  have hsa30 : w.heap.size < w4.heap.size := by omega
  have hsa31 : w.heap.size < w4.heap.size + 1 := by omega
  have hsa32 : w.heap.size < w4.heap.size + 1 + 1 := by omega
  go_wp2_with fail
  refine (encode_any k2 mo2 li2 sz2 mt2 ct2 ino2 gn2 _ lo_mo2 hi_mo2 lo_li2 hi_li2 lo_sz2 hi_sz2 lo_mt2 hi_mt2 lo_ct2 hi_ct2 lo_ino2 hi_ino2 lo_gn2 hi_gn2).mono ?_
  rintro e w5 ⟨rfl, hb⟩
  rw [HD2.out]
  have hb' : Below w.heap.size w w5 := Below.trans (by have := B4.out; go_grown) (hb.mono (by first | omega | (simp; omega) | simp))
  have hz5 : w4.heap.size + 1 ≤ w5.heap.size := by have := hb.size; first | omega | (simp at this; omega)
  have na_0 : w5.cell? ⟨w.heap.size, 0, none⟩ = some (.int .u8 k) := keep1 hb (cellP (by first | omega | (simp; omega) | simp) a_0)
  have na_1 : w5.cell? ⟨w.heap.size, 1, none⟩ = some (.int .i64 mo) := keep1 hb (cellP (by first | omega | (simp; omega) | simp) a_1)
  have na_2 : w5.cell? ⟨w.heap.size, 2, none⟩ = some (.int .i64 li) := keep1 hb (cellP (by first | omega | (simp; omega) | simp) a_2)
  have na_3 : w5.cell? ⟨w.heap.size, 3, none⟩ = some (.int .i64 sz) := keep1 hb (cellP (by first | omega | (simp; omega) | simp) a_3)
  have na_4 : w5.cell? ⟨w.heap.size, 4, none⟩ = some (.int .i64 mt) := keep1 hb (cellP (by first | omega | (simp; omega) | simp) a_4)
  have na_5 : w5.cell? ⟨w.heap.size, 5, none⟩ = some (.int .i64 ct) := keep1 hb (cellP (by first | omega | (simp; omega) | simp) a_5)
  have na_6 : w5.cell? ⟨w.heap.size, 6, none⟩ = some (.int .i64 ino) := keep1 hb (cellP (by first | omega | (simp; omega) | simp) a_6)
  have na_7 : w5.cell? ⟨w.heap.size, 7, none⟩ = some (.int .i64 gn) := keep1 hb (cellP (by first | omega | (simp; omega) | simp) a_7)
  have na_f : ∀ i, w5.frozen? ⟨w.heap.size, i, none⟩ = false := fun i => (hb.frozen (p := ⟨w.heap.size, i, none⟩) (by first | omega | (simp; omega) | simp)).trans (frozP (by first | omega | (simp; omega) | simp) (a_f i))
  clear a_0 a_1 a_2 a_3 a_4 a_5 a_6 a_7 a_f
  have a_0 := na_0; clear na_0
  have a_1 := na_1; clear na_1
  have a_2 := na_2; clear na_2
  have a_3 := na_3; clear na_3
  have a_4 := na_4; clear na_4
  have a_5 := na_5; clear na_5
  have a_6 := na_6; clear na_6
  have a_7 := na_7; clear na_7
  have a_f := na_f; clear na_f
  clear hb B4
  have B5 := Lib.hid hb'
  have hw5 := hb'.size
  clear hb'
  have hsa40 : w.heap.size < w5.heap.size := by omega
  have hsa41 : w.heap.size < w5.heap.size + 1 := by omega
  have hsa42 : w.heap.size < w5.heap.size + 1 + 1 := by omega
  go_wp2_with fail
  refine (encmeta_any gen boot _ lo_gen hi_gen lo_boot hi_boot).mono ?_
  rintro e w6 ⟨rfl, hb⟩
  rw [HN.out]
  have hb' : Below w.heap.size w w6 := Below.trans (by have := B5.out; go_grown) (hb.mono (by first | omega | (simp; omega) | simp))
  have hz6 : w5.heap.size + 1 ≤ w6.heap.size := by have := hb.size; first | omega | (simp at this; omega)
  have na_0 : w6.cell? ⟨w.heap.size, 0, none⟩ = some (.int .u8 k) := keep1 hb (cellP (by first | omega | (simp; omega) | simp) a_0)
  have na_1 : w6.cell? ⟨w.heap.size, 1, none⟩ = some (.int .i64 mo) := keep1 hb (cellP (by first | omega | (simp; omega) | simp) a_1)
  have na_2 : w6.cell? ⟨w.heap.size, 2, none⟩ = some (.int .i64 li) := keep1 hb (cellP (by first | omega | (simp; omega) | simp) a_2)
  have na_3 : w6.cell? ⟨w.heap.size, 3, none⟩ = some (.int .i64 sz) := keep1 hb (cellP (by first | omega | (simp; omega) | simp) a_3)
  have na_4 : w6.cell? ⟨w.heap.size, 4, none⟩ = some (.int .i64 mt) := keep1 hb (cellP (by first | omega | (simp; omega) | simp) a_4)
  have na_5 : w6.cell? ⟨w.heap.size, 5, none⟩ = some (.int .i64 ct) := keep1 hb (cellP (by first | omega | (simp; omega) | simp) a_5)
  have na_6 : w6.cell? ⟨w.heap.size, 6, none⟩ = some (.int .i64 ino) := keep1 hb (cellP (by first | omega | (simp; omega) | simp) a_6)
  have na_7 : w6.cell? ⟨w.heap.size, 7, none⟩ = some (.int .i64 gn) := keep1 hb (cellP (by first | omega | (simp; omega) | simp) a_7)
  have na_f : ∀ i, w6.frozen? ⟨w.heap.size, i, none⟩ = false := fun i => (hb.frozen (p := ⟨w.heap.size, i, none⟩) (by first | omega | (simp; omega) | simp)).trans (frozP (by first | omega | (simp; omega) | simp) (a_f i))
  have nm_0 : w6.cell? ⟨w5.heap.size, 0, none⟩ = some (.int .i64 gen) := keep1 hb ((cellN _ _ _ _ (by first | rfl | simp) _).trans rfl)
  have nm_1 : w6.cell? ⟨w5.heap.size, 1, none⟩ = some (.int .i64 boot) := keep1 hb ((cellN _ _ _ _ (by first | rfl | simp) _).trans rfl)
  have nm_f : ∀ i, w6.frozen? ⟨w5.heap.size, i, none⟩ = false := fun i => (hb.frozen (p := ⟨w5.heap.size, i, none⟩) (by first | omega | (simp; omega) | simp)).trans (frozN (by first | rfl | simp))
  clear a_0 a_1 a_2 a_3 a_4 a_5 a_6 a_7 a_f
  have a_0 := na_0; clear na_0
  have a_1 := na_1; clear na_1
  have a_2 := na_2; clear na_2
  have a_3 := na_3; clear na_3
  have a_4 := na_4; clear na_4
  have a_5 := na_5; clear na_5
  have a_6 := na_6; clear na_6
  have a_7 := na_7; clear na_7
  have a_f := na_f; clear na_f
  have m_0 := nm_0; clear nm_0
  have m_1 := nm_1; clear nm_1
  have m_f := nm_f; clear nm_f
  clear hb B5
  have B6 := Lib.hid hb'
  have hw6 := hb'.size
  clear hb'
  have hsa50 : w.heap.size < w6.heap.size := by omega
  have hsa51 : w.heap.size < w6.heap.size + 1 := by omega
  have hsa52 : w.heap.size < w6.heap.size + 1 + 1 := by omega
  have hsm50 : w5.heap.size < w6.heap.size := by omega
  have hsm51 : w5.heap.size < w6.heap.size + 1 := by omega
  have hsm52 : w5.heap.size < w6.heap.size + 1 + 1 := by omega
  go_wp2_with fail
  refine (decmeta_any _ _).mono ?_
  rintro e w7 ⟨rfl, hb⟩
  rw [HT.out]
  have hb' : Below w.heap.size w w7 := Below.trans (by have := B6.out; go_grown) (hb.mono (by first | omega | (simp; omega) | simp))
  have hz7 : w6.heap.size ≤ w7.heap.size := by have := hb.size; first | omega | (simp at this; omega)
  have na_0 : w7.cell? ⟨w.heap.size, 0, none⟩ = some (.int .u8 k) := keep1 hb a_0
  have na_1 : w7.cell? ⟨w.heap.size, 1, none⟩ = some (.int .i64 mo) := keep1 hb a_1
  have na_2 : w7.cell? ⟨w.heap.size, 2, none⟩ = some (.int .i64 li) := keep1 hb a_2
  have na_3 : w7.cell? ⟨w.heap.size, 3, none⟩ = some (.int .i64 sz) := keep1 hb a_3
  have na_4 : w7.cell? ⟨w.heap.size, 4, none⟩ = some (.int .i64 mt) := keep1 hb a_4
  have na_5 : w7.cell? ⟨w.heap.size, 5, none⟩ = some (.int .i64 ct) := keep1 hb a_5
  have na_6 : w7.cell? ⟨w.heap.size, 6, none⟩ = some (.int .i64 ino) := keep1 hb a_6
  have na_7 : w7.cell? ⟨w.heap.size, 7, none⟩ = some (.int .i64 gn) := keep1 hb a_7
  have na_f : ∀ i, w7.frozen? ⟨w.heap.size, i, none⟩ = false := fun i => (hb.frozen (p := ⟨w.heap.size, i, none⟩) (by first | omega | (simp; omega) | simp)).trans (a_f i)
  have nm_0 : w7.cell? ⟨w5.heap.size, 0, none⟩ = some (.int .i64 gen) := keep1 hb m_0
  have nm_1 : w7.cell? ⟨w5.heap.size, 1, none⟩ = some (.int .i64 boot) := keep1 hb m_1
  have nm_f : ∀ i, w7.frozen? ⟨w5.heap.size, i, none⟩ = false := fun i => (hb.frozen (p := ⟨w5.heap.size, i, none⟩) (by first | omega | (simp; omega) | simp)).trans (m_f i)
  clear a_0 a_1 a_2 a_3 a_4 a_5 a_6 a_7 a_f m_0 m_1 m_f
  have a_0 := na_0; clear na_0
  have a_1 := na_1; clear na_1
  have a_2 := na_2; clear na_2
  have a_3 := na_3; clear na_3
  have a_4 := na_4; clear na_4
  have a_5 := na_5; clear na_5
  have a_6 := na_6; clear na_6
  have a_7 := na_7; clear na_7
  have a_f := na_f; clear na_f
  have m_0 := nm_0; clear nm_0
  have m_1 := nm_1; clear nm_1
  have m_f := nm_f; clear nm_f
  clear hb B6
  have B7 := Lib.hid hb'
  have hw7 := hb'.size
  clear hb'
  have hsa60 : w.heap.size < w7.heap.size := by omega
  have hsa61 : w.heap.size < w7.heap.size + 1 := by omega
  have hsa62 : w.heap.size < w7.heap.size + 1 + 1 := by omega
  have hsm60 : w5.heap.size < w7.heap.size := by omega
  have hsm61 : w5.heap.size < w7.heap.size + 1 := by omega
  have hsm62 : w5.heap.size < w7.heap.size + 1 + 1 := by omega
  go_wp2_with fail
  refine (encmeta_any g2 b2 _ lo_g2 hi_g2 lo_b2 hi_b2).mono ?_
  rintro e w8 ⟨rfl, hb⟩
  rw [HT2.out]
  have hb' : Below w.heap.size w w8 := Below.trans (by have := B7.out; go_grown) (hb.mono (by first | omega | (simp; omega) | simp))
  have hz8 : w7.heap.size + 1 ≤ w8.heap.size := by have := hb.size; first | omega | (simp at this; omega)
  have na_0 : w8.cell? ⟨w.heap.size, 0, none⟩ = some (.int .u8 k) := keep1 hb (cellP (by first | omega | (simp; omega) | simp) a_0)
  have na_1 : w8.cell? ⟨w.heap.size, 1, none⟩ = some (.int .i64 mo) := keep1 hb (cellP (by first | omega | (simp; omega) | simp) a_1)
  have na_2 : w8.cell? ⟨w.heap.size, 2, none⟩ = some (.int .i64 li) := keep1 hb (cellP (by first | omega | (simp; omega) | simp) a_2)
  have na_3 : w8.cell? ⟨w.heap.size, 3, none⟩ = some (.int .i64 sz) := keep1 hb (cellP (by first | omega | (simp; omega) | simp) a_3)
  have na_4 : w8.cell? ⟨w.heap.size, 4, none⟩ = some (.int .i64 mt) := keep1 hb (cellP (by first | omega | (simp; omega) | simp) a_4)
  have na_5 : w8.cell? ⟨w.heap.size, 5, none⟩ = some (.int .i64 ct) := keep1 hb (cellP (by first | omega | (simp; omega) | simp) a_5)
  have na_6 : w8.cell? ⟨w.heap.size, 6, none⟩ = some (.int .i64 ino) := keep1 hb (cellP (by first | omega | (simp; omega) | simp) a_6)
  have na_7 : w8.cell? ⟨w.heap.size, 7, none⟩ = some (.int .i64 gn) := keep1 hb (cellP (by first | omega | (simp; omega) | simp) a_7)
  have na_f : ∀ i, w8.frozen? ⟨w.heap.size, i, none⟩ = false := fun i => (hb.frozen (p := ⟨w.heap.size, i, none⟩) (by first | omega | (simp; omega) | simp)).trans (frozP (by first | omega | (simp; omega) | simp) (a_f i))
  have nm_0 : w8.cell? ⟨w5.heap.size, 0, none⟩ = some (.int .i64 gen) := keep1 hb (cellP (by first | omega | (simp; omega) | simp) m_0)
  have nm_1 : w8.cell? ⟨w5.heap.size, 1, none⟩ = some (.int .i64 boot) := keep1 hb (cellP (by first | omega | (simp; omega) | simp) m_1)
  have nm_f : ∀ i, w8.frozen? ⟨w5.heap.size, i, none⟩ = false := fun i => (hb.frozen (p := ⟨w5.heap.size, i, none⟩) (by first | omega | (simp; omega) | simp)).trans (frozP (by first | omega | (simp; omega) | simp) (m_f i))
  have nn2_0 : w8.cell? ⟨w7.heap.size, 0, none⟩ = some (.int .i64 g2) := keep1 hb ((cellN _ _ _ _ (by first | rfl | simp) _).trans rfl)
  have nn2_1 : w8.cell? ⟨w7.heap.size, 1, none⟩ = some (.int .i64 b2) := keep1 hb ((cellN _ _ _ _ (by first | rfl | simp) _).trans rfl)
  have nn2_f : ∀ i, w8.frozen? ⟨w7.heap.size, i, none⟩ = false := fun i => (hb.frozen (p := ⟨w7.heap.size, i, none⟩) (by first | omega | (simp; omega) | simp)).trans (frozN (by first | rfl | simp))
  clear a_0 a_1 a_2 a_3 a_4 a_5 a_6 a_7 a_f m_0 m_1 m_f
  have a_0 := na_0; clear na_0
  have a_1 := na_1; clear na_1
  have a_2 := na_2; clear na_2
  have a_3 := na_3; clear na_3
  have a_4 := na_4; clear na_4
  have a_5 := na_5; clear na_5
  have a_6 := na_6; clear na_6
  have a_7 := na_7; clear na_7
  have a_f := na_f; clear na_f
  have m_0 := nm_0; clear nm_0
  have m_1 := nm_1; clear nm_1
  have m_f := nm_f; clear nm_f
  have n2_0 := nn2_0; clear nn2_0
  have n2_1 := nn2_1; clear nn2_1
  have n2_f := nn2_f; clear nn2_f
  clear hb B7
  have B8 := Lib.hid hb'
  have hw8 := hb'.size
  clear hb'
  have hsa70 : w.heap.size < w8.heap.size := by omega
  have hsa71 : w.heap.size < w8.heap.size + 1 := by omega
  have hsa72 : w.heap.size < w8.heap.size + 1 + 1 := by omega
  have hsm70 : w5.heap.size < w8.heap.size := by omega
  have hsm71 : w5.heap.size < w8.heap.size + 1 := by omega
  have hsm72 : w5.heap.size < w8.heap.size + 1 + 1 := by omega
  have hsn270 : w7.heap.size < w8.heap.size := by omega
  have hsn271 : w7.heap.size < w8.heap.size + 1 := by omega
  have hsn272 : w7.heap.size < w8.heap.size + 1 + 1 := by omega
  go_wp2_with fail
  go_ret
  exact ⟨ret_bool (by simp), by have := B8.out; go_grown⟩

set_option maxHeartbeats 4000000 in
theorem back_0100 (k mo li sz mt ct ino gn gen boot k2 mo2 li2 sz2 mt2 ct2 ino2 gn2 : Int) (s t : ByteArray) (w : World) (hs : s.size ≤ 1000) (ht : t.size ≤ 1000) (lo_mo : -9223372036854775808 ≤ mo) (hi_mo : mo ≤ 9223372036854775807) (lo_li : -9223372036854775808 ≤ li) (hi_li : li ≤ 9223372036854775807) (lo_sz : -9223372036854775808 ≤ sz) (hi_sz : sz ≤ 9223372036854775807) (lo_mt : -9223372036854775808 ≤ mt) (hi_mt : mt ≤ 9223372036854775807) (lo_ct : -9223372036854775808 ≤ ct) (hi_ct : ct ≤ 9223372036854775807) (lo_ino : -9223372036854775808 ≤ ino) (hi_ino : ino ≤ 9223372036854775807) (lo_gn : -9223372036854775808 ≤ gn) (hi_gn : gn ≤ 9223372036854775807) (lo_gen : -9223372036854775808 ≤ gen) (hi_gen : gen ≤ 9223372036854775807) (lo_boot : -9223372036854775808 ≤ boot) (hi_boot : boot ≤ 9223372036854775807) (HM : mayB k mo li sz mt ct ino gn = false) (HE : encR k mo li sz mt ct ino gn = .tuple #[.string ByteArray.empty, .int .i64 4]) (lo_mo2 : -9223372036854775808 ≤ mo2) (hi_mo2 : mo2 ≤ 9223372036854775807) (lo_li2 : -9223372036854775808 ≤ li2) (hi_li2 : li2 ≤ 9223372036854775807) (lo_sz2 : -9223372036854775808 ≤ sz2) (hi_sz2 : sz2 ≤ 9223372036854775807) (lo_mt2 : -9223372036854775808 ≤ mt2) (hi_mt2 : mt2 ≤ 9223372036854775807) (lo_ct2 : -9223372036854775808 ≤ ct2) (hi_ct2 : ct2 ≤ 9223372036854775807) (lo_ino2 : -9223372036854775808 ≤ ino2) (hi_ino2 : ino2 ≤ 9223372036854775807) (lo_gn2 : -9223372036854775808 ≤ gn2) (hi_gn2 : gn2 ≤ 9223372036854775807) (HD : decR s = .tuple #[.agg #[.int .u8 k2, .int .i64 mo2, .int .i64 li2, .int .i64 sz2, .int .i64 mt2, .int .i64 ct2, .int .i64 ino2, .int .i64 gn2], .int .i64 0]) (HD2 : encR k2 mo2 li2 sz2 mt2 ct2 ino2 gn2 = .tuple #[.string s, .int .i64 0]) (HN : mencR gen boot = .tuple #[.string ByteArray.empty, .int .i64 4]) (HT : decMR t = .tuple #[.agg #[.int .i64 0, .int .i64 0], .int .i64 4]) :
    Calls Try.prog 7 #[.agg #[.int .u8 k, .int .i64 mo, .int .i64 li, .int .i64 sz, .int .i64 mt, .int .i64 ct, .int .i64 ino, .int .i64 gn], .int .i64 gen, .int .i64 boot, .string s, .string t] w fun e w' => e = .returned (.bool true) ∧ Below w.heap.size w w' := by
  replace HM := Lib.hid HM
  replace HE := Lib.hid HE
  replace HD := Lib.hid HD
  replace HN := Lib.hid HN
  replace HT := Lib.hid HT
  replace HD2 := Lib.hid HD2
  have ls : ¬ ((s.size : Int) > 1000) := by omega
  have lt : ¬ ((t.size : Int) > 1000) := by omega
  go_enter Try.func7, Try.ntmps7
  go_wp2_with fail
  refine (awake20 _).mono ?_
  rintro e w1 ⟨rfl, hb⟩
  have hb' : Below w.heap.size w w1 := Below.trans (by go_grown) (hb.mono (by first | omega | (simp; omega) | simp))
  have hz1 : w.heap.size + 1 ≤ w1.heap.size := by have := hb.size; first | omega | (simp at this; omega)
  have na_0 : w1.cell? ⟨w.heap.size, 0, none⟩ = some (.int .u8 k) := keep1 hb ((cellN _ _ _ _ (by first | rfl | simp) _).trans rfl)
  have na_1 : w1.cell? ⟨w.heap.size, 1, none⟩ = some (.int .i64 mo) := keep1 hb ((cellN _ _ _ _ (by first | rfl | simp) _).trans rfl)
  have na_2 : w1.cell? ⟨w.heap.size, 2, none⟩ = some (.int .i64 li) := keep1 hb ((cellN _ _ _ _ (by first | rfl | simp) _).trans rfl)
  have na_3 : w1.cell? ⟨w.heap.size, 3, none⟩ = some (.int .i64 sz) := keep1 hb ((cellN _ _ _ _ (by first | rfl | simp) _).trans rfl)
  have na_4 : w1.cell? ⟨w.heap.size, 4, none⟩ = some (.int .i64 mt) := keep1 hb ((cellN _ _ _ _ (by first | rfl | simp) _).trans rfl)
  have na_5 : w1.cell? ⟨w.heap.size, 5, none⟩ = some (.int .i64 ct) := keep1 hb ((cellN _ _ _ _ (by first | rfl | simp) _).trans rfl)
  have na_6 : w1.cell? ⟨w.heap.size, 6, none⟩ = some (.int .i64 ino) := keep1 hb ((cellN _ _ _ _ (by first | rfl | simp) _).trans rfl)
  have na_7 : w1.cell? ⟨w.heap.size, 7, none⟩ = some (.int .i64 gn) := keep1 hb ((cellN _ _ _ _ (by first | rfl | simp) _).trans rfl)
  have na_f : ∀ i, w1.frozen? ⟨w.heap.size, i, none⟩ = false := fun i => (hb.frozen (p := ⟨w.heap.size, i, none⟩) (by first | omega | (simp; omega) | simp)).trans (frozN (by first | rfl | simp))
  have a_0 := na_0; clear na_0
  have a_1 := na_1; clear na_1
  have a_2 := na_2; clear na_2
  have a_3 := na_3; clear na_3
  have a_4 := na_4; clear na_4
  have a_5 := na_5; clear na_5
  have a_6 := na_6; clear na_6
  have a_7 := na_7; clear na_7
  have a_f := na_f; clear na_f
  clear hb
  have B1 := Lib.hid hb'
  have hw1 := hb'.size
  clear hb'
  have hsa00 : w.heap.size < w1.heap.size := by omega
  have hsa01 : w.heap.size < w1.heap.size + 1 := by omega
  have hsa02 : w.heap.size < w1.heap.size + 1 + 1 := by omega
  go_wp2_with fail
  refine (encode_any k mo li sz mt ct ino gn _ lo_mo hi_mo lo_li hi_li lo_sz hi_sz lo_mt hi_mt lo_ct hi_ct lo_ino hi_ino lo_gn hi_gn).mono ?_
  rintro e w2 ⟨rfl, hb⟩
  rw [HE.out]
  have hb' : Below w.heap.size w w2 := Below.trans (by have := B1.out; go_grown) (hb.mono (by first | omega | (simp; omega) | simp))
  have hz2 : w1.heap.size ≤ w2.heap.size := by have := hb.size; first | omega | (simp at this; omega)
  have na_0 : w2.cell? ⟨w.heap.size, 0, none⟩ = some (.int .u8 k) := keep1 hb a_0
  have na_1 : w2.cell? ⟨w.heap.size, 1, none⟩ = some (.int .i64 mo) := keep1 hb a_1
  have na_2 : w2.cell? ⟨w.heap.size, 2, none⟩ = some (.int .i64 li) := keep1 hb a_2
  have na_3 : w2.cell? ⟨w.heap.size, 3, none⟩ = some (.int .i64 sz) := keep1 hb a_3
  have na_4 : w2.cell? ⟨w.heap.size, 4, none⟩ = some (.int .i64 mt) := keep1 hb a_4
  have na_5 : w2.cell? ⟨w.heap.size, 5, none⟩ = some (.int .i64 ct) := keep1 hb a_5
  have na_6 : w2.cell? ⟨w.heap.size, 6, none⟩ = some (.int .i64 ino) := keep1 hb a_6
  have na_7 : w2.cell? ⟨w.heap.size, 7, none⟩ = some (.int .i64 gn) := keep1 hb a_7
  have na_f : ∀ i, w2.frozen? ⟨w.heap.size, i, none⟩ = false := fun i => (hb.frozen (p := ⟨w.heap.size, i, none⟩) (by first | omega | (simp; omega) | simp)).trans (a_f i)
  clear a_0 a_1 a_2 a_3 a_4 a_5 a_6 a_7 a_f
  have a_0 := na_0; clear na_0
  have a_1 := na_1; clear na_1
  have a_2 := na_2; clear na_2
  have a_3 := na_3; clear na_3
  have a_4 := na_4; clear na_4
  have a_5 := na_5; clear na_5
  have a_6 := na_6; clear na_6
  have a_7 := na_7; clear na_7
  have a_f := na_f; clear na_f
  clear hb B1
  have B2 := Lib.hid hb'
  have hw2 := hb'.size
  clear hb'
  have hsa10 : w.heap.size < w2.heap.size := by omega
  have hsa11 : w.heap.size < w2.heap.size + 1 := by omega
  have hsa12 : w.heap.size < w2.heap.size + 1 + 1 := by omega
  go_wp2_with fail
  refine (may_any _ _ _ _ _ _ _ _ _).mono ?_
  rintro e w3 ⟨rfl, hb⟩
  rw [HM.out]
  have hb' : Below w.heap.size w w3 := Below.trans (by have := B2.out; go_grown) (hb.mono (by first | omega | (simp; omega) | simp))
  have hz3 : w2.heap.size ≤ w3.heap.size := by have := hb.size; first | omega | (simp at this; omega)
  have na_0 : w3.cell? ⟨w.heap.size, 0, none⟩ = some (.int .u8 k) := keep1 hb a_0
  have na_1 : w3.cell? ⟨w.heap.size, 1, none⟩ = some (.int .i64 mo) := keep1 hb a_1
  have na_2 : w3.cell? ⟨w.heap.size, 2, none⟩ = some (.int .i64 li) := keep1 hb a_2
  have na_3 : w3.cell? ⟨w.heap.size, 3, none⟩ = some (.int .i64 sz) := keep1 hb a_3
  have na_4 : w3.cell? ⟨w.heap.size, 4, none⟩ = some (.int .i64 mt) := keep1 hb a_4
  have na_5 : w3.cell? ⟨w.heap.size, 5, none⟩ = some (.int .i64 ct) := keep1 hb a_5
  have na_6 : w3.cell? ⟨w.heap.size, 6, none⟩ = some (.int .i64 ino) := keep1 hb a_6
  have na_7 : w3.cell? ⟨w.heap.size, 7, none⟩ = some (.int .i64 gn) := keep1 hb a_7
  have na_f : ∀ i, w3.frozen? ⟨w.heap.size, i, none⟩ = false := fun i => (hb.frozen (p := ⟨w.heap.size, i, none⟩) (by first | omega | (simp; omega) | simp)).trans (a_f i)
  clear a_0 a_1 a_2 a_3 a_4 a_5 a_6 a_7 a_f
  have a_0 := na_0; clear na_0
  have a_1 := na_1; clear na_1
  have a_2 := na_2; clear na_2
  have a_3 := na_3; clear na_3
  have a_4 := na_4; clear na_4
  have a_5 := na_5; clear na_5
  have a_6 := na_6; clear na_6
  have a_7 := na_7; clear na_7
  have a_f := na_f; clear na_f
  clear hb B2
  have B3 := Lib.hid hb'
  have hw3 := hb'.size
  clear hb'
  have hsa20 : w.heap.size < w3.heap.size := by omega
  have hsa21 : w.heap.size < w3.heap.size + 1 := by omega
  have hsa22 : w.heap.size < w3.heap.size + 1 + 1 := by omega
  go_wp2_with fail
  refine (decode_any _ _).mono ?_
  rintro e w4 ⟨rfl, hb⟩
  rw [HD.out]
  have hb' : Below w.heap.size w w4 := Below.trans (by have := B3.out; go_grown) (hb.mono (by first | omega | (simp; omega) | simp))
  have hz4 : w3.heap.size ≤ w4.heap.size := by have := hb.size; first | omega | (simp at this; omega)
  have na_0 : w4.cell? ⟨w.heap.size, 0, none⟩ = some (.int .u8 k) := keep1 hb a_0
  have na_1 : w4.cell? ⟨w.heap.size, 1, none⟩ = some (.int .i64 mo) := keep1 hb a_1
  have na_2 : w4.cell? ⟨w.heap.size, 2, none⟩ = some (.int .i64 li) := keep1 hb a_2
  have na_3 : w4.cell? ⟨w.heap.size, 3, none⟩ = some (.int .i64 sz) := keep1 hb a_3
  have na_4 : w4.cell? ⟨w.heap.size, 4, none⟩ = some (.int .i64 mt) := keep1 hb a_4
  have na_5 : w4.cell? ⟨w.heap.size, 5, none⟩ = some (.int .i64 ct) := keep1 hb a_5
  have na_6 : w4.cell? ⟨w.heap.size, 6, none⟩ = some (.int .i64 ino) := keep1 hb a_6
  have na_7 : w4.cell? ⟨w.heap.size, 7, none⟩ = some (.int .i64 gn) := keep1 hb a_7
  have na_f : ∀ i, w4.frozen? ⟨w.heap.size, i, none⟩ = false := fun i => (hb.frozen (p := ⟨w.heap.size, i, none⟩) (by first | omega | (simp; omega) | simp)).trans (a_f i)
  clear a_0 a_1 a_2 a_3 a_4 a_5 a_6 a_7 a_f
  have a_0 := na_0; clear na_0
  have a_1 := na_1; clear na_1
  have a_2 := na_2; clear na_2
  have a_3 := na_3; clear na_3
  have a_4 := na_4; clear na_4
  have a_5 := na_5; clear na_5
  have a_6 := na_6; clear na_6
  have a_7 := na_7; clear na_7
  have a_f := na_f; clear na_f
  clear hb B3
  have B4 := Lib.hid hb'
  have hw4 := hb'.size
  clear hb'
  have hsa30 : w.heap.size < w4.heap.size := by omega
  have hsa31 : w.heap.size < w4.heap.size + 1 := by omega
  have hsa32 : w.heap.size < w4.heap.size + 1 + 1 := by omega
  go_wp2_with fail
  refine (encode_any k2 mo2 li2 sz2 mt2 ct2 ino2 gn2 _ lo_mo2 hi_mo2 lo_li2 hi_li2 lo_sz2 hi_sz2 lo_mt2 hi_mt2 lo_ct2 hi_ct2 lo_ino2 hi_ino2 lo_gn2 hi_gn2).mono ?_
  rintro e w5 ⟨rfl, hb⟩
  rw [HD2.out]
  have hb' : Below w.heap.size w w5 := Below.trans (by have := B4.out; go_grown) (hb.mono (by first | omega | (simp; omega) | simp))
  have hz5 : w4.heap.size + 1 ≤ w5.heap.size := by have := hb.size; first | omega | (simp at this; omega)
  have na_0 : w5.cell? ⟨w.heap.size, 0, none⟩ = some (.int .u8 k) := keep1 hb (cellP (by first | omega | (simp; omega) | simp) a_0)
  have na_1 : w5.cell? ⟨w.heap.size, 1, none⟩ = some (.int .i64 mo) := keep1 hb (cellP (by first | omega | (simp; omega) | simp) a_1)
  have na_2 : w5.cell? ⟨w.heap.size, 2, none⟩ = some (.int .i64 li) := keep1 hb (cellP (by first | omega | (simp; omega) | simp) a_2)
  have na_3 : w5.cell? ⟨w.heap.size, 3, none⟩ = some (.int .i64 sz) := keep1 hb (cellP (by first | omega | (simp; omega) | simp) a_3)
  have na_4 : w5.cell? ⟨w.heap.size, 4, none⟩ = some (.int .i64 mt) := keep1 hb (cellP (by first | omega | (simp; omega) | simp) a_4)
  have na_5 : w5.cell? ⟨w.heap.size, 5, none⟩ = some (.int .i64 ct) := keep1 hb (cellP (by first | omega | (simp; omega) | simp) a_5)
  have na_6 : w5.cell? ⟨w.heap.size, 6, none⟩ = some (.int .i64 ino) := keep1 hb (cellP (by first | omega | (simp; omega) | simp) a_6)
  have na_7 : w5.cell? ⟨w.heap.size, 7, none⟩ = some (.int .i64 gn) := keep1 hb (cellP (by first | omega | (simp; omega) | simp) a_7)
  have na_f : ∀ i, w5.frozen? ⟨w.heap.size, i, none⟩ = false := fun i => (hb.frozen (p := ⟨w.heap.size, i, none⟩) (by first | omega | (simp; omega) | simp)).trans (frozP (by first | omega | (simp; omega) | simp) (a_f i))
  clear a_0 a_1 a_2 a_3 a_4 a_5 a_6 a_7 a_f
  have a_0 := na_0; clear na_0
  have a_1 := na_1; clear na_1
  have a_2 := na_2; clear na_2
  have a_3 := na_3; clear na_3
  have a_4 := na_4; clear na_4
  have a_5 := na_5; clear na_5
  have a_6 := na_6; clear na_6
  have a_7 := na_7; clear na_7
  have a_f := na_f; clear na_f
  clear hb B4
  have B5 := Lib.hid hb'
  have hw5 := hb'.size
  clear hb'
  have hsa40 : w.heap.size < w5.heap.size := by omega
  have hsa41 : w.heap.size < w5.heap.size + 1 := by omega
  have hsa42 : w.heap.size < w5.heap.size + 1 + 1 := by omega
  go_wp2_with fail
  refine (encmeta_any gen boot _ lo_gen hi_gen lo_boot hi_boot).mono ?_
  rintro e w6 ⟨rfl, hb⟩
  rw [HN.out]
  have hb' : Below w.heap.size w w6 := Below.trans (by have := B5.out; go_grown) (hb.mono (by first | omega | (simp; omega) | simp))
  have hz6 : w5.heap.size + 1 ≤ w6.heap.size := by have := hb.size; first | omega | (simp at this; omega)
  have na_0 : w6.cell? ⟨w.heap.size, 0, none⟩ = some (.int .u8 k) := keep1 hb (cellP (by first | omega | (simp; omega) | simp) a_0)
  have na_1 : w6.cell? ⟨w.heap.size, 1, none⟩ = some (.int .i64 mo) := keep1 hb (cellP (by first | omega | (simp; omega) | simp) a_1)
  have na_2 : w6.cell? ⟨w.heap.size, 2, none⟩ = some (.int .i64 li) := keep1 hb (cellP (by first | omega | (simp; omega) | simp) a_2)
  have na_3 : w6.cell? ⟨w.heap.size, 3, none⟩ = some (.int .i64 sz) := keep1 hb (cellP (by first | omega | (simp; omega) | simp) a_3)
  have na_4 : w6.cell? ⟨w.heap.size, 4, none⟩ = some (.int .i64 mt) := keep1 hb (cellP (by first | omega | (simp; omega) | simp) a_4)
  have na_5 : w6.cell? ⟨w.heap.size, 5, none⟩ = some (.int .i64 ct) := keep1 hb (cellP (by first | omega | (simp; omega) | simp) a_5)
  have na_6 : w6.cell? ⟨w.heap.size, 6, none⟩ = some (.int .i64 ino) := keep1 hb (cellP (by first | omega | (simp; omega) | simp) a_6)
  have na_7 : w6.cell? ⟨w.heap.size, 7, none⟩ = some (.int .i64 gn) := keep1 hb (cellP (by first | omega | (simp; omega) | simp) a_7)
  have na_f : ∀ i, w6.frozen? ⟨w.heap.size, i, none⟩ = false := fun i => (hb.frozen (p := ⟨w.heap.size, i, none⟩) (by first | omega | (simp; omega) | simp)).trans (frozP (by first | omega | (simp; omega) | simp) (a_f i))
  have nm_0 : w6.cell? ⟨w5.heap.size, 0, none⟩ = some (.int .i64 gen) := keep1 hb ((cellN _ _ _ _ (by first | rfl | simp) _).trans rfl)
  have nm_1 : w6.cell? ⟨w5.heap.size, 1, none⟩ = some (.int .i64 boot) := keep1 hb ((cellN _ _ _ _ (by first | rfl | simp) _).trans rfl)
  have nm_f : ∀ i, w6.frozen? ⟨w5.heap.size, i, none⟩ = false := fun i => (hb.frozen (p := ⟨w5.heap.size, i, none⟩) (by first | omega | (simp; omega) | simp)).trans (frozN (by first | rfl | simp))
  clear a_0 a_1 a_2 a_3 a_4 a_5 a_6 a_7 a_f
  have a_0 := na_0; clear na_0
  have a_1 := na_1; clear na_1
  have a_2 := na_2; clear na_2
  have a_3 := na_3; clear na_3
  have a_4 := na_4; clear na_4
  have a_5 := na_5; clear na_5
  have a_6 := na_6; clear na_6
  have a_7 := na_7; clear na_7
  have a_f := na_f; clear na_f
  have m_0 := nm_0; clear nm_0
  have m_1 := nm_1; clear nm_1
  have m_f := nm_f; clear nm_f
  clear hb B5
  have B6 := Lib.hid hb'
  have hw6 := hb'.size
  clear hb'
  have hsa50 : w.heap.size < w6.heap.size := by omega
  have hsa51 : w.heap.size < w6.heap.size + 1 := by omega
  have hsa52 : w.heap.size < w6.heap.size + 1 + 1 := by omega
  have hsm50 : w5.heap.size < w6.heap.size := by omega
  have hsm51 : w5.heap.size < w6.heap.size + 1 := by omega
  have hsm52 : w5.heap.size < w6.heap.size + 1 + 1 := by omega
  go_wp2_with fail
  refine (decmeta_any _ _).mono ?_
  rintro e w7 ⟨rfl, hb⟩
  rw [HT.out]
  have hb' : Below w.heap.size w w7 := Below.trans (by have := B6.out; go_grown) (hb.mono (by first | omega | (simp; omega) | simp))
  have hz7 : w6.heap.size ≤ w7.heap.size := by have := hb.size; first | omega | (simp at this; omega)
  have na_0 : w7.cell? ⟨w.heap.size, 0, none⟩ = some (.int .u8 k) := keep1 hb a_0
  have na_1 : w7.cell? ⟨w.heap.size, 1, none⟩ = some (.int .i64 mo) := keep1 hb a_1
  have na_2 : w7.cell? ⟨w.heap.size, 2, none⟩ = some (.int .i64 li) := keep1 hb a_2
  have na_3 : w7.cell? ⟨w.heap.size, 3, none⟩ = some (.int .i64 sz) := keep1 hb a_3
  have na_4 : w7.cell? ⟨w.heap.size, 4, none⟩ = some (.int .i64 mt) := keep1 hb a_4
  have na_5 : w7.cell? ⟨w.heap.size, 5, none⟩ = some (.int .i64 ct) := keep1 hb a_5
  have na_6 : w7.cell? ⟨w.heap.size, 6, none⟩ = some (.int .i64 ino) := keep1 hb a_6
  have na_7 : w7.cell? ⟨w.heap.size, 7, none⟩ = some (.int .i64 gn) := keep1 hb a_7
  have na_f : ∀ i, w7.frozen? ⟨w.heap.size, i, none⟩ = false := fun i => (hb.frozen (p := ⟨w.heap.size, i, none⟩) (by first | omega | (simp; omega) | simp)).trans (a_f i)
  have nm_0 : w7.cell? ⟨w5.heap.size, 0, none⟩ = some (.int .i64 gen) := keep1 hb m_0
  have nm_1 : w7.cell? ⟨w5.heap.size, 1, none⟩ = some (.int .i64 boot) := keep1 hb m_1
  have nm_f : ∀ i, w7.frozen? ⟨w5.heap.size, i, none⟩ = false := fun i => (hb.frozen (p := ⟨w5.heap.size, i, none⟩) (by first | omega | (simp; omega) | simp)).trans (m_f i)
  clear a_0 a_1 a_2 a_3 a_4 a_5 a_6 a_7 a_f m_0 m_1 m_f
  have a_0 := na_0; clear na_0
  have a_1 := na_1; clear na_1
  have a_2 := na_2; clear na_2
  have a_3 := na_3; clear na_3
  have a_4 := na_4; clear na_4
  have a_5 := na_5; clear na_5
  have a_6 := na_6; clear na_6
  have a_7 := na_7; clear na_7
  have a_f := na_f; clear na_f
  have m_0 := nm_0; clear nm_0
  have m_1 := nm_1; clear nm_1
  have m_f := nm_f; clear nm_f
  clear hb B6
  have B7 := Lib.hid hb'
  have hw7 := hb'.size
  clear hb'
  have hsa60 : w.heap.size < w7.heap.size := by omega
  have hsa61 : w.heap.size < w7.heap.size + 1 := by omega
  have hsa62 : w.heap.size < w7.heap.size + 1 + 1 := by omega
  have hsm60 : w5.heap.size < w7.heap.size := by omega
  have hsm61 : w5.heap.size < w7.heap.size + 1 := by omega
  have hsm62 : w5.heap.size < w7.heap.size + 1 + 1 := by omega
  go_wp2_with fail
  go_ret
  exact ⟨ret_bool (by simp), by have := B7.out; go_grown⟩

set_option maxHeartbeats 4000000 in
theorem back_0011 (k mo li sz mt ct ino gn gen boot g2 b2 : Int) (s t mb : ByteArray) (w : World) (hs : s.size ≤ 1000) (ht : t.size ≤ 1000) (lo_mo : -9223372036854775808 ≤ mo) (hi_mo : mo ≤ 9223372036854775807) (lo_li : -9223372036854775808 ≤ li) (hi_li : li ≤ 9223372036854775807) (lo_sz : -9223372036854775808 ≤ sz) (hi_sz : sz ≤ 9223372036854775807) (lo_mt : -9223372036854775808 ≤ mt) (hi_mt : mt ≤ 9223372036854775807) (lo_ct : -9223372036854775808 ≤ ct) (hi_ct : ct ≤ 9223372036854775807) (lo_ino : -9223372036854775808 ≤ ino) (hi_ino : ino ≤ 9223372036854775807) (lo_gn : -9223372036854775808 ≤ gn) (hi_gn : gn ≤ 9223372036854775807) (lo_gen : -9223372036854775808 ≤ gen) (hi_gen : gen ≤ 9223372036854775807) (lo_boot : -9223372036854775808 ≤ boot) (hi_boot : boot ≤ 9223372036854775807) (HM : mayB k mo li sz mt ct ino gn = false) (HE : encR k mo li sz mt ct ino gn = .tuple #[.string ByteArray.empty, .int .i64 4]) (HD : decR s = .tuple #[.agg #[.int .u8 0, .int .i64 0, .int .i64 0, .int .i64 0, .int .i64 0, .int .i64 0, .int .i64 0, .int .i64 0], .int .i64 4]) (HN : mencR gen boot = .tuple #[.string mb, .int .i64 0]) (HN2 : decMR mb = .tuple #[.agg #[.int .i64 gen, .int .i64 boot], .int .i64 0]) (lo_g2 : -9223372036854775808 ≤ g2) (hi_g2 : g2 ≤ 9223372036854775807) (lo_b2 : -9223372036854775808 ≤ b2) (hi_b2 : b2 ≤ 9223372036854775807) (HT : decMR t = .tuple #[.agg #[.int .i64 g2, .int .i64 b2], .int .i64 0]) (HT2 : mencR g2 b2 = .tuple #[.string t, .int .i64 0]) :
    Calls Try.prog 7 #[.agg #[.int .u8 k, .int .i64 mo, .int .i64 li, .int .i64 sz, .int .i64 mt, .int .i64 ct, .int .i64 ino, .int .i64 gn], .int .i64 gen, .int .i64 boot, .string s, .string t] w fun e w' => e = .returned (.bool true) ∧ Below w.heap.size w w' := by
  replace HM := Lib.hid HM
  replace HE := Lib.hid HE
  replace HD := Lib.hid HD
  replace HN := Lib.hid HN
  replace HT := Lib.hid HT
  replace HN2 := Lib.hid HN2
  replace HT2 := Lib.hid HT2
  have ls : ¬ ((s.size : Int) > 1000) := by omega
  have lt : ¬ ((t.size : Int) > 1000) := by omega
  go_enter Try.func7, Try.ntmps7
  go_wp2_with fail
  refine (awake20 _).mono ?_
  rintro e w1 ⟨rfl, hb⟩
  have hb' : Below w.heap.size w w1 := Below.trans (by go_grown) (hb.mono (by first | omega | (simp; omega) | simp))
  have hz1 : w.heap.size + 1 ≤ w1.heap.size := by have := hb.size; first | omega | (simp at this; omega)
  have na_0 : w1.cell? ⟨w.heap.size, 0, none⟩ = some (.int .u8 k) := keep1 hb ((cellN _ _ _ _ (by first | rfl | simp) _).trans rfl)
  have na_1 : w1.cell? ⟨w.heap.size, 1, none⟩ = some (.int .i64 mo) := keep1 hb ((cellN _ _ _ _ (by first | rfl | simp) _).trans rfl)
  have na_2 : w1.cell? ⟨w.heap.size, 2, none⟩ = some (.int .i64 li) := keep1 hb ((cellN _ _ _ _ (by first | rfl | simp) _).trans rfl)
  have na_3 : w1.cell? ⟨w.heap.size, 3, none⟩ = some (.int .i64 sz) := keep1 hb ((cellN _ _ _ _ (by first | rfl | simp) _).trans rfl)
  have na_4 : w1.cell? ⟨w.heap.size, 4, none⟩ = some (.int .i64 mt) := keep1 hb ((cellN _ _ _ _ (by first | rfl | simp) _).trans rfl)
  have na_5 : w1.cell? ⟨w.heap.size, 5, none⟩ = some (.int .i64 ct) := keep1 hb ((cellN _ _ _ _ (by first | rfl | simp) _).trans rfl)
  have na_6 : w1.cell? ⟨w.heap.size, 6, none⟩ = some (.int .i64 ino) := keep1 hb ((cellN _ _ _ _ (by first | rfl | simp) _).trans rfl)
  have na_7 : w1.cell? ⟨w.heap.size, 7, none⟩ = some (.int .i64 gn) := keep1 hb ((cellN _ _ _ _ (by first | rfl | simp) _).trans rfl)
  have na_f : ∀ i, w1.frozen? ⟨w.heap.size, i, none⟩ = false := fun i => (hb.frozen (p := ⟨w.heap.size, i, none⟩) (by first | omega | (simp; omega) | simp)).trans (frozN (by first | rfl | simp))
  have a_0 := na_0; clear na_0
  have a_1 := na_1; clear na_1
  have a_2 := na_2; clear na_2
  have a_3 := na_3; clear na_3
  have a_4 := na_4; clear na_4
  have a_5 := na_5; clear na_5
  have a_6 := na_6; clear na_6
  have a_7 := na_7; clear na_7
  have a_f := na_f; clear na_f
  clear hb
  have B1 := Lib.hid hb'
  have hw1 := hb'.size
  clear hb'
  have hsa00 : w.heap.size < w1.heap.size := by omega
  have hsa01 : w.heap.size < w1.heap.size + 1 := by omega
  have hsa02 : w.heap.size < w1.heap.size + 1 + 1 := by omega
  go_wp2_with fail
  refine (encode_any k mo li sz mt ct ino gn _ lo_mo hi_mo lo_li hi_li lo_sz hi_sz lo_mt hi_mt lo_ct hi_ct lo_ino hi_ino lo_gn hi_gn).mono ?_
  rintro e w2 ⟨rfl, hb⟩
  rw [HE.out]
  have hb' : Below w.heap.size w w2 := Below.trans (by have := B1.out; go_grown) (hb.mono (by first | omega | (simp; omega) | simp))
  have hz2 : w1.heap.size ≤ w2.heap.size := by have := hb.size; first | omega | (simp at this; omega)
  have na_0 : w2.cell? ⟨w.heap.size, 0, none⟩ = some (.int .u8 k) := keep1 hb a_0
  have na_1 : w2.cell? ⟨w.heap.size, 1, none⟩ = some (.int .i64 mo) := keep1 hb a_1
  have na_2 : w2.cell? ⟨w.heap.size, 2, none⟩ = some (.int .i64 li) := keep1 hb a_2
  have na_3 : w2.cell? ⟨w.heap.size, 3, none⟩ = some (.int .i64 sz) := keep1 hb a_3
  have na_4 : w2.cell? ⟨w.heap.size, 4, none⟩ = some (.int .i64 mt) := keep1 hb a_4
  have na_5 : w2.cell? ⟨w.heap.size, 5, none⟩ = some (.int .i64 ct) := keep1 hb a_5
  have na_6 : w2.cell? ⟨w.heap.size, 6, none⟩ = some (.int .i64 ino) := keep1 hb a_6
  have na_7 : w2.cell? ⟨w.heap.size, 7, none⟩ = some (.int .i64 gn) := keep1 hb a_7
  have na_f : ∀ i, w2.frozen? ⟨w.heap.size, i, none⟩ = false := fun i => (hb.frozen (p := ⟨w.heap.size, i, none⟩) (by first | omega | (simp; omega) | simp)).trans (a_f i)
  clear a_0 a_1 a_2 a_3 a_4 a_5 a_6 a_7 a_f
  have a_0 := na_0; clear na_0
  have a_1 := na_1; clear na_1
  have a_2 := na_2; clear na_2
  have a_3 := na_3; clear na_3
  have a_4 := na_4; clear na_4
  have a_5 := na_5; clear na_5
  have a_6 := na_6; clear na_6
  have a_7 := na_7; clear na_7
  have a_f := na_f; clear na_f
  clear hb B1
  have B2 := Lib.hid hb'
  have hw2 := hb'.size
  clear hb'
  have hsa10 : w.heap.size < w2.heap.size := by omega
  have hsa11 : w.heap.size < w2.heap.size + 1 := by omega
  have hsa12 : w.heap.size < w2.heap.size + 1 + 1 := by omega
  go_wp2_with fail
  refine (may_any _ _ _ _ _ _ _ _ _).mono ?_
  rintro e w3 ⟨rfl, hb⟩
  rw [HM.out]
  have hb' : Below w.heap.size w w3 := Below.trans (by have := B2.out; go_grown) (hb.mono (by first | omega | (simp; omega) | simp))
  have hz3 : w2.heap.size ≤ w3.heap.size := by have := hb.size; first | omega | (simp at this; omega)
  have na_0 : w3.cell? ⟨w.heap.size, 0, none⟩ = some (.int .u8 k) := keep1 hb a_0
  have na_1 : w3.cell? ⟨w.heap.size, 1, none⟩ = some (.int .i64 mo) := keep1 hb a_1
  have na_2 : w3.cell? ⟨w.heap.size, 2, none⟩ = some (.int .i64 li) := keep1 hb a_2
  have na_3 : w3.cell? ⟨w.heap.size, 3, none⟩ = some (.int .i64 sz) := keep1 hb a_3
  have na_4 : w3.cell? ⟨w.heap.size, 4, none⟩ = some (.int .i64 mt) := keep1 hb a_4
  have na_5 : w3.cell? ⟨w.heap.size, 5, none⟩ = some (.int .i64 ct) := keep1 hb a_5
  have na_6 : w3.cell? ⟨w.heap.size, 6, none⟩ = some (.int .i64 ino) := keep1 hb a_6
  have na_7 : w3.cell? ⟨w.heap.size, 7, none⟩ = some (.int .i64 gn) := keep1 hb a_7
  have na_f : ∀ i, w3.frozen? ⟨w.heap.size, i, none⟩ = false := fun i => (hb.frozen (p := ⟨w.heap.size, i, none⟩) (by first | omega | (simp; omega) | simp)).trans (a_f i)
  clear a_0 a_1 a_2 a_3 a_4 a_5 a_6 a_7 a_f
  have a_0 := na_0; clear na_0
  have a_1 := na_1; clear na_1
  have a_2 := na_2; clear na_2
  have a_3 := na_3; clear na_3
  have a_4 := na_4; clear na_4
  have a_5 := na_5; clear na_5
  have a_6 := na_6; clear na_6
  have a_7 := na_7; clear na_7
  have a_f := na_f; clear na_f
  clear hb B2
  have B3 := Lib.hid hb'
  have hw3 := hb'.size
  clear hb'
  have hsa20 : w.heap.size < w3.heap.size := by omega
  have hsa21 : w.heap.size < w3.heap.size + 1 := by omega
  have hsa22 : w.heap.size < w3.heap.size + 1 + 1 := by omega
  go_wp2_with fail
  refine (decode_any _ _).mono ?_
  rintro e w4 ⟨rfl, hb⟩
  rw [HD.out]
  have hb' : Below w.heap.size w w4 := Below.trans (by have := B3.out; go_grown) (hb.mono (by first | omega | (simp; omega) | simp))
  have hz4 : w3.heap.size ≤ w4.heap.size := by have := hb.size; first | omega | (simp at this; omega)
  have na_0 : w4.cell? ⟨w.heap.size, 0, none⟩ = some (.int .u8 k) := keep1 hb a_0
  have na_1 : w4.cell? ⟨w.heap.size, 1, none⟩ = some (.int .i64 mo) := keep1 hb a_1
  have na_2 : w4.cell? ⟨w.heap.size, 2, none⟩ = some (.int .i64 li) := keep1 hb a_2
  have na_3 : w4.cell? ⟨w.heap.size, 3, none⟩ = some (.int .i64 sz) := keep1 hb a_3
  have na_4 : w4.cell? ⟨w.heap.size, 4, none⟩ = some (.int .i64 mt) := keep1 hb a_4
  have na_5 : w4.cell? ⟨w.heap.size, 5, none⟩ = some (.int .i64 ct) := keep1 hb a_5
  have na_6 : w4.cell? ⟨w.heap.size, 6, none⟩ = some (.int .i64 ino) := keep1 hb a_6
  have na_7 : w4.cell? ⟨w.heap.size, 7, none⟩ = some (.int .i64 gn) := keep1 hb a_7
  have na_f : ∀ i, w4.frozen? ⟨w.heap.size, i, none⟩ = false := fun i => (hb.frozen (p := ⟨w.heap.size, i, none⟩) (by first | omega | (simp; omega) | simp)).trans (a_f i)
  clear a_0 a_1 a_2 a_3 a_4 a_5 a_6 a_7 a_f
  have a_0 := na_0; clear na_0
  have a_1 := na_1; clear na_1
  have a_2 := na_2; clear na_2
  have a_3 := na_3; clear na_3
  have a_4 := na_4; clear na_4
  have a_5 := na_5; clear na_5
  have a_6 := na_6; clear na_6
  have a_7 := na_7; clear na_7
  have a_f := na_f; clear na_f
  clear hb B3
  have B4 := Lib.hid hb'
  have hw4 := hb'.size
  clear hb'
  have hsa30 : w.heap.size < w4.heap.size := by omega
  have hsa31 : w.heap.size < w4.heap.size + 1 := by omega
  have hsa32 : w.heap.size < w4.heap.size + 1 + 1 := by omega
  go_wp2_with fail
  refine (encmeta_any gen boot _ lo_gen hi_gen lo_boot hi_boot).mono ?_
  rintro e w5 ⟨rfl, hb⟩
  rw [HN.out]
  have hb' : Below w.heap.size w w5 := Below.trans (by have := B4.out; go_grown) (hb.mono (by first | omega | (simp; omega) | simp))
  have hz5 : w4.heap.size + 2 ≤ w5.heap.size := by have := hb.size; first | omega | (simp at this; omega)
  have na_0 : w5.cell? ⟨w.heap.size, 0, none⟩ = some (.int .u8 k) := keep1 hb (cellP (by first | omega | (simp; omega) | simp) (cellP (by first | omega | (simp; omega) | simp) a_0))
  have na_1 : w5.cell? ⟨w.heap.size, 1, none⟩ = some (.int .i64 mo) := keep1 hb (cellP (by first | omega | (simp; omega) | simp) (cellP (by first | omega | (simp; omega) | simp) a_1))
  have na_2 : w5.cell? ⟨w.heap.size, 2, none⟩ = some (.int .i64 li) := keep1 hb (cellP (by first | omega | (simp; omega) | simp) (cellP (by first | omega | (simp; omega) | simp) a_2))
  have na_3 : w5.cell? ⟨w.heap.size, 3, none⟩ = some (.int .i64 sz) := keep1 hb (cellP (by first | omega | (simp; omega) | simp) (cellP (by first | omega | (simp; omega) | simp) a_3))
  have na_4 : w5.cell? ⟨w.heap.size, 4, none⟩ = some (.int .i64 mt) := keep1 hb (cellP (by first | omega | (simp; omega) | simp) (cellP (by first | omega | (simp; omega) | simp) a_4))
  have na_5 : w5.cell? ⟨w.heap.size, 5, none⟩ = some (.int .i64 ct) := keep1 hb (cellP (by first | omega | (simp; omega) | simp) (cellP (by first | omega | (simp; omega) | simp) a_5))
  have na_6 : w5.cell? ⟨w.heap.size, 6, none⟩ = some (.int .i64 ino) := keep1 hb (cellP (by first | omega | (simp; omega) | simp) (cellP (by first | omega | (simp; omega) | simp) a_6))
  have na_7 : w5.cell? ⟨w.heap.size, 7, none⟩ = some (.int .i64 gn) := keep1 hb (cellP (by first | omega | (simp; omega) | simp) (cellP (by first | omega | (simp; omega) | simp) a_7))
  have na_f : ∀ i, w5.frozen? ⟨w.heap.size, i, none⟩ = false := fun i => (hb.frozen (p := ⟨w.heap.size, i, none⟩) (by first | omega | (simp; omega) | simp)).trans (frozP (by first | omega | (simp; omega) | simp) (frozP (by first | omega | (simp; omega) | simp) (a_f i)))
  have nm_0 : w5.cell? ⟨w4.heap.size + 1, 0, none⟩ = some (.int .i64 gen) := keep1 hb ((cellN _ _ _ _ (by first | rfl | simp) _).trans rfl)
  have nm_1 : w5.cell? ⟨w4.heap.size + 1, 1, none⟩ = some (.int .i64 boot) := keep1 hb ((cellN _ _ _ _ (by first | rfl | simp) _).trans rfl)
  have nm_f : ∀ i, w5.frozen? ⟨w4.heap.size + 1, i, none⟩ = false := fun i => (hb.frozen (p := ⟨w4.heap.size + 1, i, none⟩) (by first | omega | (simp; omega) | simp)).trans (frozN (by first | rfl | simp))
  clear a_0 a_1 a_2 a_3 a_4 a_5 a_6 a_7 a_f
  have a_0 := na_0; clear na_0
  have a_1 := na_1; clear na_1
  have a_2 := na_2; clear na_2
  have a_3 := na_3; clear na_3
  have a_4 := na_4; clear na_4
  have a_5 := na_5; clear na_5
  have a_6 := na_6; clear na_6
  have a_7 := na_7; clear na_7
  have a_f := na_f; clear na_f
  have m_0 := nm_0; clear nm_0
  have m_1 := nm_1; clear nm_1
  have m_f := nm_f; clear nm_f
  clear hb B4
  have B5 := Lib.hid hb'
  have hw5 := hb'.size
  clear hb'
  have hsa40 : w.heap.size < w5.heap.size := by omega
  have hsa41 : w.heap.size < w5.heap.size + 1 := by omega
  have hsa42 : w.heap.size < w5.heap.size + 1 + 1 := by omega
  have hsm40 : w4.heap.size + 1 < w5.heap.size := by omega
  have hsm41 : w4.heap.size + 1 < w5.heap.size + 1 := by omega
  have hsm42 : w4.heap.size + 1 < w5.heap.size + 1 + 1 := by omega
  go_wp2_with fail
  refine (decmeta_any _ _).mono ?_
  rintro e w6 ⟨rfl, hb⟩
  rw [HN2.out]
  have hb' : Below w.heap.size w w6 := Below.trans (by have := B5.out; go_grown) (hb.mono (by first | omega | (simp; omega) | simp))
  have hz6 : w5.heap.size ≤ w6.heap.size := by have := hb.size; first | omega | (simp at this; omega)
  have na_0 : w6.cell? ⟨w.heap.size, 0, none⟩ = some (.int .u8 k) := keep1 hb a_0
  have na_1 : w6.cell? ⟨w.heap.size, 1, none⟩ = some (.int .i64 mo) := keep1 hb a_1
  have na_2 : w6.cell? ⟨w.heap.size, 2, none⟩ = some (.int .i64 li) := keep1 hb a_2
  have na_3 : w6.cell? ⟨w.heap.size, 3, none⟩ = some (.int .i64 sz) := keep1 hb a_3
  have na_4 : w6.cell? ⟨w.heap.size, 4, none⟩ = some (.int .i64 mt) := keep1 hb a_4
  have na_5 : w6.cell? ⟨w.heap.size, 5, none⟩ = some (.int .i64 ct) := keep1 hb a_5
  have na_6 : w6.cell? ⟨w.heap.size, 6, none⟩ = some (.int .i64 ino) := keep1 hb a_6
  have na_7 : w6.cell? ⟨w.heap.size, 7, none⟩ = some (.int .i64 gn) := keep1 hb a_7
  have na_f : ∀ i, w6.frozen? ⟨w.heap.size, i, none⟩ = false := fun i => (hb.frozen (p := ⟨w.heap.size, i, none⟩) (by first | omega | (simp; omega) | simp)).trans (a_f i)
  have nm_0 : w6.cell? ⟨w4.heap.size + 1, 0, none⟩ = some (.int .i64 gen) := keep1 hb m_0
  have nm_1 : w6.cell? ⟨w4.heap.size + 1, 1, none⟩ = some (.int .i64 boot) := keep1 hb m_1
  have nm_f : ∀ i, w6.frozen? ⟨w4.heap.size + 1, i, none⟩ = false := fun i => (hb.frozen (p := ⟨w4.heap.size + 1, i, none⟩) (by first | omega | (simp; omega) | simp)).trans (m_f i)
  clear a_0 a_1 a_2 a_3 a_4 a_5 a_6 a_7 a_f m_0 m_1 m_f
  have a_0 := na_0; clear na_0
  have a_1 := na_1; clear na_1
  have a_2 := na_2; clear na_2
  have a_3 := na_3; clear na_3
  have a_4 := na_4; clear na_4
  have a_5 := na_5; clear na_5
  have a_6 := na_6; clear na_6
  have a_7 := na_7; clear na_7
  have a_f := na_f; clear na_f
  have m_0 := nm_0; clear nm_0
  have m_1 := nm_1; clear nm_1
  have m_f := nm_f; clear nm_f
  clear hb B5
  have B6 := Lib.hid hb'
  have hw6 := hb'.size
  clear hb'
  have hsa50 : w.heap.size < w6.heap.size := by omega
  have hsa51 : w.heap.size < w6.heap.size + 1 := by omega
  have hsa52 : w.heap.size < w6.heap.size + 1 + 1 := by omega
  have hsm50 : w4.heap.size + 1 < w6.heap.size := by omega
  have hsm51 : w4.heap.size + 1 < w6.heap.size + 1 := by omega
  have hsm52 : w4.heap.size + 1 < w6.heap.size + 1 + 1 := by omega
  go_wp2_with fail
  refine (decmeta_any _ _).mono ?_
  rintro e w7 ⟨rfl, hb⟩
  rw [HT.out]
  have hb' : Below w.heap.size w w7 := Below.trans (by have := B6.out; go_grown) (hb.mono (by first | omega | (simp; omega) | simp))
  have hz7 : w6.heap.size + 1 ≤ w7.heap.size := by have := hb.size; first | omega | (simp at this; omega)
  have na_0 : w7.cell? ⟨w.heap.size, 0, none⟩ = some (.int .u8 k) := keep1 hb (cellP (by first | omega | (simp; omega) | simp) a_0)
  have na_1 : w7.cell? ⟨w.heap.size, 1, none⟩ = some (.int .i64 mo) := keep1 hb (cellP (by first | omega | (simp; omega) | simp) a_1)
  have na_2 : w7.cell? ⟨w.heap.size, 2, none⟩ = some (.int .i64 li) := keep1 hb (cellP (by first | omega | (simp; omega) | simp) a_2)
  have na_3 : w7.cell? ⟨w.heap.size, 3, none⟩ = some (.int .i64 sz) := keep1 hb (cellP (by first | omega | (simp; omega) | simp) a_3)
  have na_4 : w7.cell? ⟨w.heap.size, 4, none⟩ = some (.int .i64 mt) := keep1 hb (cellP (by first | omega | (simp; omega) | simp) a_4)
  have na_5 : w7.cell? ⟨w.heap.size, 5, none⟩ = some (.int .i64 ct) := keep1 hb (cellP (by first | omega | (simp; omega) | simp) a_5)
  have na_6 : w7.cell? ⟨w.heap.size, 6, none⟩ = some (.int .i64 ino) := keep1 hb (cellP (by first | omega | (simp; omega) | simp) a_6)
  have na_7 : w7.cell? ⟨w.heap.size, 7, none⟩ = some (.int .i64 gn) := keep1 hb (cellP (by first | omega | (simp; omega) | simp) a_7)
  have na_f : ∀ i, w7.frozen? ⟨w.heap.size, i, none⟩ = false := fun i => (hb.frozen (p := ⟨w.heap.size, i, none⟩) (by first | omega | (simp; omega) | simp)).trans (frozP (by first | omega | (simp; omega) | simp) (a_f i))
  have nm_0 : w7.cell? ⟨w4.heap.size + 1, 0, none⟩ = some (.int .i64 gen) := keep1 hb (cellP (by first | omega | (simp; omega) | simp) m_0)
  have nm_1 : w7.cell? ⟨w4.heap.size + 1, 1, none⟩ = some (.int .i64 boot) := keep1 hb (cellP (by first | omega | (simp; omega) | simp) m_1)
  have nm_f : ∀ i, w7.frozen? ⟨w4.heap.size + 1, i, none⟩ = false := fun i => (hb.frozen (p := ⟨w4.heap.size + 1, i, none⟩) (by first | omega | (simp; omega) | simp)).trans (frozP (by first | omega | (simp; omega) | simp) (m_f i))
  have nn_0 : w7.cell? ⟨w6.heap.size, 0, none⟩ = some (.int .i64 gen) := keep1 hb ((cellN _ _ _ _ (by first | rfl | simp) _).trans rfl)
  have nn_1 : w7.cell? ⟨w6.heap.size, 1, none⟩ = some (.int .i64 boot) := keep1 hb ((cellN _ _ _ _ (by first | rfl | simp) _).trans rfl)
  have nn_f : ∀ i, w7.frozen? ⟨w6.heap.size, i, none⟩ = false := fun i => (hb.frozen (p := ⟨w6.heap.size, i, none⟩) (by first | omega | (simp; omega) | simp)).trans (frozN (by first | rfl | simp))
  clear a_0 a_1 a_2 a_3 a_4 a_5 a_6 a_7 a_f m_0 m_1 m_f
  have a_0 := na_0; clear na_0
  have a_1 := na_1; clear na_1
  have a_2 := na_2; clear na_2
  have a_3 := na_3; clear na_3
  have a_4 := na_4; clear na_4
  have a_5 := na_5; clear na_5
  have a_6 := na_6; clear na_6
  have a_7 := na_7; clear na_7
  have a_f := na_f; clear na_f
  have m_0 := nm_0; clear nm_0
  have m_1 := nm_1; clear nm_1
  have m_f := nm_f; clear nm_f
  have n_0 := nn_0; clear nn_0
  have n_1 := nn_1; clear nn_1
  have n_f := nn_f; clear nn_f
  clear hb B6
  have B7 := Lib.hid hb'
  have hw7 := hb'.size
  clear hb'
  have hsa60 : w.heap.size < w7.heap.size := by omega
  have hsa61 : w.heap.size < w7.heap.size + 1 := by omega
  have hsa62 : w.heap.size < w7.heap.size + 1 + 1 := by omega
  have hsm60 : w4.heap.size + 1 < w7.heap.size := by omega
  have hsm61 : w4.heap.size + 1 < w7.heap.size + 1 := by omega
  have hsm62 : w4.heap.size + 1 < w7.heap.size + 1 + 1 := by omega
  have hsn60 : w6.heap.size < w7.heap.size := by omega
  have hsn61 : w6.heap.size < w7.heap.size + 1 := by omega
  have hsn62 : w6.heap.size < w7.heap.size + 1 + 1 := by omega
  go_wp2_with fail
  refine (encmeta_any g2 b2 _ lo_g2 hi_g2 lo_b2 hi_b2).mono ?_
  rintro e w8 ⟨rfl, hb⟩
  rw [HT2.out]
  have hb' : Below w.heap.size w w8 := Below.trans (by have := B7.out; go_grown) (hb.mono (by first | omega | (simp; omega) | simp))
  have hz8 : w7.heap.size + 1 ≤ w8.heap.size := by have := hb.size; first | omega | (simp at this; omega)
  have na_0 : w8.cell? ⟨w.heap.size, 0, none⟩ = some (.int .u8 k) := keep1 hb (cellP (by first | omega | (simp; omega) | simp) a_0)
  have na_1 : w8.cell? ⟨w.heap.size, 1, none⟩ = some (.int .i64 mo) := keep1 hb (cellP (by first | omega | (simp; omega) | simp) a_1)
  have na_2 : w8.cell? ⟨w.heap.size, 2, none⟩ = some (.int .i64 li) := keep1 hb (cellP (by first | omega | (simp; omega) | simp) a_2)
  have na_3 : w8.cell? ⟨w.heap.size, 3, none⟩ = some (.int .i64 sz) := keep1 hb (cellP (by first | omega | (simp; omega) | simp) a_3)
  have na_4 : w8.cell? ⟨w.heap.size, 4, none⟩ = some (.int .i64 mt) := keep1 hb (cellP (by first | omega | (simp; omega) | simp) a_4)
  have na_5 : w8.cell? ⟨w.heap.size, 5, none⟩ = some (.int .i64 ct) := keep1 hb (cellP (by first | omega | (simp; omega) | simp) a_5)
  have na_6 : w8.cell? ⟨w.heap.size, 6, none⟩ = some (.int .i64 ino) := keep1 hb (cellP (by first | omega | (simp; omega) | simp) a_6)
  have na_7 : w8.cell? ⟨w.heap.size, 7, none⟩ = some (.int .i64 gn) := keep1 hb (cellP (by first | omega | (simp; omega) | simp) a_7)
  have na_f : ∀ i, w8.frozen? ⟨w.heap.size, i, none⟩ = false := fun i => (hb.frozen (p := ⟨w.heap.size, i, none⟩) (by first | omega | (simp; omega) | simp)).trans (frozP (by first | omega | (simp; omega) | simp) (a_f i))
  have nm_0 : w8.cell? ⟨w4.heap.size + 1, 0, none⟩ = some (.int .i64 gen) := keep1 hb (cellP (by first | omega | (simp; omega) | simp) m_0)
  have nm_1 : w8.cell? ⟨w4.heap.size + 1, 1, none⟩ = some (.int .i64 boot) := keep1 hb (cellP (by first | omega | (simp; omega) | simp) m_1)
  have nm_f : ∀ i, w8.frozen? ⟨w4.heap.size + 1, i, none⟩ = false := fun i => (hb.frozen (p := ⟨w4.heap.size + 1, i, none⟩) (by first | omega | (simp; omega) | simp)).trans (frozP (by first | omega | (simp; omega) | simp) (m_f i))
  have nn_0 : w8.cell? ⟨w6.heap.size, 0, none⟩ = some (.int .i64 gen) := keep1 hb (cellP (by first | omega | (simp; omega) | simp) n_0)
  have nn_1 : w8.cell? ⟨w6.heap.size, 1, none⟩ = some (.int .i64 boot) := keep1 hb (cellP (by first | omega | (simp; omega) | simp) n_1)
  have nn_f : ∀ i, w8.frozen? ⟨w6.heap.size, i, none⟩ = false := fun i => (hb.frozen (p := ⟨w6.heap.size, i, none⟩) (by first | omega | (simp; omega) | simp)).trans (frozP (by first | omega | (simp; omega) | simp) (n_f i))
  have nn2_0 : w8.cell? ⟨w7.heap.size, 0, none⟩ = some (.int .i64 g2) := keep1 hb ((cellN _ _ _ _ (by first | rfl | simp) _).trans rfl)
  have nn2_1 : w8.cell? ⟨w7.heap.size, 1, none⟩ = some (.int .i64 b2) := keep1 hb ((cellN _ _ _ _ (by first | rfl | simp) _).trans rfl)
  have nn2_f : ∀ i, w8.frozen? ⟨w7.heap.size, i, none⟩ = false := fun i => (hb.frozen (p := ⟨w7.heap.size, i, none⟩) (by first | omega | (simp; omega) | simp)).trans (frozN (by first | rfl | simp))
  clear a_0 a_1 a_2 a_3 a_4 a_5 a_6 a_7 a_f m_0 m_1 m_f n_0 n_1 n_f
  have a_0 := na_0; clear na_0
  have a_1 := na_1; clear na_1
  have a_2 := na_2; clear na_2
  have a_3 := na_3; clear na_3
  have a_4 := na_4; clear na_4
  have a_5 := na_5; clear na_5
  have a_6 := na_6; clear na_6
  have a_7 := na_7; clear na_7
  have a_f := na_f; clear na_f
  have m_0 := nm_0; clear nm_0
  have m_1 := nm_1; clear nm_1
  have m_f := nm_f; clear nm_f
  have n_0 := nn_0; clear nn_0
  have n_1 := nn_1; clear nn_1
  have n_f := nn_f; clear nn_f
  have n2_0 := nn2_0; clear nn2_0
  have n2_1 := nn2_1; clear nn2_1
  have n2_f := nn2_f; clear nn2_f
  clear hb B7
  have B8 := Lib.hid hb'
  have hw8 := hb'.size
  clear hb'
  have hsa70 : w.heap.size < w8.heap.size := by omega
  have hsa71 : w.heap.size < w8.heap.size + 1 := by omega
  have hsa72 : w.heap.size < w8.heap.size + 1 + 1 := by omega
  have hsm70 : w4.heap.size + 1 < w8.heap.size := by omega
  have hsm71 : w4.heap.size + 1 < w8.heap.size + 1 := by omega
  have hsm72 : w4.heap.size + 1 < w8.heap.size + 1 + 1 := by omega
  have hsn70 : w6.heap.size < w8.heap.size := by omega
  have hsn71 : w6.heap.size < w8.heap.size + 1 := by omega
  have hsn72 : w6.heap.size < w8.heap.size + 1 + 1 := by omega
  have hsn270 : w7.heap.size < w8.heap.size := by omega
  have hsn271 : w7.heap.size < w8.heap.size + 1 := by omega
  have hsn272 : w7.heap.size < w8.heap.size + 1 + 1 := by omega
  go_wp2_with fail
  go_ret
  exact ⟨ret_bool (by simp), by have := B8.out; go_grown⟩

set_option maxHeartbeats 4000000 in
theorem back_0010 (k mo li sz mt ct ino gn gen boot : Int) (s t mb : ByteArray) (w : World) (hs : s.size ≤ 1000) (ht : t.size ≤ 1000) (lo_mo : -9223372036854775808 ≤ mo) (hi_mo : mo ≤ 9223372036854775807) (lo_li : -9223372036854775808 ≤ li) (hi_li : li ≤ 9223372036854775807) (lo_sz : -9223372036854775808 ≤ sz) (hi_sz : sz ≤ 9223372036854775807) (lo_mt : -9223372036854775808 ≤ mt) (hi_mt : mt ≤ 9223372036854775807) (lo_ct : -9223372036854775808 ≤ ct) (hi_ct : ct ≤ 9223372036854775807) (lo_ino : -9223372036854775808 ≤ ino) (hi_ino : ino ≤ 9223372036854775807) (lo_gn : -9223372036854775808 ≤ gn) (hi_gn : gn ≤ 9223372036854775807) (lo_gen : -9223372036854775808 ≤ gen) (hi_gen : gen ≤ 9223372036854775807) (lo_boot : -9223372036854775808 ≤ boot) (hi_boot : boot ≤ 9223372036854775807) (HM : mayB k mo li sz mt ct ino gn = false) (HE : encR k mo li sz mt ct ino gn = .tuple #[.string ByteArray.empty, .int .i64 4]) (HD : decR s = .tuple #[.agg #[.int .u8 0, .int .i64 0, .int .i64 0, .int .i64 0, .int .i64 0, .int .i64 0, .int .i64 0, .int .i64 0], .int .i64 4]) (HN : mencR gen boot = .tuple #[.string mb, .int .i64 0]) (HN2 : decMR mb = .tuple #[.agg #[.int .i64 gen, .int .i64 boot], .int .i64 0]) (HT : decMR t = .tuple #[.agg #[.int .i64 0, .int .i64 0], .int .i64 4]) :
    Calls Try.prog 7 #[.agg #[.int .u8 k, .int .i64 mo, .int .i64 li, .int .i64 sz, .int .i64 mt, .int .i64 ct, .int .i64 ino, .int .i64 gn], .int .i64 gen, .int .i64 boot, .string s, .string t] w fun e w' => e = .returned (.bool true) ∧ Below w.heap.size w w' := by
  replace HM := Lib.hid HM
  replace HE := Lib.hid HE
  replace HD := Lib.hid HD
  replace HN := Lib.hid HN
  replace HT := Lib.hid HT
  replace HN2 := Lib.hid HN2
  have ls : ¬ ((s.size : Int) > 1000) := by omega
  have lt : ¬ ((t.size : Int) > 1000) := by omega
  go_enter Try.func7, Try.ntmps7
  go_wp2_with fail
  refine (awake20 _).mono ?_
  rintro e w1 ⟨rfl, hb⟩
  have hb' : Below w.heap.size w w1 := Below.trans (by go_grown) (hb.mono (by first | omega | (simp; omega) | simp))
  have hz1 : w.heap.size + 1 ≤ w1.heap.size := by have := hb.size; first | omega | (simp at this; omega)
  have na_0 : w1.cell? ⟨w.heap.size, 0, none⟩ = some (.int .u8 k) := keep1 hb ((cellN _ _ _ _ (by first | rfl | simp) _).trans rfl)
  have na_1 : w1.cell? ⟨w.heap.size, 1, none⟩ = some (.int .i64 mo) := keep1 hb ((cellN _ _ _ _ (by first | rfl | simp) _).trans rfl)
  have na_2 : w1.cell? ⟨w.heap.size, 2, none⟩ = some (.int .i64 li) := keep1 hb ((cellN _ _ _ _ (by first | rfl | simp) _).trans rfl)
  have na_3 : w1.cell? ⟨w.heap.size, 3, none⟩ = some (.int .i64 sz) := keep1 hb ((cellN _ _ _ _ (by first | rfl | simp) _).trans rfl)
  have na_4 : w1.cell? ⟨w.heap.size, 4, none⟩ = some (.int .i64 mt) := keep1 hb ((cellN _ _ _ _ (by first | rfl | simp) _).trans rfl)
  have na_5 : w1.cell? ⟨w.heap.size, 5, none⟩ = some (.int .i64 ct) := keep1 hb ((cellN _ _ _ _ (by first | rfl | simp) _).trans rfl)
  have na_6 : w1.cell? ⟨w.heap.size, 6, none⟩ = some (.int .i64 ino) := keep1 hb ((cellN _ _ _ _ (by first | rfl | simp) _).trans rfl)
  have na_7 : w1.cell? ⟨w.heap.size, 7, none⟩ = some (.int .i64 gn) := keep1 hb ((cellN _ _ _ _ (by first | rfl | simp) _).trans rfl)
  have na_f : ∀ i, w1.frozen? ⟨w.heap.size, i, none⟩ = false := fun i => (hb.frozen (p := ⟨w.heap.size, i, none⟩) (by first | omega | (simp; omega) | simp)).trans (frozN (by first | rfl | simp))
  have a_0 := na_0; clear na_0
  have a_1 := na_1; clear na_1
  have a_2 := na_2; clear na_2
  have a_3 := na_3; clear na_3
  have a_4 := na_4; clear na_4
  have a_5 := na_5; clear na_5
  have a_6 := na_6; clear na_6
  have a_7 := na_7; clear na_7
  have a_f := na_f; clear na_f
  clear hb
  have B1 := Lib.hid hb'
  have hw1 := hb'.size
  clear hb'
  have hsa00 : w.heap.size < w1.heap.size := by omega
  have hsa01 : w.heap.size < w1.heap.size + 1 := by omega
  have hsa02 : w.heap.size < w1.heap.size + 1 + 1 := by omega
  go_wp2_with fail
  refine (encode_any k mo li sz mt ct ino gn _ lo_mo hi_mo lo_li hi_li lo_sz hi_sz lo_mt hi_mt lo_ct hi_ct lo_ino hi_ino lo_gn hi_gn).mono ?_
  rintro e w2 ⟨rfl, hb⟩
  rw [HE.out]
  have hb' : Below w.heap.size w w2 := Below.trans (by have := B1.out; go_grown) (hb.mono (by first | omega | (simp; omega) | simp))
  have hz2 : w1.heap.size ≤ w2.heap.size := by have := hb.size; first | omega | (simp at this; omega)
  have na_0 : w2.cell? ⟨w.heap.size, 0, none⟩ = some (.int .u8 k) := keep1 hb a_0
  have na_1 : w2.cell? ⟨w.heap.size, 1, none⟩ = some (.int .i64 mo) := keep1 hb a_1
  have na_2 : w2.cell? ⟨w.heap.size, 2, none⟩ = some (.int .i64 li) := keep1 hb a_2
  have na_3 : w2.cell? ⟨w.heap.size, 3, none⟩ = some (.int .i64 sz) := keep1 hb a_3
  have na_4 : w2.cell? ⟨w.heap.size, 4, none⟩ = some (.int .i64 mt) := keep1 hb a_4
  have na_5 : w2.cell? ⟨w.heap.size, 5, none⟩ = some (.int .i64 ct) := keep1 hb a_5
  have na_6 : w2.cell? ⟨w.heap.size, 6, none⟩ = some (.int .i64 ino) := keep1 hb a_6
  have na_7 : w2.cell? ⟨w.heap.size, 7, none⟩ = some (.int .i64 gn) := keep1 hb a_7
  have na_f : ∀ i, w2.frozen? ⟨w.heap.size, i, none⟩ = false := fun i => (hb.frozen (p := ⟨w.heap.size, i, none⟩) (by first | omega | (simp; omega) | simp)).trans (a_f i)
  clear a_0 a_1 a_2 a_3 a_4 a_5 a_6 a_7 a_f
  have a_0 := na_0; clear na_0
  have a_1 := na_1; clear na_1
  have a_2 := na_2; clear na_2
  have a_3 := na_3; clear na_3
  have a_4 := na_4; clear na_4
  have a_5 := na_5; clear na_5
  have a_6 := na_6; clear na_6
  have a_7 := na_7; clear na_7
  have a_f := na_f; clear na_f
  clear hb B1
  have B2 := Lib.hid hb'
  have hw2 := hb'.size
  clear hb'
  have hsa10 : w.heap.size < w2.heap.size := by omega
  have hsa11 : w.heap.size < w2.heap.size + 1 := by omega
  have hsa12 : w.heap.size < w2.heap.size + 1 + 1 := by omega
  go_wp2_with fail
  refine (may_any _ _ _ _ _ _ _ _ _).mono ?_
  rintro e w3 ⟨rfl, hb⟩
  rw [HM.out]
  have hb' : Below w.heap.size w w3 := Below.trans (by have := B2.out; go_grown) (hb.mono (by first | omega | (simp; omega) | simp))
  have hz3 : w2.heap.size ≤ w3.heap.size := by have := hb.size; first | omega | (simp at this; omega)
  have na_0 : w3.cell? ⟨w.heap.size, 0, none⟩ = some (.int .u8 k) := keep1 hb a_0
  have na_1 : w3.cell? ⟨w.heap.size, 1, none⟩ = some (.int .i64 mo) := keep1 hb a_1
  have na_2 : w3.cell? ⟨w.heap.size, 2, none⟩ = some (.int .i64 li) := keep1 hb a_2
  have na_3 : w3.cell? ⟨w.heap.size, 3, none⟩ = some (.int .i64 sz) := keep1 hb a_3
  have na_4 : w3.cell? ⟨w.heap.size, 4, none⟩ = some (.int .i64 mt) := keep1 hb a_4
  have na_5 : w3.cell? ⟨w.heap.size, 5, none⟩ = some (.int .i64 ct) := keep1 hb a_5
  have na_6 : w3.cell? ⟨w.heap.size, 6, none⟩ = some (.int .i64 ino) := keep1 hb a_6
  have na_7 : w3.cell? ⟨w.heap.size, 7, none⟩ = some (.int .i64 gn) := keep1 hb a_7
  have na_f : ∀ i, w3.frozen? ⟨w.heap.size, i, none⟩ = false := fun i => (hb.frozen (p := ⟨w.heap.size, i, none⟩) (by first | omega | (simp; omega) | simp)).trans (a_f i)
  clear a_0 a_1 a_2 a_3 a_4 a_5 a_6 a_7 a_f
  have a_0 := na_0; clear na_0
  have a_1 := na_1; clear na_1
  have a_2 := na_2; clear na_2
  have a_3 := na_3; clear na_3
  have a_4 := na_4; clear na_4
  have a_5 := na_5; clear na_5
  have a_6 := na_6; clear na_6
  have a_7 := na_7; clear na_7
  have a_f := na_f; clear na_f
  clear hb B2
  have B3 := Lib.hid hb'
  have hw3 := hb'.size
  clear hb'
  have hsa20 : w.heap.size < w3.heap.size := by omega
  have hsa21 : w.heap.size < w3.heap.size + 1 := by omega
  have hsa22 : w.heap.size < w3.heap.size + 1 + 1 := by omega
  go_wp2_with fail
  refine (decode_any _ _).mono ?_
  rintro e w4 ⟨rfl, hb⟩
  rw [HD.out]
  have hb' : Below w.heap.size w w4 := Below.trans (by have := B3.out; go_grown) (hb.mono (by first | omega | (simp; omega) | simp))
  have hz4 : w3.heap.size ≤ w4.heap.size := by have := hb.size; first | omega | (simp at this; omega)
  have na_0 : w4.cell? ⟨w.heap.size, 0, none⟩ = some (.int .u8 k) := keep1 hb a_0
  have na_1 : w4.cell? ⟨w.heap.size, 1, none⟩ = some (.int .i64 mo) := keep1 hb a_1
  have na_2 : w4.cell? ⟨w.heap.size, 2, none⟩ = some (.int .i64 li) := keep1 hb a_2
  have na_3 : w4.cell? ⟨w.heap.size, 3, none⟩ = some (.int .i64 sz) := keep1 hb a_3
  have na_4 : w4.cell? ⟨w.heap.size, 4, none⟩ = some (.int .i64 mt) := keep1 hb a_4
  have na_5 : w4.cell? ⟨w.heap.size, 5, none⟩ = some (.int .i64 ct) := keep1 hb a_5
  have na_6 : w4.cell? ⟨w.heap.size, 6, none⟩ = some (.int .i64 ino) := keep1 hb a_6
  have na_7 : w4.cell? ⟨w.heap.size, 7, none⟩ = some (.int .i64 gn) := keep1 hb a_7
  have na_f : ∀ i, w4.frozen? ⟨w.heap.size, i, none⟩ = false := fun i => (hb.frozen (p := ⟨w.heap.size, i, none⟩) (by first | omega | (simp; omega) | simp)).trans (a_f i)
  clear a_0 a_1 a_2 a_3 a_4 a_5 a_6 a_7 a_f
  have a_0 := na_0; clear na_0
  have a_1 := na_1; clear na_1
  have a_2 := na_2; clear na_2
  have a_3 := na_3; clear na_3
  have a_4 := na_4; clear na_4
  have a_5 := na_5; clear na_5
  have a_6 := na_6; clear na_6
  have a_7 := na_7; clear na_7
  have a_f := na_f; clear na_f
  clear hb B3
  have B4 := Lib.hid hb'
  have hw4 := hb'.size
  clear hb'
  have hsa30 : w.heap.size < w4.heap.size := by omega
  have hsa31 : w.heap.size < w4.heap.size + 1 := by omega
  have hsa32 : w.heap.size < w4.heap.size + 1 + 1 := by omega
  go_wp2_with fail
  refine (encmeta_any gen boot _ lo_gen hi_gen lo_boot hi_boot).mono ?_
  rintro e w5 ⟨rfl, hb⟩
  rw [HN.out]
  have hb' : Below w.heap.size w w5 := Below.trans (by have := B4.out; go_grown) (hb.mono (by first | omega | (simp; omega) | simp))
  have hz5 : w4.heap.size + 2 ≤ w5.heap.size := by have := hb.size; first | omega | (simp at this; omega)
  have na_0 : w5.cell? ⟨w.heap.size, 0, none⟩ = some (.int .u8 k) := keep1 hb (cellP (by first | omega | (simp; omega) | simp) (cellP (by first | omega | (simp; omega) | simp) a_0))
  have na_1 : w5.cell? ⟨w.heap.size, 1, none⟩ = some (.int .i64 mo) := keep1 hb (cellP (by first | omega | (simp; omega) | simp) (cellP (by first | omega | (simp; omega) | simp) a_1))
  have na_2 : w5.cell? ⟨w.heap.size, 2, none⟩ = some (.int .i64 li) := keep1 hb (cellP (by first | omega | (simp; omega) | simp) (cellP (by first | omega | (simp; omega) | simp) a_2))
  have na_3 : w5.cell? ⟨w.heap.size, 3, none⟩ = some (.int .i64 sz) := keep1 hb (cellP (by first | omega | (simp; omega) | simp) (cellP (by first | omega | (simp; omega) | simp) a_3))
  have na_4 : w5.cell? ⟨w.heap.size, 4, none⟩ = some (.int .i64 mt) := keep1 hb (cellP (by first | omega | (simp; omega) | simp) (cellP (by first | omega | (simp; omega) | simp) a_4))
  have na_5 : w5.cell? ⟨w.heap.size, 5, none⟩ = some (.int .i64 ct) := keep1 hb (cellP (by first | omega | (simp; omega) | simp) (cellP (by first | omega | (simp; omega) | simp) a_5))
  have na_6 : w5.cell? ⟨w.heap.size, 6, none⟩ = some (.int .i64 ino) := keep1 hb (cellP (by first | omega | (simp; omega) | simp) (cellP (by first | omega | (simp; omega) | simp) a_6))
  have na_7 : w5.cell? ⟨w.heap.size, 7, none⟩ = some (.int .i64 gn) := keep1 hb (cellP (by first | omega | (simp; omega) | simp) (cellP (by first | omega | (simp; omega) | simp) a_7))
  have na_f : ∀ i, w5.frozen? ⟨w.heap.size, i, none⟩ = false := fun i => (hb.frozen (p := ⟨w.heap.size, i, none⟩) (by first | omega | (simp; omega) | simp)).trans (frozP (by first | omega | (simp; omega) | simp) (frozP (by first | omega | (simp; omega) | simp) (a_f i)))
  have nm_0 : w5.cell? ⟨w4.heap.size + 1, 0, none⟩ = some (.int .i64 gen) := keep1 hb ((cellN _ _ _ _ (by first | rfl | simp) _).trans rfl)
  have nm_1 : w5.cell? ⟨w4.heap.size + 1, 1, none⟩ = some (.int .i64 boot) := keep1 hb ((cellN _ _ _ _ (by first | rfl | simp) _).trans rfl)
  have nm_f : ∀ i, w5.frozen? ⟨w4.heap.size + 1, i, none⟩ = false := fun i => (hb.frozen (p := ⟨w4.heap.size + 1, i, none⟩) (by first | omega | (simp; omega) | simp)).trans (frozN (by first | rfl | simp))
  clear a_0 a_1 a_2 a_3 a_4 a_5 a_6 a_7 a_f
  have a_0 := na_0; clear na_0
  have a_1 := na_1; clear na_1
  have a_2 := na_2; clear na_2
  have a_3 := na_3; clear na_3
  have a_4 := na_4; clear na_4
  have a_5 := na_5; clear na_5
  have a_6 := na_6; clear na_6
  have a_7 := na_7; clear na_7
  have a_f := na_f; clear na_f
  have m_0 := nm_0; clear nm_0
  have m_1 := nm_1; clear nm_1
  have m_f := nm_f; clear nm_f
  clear hb B4
  have B5 := Lib.hid hb'
  have hw5 := hb'.size
  clear hb'
  have hsa40 : w.heap.size < w5.heap.size := by omega
  have hsa41 : w.heap.size < w5.heap.size + 1 := by omega
  have hsa42 : w.heap.size < w5.heap.size + 1 + 1 := by omega
  have hsm40 : w4.heap.size + 1 < w5.heap.size := by omega
  have hsm41 : w4.heap.size + 1 < w5.heap.size + 1 := by omega
  have hsm42 : w4.heap.size + 1 < w5.heap.size + 1 + 1 := by omega
  go_wp2_with fail
  refine (decmeta_any _ _).mono ?_
  rintro e w6 ⟨rfl, hb⟩
  rw [HN2.out]
  have hb' : Below w.heap.size w w6 := Below.trans (by have := B5.out; go_grown) (hb.mono (by first | omega | (simp; omega) | simp))
  have hz6 : w5.heap.size ≤ w6.heap.size := by have := hb.size; first | omega | (simp at this; omega)
  have na_0 : w6.cell? ⟨w.heap.size, 0, none⟩ = some (.int .u8 k) := keep1 hb a_0
  have na_1 : w6.cell? ⟨w.heap.size, 1, none⟩ = some (.int .i64 mo) := keep1 hb a_1
  have na_2 : w6.cell? ⟨w.heap.size, 2, none⟩ = some (.int .i64 li) := keep1 hb a_2
  have na_3 : w6.cell? ⟨w.heap.size, 3, none⟩ = some (.int .i64 sz) := keep1 hb a_3
  have na_4 : w6.cell? ⟨w.heap.size, 4, none⟩ = some (.int .i64 mt) := keep1 hb a_4
  have na_5 : w6.cell? ⟨w.heap.size, 5, none⟩ = some (.int .i64 ct) := keep1 hb a_5
  have na_6 : w6.cell? ⟨w.heap.size, 6, none⟩ = some (.int .i64 ino) := keep1 hb a_6
  have na_7 : w6.cell? ⟨w.heap.size, 7, none⟩ = some (.int .i64 gn) := keep1 hb a_7
  have na_f : ∀ i, w6.frozen? ⟨w.heap.size, i, none⟩ = false := fun i => (hb.frozen (p := ⟨w.heap.size, i, none⟩) (by first | omega | (simp; omega) | simp)).trans (a_f i)
  have nm_0 : w6.cell? ⟨w4.heap.size + 1, 0, none⟩ = some (.int .i64 gen) := keep1 hb m_0
  have nm_1 : w6.cell? ⟨w4.heap.size + 1, 1, none⟩ = some (.int .i64 boot) := keep1 hb m_1
  have nm_f : ∀ i, w6.frozen? ⟨w4.heap.size + 1, i, none⟩ = false := fun i => (hb.frozen (p := ⟨w4.heap.size + 1, i, none⟩) (by first | omega | (simp; omega) | simp)).trans (m_f i)
  clear a_0 a_1 a_2 a_3 a_4 a_5 a_6 a_7 a_f m_0 m_1 m_f
  have a_0 := na_0; clear na_0
  have a_1 := na_1; clear na_1
  have a_2 := na_2; clear na_2
  have a_3 := na_3; clear na_3
  have a_4 := na_4; clear na_4
  have a_5 := na_5; clear na_5
  have a_6 := na_6; clear na_6
  have a_7 := na_7; clear na_7
  have a_f := na_f; clear na_f
  have m_0 := nm_0; clear nm_0
  have m_1 := nm_1; clear nm_1
  have m_f := nm_f; clear nm_f
  clear hb B5
  have B6 := Lib.hid hb'
  have hw6 := hb'.size
  clear hb'
  have hsa50 : w.heap.size < w6.heap.size := by omega
  have hsa51 : w.heap.size < w6.heap.size + 1 := by omega
  have hsa52 : w.heap.size < w6.heap.size + 1 + 1 := by omega
  have hsm50 : w4.heap.size + 1 < w6.heap.size := by omega
  have hsm51 : w4.heap.size + 1 < w6.heap.size + 1 := by omega
  have hsm52 : w4.heap.size + 1 < w6.heap.size + 1 + 1 := by omega
  go_wp2_with fail
  refine (decmeta_any _ _).mono ?_
  rintro e w7 ⟨rfl, hb⟩
  rw [HT.out]
  have hb' : Below w.heap.size w w7 := Below.trans (by have := B6.out; go_grown) (hb.mono (by first | omega | (simp; omega) | simp))
  have hz7 : w6.heap.size + 1 ≤ w7.heap.size := by have := hb.size; first | omega | (simp at this; omega)
  have na_0 : w7.cell? ⟨w.heap.size, 0, none⟩ = some (.int .u8 k) := keep1 hb (cellP (by first | omega | (simp; omega) | simp) a_0)
  have na_1 : w7.cell? ⟨w.heap.size, 1, none⟩ = some (.int .i64 mo) := keep1 hb (cellP (by first | omega | (simp; omega) | simp) a_1)
  have na_2 : w7.cell? ⟨w.heap.size, 2, none⟩ = some (.int .i64 li) := keep1 hb (cellP (by first | omega | (simp; omega) | simp) a_2)
  have na_3 : w7.cell? ⟨w.heap.size, 3, none⟩ = some (.int .i64 sz) := keep1 hb (cellP (by first | omega | (simp; omega) | simp) a_3)
  have na_4 : w7.cell? ⟨w.heap.size, 4, none⟩ = some (.int .i64 mt) := keep1 hb (cellP (by first | omega | (simp; omega) | simp) a_4)
  have na_5 : w7.cell? ⟨w.heap.size, 5, none⟩ = some (.int .i64 ct) := keep1 hb (cellP (by first | omega | (simp; omega) | simp) a_5)
  have na_6 : w7.cell? ⟨w.heap.size, 6, none⟩ = some (.int .i64 ino) := keep1 hb (cellP (by first | omega | (simp; omega) | simp) a_6)
  have na_7 : w7.cell? ⟨w.heap.size, 7, none⟩ = some (.int .i64 gn) := keep1 hb (cellP (by first | omega | (simp; omega) | simp) a_7)
  have na_f : ∀ i, w7.frozen? ⟨w.heap.size, i, none⟩ = false := fun i => (hb.frozen (p := ⟨w.heap.size, i, none⟩) (by first | omega | (simp; omega) | simp)).trans (frozP (by first | omega | (simp; omega) | simp) (a_f i))
  have nm_0 : w7.cell? ⟨w4.heap.size + 1, 0, none⟩ = some (.int .i64 gen) := keep1 hb (cellP (by first | omega | (simp; omega) | simp) m_0)
  have nm_1 : w7.cell? ⟨w4.heap.size + 1, 1, none⟩ = some (.int .i64 boot) := keep1 hb (cellP (by first | omega | (simp; omega) | simp) m_1)
  have nm_f : ∀ i, w7.frozen? ⟨w4.heap.size + 1, i, none⟩ = false := fun i => (hb.frozen (p := ⟨w4.heap.size + 1, i, none⟩) (by first | omega | (simp; omega) | simp)).trans (frozP (by first | omega | (simp; omega) | simp) (m_f i))
  have nn_0 : w7.cell? ⟨w6.heap.size, 0, none⟩ = some (.int .i64 gen) := keep1 hb ((cellN _ _ _ _ (by first | rfl | simp) _).trans rfl)
  have nn_1 : w7.cell? ⟨w6.heap.size, 1, none⟩ = some (.int .i64 boot) := keep1 hb ((cellN _ _ _ _ (by first | rfl | simp) _).trans rfl)
  have nn_f : ∀ i, w7.frozen? ⟨w6.heap.size, i, none⟩ = false := fun i => (hb.frozen (p := ⟨w6.heap.size, i, none⟩) (by first | omega | (simp; omega) | simp)).trans (frozN (by first | rfl | simp))
  clear a_0 a_1 a_2 a_3 a_4 a_5 a_6 a_7 a_f m_0 m_1 m_f
  have a_0 := na_0; clear na_0
  have a_1 := na_1; clear na_1
  have a_2 := na_2; clear na_2
  have a_3 := na_3; clear na_3
  have a_4 := na_4; clear na_4
  have a_5 := na_5; clear na_5
  have a_6 := na_6; clear na_6
  have a_7 := na_7; clear na_7
  have a_f := na_f; clear na_f
  have m_0 := nm_0; clear nm_0
  have m_1 := nm_1; clear nm_1
  have m_f := nm_f; clear nm_f
  have n_0 := nn_0; clear nn_0
  have n_1 := nn_1; clear nn_1
  have n_f := nn_f; clear nn_f
  clear hb B6
  have B7 := Lib.hid hb'
  have hw7 := hb'.size
  clear hb'
  have hsa60 : w.heap.size < w7.heap.size := by omega
  have hsa61 : w.heap.size < w7.heap.size + 1 := by omega
  have hsa62 : w.heap.size < w7.heap.size + 1 + 1 := by omega
  have hsm60 : w4.heap.size + 1 < w7.heap.size := by omega
  have hsm61 : w4.heap.size + 1 < w7.heap.size + 1 := by omega
  have hsm62 : w4.heap.size + 1 < w7.heap.size + 1 + 1 := by omega
  have hsn60 : w6.heap.size < w7.heap.size := by omega
  have hsn61 : w6.heap.size < w7.heap.size + 1 := by omega
  have hsn62 : w6.heap.size < w7.heap.size + 1 + 1 := by omega
  go_wp2_with fail
  go_ret
  exact ⟨ret_bool (by simp), by have := B7.out; go_grown⟩

set_option maxHeartbeats 4000000 in
theorem back_0001 (k mo li sz mt ct ino gn gen boot g2 b2 : Int) (s t : ByteArray) (w : World) (hs : s.size ≤ 1000) (ht : t.size ≤ 1000) (lo_mo : -9223372036854775808 ≤ mo) (hi_mo : mo ≤ 9223372036854775807) (lo_li : -9223372036854775808 ≤ li) (hi_li : li ≤ 9223372036854775807) (lo_sz : -9223372036854775808 ≤ sz) (hi_sz : sz ≤ 9223372036854775807) (lo_mt : -9223372036854775808 ≤ mt) (hi_mt : mt ≤ 9223372036854775807) (lo_ct : -9223372036854775808 ≤ ct) (hi_ct : ct ≤ 9223372036854775807) (lo_ino : -9223372036854775808 ≤ ino) (hi_ino : ino ≤ 9223372036854775807) (lo_gn : -9223372036854775808 ≤ gn) (hi_gn : gn ≤ 9223372036854775807) (lo_gen : -9223372036854775808 ≤ gen) (hi_gen : gen ≤ 9223372036854775807) (lo_boot : -9223372036854775808 ≤ boot) (hi_boot : boot ≤ 9223372036854775807) (HM : mayB k mo li sz mt ct ino gn = false) (HE : encR k mo li sz mt ct ino gn = .tuple #[.string ByteArray.empty, .int .i64 4]) (HD : decR s = .tuple #[.agg #[.int .u8 0, .int .i64 0, .int .i64 0, .int .i64 0, .int .i64 0, .int .i64 0, .int .i64 0, .int .i64 0], .int .i64 4]) (HN : mencR gen boot = .tuple #[.string ByteArray.empty, .int .i64 4]) (lo_g2 : -9223372036854775808 ≤ g2) (hi_g2 : g2 ≤ 9223372036854775807) (lo_b2 : -9223372036854775808 ≤ b2) (hi_b2 : b2 ≤ 9223372036854775807) (HT : decMR t = .tuple #[.agg #[.int .i64 g2, .int .i64 b2], .int .i64 0]) (HT2 : mencR g2 b2 = .tuple #[.string t, .int .i64 0]) :
    Calls Try.prog 7 #[.agg #[.int .u8 k, .int .i64 mo, .int .i64 li, .int .i64 sz, .int .i64 mt, .int .i64 ct, .int .i64 ino, .int .i64 gn], .int .i64 gen, .int .i64 boot, .string s, .string t] w fun e w' => e = .returned (.bool true) ∧ Below w.heap.size w w' := by
  replace HM := Lib.hid HM
  replace HE := Lib.hid HE
  replace HD := Lib.hid HD
  replace HN := Lib.hid HN
  replace HT := Lib.hid HT
  replace HT2 := Lib.hid HT2
  have ls : ¬ ((s.size : Int) > 1000) := by omega
  have lt : ¬ ((t.size : Int) > 1000) := by omega
  go_enter Try.func7, Try.ntmps7
  go_wp2_with fail
  refine (awake20 _).mono ?_
  rintro e w1 ⟨rfl, hb⟩
  have hb' : Below w.heap.size w w1 := Below.trans (by go_grown) (hb.mono (by first | omega | (simp; omega) | simp))
  have hz1 : w.heap.size + 1 ≤ w1.heap.size := by have := hb.size; first | omega | (simp at this; omega)
  have na_0 : w1.cell? ⟨w.heap.size, 0, none⟩ = some (.int .u8 k) := keep1 hb ((cellN _ _ _ _ (by first | rfl | simp) _).trans rfl)
  have na_1 : w1.cell? ⟨w.heap.size, 1, none⟩ = some (.int .i64 mo) := keep1 hb ((cellN _ _ _ _ (by first | rfl | simp) _).trans rfl)
  have na_2 : w1.cell? ⟨w.heap.size, 2, none⟩ = some (.int .i64 li) := keep1 hb ((cellN _ _ _ _ (by first | rfl | simp) _).trans rfl)
  have na_3 : w1.cell? ⟨w.heap.size, 3, none⟩ = some (.int .i64 sz) := keep1 hb ((cellN _ _ _ _ (by first | rfl | simp) _).trans rfl)
  have na_4 : w1.cell? ⟨w.heap.size, 4, none⟩ = some (.int .i64 mt) := keep1 hb ((cellN _ _ _ _ (by first | rfl | simp) _).trans rfl)
  have na_5 : w1.cell? ⟨w.heap.size, 5, none⟩ = some (.int .i64 ct) := keep1 hb ((cellN _ _ _ _ (by first | rfl | simp) _).trans rfl)
  have na_6 : w1.cell? ⟨w.heap.size, 6, none⟩ = some (.int .i64 ino) := keep1 hb ((cellN _ _ _ _ (by first | rfl | simp) _).trans rfl)
  have na_7 : w1.cell? ⟨w.heap.size, 7, none⟩ = some (.int .i64 gn) := keep1 hb ((cellN _ _ _ _ (by first | rfl | simp) _).trans rfl)
  have na_f : ∀ i, w1.frozen? ⟨w.heap.size, i, none⟩ = false := fun i => (hb.frozen (p := ⟨w.heap.size, i, none⟩) (by first | omega | (simp; omega) | simp)).trans (frozN (by first | rfl | simp))
  have a_0 := na_0; clear na_0
  have a_1 := na_1; clear na_1
  have a_2 := na_2; clear na_2
  have a_3 := na_3; clear na_3
  have a_4 := na_4; clear na_4
  have a_5 := na_5; clear na_5
  have a_6 := na_6; clear na_6
  have a_7 := na_7; clear na_7
  have a_f := na_f; clear na_f
  clear hb
  have B1 := Lib.hid hb'
  have hw1 := hb'.size
  clear hb'
  have hsa00 : w.heap.size < w1.heap.size := by omega
  have hsa01 : w.heap.size < w1.heap.size + 1 := by omega
  have hsa02 : w.heap.size < w1.heap.size + 1 + 1 := by omega
  go_wp2_with fail
  refine (encode_any k mo li sz mt ct ino gn _ lo_mo hi_mo lo_li hi_li lo_sz hi_sz lo_mt hi_mt lo_ct hi_ct lo_ino hi_ino lo_gn hi_gn).mono ?_
  rintro e w2 ⟨rfl, hb⟩
  rw [HE.out]
  have hb' : Below w.heap.size w w2 := Below.trans (by have := B1.out; go_grown) (hb.mono (by first | omega | (simp; omega) | simp))
  have hz2 : w1.heap.size ≤ w2.heap.size := by have := hb.size; first | omega | (simp at this; omega)
  have na_0 : w2.cell? ⟨w.heap.size, 0, none⟩ = some (.int .u8 k) := keep1 hb a_0
  have na_1 : w2.cell? ⟨w.heap.size, 1, none⟩ = some (.int .i64 mo) := keep1 hb a_1
  have na_2 : w2.cell? ⟨w.heap.size, 2, none⟩ = some (.int .i64 li) := keep1 hb a_2
  have na_3 : w2.cell? ⟨w.heap.size, 3, none⟩ = some (.int .i64 sz) := keep1 hb a_3
  have na_4 : w2.cell? ⟨w.heap.size, 4, none⟩ = some (.int .i64 mt) := keep1 hb a_4
  have na_5 : w2.cell? ⟨w.heap.size, 5, none⟩ = some (.int .i64 ct) := keep1 hb a_5
  have na_6 : w2.cell? ⟨w.heap.size, 6, none⟩ = some (.int .i64 ino) := keep1 hb a_6
  have na_7 : w2.cell? ⟨w.heap.size, 7, none⟩ = some (.int .i64 gn) := keep1 hb a_7
  have na_f : ∀ i, w2.frozen? ⟨w.heap.size, i, none⟩ = false := fun i => (hb.frozen (p := ⟨w.heap.size, i, none⟩) (by first | omega | (simp; omega) | simp)).trans (a_f i)
  clear a_0 a_1 a_2 a_3 a_4 a_5 a_6 a_7 a_f
  have a_0 := na_0; clear na_0
  have a_1 := na_1; clear na_1
  have a_2 := na_2; clear na_2
  have a_3 := na_3; clear na_3
  have a_4 := na_4; clear na_4
  have a_5 := na_5; clear na_5
  have a_6 := na_6; clear na_6
  have a_7 := na_7; clear na_7
  have a_f := na_f; clear na_f
  clear hb B1
  have B2 := Lib.hid hb'
  have hw2 := hb'.size
  clear hb'
  have hsa10 : w.heap.size < w2.heap.size := by omega
  have hsa11 : w.heap.size < w2.heap.size + 1 := by omega
  have hsa12 : w.heap.size < w2.heap.size + 1 + 1 := by omega
  go_wp2_with fail
  refine (may_any _ _ _ _ _ _ _ _ _).mono ?_
  rintro e w3 ⟨rfl, hb⟩
  rw [HM.out]
  have hb' : Below w.heap.size w w3 := Below.trans (by have := B2.out; go_grown) (hb.mono (by first | omega | (simp; omega) | simp))
  have hz3 : w2.heap.size ≤ w3.heap.size := by have := hb.size; first | omega | (simp at this; omega)
  have na_0 : w3.cell? ⟨w.heap.size, 0, none⟩ = some (.int .u8 k) := keep1 hb a_0
  have na_1 : w3.cell? ⟨w.heap.size, 1, none⟩ = some (.int .i64 mo) := keep1 hb a_1
  have na_2 : w3.cell? ⟨w.heap.size, 2, none⟩ = some (.int .i64 li) := keep1 hb a_2
  have na_3 : w3.cell? ⟨w.heap.size, 3, none⟩ = some (.int .i64 sz) := keep1 hb a_3
  have na_4 : w3.cell? ⟨w.heap.size, 4, none⟩ = some (.int .i64 mt) := keep1 hb a_4
  have na_5 : w3.cell? ⟨w.heap.size, 5, none⟩ = some (.int .i64 ct) := keep1 hb a_5
  have na_6 : w3.cell? ⟨w.heap.size, 6, none⟩ = some (.int .i64 ino) := keep1 hb a_6
  have na_7 : w3.cell? ⟨w.heap.size, 7, none⟩ = some (.int .i64 gn) := keep1 hb a_7
  have na_f : ∀ i, w3.frozen? ⟨w.heap.size, i, none⟩ = false := fun i => (hb.frozen (p := ⟨w.heap.size, i, none⟩) (by first | omega | (simp; omega) | simp)).trans (a_f i)
  clear a_0 a_1 a_2 a_3 a_4 a_5 a_6 a_7 a_f
  have a_0 := na_0; clear na_0
  have a_1 := na_1; clear na_1
  have a_2 := na_2; clear na_2
  have a_3 := na_3; clear na_3
  have a_4 := na_4; clear na_4
  have a_5 := na_5; clear na_5
  have a_6 := na_6; clear na_6
  have a_7 := na_7; clear na_7
  have a_f := na_f; clear na_f
  clear hb B2
  have B3 := Lib.hid hb'
  have hw3 := hb'.size
  clear hb'
  have hsa20 : w.heap.size < w3.heap.size := by omega
  have hsa21 : w.heap.size < w3.heap.size + 1 := by omega
  have hsa22 : w.heap.size < w3.heap.size + 1 + 1 := by omega
  go_wp2_with fail
  refine (decode_any _ _).mono ?_
  rintro e w4 ⟨rfl, hb⟩
  rw [HD.out]
  have hb' : Below w.heap.size w w4 := Below.trans (by have := B3.out; go_grown) (hb.mono (by first | omega | (simp; omega) | simp))
  have hz4 : w3.heap.size ≤ w4.heap.size := by have := hb.size; first | omega | (simp at this; omega)
  have na_0 : w4.cell? ⟨w.heap.size, 0, none⟩ = some (.int .u8 k) := keep1 hb a_0
  have na_1 : w4.cell? ⟨w.heap.size, 1, none⟩ = some (.int .i64 mo) := keep1 hb a_1
  have na_2 : w4.cell? ⟨w.heap.size, 2, none⟩ = some (.int .i64 li) := keep1 hb a_2
  have na_3 : w4.cell? ⟨w.heap.size, 3, none⟩ = some (.int .i64 sz) := keep1 hb a_3
  have na_4 : w4.cell? ⟨w.heap.size, 4, none⟩ = some (.int .i64 mt) := keep1 hb a_4
  have na_5 : w4.cell? ⟨w.heap.size, 5, none⟩ = some (.int .i64 ct) := keep1 hb a_5
  have na_6 : w4.cell? ⟨w.heap.size, 6, none⟩ = some (.int .i64 ino) := keep1 hb a_6
  have na_7 : w4.cell? ⟨w.heap.size, 7, none⟩ = some (.int .i64 gn) := keep1 hb a_7
  have na_f : ∀ i, w4.frozen? ⟨w.heap.size, i, none⟩ = false := fun i => (hb.frozen (p := ⟨w.heap.size, i, none⟩) (by first | omega | (simp; omega) | simp)).trans (a_f i)
  clear a_0 a_1 a_2 a_3 a_4 a_5 a_6 a_7 a_f
  have a_0 := na_0; clear na_0
  have a_1 := na_1; clear na_1
  have a_2 := na_2; clear na_2
  have a_3 := na_3; clear na_3
  have a_4 := na_4; clear na_4
  have a_5 := na_5; clear na_5
  have a_6 := na_6; clear na_6
  have a_7 := na_7; clear na_7
  have a_f := na_f; clear na_f
  clear hb B3
  have B4 := Lib.hid hb'
  have hw4 := hb'.size
  clear hb'
  have hsa30 : w.heap.size < w4.heap.size := by omega
  have hsa31 : w.heap.size < w4.heap.size + 1 := by omega
  have hsa32 : w.heap.size < w4.heap.size + 1 + 1 := by omega
  go_wp2_with fail
  refine (encmeta_any gen boot _ lo_gen hi_gen lo_boot hi_boot).mono ?_
  rintro e w5 ⟨rfl, hb⟩
  rw [HN.out]
  have hb' : Below w.heap.size w w5 := Below.trans (by have := B4.out; go_grown) (hb.mono (by first | omega | (simp; omega) | simp))
  have hz5 : w4.heap.size + 2 ≤ w5.heap.size := by have := hb.size; first | omega | (simp at this; omega)
  have na_0 : w5.cell? ⟨w.heap.size, 0, none⟩ = some (.int .u8 k) := keep1 hb (cellP (by first | omega | (simp; omega) | simp) (cellP (by first | omega | (simp; omega) | simp) a_0))
  have na_1 : w5.cell? ⟨w.heap.size, 1, none⟩ = some (.int .i64 mo) := keep1 hb (cellP (by first | omega | (simp; omega) | simp) (cellP (by first | omega | (simp; omega) | simp) a_1))
  have na_2 : w5.cell? ⟨w.heap.size, 2, none⟩ = some (.int .i64 li) := keep1 hb (cellP (by first | omega | (simp; omega) | simp) (cellP (by first | omega | (simp; omega) | simp) a_2))
  have na_3 : w5.cell? ⟨w.heap.size, 3, none⟩ = some (.int .i64 sz) := keep1 hb (cellP (by first | omega | (simp; omega) | simp) (cellP (by first | omega | (simp; omega) | simp) a_3))
  have na_4 : w5.cell? ⟨w.heap.size, 4, none⟩ = some (.int .i64 mt) := keep1 hb (cellP (by first | omega | (simp; omega) | simp) (cellP (by first | omega | (simp; omega) | simp) a_4))
  have na_5 : w5.cell? ⟨w.heap.size, 5, none⟩ = some (.int .i64 ct) := keep1 hb (cellP (by first | omega | (simp; omega) | simp) (cellP (by first | omega | (simp; omega) | simp) a_5))
  have na_6 : w5.cell? ⟨w.heap.size, 6, none⟩ = some (.int .i64 ino) := keep1 hb (cellP (by first | omega | (simp; omega) | simp) (cellP (by first | omega | (simp; omega) | simp) a_6))
  have na_7 : w5.cell? ⟨w.heap.size, 7, none⟩ = some (.int .i64 gn) := keep1 hb (cellP (by first | omega | (simp; omega) | simp) (cellP (by first | omega | (simp; omega) | simp) a_7))
  have na_f : ∀ i, w5.frozen? ⟨w.heap.size, i, none⟩ = false := fun i => (hb.frozen (p := ⟨w.heap.size, i, none⟩) (by first | omega | (simp; omega) | simp)).trans (frozP (by first | omega | (simp; omega) | simp) (frozP (by first | omega | (simp; omega) | simp) (a_f i)))
  have nm_0 : w5.cell? ⟨w4.heap.size + 1, 0, none⟩ = some (.int .i64 gen) := keep1 hb ((cellN _ _ _ _ (by first | rfl | simp) _).trans rfl)
  have nm_1 : w5.cell? ⟨w4.heap.size + 1, 1, none⟩ = some (.int .i64 boot) := keep1 hb ((cellN _ _ _ _ (by first | rfl | simp) _).trans rfl)
  have nm_f : ∀ i, w5.frozen? ⟨w4.heap.size + 1, i, none⟩ = false := fun i => (hb.frozen (p := ⟨w4.heap.size + 1, i, none⟩) (by first | omega | (simp; omega) | simp)).trans (frozN (by first | rfl | simp))
  clear a_0 a_1 a_2 a_3 a_4 a_5 a_6 a_7 a_f
  have a_0 := na_0; clear na_0
  have a_1 := na_1; clear na_1
  have a_2 := na_2; clear na_2
  have a_3 := na_3; clear na_3
  have a_4 := na_4; clear na_4
  have a_5 := na_5; clear na_5
  have a_6 := na_6; clear na_6
  have a_7 := na_7; clear na_7
  have a_f := na_f; clear na_f
  have m_0 := nm_0; clear nm_0
  have m_1 := nm_1; clear nm_1
  have m_f := nm_f; clear nm_f
  clear hb B4
  have B5 := Lib.hid hb'
  have hw5 := hb'.size
  clear hb'
  have hsa40 : w.heap.size < w5.heap.size := by omega
  have hsa41 : w.heap.size < w5.heap.size + 1 := by omega
  have hsa42 : w.heap.size < w5.heap.size + 1 + 1 := by omega
  have hsm40 : w4.heap.size + 1 < w5.heap.size := by omega
  have hsm41 : w4.heap.size + 1 < w5.heap.size + 1 := by omega
  have hsm42 : w4.heap.size + 1 < w5.heap.size + 1 + 1 := by omega
  go_wp2_with fail
  refine (decmeta_any _ _).mono ?_
  rintro e w6 ⟨rfl, hb⟩
  rw [HT.out]
  have hb' : Below w.heap.size w w6 := Below.trans (by have := B5.out; go_grown) (hb.mono (by first | omega | (simp; omega) | simp))
  have hz6 : w5.heap.size ≤ w6.heap.size := by have := hb.size; first | omega | (simp at this; omega)
  have na_0 : w6.cell? ⟨w.heap.size, 0, none⟩ = some (.int .u8 k) := keep1 hb a_0
  have na_1 : w6.cell? ⟨w.heap.size, 1, none⟩ = some (.int .i64 mo) := keep1 hb a_1
  have na_2 : w6.cell? ⟨w.heap.size, 2, none⟩ = some (.int .i64 li) := keep1 hb a_2
  have na_3 : w6.cell? ⟨w.heap.size, 3, none⟩ = some (.int .i64 sz) := keep1 hb a_3
  have na_4 : w6.cell? ⟨w.heap.size, 4, none⟩ = some (.int .i64 mt) := keep1 hb a_4
  have na_5 : w6.cell? ⟨w.heap.size, 5, none⟩ = some (.int .i64 ct) := keep1 hb a_5
  have na_6 : w6.cell? ⟨w.heap.size, 6, none⟩ = some (.int .i64 ino) := keep1 hb a_6
  have na_7 : w6.cell? ⟨w.heap.size, 7, none⟩ = some (.int .i64 gn) := keep1 hb a_7
  have na_f : ∀ i, w6.frozen? ⟨w.heap.size, i, none⟩ = false := fun i => (hb.frozen (p := ⟨w.heap.size, i, none⟩) (by first | omega | (simp; omega) | simp)).trans (a_f i)
  have nm_0 : w6.cell? ⟨w4.heap.size + 1, 0, none⟩ = some (.int .i64 gen) := keep1 hb m_0
  have nm_1 : w6.cell? ⟨w4.heap.size + 1, 1, none⟩ = some (.int .i64 boot) := keep1 hb m_1
  have nm_f : ∀ i, w6.frozen? ⟨w4.heap.size + 1, i, none⟩ = false := fun i => (hb.frozen (p := ⟨w4.heap.size + 1, i, none⟩) (by first | omega | (simp; omega) | simp)).trans (m_f i)
  clear a_0 a_1 a_2 a_3 a_4 a_5 a_6 a_7 a_f m_0 m_1 m_f
  have a_0 := na_0; clear na_0
  have a_1 := na_1; clear na_1
  have a_2 := na_2; clear na_2
  have a_3 := na_3; clear na_3
  have a_4 := na_4; clear na_4
  have a_5 := na_5; clear na_5
  have a_6 := na_6; clear na_6
  have a_7 := na_7; clear na_7
  have a_f := na_f; clear na_f
  have m_0 := nm_0; clear nm_0
  have m_1 := nm_1; clear nm_1
  have m_f := nm_f; clear nm_f
  clear hb B5
  have B6 := Lib.hid hb'
  have hw6 := hb'.size
  clear hb'
  have hsa50 : w.heap.size < w6.heap.size := by omega
  have hsa51 : w.heap.size < w6.heap.size + 1 := by omega
  have hsa52 : w.heap.size < w6.heap.size + 1 + 1 := by omega
  have hsm50 : w4.heap.size + 1 < w6.heap.size := by omega
  have hsm51 : w4.heap.size + 1 < w6.heap.size + 1 := by omega
  have hsm52 : w4.heap.size + 1 < w6.heap.size + 1 + 1 := by omega
  go_wp2_with fail
  refine (encmeta_any g2 b2 _ lo_g2 hi_g2 lo_b2 hi_b2).mono ?_
  rintro e w7 ⟨rfl, hb⟩
  rw [HT2.out]
  have hb' : Below w.heap.size w w7 := Below.trans (by have := B6.out; go_grown) (hb.mono (by first | omega | (simp; omega) | simp))
  have hz7 : w6.heap.size + 1 ≤ w7.heap.size := by have := hb.size; first | omega | (simp at this; omega)
  have na_0 : w7.cell? ⟨w.heap.size, 0, none⟩ = some (.int .u8 k) := keep1 hb (cellP (by first | omega | (simp; omega) | simp) a_0)
  have na_1 : w7.cell? ⟨w.heap.size, 1, none⟩ = some (.int .i64 mo) := keep1 hb (cellP (by first | omega | (simp; omega) | simp) a_1)
  have na_2 : w7.cell? ⟨w.heap.size, 2, none⟩ = some (.int .i64 li) := keep1 hb (cellP (by first | omega | (simp; omega) | simp) a_2)
  have na_3 : w7.cell? ⟨w.heap.size, 3, none⟩ = some (.int .i64 sz) := keep1 hb (cellP (by first | omega | (simp; omega) | simp) a_3)
  have na_4 : w7.cell? ⟨w.heap.size, 4, none⟩ = some (.int .i64 mt) := keep1 hb (cellP (by first | omega | (simp; omega) | simp) a_4)
  have na_5 : w7.cell? ⟨w.heap.size, 5, none⟩ = some (.int .i64 ct) := keep1 hb (cellP (by first | omega | (simp; omega) | simp) a_5)
  have na_6 : w7.cell? ⟨w.heap.size, 6, none⟩ = some (.int .i64 ino) := keep1 hb (cellP (by first | omega | (simp; omega) | simp) a_6)
  have na_7 : w7.cell? ⟨w.heap.size, 7, none⟩ = some (.int .i64 gn) := keep1 hb (cellP (by first | omega | (simp; omega) | simp) a_7)
  have na_f : ∀ i, w7.frozen? ⟨w.heap.size, i, none⟩ = false := fun i => (hb.frozen (p := ⟨w.heap.size, i, none⟩) (by first | omega | (simp; omega) | simp)).trans (frozP (by first | omega | (simp; omega) | simp) (a_f i))
  have nm_0 : w7.cell? ⟨w4.heap.size + 1, 0, none⟩ = some (.int .i64 gen) := keep1 hb (cellP (by first | omega | (simp; omega) | simp) m_0)
  have nm_1 : w7.cell? ⟨w4.heap.size + 1, 1, none⟩ = some (.int .i64 boot) := keep1 hb (cellP (by first | omega | (simp; omega) | simp) m_1)
  have nm_f : ∀ i, w7.frozen? ⟨w4.heap.size + 1, i, none⟩ = false := fun i => (hb.frozen (p := ⟨w4.heap.size + 1, i, none⟩) (by first | omega | (simp; omega) | simp)).trans (frozP (by first | omega | (simp; omega) | simp) (m_f i))
  have nn2_0 : w7.cell? ⟨w6.heap.size, 0, none⟩ = some (.int .i64 g2) := keep1 hb ((cellN _ _ _ _ (by first | rfl | simp) _).trans rfl)
  have nn2_1 : w7.cell? ⟨w6.heap.size, 1, none⟩ = some (.int .i64 b2) := keep1 hb ((cellN _ _ _ _ (by first | rfl | simp) _).trans rfl)
  have nn2_f : ∀ i, w7.frozen? ⟨w6.heap.size, i, none⟩ = false := fun i => (hb.frozen (p := ⟨w6.heap.size, i, none⟩) (by first | omega | (simp; omega) | simp)).trans (frozN (by first | rfl | simp))
  clear a_0 a_1 a_2 a_3 a_4 a_5 a_6 a_7 a_f m_0 m_1 m_f
  have a_0 := na_0; clear na_0
  have a_1 := na_1; clear na_1
  have a_2 := na_2; clear na_2
  have a_3 := na_3; clear na_3
  have a_4 := na_4; clear na_4
  have a_5 := na_5; clear na_5
  have a_6 := na_6; clear na_6
  have a_7 := na_7; clear na_7
  have a_f := na_f; clear na_f
  have m_0 := nm_0; clear nm_0
  have m_1 := nm_1; clear nm_1
  have m_f := nm_f; clear nm_f
  have n2_0 := nn2_0; clear nn2_0
  have n2_1 := nn2_1; clear nn2_1
  have n2_f := nn2_f; clear nn2_f
  clear hb B6
  have B7 := Lib.hid hb'
  have hw7 := hb'.size
  clear hb'
  have hsa60 : w.heap.size < w7.heap.size := by omega
  have hsa61 : w.heap.size < w7.heap.size + 1 := by omega
  have hsa62 : w.heap.size < w7.heap.size + 1 + 1 := by omega
  have hsm60 : w4.heap.size + 1 < w7.heap.size := by omega
  have hsm61 : w4.heap.size + 1 < w7.heap.size + 1 := by omega
  have hsm62 : w4.heap.size + 1 < w7.heap.size + 1 + 1 := by omega
  have hsn260 : w6.heap.size < w7.heap.size := by omega
  have hsn261 : w6.heap.size < w7.heap.size + 1 := by omega
  have hsn262 : w6.heap.size < w7.heap.size + 1 + 1 := by omega
  go_wp2_with fail
  go_ret
  exact ⟨ret_bool (by simp), by have := B7.out; go_grown⟩

set_option maxHeartbeats 4000000 in
theorem back_0000 (k mo li sz mt ct ino gn gen boot : Int) (s t : ByteArray) (w : World) (hs : s.size ≤ 1000) (ht : t.size ≤ 1000) (lo_mo : -9223372036854775808 ≤ mo) (hi_mo : mo ≤ 9223372036854775807) (lo_li : -9223372036854775808 ≤ li) (hi_li : li ≤ 9223372036854775807) (lo_sz : -9223372036854775808 ≤ sz) (hi_sz : sz ≤ 9223372036854775807) (lo_mt : -9223372036854775808 ≤ mt) (hi_mt : mt ≤ 9223372036854775807) (lo_ct : -9223372036854775808 ≤ ct) (hi_ct : ct ≤ 9223372036854775807) (lo_ino : -9223372036854775808 ≤ ino) (hi_ino : ino ≤ 9223372036854775807) (lo_gn : -9223372036854775808 ≤ gn) (hi_gn : gn ≤ 9223372036854775807) (lo_gen : -9223372036854775808 ≤ gen) (hi_gen : gen ≤ 9223372036854775807) (lo_boot : -9223372036854775808 ≤ boot) (hi_boot : boot ≤ 9223372036854775807) (HM : mayB k mo li sz mt ct ino gn = false) (HE : encR k mo li sz mt ct ino gn = .tuple #[.string ByteArray.empty, .int .i64 4]) (HD : decR s = .tuple #[.agg #[.int .u8 0, .int .i64 0, .int .i64 0, .int .i64 0, .int .i64 0, .int .i64 0, .int .i64 0, .int .i64 0], .int .i64 4]) (HN : mencR gen boot = .tuple #[.string ByteArray.empty, .int .i64 4]) (HT : decMR t = .tuple #[.agg #[.int .i64 0, .int .i64 0], .int .i64 4]) :
    Calls Try.prog 7 #[.agg #[.int .u8 k, .int .i64 mo, .int .i64 li, .int .i64 sz, .int .i64 mt, .int .i64 ct, .int .i64 ino, .int .i64 gn], .int .i64 gen, .int .i64 boot, .string s, .string t] w fun e w' => e = .returned (.bool true) ∧ Below w.heap.size w w' := by
  replace HM := Lib.hid HM
  replace HE := Lib.hid HE
  replace HD := Lib.hid HD
  replace HN := Lib.hid HN
  replace HT := Lib.hid HT
  have ls : ¬ ((s.size : Int) > 1000) := by omega
  have lt : ¬ ((t.size : Int) > 1000) := by omega
  go_enter Try.func7, Try.ntmps7
  go_wp2_with fail
  refine (awake20 _).mono ?_
  rintro e w1 ⟨rfl, hb⟩
  have hb' : Below w.heap.size w w1 := Below.trans (by go_grown) (hb.mono (by first | omega | (simp; omega) | simp))
  have hz1 : w.heap.size + 1 ≤ w1.heap.size := by have := hb.size; first | omega | (simp at this; omega)
  have na_0 : w1.cell? ⟨w.heap.size, 0, none⟩ = some (.int .u8 k) := keep1 hb ((cellN _ _ _ _ (by first | rfl | simp) _).trans rfl)
  have na_1 : w1.cell? ⟨w.heap.size, 1, none⟩ = some (.int .i64 mo) := keep1 hb ((cellN _ _ _ _ (by first | rfl | simp) _).trans rfl)
  have na_2 : w1.cell? ⟨w.heap.size, 2, none⟩ = some (.int .i64 li) := keep1 hb ((cellN _ _ _ _ (by first | rfl | simp) _).trans rfl)
  have na_3 : w1.cell? ⟨w.heap.size, 3, none⟩ = some (.int .i64 sz) := keep1 hb ((cellN _ _ _ _ (by first | rfl | simp) _).trans rfl)
  have na_4 : w1.cell? ⟨w.heap.size, 4, none⟩ = some (.int .i64 mt) := keep1 hb ((cellN _ _ _ _ (by first | rfl | simp) _).trans rfl)
  have na_5 : w1.cell? ⟨w.heap.size, 5, none⟩ = some (.int .i64 ct) := keep1 hb ((cellN _ _ _ _ (by first | rfl | simp) _).trans rfl)
  have na_6 : w1.cell? ⟨w.heap.size, 6, none⟩ = some (.int .i64 ino) := keep1 hb ((cellN _ _ _ _ (by first | rfl | simp) _).trans rfl)
  have na_7 : w1.cell? ⟨w.heap.size, 7, none⟩ = some (.int .i64 gn) := keep1 hb ((cellN _ _ _ _ (by first | rfl | simp) _).trans rfl)
  have na_f : ∀ i, w1.frozen? ⟨w.heap.size, i, none⟩ = false := fun i => (hb.frozen (p := ⟨w.heap.size, i, none⟩) (by first | omega | (simp; omega) | simp)).trans (frozN (by first | rfl | simp))
  have a_0 := na_0; clear na_0
  have a_1 := na_1; clear na_1
  have a_2 := na_2; clear na_2
  have a_3 := na_3; clear na_3
  have a_4 := na_4; clear na_4
  have a_5 := na_5; clear na_5
  have a_6 := na_6; clear na_6
  have a_7 := na_7; clear na_7
  have a_f := na_f; clear na_f
  clear hb
  have B1 := Lib.hid hb'
  have hw1 := hb'.size
  clear hb'
  have hsa00 : w.heap.size < w1.heap.size := by omega
  have hsa01 : w.heap.size < w1.heap.size + 1 := by omega
  have hsa02 : w.heap.size < w1.heap.size + 1 + 1 := by omega
  go_wp2_with fail
  refine (encode_any k mo li sz mt ct ino gn _ lo_mo hi_mo lo_li hi_li lo_sz hi_sz lo_mt hi_mt lo_ct hi_ct lo_ino hi_ino lo_gn hi_gn).mono ?_
  rintro e w2 ⟨rfl, hb⟩
  rw [HE.out]
  have hb' : Below w.heap.size w w2 := Below.trans (by have := B1.out; go_grown) (hb.mono (by first | omega | (simp; omega) | simp))
  have hz2 : w1.heap.size ≤ w2.heap.size := by have := hb.size; first | omega | (simp at this; omega)
  have na_0 : w2.cell? ⟨w.heap.size, 0, none⟩ = some (.int .u8 k) := keep1 hb a_0
  have na_1 : w2.cell? ⟨w.heap.size, 1, none⟩ = some (.int .i64 mo) := keep1 hb a_1
  have na_2 : w2.cell? ⟨w.heap.size, 2, none⟩ = some (.int .i64 li) := keep1 hb a_2
  have na_3 : w2.cell? ⟨w.heap.size, 3, none⟩ = some (.int .i64 sz) := keep1 hb a_3
  have na_4 : w2.cell? ⟨w.heap.size, 4, none⟩ = some (.int .i64 mt) := keep1 hb a_4
  have na_5 : w2.cell? ⟨w.heap.size, 5, none⟩ = some (.int .i64 ct) := keep1 hb a_5
  have na_6 : w2.cell? ⟨w.heap.size, 6, none⟩ = some (.int .i64 ino) := keep1 hb a_6
  have na_7 : w2.cell? ⟨w.heap.size, 7, none⟩ = some (.int .i64 gn) := keep1 hb a_7
  have na_f : ∀ i, w2.frozen? ⟨w.heap.size, i, none⟩ = false := fun i => (hb.frozen (p := ⟨w.heap.size, i, none⟩) (by first | omega | (simp; omega) | simp)).trans (a_f i)
  clear a_0 a_1 a_2 a_3 a_4 a_5 a_6 a_7 a_f
  have a_0 := na_0; clear na_0
  have a_1 := na_1; clear na_1
  have a_2 := na_2; clear na_2
  have a_3 := na_3; clear na_3
  have a_4 := na_4; clear na_4
  have a_5 := na_5; clear na_5
  have a_6 := na_6; clear na_6
  have a_7 := na_7; clear na_7
  have a_f := na_f; clear na_f
  clear hb B1
  have B2 := Lib.hid hb'
  have hw2 := hb'.size
  clear hb'
  have hsa10 : w.heap.size < w2.heap.size := by omega
  have hsa11 : w.heap.size < w2.heap.size + 1 := by omega
  have hsa12 : w.heap.size < w2.heap.size + 1 + 1 := by omega
  go_wp2_with fail
  refine (may_any _ _ _ _ _ _ _ _ _).mono ?_
  rintro e w3 ⟨rfl, hb⟩
  rw [HM.out]
  have hb' : Below w.heap.size w w3 := Below.trans (by have := B2.out; go_grown) (hb.mono (by first | omega | (simp; omega) | simp))
  have hz3 : w2.heap.size ≤ w3.heap.size := by have := hb.size; first | omega | (simp at this; omega)
  have na_0 : w3.cell? ⟨w.heap.size, 0, none⟩ = some (.int .u8 k) := keep1 hb a_0
  have na_1 : w3.cell? ⟨w.heap.size, 1, none⟩ = some (.int .i64 mo) := keep1 hb a_1
  have na_2 : w3.cell? ⟨w.heap.size, 2, none⟩ = some (.int .i64 li) := keep1 hb a_2
  have na_3 : w3.cell? ⟨w.heap.size, 3, none⟩ = some (.int .i64 sz) := keep1 hb a_3
  have na_4 : w3.cell? ⟨w.heap.size, 4, none⟩ = some (.int .i64 mt) := keep1 hb a_4
  have na_5 : w3.cell? ⟨w.heap.size, 5, none⟩ = some (.int .i64 ct) := keep1 hb a_5
  have na_6 : w3.cell? ⟨w.heap.size, 6, none⟩ = some (.int .i64 ino) := keep1 hb a_6
  have na_7 : w3.cell? ⟨w.heap.size, 7, none⟩ = some (.int .i64 gn) := keep1 hb a_7
  have na_f : ∀ i, w3.frozen? ⟨w.heap.size, i, none⟩ = false := fun i => (hb.frozen (p := ⟨w.heap.size, i, none⟩) (by first | omega | (simp; omega) | simp)).trans (a_f i)
  clear a_0 a_1 a_2 a_3 a_4 a_5 a_6 a_7 a_f
  have a_0 := na_0; clear na_0
  have a_1 := na_1; clear na_1
  have a_2 := na_2; clear na_2
  have a_3 := na_3; clear na_3
  have a_4 := na_4; clear na_4
  have a_5 := na_5; clear na_5
  have a_6 := na_6; clear na_6
  have a_7 := na_7; clear na_7
  have a_f := na_f; clear na_f
  clear hb B2
  have B3 := Lib.hid hb'
  have hw3 := hb'.size
  clear hb'
  have hsa20 : w.heap.size < w3.heap.size := by omega
  have hsa21 : w.heap.size < w3.heap.size + 1 := by omega
  have hsa22 : w.heap.size < w3.heap.size + 1 + 1 := by omega
  go_wp2_with fail
  refine (decode_any _ _).mono ?_
  rintro e w4 ⟨rfl, hb⟩
  rw [HD.out]
  have hb' : Below w.heap.size w w4 := Below.trans (by have := B3.out; go_grown) (hb.mono (by first | omega | (simp; omega) | simp))
  have hz4 : w3.heap.size ≤ w4.heap.size := by have := hb.size; first | omega | (simp at this; omega)
  have na_0 : w4.cell? ⟨w.heap.size, 0, none⟩ = some (.int .u8 k) := keep1 hb a_0
  have na_1 : w4.cell? ⟨w.heap.size, 1, none⟩ = some (.int .i64 mo) := keep1 hb a_1
  have na_2 : w4.cell? ⟨w.heap.size, 2, none⟩ = some (.int .i64 li) := keep1 hb a_2
  have na_3 : w4.cell? ⟨w.heap.size, 3, none⟩ = some (.int .i64 sz) := keep1 hb a_3
  have na_4 : w4.cell? ⟨w.heap.size, 4, none⟩ = some (.int .i64 mt) := keep1 hb a_4
  have na_5 : w4.cell? ⟨w.heap.size, 5, none⟩ = some (.int .i64 ct) := keep1 hb a_5
  have na_6 : w4.cell? ⟨w.heap.size, 6, none⟩ = some (.int .i64 ino) := keep1 hb a_6
  have na_7 : w4.cell? ⟨w.heap.size, 7, none⟩ = some (.int .i64 gn) := keep1 hb a_7
  have na_f : ∀ i, w4.frozen? ⟨w.heap.size, i, none⟩ = false := fun i => (hb.frozen (p := ⟨w.heap.size, i, none⟩) (by first | omega | (simp; omega) | simp)).trans (a_f i)
  clear a_0 a_1 a_2 a_3 a_4 a_5 a_6 a_7 a_f
  have a_0 := na_0; clear na_0
  have a_1 := na_1; clear na_1
  have a_2 := na_2; clear na_2
  have a_3 := na_3; clear na_3
  have a_4 := na_4; clear na_4
  have a_5 := na_5; clear na_5
  have a_6 := na_6; clear na_6
  have a_7 := na_7; clear na_7
  have a_f := na_f; clear na_f
  clear hb B3
  have B4 := Lib.hid hb'
  have hw4 := hb'.size
  clear hb'
  have hsa30 : w.heap.size < w4.heap.size := by omega
  have hsa31 : w.heap.size < w4.heap.size + 1 := by omega
  have hsa32 : w.heap.size < w4.heap.size + 1 + 1 := by omega
  go_wp2_with fail
  refine (encmeta_any gen boot _ lo_gen hi_gen lo_boot hi_boot).mono ?_
  rintro e w5 ⟨rfl, hb⟩
  rw [HN.out]
  have hb' : Below w.heap.size w w5 := Below.trans (by have := B4.out; go_grown) (hb.mono (by first | omega | (simp; omega) | simp))
  have hz5 : w4.heap.size + 2 ≤ w5.heap.size := by have := hb.size; first | omega | (simp at this; omega)
  have na_0 : w5.cell? ⟨w.heap.size, 0, none⟩ = some (.int .u8 k) := keep1 hb (cellP (by first | omega | (simp; omega) | simp) (cellP (by first | omega | (simp; omega) | simp) a_0))
  have na_1 : w5.cell? ⟨w.heap.size, 1, none⟩ = some (.int .i64 mo) := keep1 hb (cellP (by first | omega | (simp; omega) | simp) (cellP (by first | omega | (simp; omega) | simp) a_1))
  have na_2 : w5.cell? ⟨w.heap.size, 2, none⟩ = some (.int .i64 li) := keep1 hb (cellP (by first | omega | (simp; omega) | simp) (cellP (by first | omega | (simp; omega) | simp) a_2))
  have na_3 : w5.cell? ⟨w.heap.size, 3, none⟩ = some (.int .i64 sz) := keep1 hb (cellP (by first | omega | (simp; omega) | simp) (cellP (by first | omega | (simp; omega) | simp) a_3))
  have na_4 : w5.cell? ⟨w.heap.size, 4, none⟩ = some (.int .i64 mt) := keep1 hb (cellP (by first | omega | (simp; omega) | simp) (cellP (by first | omega | (simp; omega) | simp) a_4))
  have na_5 : w5.cell? ⟨w.heap.size, 5, none⟩ = some (.int .i64 ct) := keep1 hb (cellP (by first | omega | (simp; omega) | simp) (cellP (by first | omega | (simp; omega) | simp) a_5))
  have na_6 : w5.cell? ⟨w.heap.size, 6, none⟩ = some (.int .i64 ino) := keep1 hb (cellP (by first | omega | (simp; omega) | simp) (cellP (by first | omega | (simp; omega) | simp) a_6))
  have na_7 : w5.cell? ⟨w.heap.size, 7, none⟩ = some (.int .i64 gn) := keep1 hb (cellP (by first | omega | (simp; omega) | simp) (cellP (by first | omega | (simp; omega) | simp) a_7))
  have na_f : ∀ i, w5.frozen? ⟨w.heap.size, i, none⟩ = false := fun i => (hb.frozen (p := ⟨w.heap.size, i, none⟩) (by first | omega | (simp; omega) | simp)).trans (frozP (by first | omega | (simp; omega) | simp) (frozP (by first | omega | (simp; omega) | simp) (a_f i)))
  have nm_0 : w5.cell? ⟨w4.heap.size + 1, 0, none⟩ = some (.int .i64 gen) := keep1 hb ((cellN _ _ _ _ (by first | rfl | simp) _).trans rfl)
  have nm_1 : w5.cell? ⟨w4.heap.size + 1, 1, none⟩ = some (.int .i64 boot) := keep1 hb ((cellN _ _ _ _ (by first | rfl | simp) _).trans rfl)
  have nm_f : ∀ i, w5.frozen? ⟨w4.heap.size + 1, i, none⟩ = false := fun i => (hb.frozen (p := ⟨w4.heap.size + 1, i, none⟩) (by first | omega | (simp; omega) | simp)).trans (frozN (by first | rfl | simp))
  clear a_0 a_1 a_2 a_3 a_4 a_5 a_6 a_7 a_f
  have a_0 := na_0; clear na_0
  have a_1 := na_1; clear na_1
  have a_2 := na_2; clear na_2
  have a_3 := na_3; clear na_3
  have a_4 := na_4; clear na_4
  have a_5 := na_5; clear na_5
  have a_6 := na_6; clear na_6
  have a_7 := na_7; clear na_7
  have a_f := na_f; clear na_f
  have m_0 := nm_0; clear nm_0
  have m_1 := nm_1; clear nm_1
  have m_f := nm_f; clear nm_f
  clear hb B4
  have B5 := Lib.hid hb'
  have hw5 := hb'.size
  clear hb'
  have hsa40 : w.heap.size < w5.heap.size := by omega
  have hsa41 : w.heap.size < w5.heap.size + 1 := by omega
  have hsa42 : w.heap.size < w5.heap.size + 1 + 1 := by omega
  have hsm40 : w4.heap.size + 1 < w5.heap.size := by omega
  have hsm41 : w4.heap.size + 1 < w5.heap.size + 1 := by omega
  have hsm42 : w4.heap.size + 1 < w5.heap.size + 1 + 1 := by omega
  go_wp2_with fail
  refine (decmeta_any _ _).mono ?_
  rintro e w6 ⟨rfl, hb⟩
  rw [HT.out]
  have hb' : Below w.heap.size w w6 := Below.trans (by have := B5.out; go_grown) (hb.mono (by first | omega | (simp; omega) | simp))
  have hz6 : w5.heap.size ≤ w6.heap.size := by have := hb.size; first | omega | (simp at this; omega)
  have na_0 : w6.cell? ⟨w.heap.size, 0, none⟩ = some (.int .u8 k) := keep1 hb a_0
  have na_1 : w6.cell? ⟨w.heap.size, 1, none⟩ = some (.int .i64 mo) := keep1 hb a_1
  have na_2 : w6.cell? ⟨w.heap.size, 2, none⟩ = some (.int .i64 li) := keep1 hb a_2
  have na_3 : w6.cell? ⟨w.heap.size, 3, none⟩ = some (.int .i64 sz) := keep1 hb a_3
  have na_4 : w6.cell? ⟨w.heap.size, 4, none⟩ = some (.int .i64 mt) := keep1 hb a_4
  have na_5 : w6.cell? ⟨w.heap.size, 5, none⟩ = some (.int .i64 ct) := keep1 hb a_5
  have na_6 : w6.cell? ⟨w.heap.size, 6, none⟩ = some (.int .i64 ino) := keep1 hb a_6
  have na_7 : w6.cell? ⟨w.heap.size, 7, none⟩ = some (.int .i64 gn) := keep1 hb a_7
  have na_f : ∀ i, w6.frozen? ⟨w.heap.size, i, none⟩ = false := fun i => (hb.frozen (p := ⟨w.heap.size, i, none⟩) (by first | omega | (simp; omega) | simp)).trans (a_f i)
  have nm_0 : w6.cell? ⟨w4.heap.size + 1, 0, none⟩ = some (.int .i64 gen) := keep1 hb m_0
  have nm_1 : w6.cell? ⟨w4.heap.size + 1, 1, none⟩ = some (.int .i64 boot) := keep1 hb m_1
  have nm_f : ∀ i, w6.frozen? ⟨w4.heap.size + 1, i, none⟩ = false := fun i => (hb.frozen (p := ⟨w4.heap.size + 1, i, none⟩) (by first | omega | (simp; omega) | simp)).trans (m_f i)
  clear a_0 a_1 a_2 a_3 a_4 a_5 a_6 a_7 a_f m_0 m_1 m_f
  have a_0 := na_0; clear na_0
  have a_1 := na_1; clear na_1
  have a_2 := na_2; clear na_2
  have a_3 := na_3; clear na_3
  have a_4 := na_4; clear na_4
  have a_5 := na_5; clear na_5
  have a_6 := na_6; clear na_6
  have a_7 := na_7; clear na_7
  have a_f := na_f; clear na_f
  have m_0 := nm_0; clear nm_0
  have m_1 := nm_1; clear nm_1
  have m_f := nm_f; clear nm_f
  clear hb B5
  have B6 := Lib.hid hb'
  have hw6 := hb'.size
  clear hb'
  have hsa50 : w.heap.size < w6.heap.size := by omega
  have hsa51 : w.heap.size < w6.heap.size + 1 := by omega
  have hsa52 : w.heap.size < w6.heap.size + 1 + 1 := by omega
  have hsm50 : w4.heap.size + 1 < w6.heap.size := by omega
  have hsm51 : w4.heap.size + 1 < w6.heap.size + 1 := by omega
  have hsm52 : w4.heap.size + 1 < w6.heap.size + 1 + 1 := by omega
  go_wp2_with fail
  go_ret
  exact ⟨ret_bool (by simp), by have := B6.out; go_grown⟩
end Go.Proofs.Ytlkjgnnnamkfeaa
