/- WALKS of layer 20: the document's Encode. -/
import Derived.Test.YtlkjgnnnamkfeaaD
set_option linter.unusedVariables false
namespace Go.Proofs.Ytlkjgnnnamkfeaa
open Go.RowKit Go.ChangeShapes Go.WideShapes Go.ChangeAt

theorem keepNew {V w4 : World} {k : Int} {t : TypeId} (hb : Below (V.alloc (.cells #[.int .u8 k] t)).heap.size (V.alloc (.cells #[.int .u8 k] t)) w4) : w4.cell? ⟨V.heap.size, 0, none⟩ = some (.int .u8 k) :=
  (hb.cell (p := ⟨V.heap.size, 0, none⟩) (by simp)).trans (by rw [World.cell?_alloc_new]; rfl)
theorem keepNewD {V w4 : World} {k : Int} {t : TypeId} (hb : Below (V.alloc (.cells #[.int .u8 k] t)).drew.heap.size (V.alloc (.cells #[.int .u8 k] t)).drew w4) : w4.cell? ⟨V.heap.size, 0, none⟩ = some (.int .u8 k) :=
  (hb.cell (p := ⟨V.heap.size, 0, none⟩) (by simp)).trans (by rw [World.cell?_drew, World.cell?_alloc_new]; rfl)
theorem conv1 (k : Int) (W : World) (b : Nat) (h : W.cell? ⟨b, 0, none⟩ = some (.int .u8 k)) : (convert 23 9 (.slice (some ⟨b, 0, none⟩) 1 1)).run Try.prog W = .ok (.string (strOfNums [k])) W :=
  run_convert_bytes_arg W 23 5 Try.underlying23 Try.underlying5 b 0 1 1 [k] rfl (fun i hi => by
    have : i = 0 := by omega
    subst this; exact h) 9 Try.underlying9

/-- A conversion, by another name: the region's tactic is to take it where it stands. -/
def hiddenConvert := Op.convert
set_option maxHeartbeats 4000000 in
theorem refencode_any (k mo li sz mt ct ino gen : Int) (w : World) (lo_mo : -9223372036854775808 ≤ mo) (hi_mo : mo ≤ 9223372036854775807) (lo_li : -9223372036854775808 ≤ li) (hi_li : li ≤ 9223372036854775807) (lo_sz : -9223372036854775808 ≤ sz) (hi_sz : sz ≤ 9223372036854775807) (lo_mt : -9223372036854775808 ≤ mt) (hi_mt : mt ≤ 9223372036854775807) (lo_ct : -9223372036854775808 ≤ ct) (hi_ct : ct ≤ 9223372036854775807) (lo_ino : -9223372036854775808 ≤ ino) (hi_ino : ino ≤ 9223372036854775807) (lo_gen : -9223372036854775808 ≤ gen) (hi_gen : gen ≤ 9223372036854775807) :
    Calls Try.prog 21 #[.agg #[.int .u8 k, .int .i64 mo, .int .i64 li, .int .i64 sz, .int .i64 mt, .int .i64 ct, .int .i64 ino, .int .i64 gen]] w fun e w' => e = .returned (encR k mo li sz mt ct ino gen) ∧ Below w.heap.size w w' := by
  cases hm : mayB k mo li sz mt ct ino gen with
  | false =>
    have H := Lib.hid (show encR k mo li sz mt ct ino gen = .tuple #[.string ByteArray.empty, .int .i64 4] from by unfold encR; rw [hm]; rfl)
    have HM := Lib.hid hm
    clear hm
    go_enter Try.func21, Try.ntmps21
    go_wp2_with fail
    refine (refmay_any _ _ _ _ _ _ _ _ _).mono ?_
    rintro e w1 ⟨rfl, hb⟩
    have HB := Lib.hid (((Below.refl w.heap.size w).alloc (Nat.le_refl _) _).trans (hb.mono (by simp)))
    rw [HM.out]
    clear hb
    go_wp2_with fail
    go_ret2
    exact ⟨congrArg Ending.returned H.out.symm, HB.out⟩
  | true =>
    have H := Lib.hid (show encR k mo li sz mt ct ino gen = .tuple #[.string (strOfNums [k] ++ (strOfNums (by4 mo) ++ strOfNums (by4 li) ++ strOfNums (by4 sz) ++ strOfNums (by4 mt)) ++ strOfNums (by4 ct) ++ strOfNums (by4 ino) ++ strOfNums (by4 gen)), .int .i64 0] from by unfold encR encL; rw [hm]; simp only [app_str, if_true, List.append_assoc])
    have HM := Lib.hid hm
    clear hm
    go_enter Try.func21, Try.ntmps21
    go_wp2_with fail
    refine (refmay_any _ _ _ _ _ _ _ _ _).mono ?_
    rintro e w1 ⟨rfl, hb⟩
    have HA := Lib.hid ((Held8.new w [.int .u8 k, .int .i64 mo, .int .i64 li, .int .i64 sz, .int .i64 mt, .int .i64 ct, .int .i64 ino, .int .i64 gen] 37).below hb (by simp))
    have HB := ((Below.refl w.heap.size w).alloc (Nat.le_refl _) (.cells #[.int .u8 k, .int .i64 mo, .int .i64 li, .int .i64 sz, .int .i64 mt, .int .i64 ct, .int .i64 ino, .int .i64 gen] 37)).trans (hb.mono (by simp))
    have hz1 : w.heap.size < w1.heap.size := by have := hb.size; simp at this; omega
    rw [HM.out]
    clear hb
    obtain ⟨a0, a1, a2, a3, a4, a5, a6, a7⟩ := cells8 HA.out
    clear HA
    have hsz : ∀ n : Int, (strOfNums (by4 n)).size = 4 := fun n => strOfNums_size _
    have hsk : (strOfNums [k]).size = 1 := strOfNums_size _
    go_wp2_with fail
    go_region_held3 (fun w' => w'.cell? ⟨w.heap.size, 0, none⟩ = some (.int .u8 k) ∧ w'.cell? ⟨w.heap.size, 1, none⟩ = some (.int .i64 mo) ∧ w'.cell? ⟨w.heap.size, 2, none⟩ = some (.int .i64 li) ∧ w'.cell? ⟨w.heap.size, 3, none⟩ = some (.int .i64 sz) ∧ w'.cell? ⟨w.heap.size, 4, none⟩ = some (.int .i64 mt) ∧ w'.cell? ⟨w.heap.size, 5, none⟩ = some (.int .i64 ct) ∧ w'.cell? ⟨w.heap.size, 6, none⟩ = some (.int .i64 ino) ∧ w'.cell? ⟨w.heap.size, 7, none⟩ = some (.int .i64 gen) ∧ w.heap.size < w'.heap.size ∧ Below w.heap.size w w')
    (first | exact ⟨a0, a1, a2, a3, a4, a5, a6, a7, hz1, HB.drew⟩ | (go_split_ands; refine ⟨?_, ?_, ?_, ?_, ?_, ?_, ?_, ?_, ?_, ?_⟩; (iterate 8 (exact keep1 hb (by assumption))); all_goals first | (have := hb.size; omega) | (have := hb.size; simp at this; omega) | exact Below.trans (by assumption) (hb.mono (by omega)) | exact Below.trans (by assumption) (hb.mono (by simp; omega))) | (go_split_ands; refine ⟨?_, ?_, ?_, ?_, ?_, ?_, ?_, ?_, ?_, ?_⟩; (iterate 8 (refine (World.cell?_alloc_lt _ _ _ (by assumption)).trans ?_; assumption)); all_goals first | (simp; omega) | exact Below.alloc (by assumption) (by omega) _))
    (first | (go_at_call 40; refine (word_any _ _ (by assumption) (by assumption)).mono ?_; rintro e w4 ⟨rfl, hb⟩))
    clear a0 a1 a2 a3 a4 a5 a6 a7 HB hz1
    go_split_ands
    have hcv := conv1 k
    go_wp2_with fail
    have e1 : ∀ c, Op.convert 23 9 c = hiddenConvert 23 9 c := fun _ => rfl
    simp only [e1]
    clear e1
    have e2 : ∀ c, hiddenConvert 23 9 c = Op.convert 23 9 c := fun _ => rfl
    go_region_held3 (fun w' => w'.cell? ⟨w.heap.size, 0, none⟩ = some (.int .u8 k) ∧ w'.cell? ⟨w.heap.size, 1, none⟩ = some (.int .i64 mo) ∧ w'.cell? ⟨w.heap.size, 2, none⟩ = some (.int .i64 li) ∧ w'.cell? ⟨w.heap.size, 3, none⟩ = some (.int .i64 sz) ∧ w'.cell? ⟨w.heap.size, 4, none⟩ = some (.int .i64 mt) ∧ w'.cell? ⟨w.heap.size, 5, none⟩ = some (.int .i64 ct) ∧ w'.cell? ⟨w.heap.size, 6, none⟩ = some (.int .i64 ino) ∧ w'.cell? ⟨w.heap.size, 7, none⟩ = some (.int .i64 gen) ∧ w.heap.size < w'.heap.size ∧ Below w.heap.size w w')
    ((go_split_ands; refine ⟨?_, ?_, ?_, ?_, ?_, ?_, ?_, ?_, ?_, ?_⟩; all_goals first | assumption | exact Below.drew (by assumption) | exact keep1 hb (by assumption) | (have := hb.size; omega) | (have := hb.size; simp at this; omega) | exact Below.trans (by assumption) (hb.mono (by omega)) | exact Below.trans (by assumption) (hb.mono (by simp; omega)) | exact (World.cell?_alloc_lt _ _ _ (by assumption)).trans (by assumption) | (simp; omega) | exact Below.drew (Below.alloc (by assumption) (by omega) _) | exact Below.alloc (by assumption) (by omega) _))
    (first | (go_at_call 40; refine (word_any _ _ (by assumption) (by assumption)).mono ?_; rintro e w5 ⟨rfl, hb⟩; first | have hk := keepNew hb | have hk := keepNewD hb | have hk := keep1 hb hk | skip))
    all_goals go_wp2_with fail
    all_goals go_ret2
    all_goals exact ⟨congrArg Ending.returned H.out.symm, by go_split_ands; assumption⟩
end Go.Proofs.Ytlkjgnnnamkfeaa
