/- WALKS of layer 20: the examples. -/
import Derived.Test.YtlkjgnnnamkfeaaB
import Derived.Test.YtlkjgnnnamkfeaaG
set_option linter.unusedVariables false
namespace Go.Proofs.Ytlkjgnnnamkfeaa
open Go.RowKit Go.ChangeShapes Go.WideShapes Go.ChangeAt

theorem new_aw (w : World) : Calls Try.prog 31 #[.int .u8 2, .int .i64 493, .int .i64 1, .int .i64 0, .int .i64 7] w fun e w' => e = .returned (.tuple #[.agg #[.int .u8 2, .int .i64 493, .int .i64 2, .int .i64 0, .int .i64 7, .int .i64 7, .int .i64 1, .int .i64 0], .int .i64 0]) ∧ Below w.heap.size w w' := by
  have := new_any 2 493 1 0 7 w
  rwa [show newR 2 493 1 0 7 = .tuple #[.agg #[.int .u8 2, .int .i64 493, .int .i64 2, .int .i64 0, .int .i64 7, .int .i64 7, .int .i64 1, .int .i64 0], .int .i64 0] from by kernel_rfl] at this
theorem linked_aw (w : World) : Calls Try.prog 17 #[.agg #[.int .u8 2, .int .i64 493, .int .i64 2, .int .i64 0, .int .i64 7, .int .i64 7, .int .i64 1, .int .i64 0], .int .i64 (-1), .int .i64 9] w fun e w' => e = .returned (.tuple #[.agg #[.int .u8 2, .int .i64 493, .int .i64 1, .int .i64 0, .int .i64 7, .int .i64 9, .int .i64 1, .int .i64 0], .int .i64 0]) ∧ Below w.heap.size w w' := by
  have := linked_any 2 493 2 0 7 7 1 0 (-1) 9 w (by decide) (by decide)
  rwa [show linkedR 2 493 2 0 7 7 1 0 (-1) 9 = .tuple #[.agg #[.int .u8 2, .int .i64 493, .int .i64 1, .int .i64 0, .int .i64 7, .int .i64 9, .int .i64 1, .int .i64 0], .int .i64 0] from by kernel_rfl] at this
theorem sized_aw (w : World) : Calls Try.prog 18 #[.agg #[.int .u8 2, .int .i64 493, .int .i64 2, .int .i64 0, .int .i64 7, .int .i64 7, .int .i64 1, .int .i64 0], .int .i64 5, .int .i64 9] w fun e w' => e = .returned (.tuple #[.agg #[.int .u8 0, .int .i64 0, .int .i64 0, .int .i64 0, .int .i64 0, .int .i64 0, .int .i64 0, .int .i64 0], .int .i64 55]) ∧ Below w.heap.size w w' := by
  have := sized_any 2 493 2 0 7 7 1 0 5 9 w
  rwa [show sizedR 2 493 2 0 7 7 1 0 5 9 = .tuple #[.agg #[.int .u8 0, .int .i64 0, .int .i64 0, .int .i64 0, .int .i64 0, .int .i64 0, .int .i64 0, .int .i64 0], .int .i64 55] from by kernel_rfl] at this
def awS : ByteArray := strOfNums [2, 0, 0, 1, 237, 0, 0, 0, 2, 0, 0, 0, 0, 0, 0, 0, 7, 0, 0, 0, 7, 0, 0, 0, 1, 0, 0, 0, 0]
theorem encode_aw (w : World) : Calls Try.prog 20 #[.agg #[.int .u8 2, .int .i64 493, .int .i64 2, .int .i64 0, .int .i64 7, .int .i64 7, .int .i64 1, .int .i64 0]] w fun e w' => e = .returned (.tuple #[.string awS, .int .i64 0]) ∧ Below w.heap.size w w' := by
  have := encode_any 2 493 2 0 7 7 1 0 w (by decide) (by decide) (by decide) (by decide) (by decide) (by decide) (by decide) (by decide) (by decide) (by decide) (by decide) (by decide) (by decide) (by decide)
  rwa [show encR 2 493 2 0 7 7 1 0 = .tuple #[.string awS, .int .i64 0] from by kernel_rfl] at this
theorem decode_aw (w : World) : Calls Try.prog 22 #[.string awS] w fun e w' => e = .returned (.tuple #[.agg #[.int .u8 2, .int .i64 493, .int .i64 2, .int .i64 0, .int .i64 7, .int .i64 7, .int .i64 1, .int .i64 0], .int .i64 0]) ∧ Below w.heap.size w w' := by
  have := decode_any awS w
  rwa [show decR awS = .tuple #[.agg #[.int .u8 2, .int .i64 493, .int .i64 2, .int .i64 0, .int .i64 7, .int .i64 7, .int .i64 1, .int .i64 0], .int .i64 0] from by kernel_rfl] at this

theorem key_aw (w : World) : Calls Try.prog 25 #[.int .i64 1] w fun e w' => e = .returned (.string ⟨#[105, 0, 0, 0, 1]⟩) ∧ Below w.heap.size w w' := by
  have := key_any 1 w (by decide) (by decide)
  rwa [show strOfNums ([105] ++ by4 1) = ⟨#[105, 0, 0, 0, 1]⟩ from by kernel_rfl] at this

set_option maxHeartbeats 2000000 in
theorem awake20 (w : World) : Calls Try.prog 16 #[] w fun e w' => e = .returned (.bool true) ∧ Below w.heap.size w w' := by
  have hsz : awS.size = 29 := by kernel_rfl
  go_enter Try.func16, Try.ntmps16
  go_wp2_with fail
  refine (new_aw _).mono ?_
  rintro e w1 ⟨rfl, hb⟩
  have B1 := Lib.hid hb
  have hw1 := hb.size
  clear hb
  go_wp2_with fail
  refine (linked_aw _).mono ?_
  rintro e w2 ⟨rfl, hb⟩
  have hb' : Below w1.heap.size w1 w2 := Below.trans (by go_grown) (hb.mono (by simp; try omega))
  have Ha := (Held8.new w1 [.int .u8 2, .int .i64 493, .int .i64 2, .int .i64 0, .int .i64 7, .int .i64 7, .int .i64 1, .int .i64 0] 37).below hb (by simp)
  have hz1 : w1.heap.size < w2.heap.size := by have := hb.size; simp at this; omega
  have B2 := Lib.hid (B1.out.trans (hb'.mono (by omega)))
  have hw2 := B2.out.size
  clear hb hb' B1
  obtain ⟨a0, a1, a2, a3, a4, a5, a6, a7⟩ := cells8 Ha
  replace Ha := Lib.hid Ha
  have hla10 : w1.heap.size < w2.heap.size := by omega
  have hla11 : w1.heap.size < w2.heap.size + 1 := by omega
  have hla12 : w1.heap.size < w2.heap.size + 1 + 1 := by omega
  go_wp2_with fail
  refine (sized_aw _).mono ?_
  rintro e w3 ⟨rfl, hb⟩
  clear a0 a1 a2 a3 a4 a5 a6 a7
  have hb' : Below w2.heap.size w2 w3 := Below.trans (by go_grown) (hb.mono (by simp; try omega))
  replace Ha := Ha.out.below hb' (by omega)
  have Hb := (Held8.new w2 [.int .u8 2, .int .i64 493, .int .i64 1, .int .i64 0, .int .i64 7, .int .i64 9, .int .i64 1, .int .i64 0] 37).below hb (by simp)
  have hz2 : w2.heap.size < w3.heap.size := by have := hb.size; simp at this; omega
  have B3 := Lib.hid (B2.out.trans (hb'.mono (by omega)))
  have hw3 := B3.out.size
  clear hb hb' B2
  obtain ⟨a0, a1, a2, a3, a4, a5, a6, a7⟩ := cells8 Ha
  replace Ha := Lib.hid Ha
  obtain ⟨b0, b1, b2, b3, b4, b5, b6, b7⟩ := cells8 Hb
  replace Hb := Lib.hid Hb
  have hla20 : w1.heap.size < w3.heap.size := by omega
  have hla21 : w1.heap.size < w3.heap.size + 1 := by omega
  have hla22 : w1.heap.size < w3.heap.size + 1 + 1 := by omega
  have hlb20 : w2.heap.size < w3.heap.size := by omega
  have hlb21 : w2.heap.size < w3.heap.size + 1 := by omega
  have hlb22 : w2.heap.size < w3.heap.size + 1 + 1 := by omega
  go_wp2_with fail
  refine (encode_aw _).mono ?_
  rintro e w4 ⟨rfl, hb⟩
  clear a0 a1 a2 a3 a4 a5 a6 a7 b0 b1 b2 b3 b4 b5 b6 b7
  have hb' : Below w3.heap.size w3 w4 := Below.trans (by go_grown) (hb.mono (by simp; try omega))
  replace Ha := Ha.out.below hb' (by omega)
  replace Hb := Hb.out.below hb' (by omega)
  have hz3 : w3.heap.size ≤ w4.heap.size := hb'.size
  have B4 := Lib.hid (B3.out.trans (hb'.mono (by omega)))
  have hw4 := B4.out.size
  clear hb hb' B3
  obtain ⟨a0, a1, a2, a3, a4, a5, a6, a7⟩ := cells8 Ha
  replace Ha := Lib.hid Ha
  obtain ⟨b0, b1, b2, b3, b4, b5, b6, b7⟩ := cells8 Hb
  replace Hb := Lib.hid Hb
  have hla30 : w1.heap.size < w4.heap.size := by omega
  have hla31 : w1.heap.size < w4.heap.size + 1 := by omega
  have hla32 : w1.heap.size < w4.heap.size + 1 + 1 := by omega
  have hlb30 : w2.heap.size < w4.heap.size := by omega
  have hlb31 : w2.heap.size < w4.heap.size + 1 := by omega
  have hlb32 : w2.heap.size < w4.heap.size + 1 + 1 := by omega
  go_wp2_with fail
  refine (decode_aw _).mono ?_
  rintro e w5 ⟨rfl, hb⟩
  clear a0 a1 a2 a3 a4 a5 a6 a7 b0 b1 b2 b3 b4 b5 b6 b7
  have hb' : Below w4.heap.size w4 w5 := Below.trans (by go_grown) (hb.mono (by simp; try omega))
  replace Ha := Ha.out.below hb' (by omega)
  replace Hb := Hb.out.below hb' (by omega)
  have hz4 : w4.heap.size ≤ w5.heap.size := hb'.size
  have B5 := Lib.hid (B4.out.trans (hb'.mono (by omega)))
  have hw5 := B5.out.size
  clear hb hb' B4
  obtain ⟨a0, a1, a2, a3, a4, a5, a6, a7⟩ := cells8 Ha
  replace Ha := Lib.hid Ha
  obtain ⟨b0, b1, b2, b3, b4, b5, b6, b7⟩ := cells8 Hb
  replace Hb := Lib.hid Hb
  have hla40 : w1.heap.size < w5.heap.size := by omega
  have hla41 : w1.heap.size < w5.heap.size + 1 := by omega
  have hla42 : w1.heap.size < w5.heap.size + 1 + 1 := by omega
  have hlb40 : w2.heap.size < w5.heap.size := by omega
  have hlb41 : w2.heap.size < w5.heap.size + 1 := by omega
  have hlb42 : w2.heap.size < w5.heap.size + 1 + 1 := by omega
  go_wp2_with fail
  have HA5 := (Ha.out.alloc hla40 (.cells #[.int .u8 2, .int .i64 493, .int .i64 2, .int .i64 0, .int .i64 7, .int .i64 7, .int .i64 1, .int .i64 0] 37))
  have HB5 := (Hb.out.alloc hlb40 (.cells #[.int .u8 2, .int .i64 493, .int .i64 2, .int .i64 0, .int .i64 7, .int .i64 7, .int .i64 1, .int .i64 0] 37))
  have HC5 := Held8.new w5 [.int .u8 2, .int .i64 493, .int .i64 2, .int .i64 0, .int .i64 7, .int .i64 7, .int .i64 1, .int .i64 0] 37
  have B6 := Lib.hid (B5.out.alloc hw5 (.cells #[.int .u8 2, .int .i64 493, .int .i64 2, .int .i64 0, .int .i64 7, .int .i64 7, .int .i64 1, .int .i64 0] 37))
  clear Ha Hb B5 a0 a1 a2 a3 a4 a5 a6 a7 b0 b1 b2 b3 b4 b5 b6 b7
  have hz5 : w5.heap.size < (w5.alloc (.cells #[.int .u8 2, .int .i64 493, .int .i64 2, .int .i64 0, .int .i64 7, .int .i64 7, .int .i64 1, .int .i64 0] 37)).heap.size := by simp
  generalize w5.alloc (.cells #[.int .u8 2, .int .i64 493, .int .i64 2, .int .i64 0, .int .i64 7, .int .i64 7, .int .i64 1, .int .i64 0] 37) = w6 at *
  obtain ⟨a0, a1, a2, a3, a4, a5, a6, a7⟩ := cells8 HA5
  obtain ⟨b0, b1, b2, b3, b4, b5, b6, b7⟩ := cells8 HB5
  obtain ⟨c0, c1, c2, c3, c4, c5, c6, c7⟩ := cells8 HC5
  clear HA5 HB5 HC5 b0 b1 b3 b6 b7
  simp only [List.append]
  go_region_held3 (fun w' => w'.cell? ⟨w1.heap.size, 0, none⟩ = some (.int .u8 2) ∧ w'.cell? ⟨w1.heap.size, 1, none⟩ = some (.int .i64 493) ∧ w'.cell? ⟨w1.heap.size, 2, none⟩ = some (.int .i64 2) ∧ w'.cell? ⟨w1.heap.size, 3, none⟩ = some (.int .i64 0) ∧ w'.cell? ⟨w1.heap.size, 4, none⟩ = some (.int .i64 7) ∧ w'.cell? ⟨w1.heap.size, 5, none⟩ = some (.int .i64 7) ∧ w'.cell? ⟨w1.heap.size, 6, none⟩ = some (.int .i64 1) ∧ w'.cell? ⟨w1.heap.size, 7, none⟩ = some (.int .i64 0) ∧ w'.cell? ⟨w2.heap.size, 2, none⟩ = some (.int .i64 1) ∧ w'.cell? ⟨w2.heap.size, 4, none⟩ = some (.int .i64 7) ∧ w'.cell? ⟨w2.heap.size, 5, none⟩ = some (.int .i64 9) ∧ w'.cell? ⟨w5.heap.size, 0, none⟩ = some (.int .u8 2) ∧ w'.cell? ⟨w5.heap.size, 1, none⟩ = some (.int .i64 493) ∧ w'.cell? ⟨w5.heap.size, 2, none⟩ = some (.int .i64 2) ∧ w'.cell? ⟨w5.heap.size, 3, none⟩ = some (.int .i64 0) ∧ w'.cell? ⟨w5.heap.size, 4, none⟩ = some (.int .i64 7) ∧ w'.cell? ⟨w5.heap.size, 5, none⟩ = some (.int .i64 7) ∧ w'.cell? ⟨w5.heap.size, 6, none⟩ = some (.int .i64 1) ∧ w'.cell? ⟨w5.heap.size, 7, none⟩ = some (.int .i64 0) ∧ w5.heap.size < w'.heap.size ∧ Below w.heap.size w w')
    (first | exact ⟨a0, a1, a2, a3, a4, a5, a6, a7, b2, b4, b5, c0, c1, c2, c3, c4, c5, c6, c7, hz5, B6.out.drew⟩ | (go_split_ands; refine ⟨?_, ?_, ?_, ?_, ?_, ?_, ?_, ?_, ?_, ?_, ?_, ?_, ?_, ?_, ?_, ?_, ?_, ?_, ?_, ?_, ?_⟩; (iterate 19 (exact keep1 hb (by assumption))); all_goals first | (have := hb.size; omega) | (have := hb.size; simp at this; omega) | exact Below.trans (by assumption) (hb.mono (by omega)) | exact Below.trans (by assumption) (hb.mono (by simp; omega))))
    (first | (go_at_call 25; refine (key_aw _).mono ?_; rintro e w4 ⟨rfl, hb⟩) | (go_at_call 38; refine (handle_any _ _ _ _ _ _ _ _ _ _).mono ?_; rintro e w4 ⟨rfl, hb⟩) | (go_at_call 37; refine (is_any _ _ _ _ _ _ _ _ _ _).mono ?_; rintro e w4 ⟨rfl, hb⟩))
  go_wp2_with fail
  go_ret
  go_split_ands
  exact ⟨rfl, by assumption⟩
end Go.Proofs.Ytlkjgnnnamkfeaa
