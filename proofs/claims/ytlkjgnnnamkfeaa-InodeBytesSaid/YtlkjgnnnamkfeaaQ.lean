/- WALKS of layer 20: the document's EncodeMeta. -/
import Derived.Test.YtlkjgnnnamkfeaaJ
import Derived.Deep.RegionHeld3
set_option linter.unusedVariables false
namespace Go.Proofs.Ytlkjgnnnamkfeaa
open Go.RowKit Go.ChangeShapes Go.WideShapes Go.ChangeAt

theorem count_is {n : Int} {c : Bool} (h : cnt n = c) (w : World) : Calls Try.prog 43 #[.int .i64 n] w fun e w' => e = .returned (.bool c) ∧ w = w' := by subst h; exact count_any n w
set_option maxHeartbeats 1000000 in
theorem refencmeta_any (g b : Int) (w : World) (b1 : -9223372036854775808 ≤ g) (b2 : g ≤ 9223372036854775807) (b3 : -9223372036854775808 ≤ b) (b4 : b ≤ 9223372036854775807) :
    Calls Try.prog 28 #[.agg #[.int .i64 g, .int .i64 b]] w fun e w' => e = .returned (mencR g b) ∧ Below w.heap.size w w' := by
  have r0 : (w.alloc (.cells #[.int .i64 g, .int .i64 b] 43)).cell? ⟨w.heap.size, 0, none⟩ = some (.int .i64 g) := (cellN _ _ _ _ rfl _).trans rfl
  have r1 : (w.alloc (.cells #[.int .i64 g, .int .i64 b] 43)).cell? ⟨w.heap.size, 1, none⟩ = some (.int .i64 b) := (cellN _ _ _ _ rfl _).trans rfl
  have HB : Below w.heap.size w (w.alloc (.cells #[.int .i64 g, .int .i64 b] 43)) := by go_grown
  cases hg : cnt g with
  | false =>
    have H := Lib.hid (show mencR g b = .tuple #[.string ByteArray.empty, .int .i64 4] from by unfold mencR; rw [hg]; rfl)
    have HG := Lib.hid hg
    clear hg r0 r1
    replace HB := Lib.hid HB
    go_enter Try.func28, Try.ntmps28
    go_wp2_with fail
    refine (count_is HG.out _).mono ?_
    rintro e w1 ⟨rfl, rfl⟩
    go_wp2_with fail
    go_ret2
    exact ⟨congrArg Ending.returned H.out.symm, HB.out⟩
  | true =>
    cases hb : cnt b with
    | false =>
      have H := Lib.hid (show mencR g b = .tuple #[.string ByteArray.empty, .int .i64 4] from by unfold mencR; rw [hg, hb]; rfl)
      have HG := Lib.hid hg
      have HBb := Lib.hid hb
      clear hg hb r0 r1
      replace HB := Lib.hid HB
      go_enter Try.func28, Try.ntmps28
      go_wp2_with fail
      refine (count_is HG.out _).mono ?_
      rintro e w1 ⟨rfl, rfl⟩
      go_wp2_with fail
      refine (count_is HBb.out _).mono ?_
      rintro e w1 ⟨rfl, rfl⟩
      go_wp2_with fail
      go_ret2
      exact ⟨congrArg Ending.returned H.out.symm, HB.out⟩
    | true =>
      have H := Lib.hid (show mencR g b = .tuple #[.string (⟨#[109]⟩ ++ strOfNums (by4 g) ++ strOfNums (by4 b)), .int .i64 0] from by
        unfold mencR mencL
        rw [hg, hb, ← app_str, ← app_str]
        rfl)
      have HG := Lib.hid hg
      have HBb := Lib.hid hb
      have hsz : ∀ n : Int, (strOfNums (by4 n)).size = 4 := fun n => strOfNums_size _
      have hm1 : (⟨#[109]⟩ : ByteArray).size = 1 := rfl
      have ha1 : ∀ W, (Op.stringOp .add ⟨#[109]⟩ (strOfNums (by4 g))).run Try.prog W = .ok (.string (⟨#[109]⟩ ++ strOfNums (by4 g))) W := fun W => run_string_add_sum W _ _ (by rw [hsz, hm1]; decide)
      have ha2 : ∀ W, (Op.stringOp .add (⟨#[109]⟩ ++ strOfNums (by4 g)) (strOfNums (by4 b))).run Try.prog W = .ok (.string (⟨#[109]⟩ ++ strOfNums (by4 g) ++ strOfNums (by4 b))) W := fun W => run_string_add_sum W _ _ (by rw [ByteArray.size_append, hsz, hsz, hm1]; decide)
      clear hg hb hsz hm1
      have hz : w.heap.size < (w.alloc (.cells #[.int .i64 g, .int .i64 b] 43)).heap.size := by simp
      go_enter Try.func28, Try.ntmps28
      go_wp2_with fail
      refine (count_is HG.out _).mono ?_
      rintro e w1 ⟨rfl, rfl⟩
      go_wp2_with fail
      refine (count_is HBb.out _).mono ?_
      rintro e w1 ⟨rfl, rfl⟩
      go_wp2_with fail
      generalize w.alloc (.cells #[.int .i64 g, .int .i64 b] 43) = w1 at *
      go_region_held3 (fun w' => w'.cell? ⟨w.heap.size, 0, none⟩ = some (.int .i64 g) ∧ w'.cell? ⟨w.heap.size, 1, none⟩ = some (.int .i64 b) ∧ Below w.heap.size w w')
        (first | exact ⟨r0, r1, HB.drew⟩ | (go_split_ands; exact ⟨keep1 hb (by assumption), keep1 hb (by assumption), Below.trans (by assumption) (hb.mono (Below.size (by assumption)))⟩))
        (first | (go_at_call 40; refine (word_any _ _ (by assumption) (by assumption)).mono ?_; rintro e w4 ⟨rfl, hb⟩))
      go_split_ands
      go_wp2_with fail
      go_ret2
      exact ⟨congrArg Ending.returned H.out.symm, by assumption⟩
end Go.Proofs.Ytlkjgnnnamkfeaa
