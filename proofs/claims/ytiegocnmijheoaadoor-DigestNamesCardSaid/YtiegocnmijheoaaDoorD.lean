/- WALKS of layer 6: FormatUint, Repeat. -/
import Derived.Test.YtiegocnmijheoaaDoorC
set_option linter.unusedVariables false
namespace Go.Proofs.YtiegocnmijheoaaDoor
open Go.RowKit Go.ChangeShapes Go.WideShapes Go.ChangeAt

theorem fmtu_any (u : Int) (w : World) (h0 : 0 ≤ u) (h1 : u < 18446744073709551616) (ht : Tab w) (hz : 5 < w.heap.size) : Calls Tryd.prog 30 #[.int .u64 u, .int .i64 16] w fun e w' =>
    (∃ j, j ≤ 15 ∧ u < 16 ^ (j + 1) ∧ (j = 0 ∨ 16 ^ j ≤ u) ∧ e = .returned (.string (strOfNums (hexL u j)))) ∧ Below w.heap.size w w' := by
  have F := fmt_any u w h0 h1 ht hz
  go_enter Tryd.func30, Tryd.ntmps30
  go_wp2_with (first | (go_at_call 51; refine F.mono ?_; rintro e w1 ⟨⟨j, hj, hu, hj0, rfl⟩, hb⟩) | go_in)
  go_ret
  exact ⟨⟨j, hj, hu, hj0, rfl⟩, hb⟩
set_option maxRecDepth 60000 in
theorem pre0 (s : ByteArray) (b : Bool) (w : World) (h : 1 ≤ s.size) (hb : (s.data.toList.getD 0 0 == 48) = b) : Calls Tryd.prog 37 #[.string s, .string ⟨#[48]⟩] w fun e w' => e = .returned (.bool b) ∧ w = w' := by
  have hb' : ((s.extract 0 1).toList == [48]) = b := by
    rw [← hb, ByteArray.toList_eq]
    obtain ⟨⟨l⟩⟩ := s
    match l, h with
    | a :: r, _ =>
      rw [show ((⟨⟨a :: r⟩⟩ : ByteArray).extract 0 1).data.toList = [a] from by rw [ByteArray.data_extract, Array.toList_extract, List.extract_eq_take_drop]; simp]
      simp
  clear hb
  subst hb'
  go_enter Tryd.func37, Tryd.ntmps37
  go_wp2
  all_goals go_ret
  all_goals exact ⟨rfl, rfl⟩
set_option maxRecDepth 60000 in
theorem rep_0 (w : World) : Calls Tryd.prog 31 #[.string ⟨#[48]⟩, .int .i64 0] w fun e w' => e = .returned (.string ⟨#[]⟩) ∧ w = w' := by
  go_enter Tryd.func31, Tryd.ntmps31
  go_wp2_with (first
    | (go_at_call 36; refine (mul_2 _).mono ?_; rintro e w1 ⟨rfl, rfl⟩)
    | (go_at_call 37; refine (pre0 _ false _ (by decide) (by decide)).mono ?_; rintro e w1 ⟨rfl, rfl⟩)
    | (go_at_call 37; refine (pre0 _ true _ (by decide) (by decide)).mono ?_; rintro e w1 ⟨rfl, rfl⟩))
  go_ret
  exact ⟨by kernel_rfl, rfl⟩
set_option maxRecDepth 60000 in
theorem rep_1 (w : World) : Calls Tryd.prog 31 #[.string ⟨#[48]⟩, .int .i64 1] w fun e w' => e = .returned (.string ⟨#[48]⟩) ∧ w = w' := by
  go_enter Tryd.func31, Tryd.ntmps31
  go_wp2_with (first
    | (go_at_call 36; refine (mul_2 _).mono ?_; rintro e w1 ⟨rfl, rfl⟩)
    | (go_at_call 37; refine (pre0 _ false _ (by decide) (by decide)).mono ?_; rintro e w1 ⟨rfl, rfl⟩)
    | (go_at_call 37; refine (pre0 _ true _ (by decide) (by decide)).mono ?_; rintro e w1 ⟨rfl, rfl⟩))
  go_ret
  exact ⟨by kernel_rfl, rfl⟩
theorem mul_2 (w : World) : Calls Tryd.prog 36 #[.int .u64 1, .int .u64 2] w fun e w' => e = .returned (.tuple #[.int .u64 0, .int .u64 2]) ∧ w = w' := by
  go_enter Tryd.func36, Tryd.ntmps36
  go_wp2
  go_ret2
  exact ⟨by kernel_rfl, rfl⟩
set_option maxRecDepth 60000 in
theorem rep_2 (w : World) : Calls Tryd.prog 31 #[.string ⟨#[48]⟩, .int .i64 2] w fun e w' => e = .returned (.string ⟨#[48, 48]⟩) ∧ w = w' := by
  go_enter Tryd.func31, Tryd.ntmps31
  go_wp2_with (first
    | (go_at_call 36; refine (mul_2 _).mono ?_; rintro e w1 ⟨rfl, rfl⟩)
    | (go_at_call 37; refine (pre0 _ false _ (by decide) (by decide)).mono ?_; rintro e w1 ⟨rfl, rfl⟩)
    | (go_at_call 37; refine (pre0 _ true _ (by decide) (by decide)).mono ?_; rintro e w1 ⟨rfl, rfl⟩))
  go_ret
  exact ⟨by kernel_rfl, rfl⟩
theorem mul_3 (w : World) : Calls Tryd.prog 36 #[.int .u64 1, .int .u64 3] w fun e w' => e = .returned (.tuple #[.int .u64 0, .int .u64 3]) ∧ w = w' := by
  go_enter Tryd.func36, Tryd.ntmps36
  go_wp2
  go_ret2
  exact ⟨by kernel_rfl, rfl⟩
set_option maxRecDepth 60000 in
theorem rep_3 (w : World) : Calls Tryd.prog 31 #[.string ⟨#[48]⟩, .int .i64 3] w fun e w' => e = .returned (.string ⟨#[48, 48, 48]⟩) ∧ w = w' := by
  go_enter Tryd.func31, Tryd.ntmps31
  go_wp2_with (first
    | (go_at_call 36; refine (mul_3 _).mono ?_; rintro e w1 ⟨rfl, rfl⟩)
    | (go_at_call 37; refine (pre0 _ false _ (by decide) (by decide)).mono ?_; rintro e w1 ⟨rfl, rfl⟩)
    | (go_at_call 37; refine (pre0 _ true _ (by decide) (by decide)).mono ?_; rintro e w1 ⟨rfl, rfl⟩))
  go_ret
  exact ⟨by kernel_rfl, rfl⟩
theorem mul_4 (w : World) : Calls Tryd.prog 36 #[.int .u64 1, .int .u64 4] w fun e w' => e = .returned (.tuple #[.int .u64 0, .int .u64 4]) ∧ w = w' := by
  go_enter Tryd.func36, Tryd.ntmps36
  go_wp2
  go_ret2
  exact ⟨by kernel_rfl, rfl⟩
set_option maxRecDepth 60000 in
theorem rep_4 (w : World) : Calls Tryd.prog 31 #[.string ⟨#[48]⟩, .int .i64 4] w fun e w' => e = .returned (.string ⟨#[48, 48, 48, 48]⟩) ∧ w = w' := by
  go_enter Tryd.func31, Tryd.ntmps31
  go_wp2_with (first
    | (go_at_call 36; refine (mul_4 _).mono ?_; rintro e w1 ⟨rfl, rfl⟩)
    | (go_at_call 37; refine (pre0 _ false _ (by decide) (by decide)).mono ?_; rintro e w1 ⟨rfl, rfl⟩)
    | (go_at_call 37; refine (pre0 _ true _ (by decide) (by decide)).mono ?_; rintro e w1 ⟨rfl, rfl⟩))
  go_ret
  exact ⟨by kernel_rfl, rfl⟩
theorem mul_5 (w : World) : Calls Tryd.prog 36 #[.int .u64 1, .int .u64 5] w fun e w' => e = .returned (.tuple #[.int .u64 0, .int .u64 5]) ∧ w = w' := by
  go_enter Tryd.func36, Tryd.ntmps36
  go_wp2
  go_ret2
  exact ⟨by kernel_rfl, rfl⟩
set_option maxRecDepth 60000 in
theorem rep_5 (w : World) : Calls Tryd.prog 31 #[.string ⟨#[48]⟩, .int .i64 5] w fun e w' => e = .returned (.string ⟨#[48, 48, 48, 48, 48]⟩) ∧ w = w' := by
  go_enter Tryd.func31, Tryd.ntmps31
  go_wp2_with (first
    | (go_at_call 36; refine (mul_5 _).mono ?_; rintro e w1 ⟨rfl, rfl⟩)
    | (go_at_call 37; refine (pre0 _ false _ (by decide) (by decide)).mono ?_; rintro e w1 ⟨rfl, rfl⟩)
    | (go_at_call 37; refine (pre0 _ true _ (by decide) (by decide)).mono ?_; rintro e w1 ⟨rfl, rfl⟩))
  go_ret
  exact ⟨by kernel_rfl, rfl⟩
theorem mul_6 (w : World) : Calls Tryd.prog 36 #[.int .u64 1, .int .u64 6] w fun e w' => e = .returned (.tuple #[.int .u64 0, .int .u64 6]) ∧ w = w' := by
  go_enter Tryd.func36, Tryd.ntmps36
  go_wp2
  go_ret2
  exact ⟨by kernel_rfl, rfl⟩
set_option maxRecDepth 60000 in
theorem rep_6 (w : World) : Calls Tryd.prog 31 #[.string ⟨#[48]⟩, .int .i64 6] w fun e w' => e = .returned (.string ⟨#[48, 48, 48, 48, 48, 48]⟩) ∧ w = w' := by
  go_enter Tryd.func31, Tryd.ntmps31
  go_wp2_with (first
    | (go_at_call 36; refine (mul_6 _).mono ?_; rintro e w1 ⟨rfl, rfl⟩)
    | (go_at_call 37; refine (pre0 _ false _ (by decide) (by decide)).mono ?_; rintro e w1 ⟨rfl, rfl⟩)
    | (go_at_call 37; refine (pre0 _ true _ (by decide) (by decide)).mono ?_; rintro e w1 ⟨rfl, rfl⟩))
  go_ret
  exact ⟨by kernel_rfl, rfl⟩
theorem mul_7 (w : World) : Calls Tryd.prog 36 #[.int .u64 1, .int .u64 7] w fun e w' => e = .returned (.tuple #[.int .u64 0, .int .u64 7]) ∧ w = w' := by
  go_enter Tryd.func36, Tryd.ntmps36
  go_wp2
  go_ret2
  exact ⟨by kernel_rfl, rfl⟩
set_option maxRecDepth 60000 in
theorem rep_7 (w : World) : Calls Tryd.prog 31 #[.string ⟨#[48]⟩, .int .i64 7] w fun e w' => e = .returned (.string ⟨#[48, 48, 48, 48, 48, 48, 48]⟩) ∧ w = w' := by
  go_enter Tryd.func31, Tryd.ntmps31
  go_wp2_with (first
    | (go_at_call 36; refine (mul_7 _).mono ?_; rintro e w1 ⟨rfl, rfl⟩)
    | (go_at_call 37; refine (pre0 _ false _ (by decide) (by decide)).mono ?_; rintro e w1 ⟨rfl, rfl⟩)
    | (go_at_call 37; refine (pre0 _ true _ (by decide) (by decide)).mono ?_; rintro e w1 ⟨rfl, rfl⟩))
  go_ret
  exact ⟨by kernel_rfl, rfl⟩
theorem mul_8 (w : World) : Calls Tryd.prog 36 #[.int .u64 1, .int .u64 8] w fun e w' => e = .returned (.tuple #[.int .u64 0, .int .u64 8]) ∧ w = w' := by
  go_enter Tryd.func36, Tryd.ntmps36
  go_wp2
  go_ret2
  exact ⟨by kernel_rfl, rfl⟩
set_option maxRecDepth 60000 in
theorem rep_8 (w : World) : Calls Tryd.prog 31 #[.string ⟨#[48]⟩, .int .i64 8] w fun e w' => e = .returned (.string ⟨#[48, 48, 48, 48, 48, 48, 48, 48]⟩) ∧ w = w' := by
  go_enter Tryd.func31, Tryd.ntmps31
  go_wp2_with (first
    | (go_at_call 36; refine (mul_8 _).mono ?_; rintro e w1 ⟨rfl, rfl⟩)
    | (go_at_call 37; refine (pre0 _ false _ (by decide) (by decide)).mono ?_; rintro e w1 ⟨rfl, rfl⟩)
    | (go_at_call 37; refine (pre0 _ true _ (by decide) (by decide)).mono ?_; rintro e w1 ⟨rfl, rfl⟩))
  go_ret
  exact ⟨by kernel_rfl, rfl⟩
theorem mul_9 (w : World) : Calls Tryd.prog 36 #[.int .u64 1, .int .u64 9] w fun e w' => e = .returned (.tuple #[.int .u64 0, .int .u64 9]) ∧ w = w' := by
  go_enter Tryd.func36, Tryd.ntmps36
  go_wp2
  go_ret2
  exact ⟨by kernel_rfl, rfl⟩
set_option maxRecDepth 60000 in
theorem rep_9 (w : World) : Calls Tryd.prog 31 #[.string ⟨#[48]⟩, .int .i64 9] w fun e w' => e = .returned (.string ⟨#[48, 48, 48, 48, 48, 48, 48, 48, 48]⟩) ∧ w = w' := by
  go_enter Tryd.func31, Tryd.ntmps31
  go_wp2_with (first
    | (go_at_call 36; refine (mul_9 _).mono ?_; rintro e w1 ⟨rfl, rfl⟩)
    | (go_at_call 37; refine (pre0 _ false _ (by decide) (by decide)).mono ?_; rintro e w1 ⟨rfl, rfl⟩)
    | (go_at_call 37; refine (pre0 _ true _ (by decide) (by decide)).mono ?_; rintro e w1 ⟨rfl, rfl⟩))
  go_ret
  exact ⟨by kernel_rfl, rfl⟩
theorem mul_10 (w : World) : Calls Tryd.prog 36 #[.int .u64 1, .int .u64 10] w fun e w' => e = .returned (.tuple #[.int .u64 0, .int .u64 10]) ∧ w = w' := by
  go_enter Tryd.func36, Tryd.ntmps36
  go_wp2
  go_ret2
  exact ⟨by kernel_rfl, rfl⟩
set_option maxRecDepth 60000 in
theorem rep_10 (w : World) : Calls Tryd.prog 31 #[.string ⟨#[48]⟩, .int .i64 10] w fun e w' => e = .returned (.string ⟨#[48, 48, 48, 48, 48, 48, 48, 48, 48, 48]⟩) ∧ w = w' := by
  go_enter Tryd.func31, Tryd.ntmps31
  go_wp2_with (first
    | (go_at_call 36; refine (mul_10 _).mono ?_; rintro e w1 ⟨rfl, rfl⟩)
    | (go_at_call 37; refine (pre0 _ false _ (by decide) (by decide)).mono ?_; rintro e w1 ⟨rfl, rfl⟩)
    | (go_at_call 37; refine (pre0 _ true _ (by decide) (by decide)).mono ?_; rintro e w1 ⟨rfl, rfl⟩))
  go_ret
  exact ⟨by kernel_rfl, rfl⟩
theorem mul_11 (w : World) : Calls Tryd.prog 36 #[.int .u64 1, .int .u64 11] w fun e w' => e = .returned (.tuple #[.int .u64 0, .int .u64 11]) ∧ w = w' := by
  go_enter Tryd.func36, Tryd.ntmps36
  go_wp2
  go_ret2
  exact ⟨by kernel_rfl, rfl⟩
set_option maxRecDepth 60000 in
theorem rep_11 (w : World) : Calls Tryd.prog 31 #[.string ⟨#[48]⟩, .int .i64 11] w fun e w' => e = .returned (.string ⟨#[48, 48, 48, 48, 48, 48, 48, 48, 48, 48, 48]⟩) ∧ w = w' := by
  go_enter Tryd.func31, Tryd.ntmps31
  go_wp2_with (first
    | (go_at_call 36; refine (mul_11 _).mono ?_; rintro e w1 ⟨rfl, rfl⟩)
    | (go_at_call 37; refine (pre0 _ false _ (by decide) (by decide)).mono ?_; rintro e w1 ⟨rfl, rfl⟩)
    | (go_at_call 37; refine (pre0 _ true _ (by decide) (by decide)).mono ?_; rintro e w1 ⟨rfl, rfl⟩))
  go_ret
  exact ⟨by kernel_rfl, rfl⟩
theorem mul_12 (w : World) : Calls Tryd.prog 36 #[.int .u64 1, .int .u64 12] w fun e w' => e = .returned (.tuple #[.int .u64 0, .int .u64 12]) ∧ w = w' := by
  go_enter Tryd.func36, Tryd.ntmps36
  go_wp2
  go_ret2
  exact ⟨by kernel_rfl, rfl⟩
set_option maxRecDepth 60000 in
theorem rep_12 (w : World) : Calls Tryd.prog 31 #[.string ⟨#[48]⟩, .int .i64 12] w fun e w' => e = .returned (.string ⟨#[48, 48, 48, 48, 48, 48, 48, 48, 48, 48, 48, 48]⟩) ∧ w = w' := by
  go_enter Tryd.func31, Tryd.ntmps31
  go_wp2_with (first
    | (go_at_call 36; refine (mul_12 _).mono ?_; rintro e w1 ⟨rfl, rfl⟩)
    | (go_at_call 37; refine (pre0 _ false _ (by decide) (by decide)).mono ?_; rintro e w1 ⟨rfl, rfl⟩)
    | (go_at_call 37; refine (pre0 _ true _ (by decide) (by decide)).mono ?_; rintro e w1 ⟨rfl, rfl⟩))
  go_ret
  exact ⟨by kernel_rfl, rfl⟩
theorem mul_13 (w : World) : Calls Tryd.prog 36 #[.int .u64 1, .int .u64 13] w fun e w' => e = .returned (.tuple #[.int .u64 0, .int .u64 13]) ∧ w = w' := by
  go_enter Tryd.func36, Tryd.ntmps36
  go_wp2
  go_ret2
  exact ⟨by kernel_rfl, rfl⟩
set_option maxRecDepth 60000 in
theorem rep_13 (w : World) : Calls Tryd.prog 31 #[.string ⟨#[48]⟩, .int .i64 13] w fun e w' => e = .returned (.string ⟨#[48, 48, 48, 48, 48, 48, 48, 48, 48, 48, 48, 48, 48]⟩) ∧ w = w' := by
  go_enter Tryd.func31, Tryd.ntmps31
  go_wp2_with (first
    | (go_at_call 36; refine (mul_13 _).mono ?_; rintro e w1 ⟨rfl, rfl⟩)
    | (go_at_call 37; refine (pre0 _ false _ (by decide) (by decide)).mono ?_; rintro e w1 ⟨rfl, rfl⟩)
    | (go_at_call 37; refine (pre0 _ true _ (by decide) (by decide)).mono ?_; rintro e w1 ⟨rfl, rfl⟩))
  go_ret
  exact ⟨by kernel_rfl, rfl⟩
theorem mul_14 (w : World) : Calls Tryd.prog 36 #[.int .u64 1, .int .u64 14] w fun e w' => e = .returned (.tuple #[.int .u64 0, .int .u64 14]) ∧ w = w' := by
  go_enter Tryd.func36, Tryd.ntmps36
  go_wp2
  go_ret2
  exact ⟨by kernel_rfl, rfl⟩
set_option maxRecDepth 60000 in
theorem rep_14 (w : World) : Calls Tryd.prog 31 #[.string ⟨#[48]⟩, .int .i64 14] w fun e w' => e = .returned (.string ⟨#[48, 48, 48, 48, 48, 48, 48, 48, 48, 48, 48, 48, 48, 48]⟩) ∧ w = w' := by
  go_enter Tryd.func31, Tryd.ntmps31
  go_wp2_with (first
    | (go_at_call 36; refine (mul_14 _).mono ?_; rintro e w1 ⟨rfl, rfl⟩)
    | (go_at_call 37; refine (pre0 _ false _ (by decide) (by decide)).mono ?_; rintro e w1 ⟨rfl, rfl⟩)
    | (go_at_call 37; refine (pre0 _ true _ (by decide) (by decide)).mono ?_; rintro e w1 ⟨rfl, rfl⟩))
  go_ret
  exact ⟨by kernel_rfl, rfl⟩
theorem mul_15 (w : World) : Calls Tryd.prog 36 #[.int .u64 1, .int .u64 15] w fun e w' => e = .returned (.tuple #[.int .u64 0, .int .u64 15]) ∧ w = w' := by
  go_enter Tryd.func36, Tryd.ntmps36
  go_wp2
  go_ret2
  exact ⟨by kernel_rfl, rfl⟩
set_option maxRecDepth 60000 in
theorem rep_15 (w : World) : Calls Tryd.prog 31 #[.string ⟨#[48]⟩, .int .i64 15] w fun e w' => e = .returned (.string ⟨#[48, 48, 48, 48, 48, 48, 48, 48, 48, 48, 48, 48, 48, 48, 48]⟩) ∧ w = w' := by
  go_enter Tryd.func31, Tryd.ntmps31
  go_wp2_with (first
    | (go_at_call 36; refine (mul_15 _).mono ?_; rintro e w1 ⟨rfl, rfl⟩)
    | (go_at_call 37; refine (pre0 _ false _ (by decide) (by decide)).mono ?_; rintro e w1 ⟨rfl, rfl⟩)
    | (go_at_call 37; refine (pre0 _ true _ (by decide) (by decide)).mono ?_; rintro e w1 ⟨rfl, rfl⟩))
  go_ret
  exact ⟨by kernel_rfl, rfl⟩
end Go.Proofs.YtiegocnmijheoaaDoor
