/- WALKS of layer 26: Plan and what it calls. -/
import Derived.Test.YtoiblmhhilipjaaRows
import Derived.WalkKit
import Derived.ProofKit
import Derived.Handy
import Derived.Deep.Light
set_option linter.unusedVariables false
namespace Go.Proofs.Ytoiblmhhilipjaa
open Go.RowKit Go.ChangeShapes Go.WideShapes Go.ChangeAt

theorem ret_bool {a b : Bool} (h : a = b) : Ending.returned (.bool a) = .returned (.bool b) := by rw [h]
theorem bcell {W w1 : World} (hb : Below W.heap.size W w1) : (∀ b o, b < W.heap.size → w1.cell? ⟨b, o, none⟩ = W.cell? ⟨b, o, none⟩) ∧ (∀ b o, b < W.heap.size → w1.frozen? ⟨b, o, none⟩ = W.frozen? ⟨b, o, none⟩) :=
  ⟨fun b o h => hb.cell (p := ⟨b, o, none⟩) h, fun b o h => hb.frozen (p := ⟨b, o, none⟩) h⟩

/-- An object's value. -/
def ag (k mo li sz mt ct ino gen : Int) : Value := .agg #[.int .u8 k, .int .i64 mo, .int .i64 li, .int .i64 sz, .int .i64 mt, .int .i64 ct, .int .i64 ino, .int .i64 gen]
def er (e : Int) : Value := .tuple #[ag 0 0 0 0 0 0 0 0, .int .i64 e]
def cnt (n : Int) : Bool := decide (0 ≤ n ∧ n ≤ 2147483647)

theorem counts_one (n : Int) (a : Addr) (c : Nat) (w : World) (hc : w.cell? a = some (.int .i64 n)) :
    Calls Try.prog 26 #[.slice (some a) 1 c] w fun e w' => e = .returned (.bool (cnt n)) ∧ w = w' := by
  go_enter Try.func26, Try.ntmps26
  go_wp2
  go_rounds 2
  all_goals go_ret
  all_goals exact ⟨ret_bool (by unfold cnt; simp; try omega), rfl⟩

/-- What 'Sized' gives. -/
def sizedR (k mo li sz mt ct ino gen size now : Int) : Value :=
  if k ≠ 1 then er 55 else if size < 0 then er 1 else if cnt now = false then er 1 else if 32768 < size then er 40
  else .tuple #[ag k mo li size now now ino gen, .int .i64 0]
def modedR (k mo li sz mt ct ino gen mode now : Int) : Value :=
  if mode < 0 then er 1 else if 4095 < mode then er 1 else if cnt now = false then er 1
  else .tuple #[ag k mode li sz mt now ino gen, .int .i64 0]

set_option maxHeartbeats 400000 in
theorem sized_any (k mo li sz mt ct ino gen size now : Int) (w : World) :
    Calls Try.prog 20 #[.agg #[.int .u8 k, .int .i64 mo, .int .i64 li, .int .i64 sz, .int .i64 mt, .int .i64 ct, .int .i64 ino, .int .i64 gen], .int .i64 size, .int .i64 now] w
      fun e w' => e = .returned (sizedR k mo li sz mt ct ino gen size now) ∧ Below w.heap.size w w' := by
  go_enter Try.func20, Try.ntmps20
  go_wp2_with (go_at_call 26; go_call (counts_one now) as e w' ⟨rfl, rfl⟩)
  all_goals go_returns
  all_goals refine ⟨?_, by go_grown⟩
  all_goals (go_light; unfold sizedR er ag; repeat' split)
  all_goals first | rfl | (exfalso; simp_all <;> omega) | (simp_all; done)

set_option maxHeartbeats 400000 in
theorem moded_any (k mo li sz mt ct ino gen mode now : Int) (w : World) :
    Calls Try.prog 21 #[.agg #[.int .u8 k, .int .i64 mo, .int .i64 li, .int .i64 sz, .int .i64 mt, .int .i64 ct, .int .i64 ino, .int .i64 gen], .int .i64 mode, .int .i64 now] w
      fun e w' => e = .returned (modedR k mo li sz mt ct ino gen mode now) ∧ Below w.heap.size w w' := by
  go_enter Try.func21, Try.ntmps21
  go_wp2_with (go_at_call 26; go_call (counts_one now) as e w' ⟨rfl, rfl⟩)
  all_goals go_returns
  all_goals refine ⟨?_, by go_grown⟩
  all_goals (go_light; unfold modedR er ag; repeat' split)
  all_goals first | rfl | (exfalso; simp_all <;> omega) | (simp_all; done)

theorem count_any (n : Int) (w : World) : Calls Try.prog 22 #[.int .i64 n] w fun e w' => e = .returned (.bool (cnt n)) ∧ w = w' := by
  go_enter Try.func22, Try.ntmps22
  go_wp2
  all_goals go_ret
  all_goals exact ⟨ret_bool (by unfold cnt; simp <;> omega), rfl⟩

/-- What 'Plan' gives. -/
def planR (k mo li sz mt ct ino gen mode size guard now : Int) : Value :=
  if mode < -1 ∨ 4095 < mode ∨ size < -1 ∨ guard < -1 ∨ now < 0 ∨ 2147483647 < now then er 1
  else if guard ≠ -1 ∧ guard ≠ ct then er 59
  else if size ≠ -1 ∧ k ≠ 1 then er 55
  else if 32768 < size then er 40
  else if size = -1 then (if mode = -1 then .tuple #[ag k mo li sz mt ct ino gen, .int .i64 0] else .tuple #[ag k mode li sz mt now ino gen, .int .i64 0])
  else (if mode = -1 then .tuple #[ag k mo li size now now ino gen, .int .i64 0] else .tuple #[ag k mode li size now now ino gen, .int .i64 0])
section
variable {k mo li sz mt ct ino gen mode size guard now : Int}
theorem planR_arg (h : mode < -1 ∨ 4095 < mode ∨ size < -1 ∨ guard < -1 ∨ now < 0 ∨ 2147483647 < now) : er 1 = planR k mo li sz mt ct ino gen mode size guard now := by
  unfold planR; rw [if_pos h]
theorem planR_guard (h : ¬ (mode < -1 ∨ 4095 < mode ∨ size < -1 ∨ guard < -1 ∨ now < 0 ∨ 2147483647 < now)) (h2 : guard ≠ -1 ∧ guard ≠ ct) : er 59 = planR k mo li sz mt ct ino gen mode size guard now := by
  unfold planR; rw [if_neg h, if_pos h2]
theorem planR_kind (h : ¬ (mode < -1 ∨ 4095 < mode ∨ size < -1 ∨ guard < -1 ∨ now < 0 ∨ 2147483647 < now)) (h2 : ¬ (guard ≠ -1 ∧ guard ≠ ct)) (h3 : size ≠ -1 ∧ k ≠ 1) : er 55 = planR k mo li sz mt ct ino gen mode size guard now := by
  unfold planR; rw [if_neg h, if_neg h2, if_pos h3]
theorem planR_large (h : ¬ (mode < -1 ∨ 4095 < mode ∨ size < -1 ∨ guard < -1 ∨ now < 0 ∨ 2147483647 < now)) (h2 : ¬ (guard ≠ -1 ∧ guard ≠ ct)) (h3 : ¬ (size ≠ -1 ∧ k ≠ 1)) (h4 : 32768 < size) : er 40 = planR k mo li sz mt ct ino gen mode size guard now := by
  unfold planR; rw [if_neg h, if_neg h2, if_neg h3, if_pos h4]
theorem planR_ok (h : ¬ (mode < -1 ∨ 4095 < mode ∨ size < -1 ∨ guard < -1 ∨ now < 0 ∨ 2147483647 < now)) (h2 : ¬ (guard ≠ -1 ∧ guard ≠ ct)) (h3 : ¬ (size ≠ -1 ∧ k ≠ 1)) (h4 : ¬ 32768 < size) :
    planR k mo li sz mt ct ino gen mode size guard now = if size = -1 then (if mode = -1 then .tuple #[ag k mo li sz mt ct ino gen, .int .i64 0] else .tuple #[ag k mode li sz mt now ino gen, .int .i64 0])
      else (if mode = -1 then .tuple #[ag k mo li size now now ino gen, .int .i64 0] else .tuple #[ag k mode li size now now ino gen, .int .i64 0]) := by
  unfold planR; rw [if_neg h, if_neg h2, if_neg h3, if_neg h4]
theorem planR_1 (h : ¬ (mode < -1 ∨ 4095 < mode ∨ size < -1 ∨ guard < -1 ∨ now < 0 ∨ 2147483647 < now)) (h2 : ¬ (guard ≠ -1 ∧ guard ≠ ct)) (h3 : ¬ (size ≠ -1 ∧ k ≠ 1)) (h4 : ¬ 32768 < size) (h5 : size = -1) (h6 : mode = -1) :
    .tuple #[ag k mo li sz mt ct ino gen, .int .i64 0] = planR k mo li sz mt ct ino gen mode size guard now := by rw [planR_ok h h2 h3 h4, if_pos h5, if_pos h6]
theorem planR_2 (h : ¬ (mode < -1 ∨ 4095 < mode ∨ size < -1 ∨ guard < -1 ∨ now < 0 ∨ 2147483647 < now)) (h2 : ¬ (guard ≠ -1 ∧ guard ≠ ct)) (h3 : ¬ (size ≠ -1 ∧ k ≠ 1)) (h4 : ¬ 32768 < size) (h5 : size = -1) (h6 : mode ≠ -1) :
    .tuple #[ag k mode li sz mt now ino gen, .int .i64 0] = planR k mo li sz mt ct ino gen mode size guard now := by rw [planR_ok h h2 h3 h4, if_pos h5, if_neg h6]
theorem planR_3 (h : ¬ (mode < -1 ∨ 4095 < mode ∨ size < -1 ∨ guard < -1 ∨ now < 0 ∨ 2147483647 < now)) (h2 : ¬ (guard ≠ -1 ∧ guard ≠ ct)) (h3 : ¬ (size ≠ -1 ∧ k ≠ 1)) (h4 : ¬ 32768 < size) (h5 : size ≠ -1) (h6 : mode = -1) :
    .tuple #[ag k mo li size now now ino gen, .int .i64 0] = planR k mo li sz mt ct ino gen mode size guard now := by rw [planR_ok h h2 h3 h4, if_neg h5, if_pos h6]
theorem planR_4 (h : ¬ (mode < -1 ∨ 4095 < mode ∨ size < -1 ∨ guard < -1 ∨ now < 0 ∨ 2147483647 < now)) (h2 : ¬ (guard ≠ -1 ∧ guard ≠ ct)) (h3 : ¬ (size ≠ -1 ∧ k ≠ 1)) (h4 : ¬ 32768 < size) (h5 : size ≠ -1) (h6 : mode ≠ -1) :
    .tuple #[ag k mode li size now now ino gen, .int .i64 0] = planR k mo li sz mt ct ino gen mode size guard now := by rw [planR_ok h h2 h3 h4, if_neg h5, if_neg h6]
end
theorem cnt_true {n : Int} : cnt n = true ↔ (0 ≤ n ∧ n ≤ 2147483647) := by unfold cnt; exact decide_eq_true_iff
theorem cnt_false {n : Int} : cnt n = false ↔ ¬ (0 ≤ n ∧ n ≤ 2147483647) := by unfold cnt; exact decide_eq_false_iff_not

set_option maxHeartbeats 1000000 in
theorem refplan_any (k mo li sz mt ct ino gen mode size guard now : Int) (w : World) :
    Calls Try.prog 9 #[.agg #[.int .u8 k, .int .i64 mo, .int .i64 li, .int .i64 sz, .int .i64 mt, .int .i64 ct, .int .i64 ino, .int .i64 gen], .int .i64 mode, .int .i64 size, .int .i64 guard, .int .i64 now] w
      fun e w' => e = .returned (planR k mo li sz mt ct ino gen mode size guard now) ∧ Below w.heap.size w w' := by
  go_enter Try.func9, Try.ntmps9
  go_wp2_with (go_at_call 22; refine (count_any _ _).mono ?_; rintro e w' ⟨rfl, rfl⟩)
  all_goals go_returns
  all_goals refine ⟨?_, by go_grown⟩
  all_goals (go_light; refine congrArg Ending.returned ?_; try simp only [Bool.not_eq_true', Bool.not_eq_false', cnt_true, cnt_false, bne_iff_ne, bne_eq_false_iff_eq, ne_eq] at *)
  all_goals first | exact planR_arg (by omega) | exact planR_guard (by omega) (by omega) | exact planR_kind (by omega) (by omega) (by omega) | exact planR_large (by omega) (by omega) (by omega) (by omega) | exact planR_1 (by omega) (by omega) (by omega) (by omega) (by omega) (by omega) | exact planR_2 (by omega) (by omega) (by omega) (by omega) (by omega) (by omega) | exact planR_3 (by omega) (by omega) (by omega) (by omega) (by omega) (by omega) | exact planR_4 (by omega) (by omega) (by omega) (by omega) (by omega) (by omega) | skip
end Go.Proofs.Ytoiblmhhilipjaa
