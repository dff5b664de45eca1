/- WALKS of layer 26: Same, the floats. -/
import Derived.Test.YtoiblmhhilipjaaA
import Derived.RegionTactic
import Derived.WalkLawsBesides
import Derived.Laws.FloatArith
import Derived.Lib.Hide
set_option linter.unusedVariables false
namespace Go.Proofs.Ytoiblmhhilipjaa
open Go.RowKit Go.ChangeShapes Go.WideShapes Go.ChangeAt

def sameB (k mo li sz ino gen k' mo' li' sz' ino' gen' : Int) : Bool := k == k' && mo == mo' && li == li' && sz == sz' && ino == ino' && gen == gen'

set_option maxHeartbeats 1000000 in
theorem refsame_any (k mo li sz mt ct ino gen k' mo' li' sz' mt' ct' ino' gen' : Int) (w : World) :
    Calls Try.prog 11 #[.agg #[.int .u8 k, .int .i64 mo, .int .i64 li, .int .i64 sz, .int .i64 mt, .int .i64 ct, .int .i64 ino, .int .i64 gen], .agg #[.int .u8 k', .int .i64 mo', .int .i64 li', .int .i64 sz', .int .i64 mt', .int .i64 ct', .int .i64 ino', .int .i64 gen']] w fun e w' => e = .returned (.bool (sameB k mo li sz ino gen k' mo' li' sz' ino' gen')) ∧ Below w.heap.size w w' := by
  go_enter Try.func11, Try.ntmps11
  go_wp2_with fail
  all_goals go_ret
  all_goals exact ⟨ret_bool (by simp [sameB, *]), by go_grown⟩

set_option maxHeartbeats 1000000 in
theorem same_any (k mo li sz mt ct ino gen k' mo' li' sz' mt' ct' ino' gen' : Int) (w : World) :
    Calls Try.prog 10 #[.agg #[.int .u8 k, .int .i64 mo, .int .i64 li, .int .i64 sz, .int .i64 mt, .int .i64 ct, .int .i64 ino, .int .i64 gen], .agg #[.int .u8 k', .int .i64 mo', .int .i64 li', .int .i64 sz', .int .i64 mt', .int .i64 ct', .int .i64 ino', .int .i64 gen']] w fun e w' => e = .returned (.bool (sameB k mo li sz ino gen k' mo' li' sz' ino' gen')) ∧ Below w.heap.size w w' := by
  go_enter Try.func10, Try.ntmps10
  go_wp2_with fail
  go_region
  all_goals go_wp2_with fail
  all_goals go_ret
  all_goals exact ⟨ret_bool (by simp [sameB, *]), by go_grown⟩

/-- Are the bits of no number? -/
def nanB (x : Nat) : Bool := (FloatKind.format .f64).order x x != some .eq
def bitsR (x : Nat) : Int := if nanB x then 9221120237041090561 else x

theorem isnan_any (x : Nat) (w : World) : Calls Try.prog 27 #[.float .f64 x] w fun e w' => e = .returned (.bool (nanB x)) ∧ w = w' := by
  go_enter Try.func27, Try.ntmps27
  go_wp2_with fail
  all_goals go_ret
  all_goals exact ⟨rfl, rfl⟩

theorem run_bits (x : Nat) (w : World) : Sem.run Try.prog (callFunc 28 #[.float .f64 x]) w = .ok (.value (.int .u64 x)) w := by kernel_rfl
theorem run_frombits (n : Int) (w : World) : Sem.run Try.prog (callFunc 25 #[.int .u64 n]) w = .ok (.value (.float .f64 n.toNat)) w := by kernel_rfl

theorem bitsR_t {x : Nat} (h : nanB x = true) : bitsR x = 9221120237041090561 := by unfold bitsR; rw [if_pos h]
theorem bitsR_f {x : Nat} (h : nanB x = false) : bitsR x = x := by unfold bitsR; rw [if_neg (by simp [h])]
theorem ret_int {k : IntKind} {a b : Int} (h : a = b) : Ending.returned (.int k a) = .returned (.int k b) := by rw [h]

theorem bits_any (x : Nat) (w : World) : Calls Try.prog 23 #[.float .f64 x] w fun e w' => e = .returned (.int .u64 (bitsR x)) ∧ w = w' := by
  have hb := run_bits x
  go_enter Try.func23, Try.ntmps23
  go_wp2_with (go_at_call 27; refine (isnan_any _ _).mono ?_; rintro e w' ⟨rfl, rfl⟩)
  all_goals go_ret
  · exact ⟨ret_int (bitsR_t ‹_›).symm, rfl⟩
  · exact ⟨ret_int (bitsR_f ‹_›).symm, rfl⟩

theorem refbits_any (x : Nat) (w : World) : Calls Try.prog 24 #[.float .f64 x] w fun e w' => e = .returned (.int .u64 (bitsR x)) ∧ w = w' := by
  have hb := run_bits x
  cases hn : nanB x
  case true =>
    have hn' : ((FloatKind.format .f64).order x x != some .eq) = true := hn
    go_enter Try.func24, Try.ntmps24
    go_wp2_with fail
    go_ret
    exact ⟨ret_int (bitsR_t hn).symm, rfl⟩
  case false =>
    have hn' : ((FloatKind.format .f64).order x x != some .eq) = false := hn
    go_enter Try.func24, Try.ntmps24
    go_wp2_with fail
    go_ret
    exact ⟨ret_int (bitsR_f hn).symm, rfl⟩

def lessB (a b : Int) : Bool := (FloatKind.format .f64).order a.toNat b.toNat == some .lt

theorem less_any (a b : Int) (w : World) : Calls Try.prog 17 #[.int .u64 a, .int .u64 b] w fun e w' => e = .returned (.bool (lessB a b)) ∧ w = w' := by
  have ha := run_frombits a
  have hb := run_frombits b
  go_enter Try.func17, Try.ntmps17
  go_wp2_with fail
  go_ret
  exact ⟨rfl, rfl⟩
theorem refless_any (a b : Int) (w : World) : Calls Try.prog 18 #[.int .u64 a, .int .u64 b] w fun e w' => e = .returned (.bool (lessB a b)) ∧ w = w' := by
  have ha := run_frombits a
  have hb := run_frombits b
  go_enter Try.func18, Try.ntmps18
  go_wp2_with fail
  go_ret
  exact ⟨rfl, rfl⟩

theorem nan_cut (a b t : Nat) : nanB ((Question.nanBits .f64 a b).cut t) = true := by
  have e : (Question.nanBits .f64 a b).cut t = (t % 2) * 2 ^ 63 + 0x7ff0000000000000 + 1 + (t / 2) % (2 ^ 52 - 1) := rfl
  rw [e]
  generalize hu : (t % 2) * 2 ^ 63 + 0x7ff0000000000000 + 1 + (t / 2) % (2 ^ 52 - 1) = u
  have h1 : (t / 2) % (2 ^ 52 - 1) < 2 ^ 52 - 1 := Nat.mod_lt _ (by decide)
  have hm : u % 9223372036854775808 = 9218868437227405312 + 1 + (t / 2) % (2 ^ 52 - 1) := by omega
  have hr : Ieee.double.read u = .nan (u / Ieee.double.signWeight % 2 == 1) (1 + (t / 2) % (2 ^ 52 - 1)) := by
    unfold Ieee.Format.read
    have d1 : Ieee.double.signWeight = 9223372036854775808 := by decide +kernel
    have d2 : Ieee.double.binade = 4503599627370496 := by decide +kernel
    have d3 : Ieee.double.infRung = 9218868437227405312 := by decide +kernel
    simp only [d1, d2, d3, hm]
    generalize (t / 2) % (2 ^ 52 - 1) = c at *
    rw [if_neg (by omega), if_neg (by omega), if_neg (by omega)]
    rw [show 9218868437227405312 + 1 + c - 9218868437227405312 = 1 + c from by omega]
  unfold nanB
  have : (FloatKind.format .f64).order u u = none := by
    show (Ieee.double.read u).order (Ieee.double.read u) = none
    rw [hr]; rfl
  rw [this]; rfl

theorem run_quo_nan {P : Program} (t : TypeId) (x y : Nat) (w : World) (h : floatBits .quo .f64 x y = none) : ∃ u, nanB u = true ∧ (binOp .quo t (.float .f64 x) (.float .f64 y)).run P w = .ok (.float .f64 u) w.drew := by
  have h' : (FloatKind.format .f64).div x y = none := h
  exact ⟨_, nan_cut x y (w.tape w.drawn (.nanBits .f64 x y)), by simp [binOp, Op.floatArith, h', choose]; rfl⟩

/-- The part's bits. -/
def partR (n all : Int) : Int := match floatBits .quo .f64 (floatOfInt .f64 n) (floatOfInt .f64 all) with | some r => bitsR r | none => 9221120237041090561
theorem partR_some {n all : Int} {r : Nat} (h : floatBits .quo .f64 (floatOfInt .f64 n) (floatOfInt .f64 all) = some r) : bitsR r = partR n all := by unfold partR; rw [h]
theorem partR_none {n all : Int} {u : Nat} (h : floatBits .quo .f64 (floatOfInt .f64 n) (floatOfInt .f64 all) = none) (hu : nanB u = true) : bitsR u = partR n all := by unfold partR; rw [h, bitsR_t hu]

theorem part_any (n all : Int) (w : World) : Calls Try.prog 13 #[.int .i64 n, .int .i64 all] w fun e w' => e = .returned (.int .u64 (partR n all)) ∧ Below w.heap.size w w' := by
  cases h : floatBits .quo .f64 (floatOfInt .f64 n) (floatOfInt .f64 all) with
  | some r =>
    have H := Lib.hid (partR_some h)
    have hq := fun w => run_float_arith (P := Try.prog) w .quo 44 .f64 _ _ r h
    clear h
    go_enter Try.func13, Try.ntmps13
    go_wp2_with (go_at_call 23; refine (bits_any _ _).mono ?_; rintro e w' ⟨rfl, rfl⟩)
    go_ret
    exact ⟨ret_int H.out, by go_grown⟩
  | none =>
    obtain ⟨u, hu, hq⟩ := run_quo_nan (P := Try.prog) 44 _ _ w h
    have H := Lib.hid (partR_none h hu)
    clear h hu
    go_enter Try.func13, Try.ntmps13
    go_wp2_with (go_at_call 23; refine (bits_any _ _).mono ?_; rintro e w' ⟨rfl, rfl⟩)
    go_ret
    exact ⟨ret_int H.out, by go_grown⟩
theorem refpart_any (n all : Int) (w : World) : Calls Try.prog 14 #[.int .i64 n, .int .i64 all] w fun e w' => e = .returned (.int .u64 (partR n all)) ∧ Below w.heap.size w w' := by
  cases h : floatBits .quo .f64 (floatOfInt .f64 n) (floatOfInt .f64 all) with
  | some r =>
    have H := Lib.hid (partR_some h)
    have hq := fun w => run_float_arith (P := Try.prog) w .quo 44 .f64 _ _ r h
    clear h
    go_enter Try.func14, Try.ntmps14
    go_wp2_with (go_at_call 24; refine (refbits_any _ _).mono ?_; rintro e w' ⟨rfl, rfl⟩)
    go_ret
    exact ⟨ret_int H.out, by go_grown⟩
  | none =>
    obtain ⟨u, hu, hq⟩ := run_quo_nan (P := Try.prog) 44 _ _ w h
    have H := Lib.hid (partR_none h hu)
    clear h hu
    go_enter Try.func14, Try.ntmps14
    go_wp2_with (go_at_call 24; refine (refbits_any _ _).mono ?_; rintro e w' ⟨rfl, rfl⟩)
    go_ret
    exact ⟨ret_int H.out, by go_grown⟩
end Go.Proofs.Ytoiblmhhilipjaa
