/- WALKS of layer 26: the means. -/
import Derived.Test.YtoiblmhhilipjaaD
import Derived.Test.YtoiblmhhilipjaaFl
import Derived.LoopTactic
set_option linter.unusedVariables false
namespace Go.Proofs.Ytoiblmhhilipjaa
open Go.RowKit Go.ChangeShapes Go.WideShapes Go.ChangeAt

/-- The sum of numbers as floats, rounded behind each. -/
def sumF (l : List Int) : Nat := l.foldl (fun s n => (floatBits .add .f64 s (floatOfInt .f64 n)).getD 0) 0
theorem sumF_nil : sumF [] = 0 := rfl
theorem sumF_snoc (l : List Int) (n : Int) : sumF (l ++ [n]) = (floatBits .add .f64 (sumF l) (floatOfInt .f64 n)).getD 0 := by unfold sumF; rw [List.foldl_append]; rfl
theorem fb_add (x y : Nat) : floatBits .add .f64 x y = Ieee.double.add x y := rfl
theorem sumF_ok (l : List Int) : (∀ n ∈ l, n.natAbs < 2 ^ 64) → Fl.Ok (sumF l) := by
  suffices ∀ (l : List Int) (s : Nat), Fl.Ok s → (∀ n ∈ l, n.natAbs < 2 ^ 64) → Fl.Ok (l.foldl (fun s n => (floatBits .add .f64 s (floatOfInt .f64 n)).getD 0) s) from
    this l 0 ⟨false, 0, by decide, by decide⟩
  intro l
  induction l with
  | nil => intro s hs _; exact hs
  | cons n r ih =>
    intro s hs h
    obtain ⟨z, e, hz⟩ := Fl.add_ok hs (Fl.fin_int n (h n (by simp)))
    have e' : floatBits .add .f64 s (floatOfInt .f64 n) = some z := e
    rw [List.foldl_cons, e']
    exact ih _ hz (fun m hm => h m (by simp [hm]))
theorem sumF_step (l : List Int) (n : Int) (h : ∀ m ∈ l, m.natAbs < 2 ^ 64) (hn : n.natAbs < 2 ^ 64) : floatBits .add .f64 (sumF l) (floatOfInt .f64 n) = some (sumF (l ++ [n])) := by
  obtain ⟨z, e, _⟩ := Fl.add_ok (sumF_ok l h) (Fl.fin_int n hn)
  have e' : floatBits .add .f64 (sumF l) (floatOfInt .f64 n) = some z := e
  rw [sumF_snoc, e']; rfl
theorem sumF_one (n : Int) (hn : n.natAbs < 2 ^ 64) : sumF [n] = floatOfInt .f64 n := by
  have e : floatBits .add .f64 0 (floatOfInt .f64 n) = some (floatOfInt .f64 n) := Fl.add_zero n hn
  have := sumF_snoc [] n
  rw [sumF_nil, e] at this
  exact this

theorem take_snoc (l : List Int) (k : Nat) (h : k < l.length) : l.take (k + 1) = l.take k ++ [l.getD k 0] := by
  rw [List.take_succ_eq_append_getElem h]; simp [List.getD, h]

/-- A slice that reads as numbers. -/
def RdI (w : World) (A : Option Addr) (l : List Int) : Prop := l ≠ [] → ∃ b off, A = some ⟨b, off, none⟩ ∧ ∀ k, k < l.length → w.cell? ⟨b, off + k, none⟩ = some (.int .i64 (l.getD k 0))

def meanR (l : List Int) : Int := match floatBits .quo .f64 (sumF l) (floatOfInt .f64 l.length) with | some r => bitsR r | none => 9221120237041090561
theorem meanR_some {l : List Int} {r : Nat} (h : floatBits .quo .f64 (sumF l) (floatOfInt .f64 l.length) = some r) : bitsR r = meanR l := by unfold meanR; rw [h]
theorem meanR_none {l : List Int} {u : Nat} (h : floatBits .quo .f64 (sumF l) (floatOfInt .f64 l.length) = none) (hu : nanB u = true) : bitsR u = meanR l := by unfold meanR; rw [h, bitsR_t hu]
/-- The quotient, whether it is a number or not. -/
theorem mean_run {P : Program} (t : TypeId) (l : List Int) (w : World) : ∃ u w', (binOp .quo t (.float .f64 (sumF l)) (.float .f64 (floatOfInt .f64 l.length))).run P w = .ok (.float .f64 u) w' ∧ bitsR u = meanR l ∧ Below w.heap.size w w' := by
  cases h : floatBits .quo .f64 (sumF l) (floatOfInt .f64 l.length) with
  | some r => exact ⟨r, w, run_float_arith w .quo t .f64 _ _ r h, meanR_some h, Below.refl _ _⟩
  | none =>
    obtain ⟨u, hu, hq⟩ := run_quo_nan (P := P) t _ _ w h
    exact ⟨u, w.drew, hq, meanR_none h hu, (Below.refl _ _).drew⟩

set_option maxHeartbeats 400000 in
theorem mean_any (A : Option Addr) (c : Nat) (l : List Int) (w : World) (hw : ∀ n ∈ l, n.natAbs < 2 ^ 64) (hl : l.length ≤ 9223372036854775807) (h : RdI w A l) :
    Calls Try.prog 15 #[.slice A l.length c] w fun e w' => e = .returned (.int .u64 (meanR l)) ∧ Below w.heap.size w w' := by
  obtain ⟨u, w2, hq, hu, hb⟩ := mean_run (P := Try.prog) 44 l w
  have HU := Lib.hid hu
  have HB := Lib.hid hb
  clear hu hb
  by_cases h0 : l = []
  · subst h0
    simp only [sumF_nil, List.length_nil, Int.natCast_zero] at hq
    clear hw hl h
    go_enter Try.func15, Try.ntmps15
    go_wp2_with fail
    refine wp_loop_rounds 1 ?_
    rw [rounds_succ]
    go_wp2_with (go_at_call 23; refine (bits_any _ _).mono ?_; rintro e w' ⟨rfl, rfl⟩)
    go_ret
    exact ⟨ret_int HU.out, HB.out⟩
  · obtain ⟨b, off, rfl, hc⟩ := h h0
    have hpos : 0 < l.length := List.length_pos_iff.2 h0
    have HC := Lib.hid hc
    have HW := Lib.hid hw
    clear hc hw h h0
    go_enter Try.func15, Try.ntmps15
    go_wp2_with fail
    go_loop [3, 8] (fun s i => ∃ k : Nat, k ≤ l.length ∧ i = .int .i64 k ∧ s = .float .f64 (sumF (l.take k))) (fun _ i => l.length - (intOf i).toNat)
    case atStart => exact ⟨0, Nat.zero_le _, rfl, rfl⟩
    case round =>
      obtain ⟨k, hk, rfl, rfl⟩ := hrel
      by_cases hlt : k < l.length
      · have hcell := HC.out k hlt
        have hadd := run_float_arith (P := Try.prog) w .add 44 .f64 _ _ _ (sumF_step (l.take k) (l.getD k 0) (fun m hm => HW.out m (List.mem_of_mem_take hm)) (HW.out _ (by simp [List.getD, hlt])))
        have ht := take_snoc l k hlt
        rw [← ht] at hadd
        generalize l.getD k 0 = n at hcell hadd
        clear ht
        go_wp2_with fail
        go_round
        case rel => exact ⟨k + 1, by omega, by go_num, rfl⟩
        case measure => simp [intOf]; omega
      · have hkl : k = l.length := by omega
        subst hkl
        rw [List.take_length]
        go_wp2_with (go_at_call 23; refine (bits_any _ _).mono ?_; rintro e w' ⟨rfl, rfl⟩)
        go_ret
        exact ⟨ret_int HU.out, HB.out⟩

set_option maxHeartbeats 400000 in
theorem refmean_any (A : Option Addr) (c : Nat) (l : List Int) (w : World) (hw : ∀ n ∈ l, n.natAbs < 2 ^ 64) (hl : l.length ≤ 9223372036854775807) (h : RdI w A l) :
    Calls Try.prog 16 #[.slice A l.length c] w fun e w' => e = .returned (.int .u64 (meanR l)) ∧ Below w.heap.size w w' := by
  obtain ⟨u, w2, hq, hu, hb⟩ := mean_run (P := Try.prog) 44 l w
  have HU := Lib.hid hu
  have HB := Lib.hid hb
  clear hu hb
  by_cases h0 : l = []
  · subst h0
    simp only [sumF_nil, List.length_nil, Int.natCast_zero] at hq
    clear hw hl h
    go_enter Try.func16, Try.ntmps16
    go_wp2_with fail
    refine wp_loop_rounds 1 ?_
    rw [rounds_succ]
    go_wp2_with (go_at_call 24; refine (refbits_any _ _).mono ?_; rintro e w' ⟨rfl, rfl⟩)
    go_ret
    exact ⟨ret_int HU.out, HB.out⟩
  · obtain ⟨b, off, rfl, hc⟩ := h h0
    have hpos : 0 < l.length := List.length_pos_iff.2 h0
    have HC := Lib.hid hc
    have HW := Lib.hid hw
    clear hc hw h h0
    go_enter Try.func16, Try.ntmps16
    go_wp2_with fail
    go_loop [3, 4] (fun s i => ∃ k : Nat, k ≤ l.length ∧ i = .int .i64 k ∧ s = .float .f64 (sumF (l.take k))) (fun _ i => l.length - (intOf i).toNat)
    case atStart => exact ⟨0, Nat.zero_le _, rfl, rfl⟩
    case round =>
      obtain ⟨k, hk, rfl, rfl⟩ := hrel
      by_cases hlt : k < l.length
      · have hcell := HC.out k hlt
        have ht := take_snoc l k hlt
        by_cases hk0 : k = 0
        · subst hk0
          have h1 := sumF_one (l.getD 0 0) (HW.out _ (by simp [List.getD, hlt]))
          rw [List.take_zero, List.nil_append] at ht
          rw [← ht] at h1
          rw [Nat.add_zero] at hcell
          generalize l.getD 0 0 = n at hcell h1
          have H1 := Lib.hid h1
          clear ht h1
          go_wp2_with fail
          go_round
          case rel => exact ⟨1, by omega, rfl, by rw [show (1 : Nat) = 0 + 1 from rfl, H1.out]⟩
          case measure => simp [intOf]; omega
        · have hb0 : ((k : Int) == 0) = false := by simp; omega
          have hadd := run_float_arith (P := Try.prog) w .add 44 .f64 _ _ _ (sumF_step (l.take k) (l.getD k 0) (fun m hm => HW.out m (List.mem_of_mem_take hm)) (HW.out _ (by simp [List.getD, hlt])))
          rw [← ht] at hadd
          generalize l.getD k 0 = n at hcell hadd
          clear ht hk0
          go_wp2_with fail
          go_round
          case rel => exact ⟨k + 1, by omega, by go_num, rfl⟩
          case measure => simp [intOf]; omega
      · have hkl : k = l.length := by omega
        subst hkl
        rw [List.take_length]
        go_wp2_with (go_at_call 24; refine (refbits_any _ _).mono ?_; rintro e w' ⟨rfl, rfl⟩)
        go_ret
        exact ⟨ret_int HU.out, HB.out⟩
end Go.Proofs.Ytoiblmhhilipjaa
