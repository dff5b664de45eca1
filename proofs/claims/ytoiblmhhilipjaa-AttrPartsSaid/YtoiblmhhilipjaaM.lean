/- PLAIN: parts and means are where they should be. -/
import Derived.Test.YtoiblmhhilipjaaE
set_option linter.unusedVariables false
namespace Go.Proofs.Ytoiblmhhilipjaa
open Fl

theorem quo_div (x y : Nat) : floatBits .quo .f64 x y = Ieee.double.div x y := rfl
theorem foi (n : Int) : floatOfInt .f64 n = FloatKind.f64.nearest n := rfl

theorem nan_fin {z : Nat} (h : Fin' z) : nanB z = false := by
  unfold nanB
  have : (FloatKind.format .f64).order z z = some .eq := by
    have := order_fin h h
    rw [show compare (V z) (V z) = .eq from Std.ReflCmp.compare_self] at this
    exact this
  rw [this]; rfl
theorem bits_fin {z : Nat} (h : Fin' z) : bitsR z = z := bitsR_f (nan_fin h)
theorem less_fin {a b : Nat} (ha : Fin' a) (hb : Fin' b) (h : V b ≤ V a) : lessB a b = false := by
  unfold lessB
  have e : (FloatKind.format .f64).order (a : Int).toNat (b : Int).toNat = some (compare (V a) (V b)) := by
    rw [Int.toNat_natCast, Int.toNat_natCast]; exact order_fin ha hb
  rw [e]
  have : compare (V a) (V b) ≠ .lt := by
    intro hc
    have := Int.compare_eq_lt.1 hc
    omega
  cases hc : compare (V a) (V b) with
  | lt => exact absurd hc this
  | eq => rfl
  | gt => rfl

theorem part_self (n : Int) (hn : n.natAbs < 2 ^ 64) (h : n ≠ 0) : partR n n = 4607182418800017408 := by
  have e : floatBits .quo .f64 (floatOfInt .f64 n) (floatOfInt .f64 n) = some 4607182418800017408 := quo_self n hn h
  rw [← partR_some e]
  have hf : Fin' 4607182418800017408 := by unfold Fin'; decide
  exact bits_fin hf

theorem pos_fin (n all : Int) (hn : n.natAbs < 2 ^ 64) (ha : all.natAbs < 2 ^ 64) (h : 0 < all) : ∃ z, Ieee.double.div (FloatKind.f64.nearest n) (FloatKind.f64.nearest all) = some z ∧ Fin' z ∧ partR n all = z := by
  obtain ⟨p1, p2⟩ := int_pos all ha h
  obtain ⟨r, e, hr, _⟩ := quo_ex (fin_int n hn) (fin_int all ha) p1 p2
  have hz := fin_word (sg (FloatKind.f64.nearest n)) hr
  refine ⟨_, e, hz, ?_⟩
  have e' : floatBits .quo .f64 (floatOfInt .f64 n) (floatOfInt .f64 all) = some _ := e
  rw [← partR_some e']
  exact bits_fin hz

theorem part_mono (n m all : Int) (hn : n.natAbs < 2 ^ 64) (hm : m.natAbs < 2 ^ 64) (ha : all.natAbs < 2 ^ 64) (h : 0 < all) (hnm : n ≤ m) : lessB (partR m all) (partR n all) = false := by
  obtain ⟨z1, e1, f1, q1⟩ := pos_fin n all hn ha h
  obtain ⟨z2, e2, f2, q2⟩ := pos_fin m all hm ha h
  obtain ⟨p1, p2⟩ := int_pos all ha h
  rw [q1, q2]
  refine less_fin f2 f1 ?_
  exact (quo_le (fin_int n hn) (fin_int all ha) p1 p2 (fin_int m hm) (fin_int all ha) p1 p2 (Int.mul_le_mul_of_nonneg_right (int_mono n m hn hm hnm) (by omega)) e1 e2).2.2

/-- Sums of small numbers are exact. -/
theorem sum_exact (l : List Int) (hl : l.length ≤ 1000) (h : ∀ x ∈ l, -536870912 ≤ x ∧ x ≤ 536870912) :
    sumF l = FloatKind.f64.nearest l.sum ∧ (l.length : Int) * (-536870912) ≤ l.sum ∧ l.sum ≤ (l.length : Int) * 536870912 := by
  suffices ∀ (k : Nat), k ≤ l.length → sumF (l.take k) = FloatKind.f64.nearest (l.take k).sum ∧ (k : Int) * (-536870912) ≤ (l.take k).sum ∧ (l.take k).sum ≤ (k : Int) * 536870912 by
    have := this l.length (Nat.le_refl _)
    rwa [List.take_length] at this
  intro k
  induction k with
  | zero => intro _; exact ⟨by rw [List.take_zero]; decide, by simp, by simp⟩
  | succ k ih =>
    intro hk
    obtain ⟨i1, i2, i3⟩ := ih (by omega)
    have hx := h (l.getD k 0) (by simp [List.getD, show k < l.length by omega])
    have ht := take_snoc l k (by omega)
    have hs : (l.take (k + 1)).sum = (l.take k).sum + l.getD k 0 := by rw [ht]; simp
    refine ⟨?_, ?_, ?_⟩
    · rw [ht, sumF_snoc, i1, foi]
      have := add_exact (l.take k).sum (l.getD k 0) (by omega) (by omega) (by omega)
      have e : floatBits .add .f64 (FloatKind.f64.nearest (l.take k).sum) (FloatKind.f64.nearest (l.getD k 0)) = some (FloatKind.f64.nearest ((l.take k).sum + l.getD k 0)) := this
      rw [e, ← hs, ht]; rfl
    · rw [hs]; omega
    · rw [hs]; omega

theorem U_small (n : Int) (h : n.natAbs < 2 ^ 53) : U (rg (FloatKind.f64.nearest n)) = n.natAbs * T ∧ sg (FloatKind.f64.nearest n) = decide (n < 0) ∧ V (FloatKind.f64.nearest n) = n * T ∧ Fin' (FloatKind.f64.nearest n) := by
  obtain ⟨r, e, hr, hu, hv⟩ := int_exact n h
  exact ⟨by rw [e, rg_of _ hr, hu], by rw [e, sg_of _ hr], hv, by rw [e]; exact fin_word _ hr⟩

theorem le_sum (l : List Int) (a : Int) (h : ∀ x ∈ l, a ≤ x) : a * l.length ≤ l.sum := by
  induction l with
  | nil => simp
  | cons x r ih =>
    have := ih (fun y hy => h y (by simp [hy]))
    have hx := h x (by simp)
    simp only [List.length_cons, List.sum_cons, Int.natCast_add, Int.natCast_one, Int.mul_add, Int.mul_one]
    omega
theorem sum_le (l : List Int) (a : Int) (h : ∀ x ∈ l, x ≤ a) : l.sum ≤ a * l.length := by
  induction l with
  | nil => simp
  | cons x r ih =>
    have := ih (fun y hy => h y (by simp [hy]))
    have hx := h x (by simp)
    simp only [List.length_cons, List.sum_cons, Int.natCast_add, Int.natCast_one, Int.mul_add, Int.mul_one]
    omega

theorem ac4 (a b t : Int) : (a * t) * (b * t) = a * b * (t * t) := by ac_rfl
theorem ac5 (a l t : Nat) : a * l * t * t * (1 * t) = a * t * t * (l * t) := by rw [Nat.one_mul]; ac_rfl

theorem mean_bounds (l : List Int) (hl : l.length ≤ 1000) (h0 : l ≠ []) (h : ∀ x ∈ l, -536870912 ≤ x ∧ x ≤ 536870912) (least most : Int) (ba : -536870912 ≤ least ∧ least ≤ 536870912) (bb : -536870912 ≤ most ∧ most ≤ 536870912)
    (h1 : ∀ x ∈ l, least ≤ x) (h2 : ∀ x ∈ l, x ≤ most) :
    lessB (meanR l) (partR least 1) = false ∧ lessB (partR most 1) (meanR l) = false ∧ (least = most → meanR l = partR least 1) := by
  obtain ⟨s1, s2, s3⟩ := sum_exact l hl h
  have hp : 0 < l.length := List.length_pos_iff.2 h0
  have tp := T_pos
  obtain ⟨uS, gS, vS, fS⟩ := U_small l.sum (by omega)
  obtain ⟨uC, gC, vC, fC⟩ := U_small (l.length : Int) (by omega)
  obtain ⟨uO, gO, vO, fO⟩ := U_small 1 (by omega)
  obtain ⟨uL, gL, vL, fL⟩ := U_small least (by omega)
  obtain ⟨uM, gM, vM, fM⟩ := U_small most (by omega)
  obtain ⟨c1, c2⟩ := int_pos (l.length : Int) (by omega) (by omega)
  obtain ⟨o1, o2⟩ := int_pos 1 (by omega) (by omega)
  obtain ⟨r, e, hr, hn⟩ := quo_ex fS fC c1 c2
  have hz := fin_word (sg (FloatKind.f64.nearest l.sum)) hr
  have hm : meanR l = (Ieee.double.word (sg (FloatKind.f64.nearest l.sum)) r : Nat) := by
    have e' : floatBits .quo .f64 (sumF l) (floatOfInt .f64 l.length) = some (Ieee.double.word (sg (FloatKind.f64.nearest l.sum)) r) := by rw [s1]; exact e
    rw [← meanR_some e']
    exact bits_fin hz
  obtain ⟨zl, el, fl, ql⟩ := pos_fin least 1 (by omega) (by omega) (by omega)
  obtain ⟨zm, em, fm, qm⟩ := pos_fin most 1 (by omega) (by omega) (by omega)
  have k1 := le_sum l least h1
  have k2 := sum_le l most h2
  have hT2 : (0 : Int) ≤ (T : Int) * (T : Int) := Int.mul_nonneg (by omega) (by omega)
  have na1 : (1 : Int).natAbs = 1 := rfl
  have cross : ∀ a b c d : Int, a * b ≤ c * d → (a * T) * (b * T) ≤ (c * T) * (d * T) := by
    intro a b c d hh
    have := Int.mul_le_mul_of_nonneg_right hh hT2
    rw [ac4, ac4]; exact this
  have cC : ((U (rg (FloatKind.f64.nearest (l.length : Int))) : Nat) : Int) = (l.length : Int) * T := by rw [uC, Int.natAbs_natCast, Int.natCast_mul]
  have cO : ((U (rg (FloatKind.f64.nearest 1)) : Nat) : Int) = 1 * T := by rw [uO, na1, Int.natCast_mul]; rfl
  refine ⟨?_, ?_, ?_⟩
  · rw [hm, ql]
    refine less_fin hz fl ?_
    refine (quo_le fL fO o1 o2 fS fC c1 c2 ?_ el e).2.2
    rw [vL, vS, cC, cO]
    exact cross _ _ _ _ (by omega)
  · rw [hm, qm]
    refine less_fin fm hz ?_
    refine (quo_le fS fC c1 c2 fM fO o1 o2 ?_ e em).2.2
    rw [vM, vS, cC, cO]
    exact cross _ _ _ _ (by omega)
  · rintro rfl
    rw [hm, ql]
    obtain ⟨r2, e2, hr2, hn2⟩ := quo_ex fL fO o1 o2
    have ez : zl = Ieee.double.word (sg (FloatKind.f64.nearest least)) r2 := by rw [e2] at el; cases el; rfl
    have hS : l.sum = least * l.length := by omega
    have hsg : sg (FloatKind.f64.nearest l.sum) = sg (FloatKind.f64.nearest least) := by
      rw [gS, gL, hS]
      rcases Int.lt_or_le least 0 with hneg | hpos
      · have : least * (l.length : Int) < 0 := Int.mul_neg_of_neg_of_pos hneg (by omega)
        simp [this, hneg]
      · have : 0 ≤ least * (l.length : Int) := Int.mul_nonneg hpos (by omega)
        simp; omega
    have hrr : r = r2 := by
      rw [uS, uC, hS, Int.natAbs_mul, Int.natAbs_natCast] at hn
      rw [uL, uO, na1] at hn2
      have hn3 := hn.congr (a' := least.natAbs * T * T) (b' := 1 * T) (Nat.mul_pos hp tp) (by omega) (ac5 _ _ _)
      exact hn3.uniq hn2 (by omega)
    rw [ez, hsg, hrr]
end Go.Proofs.Ytoiblmhhilipjaa
