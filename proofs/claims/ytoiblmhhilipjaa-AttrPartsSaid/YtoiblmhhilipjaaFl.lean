/- PLAIN: floats of 64 bits as numbers in units of 2^-1074: rounding is a monotone choice of a rung. -/
import GoSem.Core.Float
import Derived.Laws.Cover2
namespace Go.Proofs.Ytoiblmhhilipjaa.Fl
open Ieee

def B : Nat := 4503599627370496
def INF : Nat := 9218868437227405312
def SW : Nat := 9223372036854775808
/-- What a rung stands for, in units of 2^-1074. -/
def U (r : Nat) : Nat := if r < B then r else (B + r % B) * 2 ^ (r / B - 1)

theorem dB : double.binade = B := by decide +kernel
theorem dI : double.infRung = INF := by decide +kernel
theorem dS : double.signWeight = SW := by decide +kernel
theorem dL : double.leastPlace = -1074 := by decide +kernel

theorem U_at (E k : Nat) (h : E = 0 ∨ B ≤ k) (hk : k ≤ 2 * B) : U (E * B + k) = k * 2 ^ E := by
  have hB : 0 < B := by decide
  unfold U
  rcases Nat.lt_or_ge k B with h1 | h1
  · have hE : E = 0 := by omega
    subst hE
    simp [h1]
  · have hlt : ¬ (E * B + k < B) := by
      have : 0 ≤ E * B := Nat.zero_le _
      omega
    rw [if_neg hlt]
    rcases Nat.lt_or_ge k (2 * B) with h2 | h2
    · have e1 : E * B + k = (k - B) + (E + 1) * B := by rw [Nat.add_mul]; omega
      have hm : (E * B + k) % B = k - B := by rw [e1, Nat.add_mul_mod_self_right, Nat.mod_eq_of_lt (by omega)]
      have hd : (E * B + k) / B = E + 1 := by
        rw [e1, Nat.add_mul_div_right _ _ hB, Nat.div_eq_of_lt (by omega)]; omega
      have e2 : B + (k - B) = k := by omega
      rw [hm, hd, e2, Nat.add_sub_cancel]
    · have hk2 : k = 2 * B := by omega
      subst hk2
      have e1 : E * B + 2 * B = (E + 2) * B := by rw [Nat.add_mul]
      rw [e1, Nat.mul_mod_left, Nat.mul_div_cancel _ hB]
      simp only [Nat.add_zero]
      rw [show E + 2 - 1 = E + 1 from by omega, Nat.pow_succ]
      rw [Nat.mul_comm 2 B, Nat.mul_assoc, Nat.mul_comm 2]

theorem split (r : Nat) : ∃ E k, r = E * B + k ∧ (E = 0 ∨ B ≤ k) ∧ k < 2 * B := by
  have hB : 0 < B := by decide
  rcases Nat.lt_or_ge r B with h | h
  · exact ⟨0, r, by simp, .inl rfl, by omega⟩
  · have h1 := Nat.mod_add_div r B
    have h2 := Nat.mod_lt r hB
    have h3 : 1 ≤ r / B := (Nat.one_le_div_iff hB).2 h
    refine ⟨r / B - 1, r % B + B, ?_, .inr (by omega), by omega⟩
    rw [Nat.sub_mul, Nat.one_mul, Nat.mul_comm]
    have : B ≤ B * (r / B) := Nat.le_mul_of_pos_right _ h3
    omega

theorem U_succ (r : Nat) : U r < U (r + 1) := by
  obtain ⟨E, k, rfl, h, hk⟩ := split r
  rw [U_at E k h (by omega), Nat.add_assoc, U_at E (k + 1) (by omega) (by omega), Nat.add_mul]
  have := Nat.two_pow_pos E
  omega

theorem U_mono {a b : Nat} (h : a < b) : U a < U b := by
  induction b with
  | zero => omega
  | succ n ih =>
    rcases Nat.lt_or_ge a n with h1 | h1
    · exact Nat.lt_trans (ih h1) (U_succ n)
    · have : a = n := by omega
      subst this; exact U_succ _

theorem U_le {a b : Nat} (h : a ≤ b) : U a ≤ U b := by
  rcases Nat.lt_or_ge a b with h1 | h1
  · exact Nat.le_of_lt (U_mono h1)
  · have : a = b := by omega
    subst this; exact Nat.le_refl _

theorem U_inj {a b : Nat} (h : U a = U b) : a = b := by
  rcases Nat.lt_trichotomy a b with h1 | h1 | h1
  · have := U_mono h1; omega
  · exact h1
  · have := U_mono h1; omega

theorem U_zero : U 0 = 0 := by decide

/-- The rung r is the nearest to a / b (units of 2^-1074), ties to even. -/
structure Rn (r a b : Nat) : Prop where
  lo : r ≠ 0 → (U (r - 1) + U r) * b ≤ 2 * a
  hi : 2 * a ≤ (U r + U (r + 1)) * b
  tlo : r ≠ 0 → 2 * a = (U (r - 1) + U r) * b → r % 2 = 0
  thi : 2 * a = (U r + U (r + 1)) * b → r % 2 = 0

theorem Rn.mono {r1 a1 b1 r2 a2 b2 : Nat} (h1 : Rn r1 a1 b1) (h2 : Rn r2 a2 b2) (p1 : 0 < b1) (p2 : 0 < b2) (h : a1 * b2 ≤ a2 * b1) : r1 ≤ r2 := by
  rcases Nat.lt_or_ge r2 r1 with hlt | hge
  · exfalso
    have q1 := h1.lo (by omega)
    have q2 := h2.hi
    have m1 : U r2 ≤ U (r1 - 1) := U_le (by omega)
    have m2 : U (r2 + 1) ≤ U r1 := U_le (by omega)
    have x1 : (U (r1 - 1) + U r1) * b1 * b2 ≤ 2 * a1 * b2 := Nat.mul_le_mul_right _ q1
    have x2 : 2 * a2 * b1 ≤ (U r2 + U (r2 + 1)) * b2 * b1 := Nat.mul_le_mul_right _ q2
    have x3 : 2 * a1 * b2 ≤ 2 * a2 * b1 := by rw [Nat.mul_assoc, Nat.mul_assoc]; exact Nat.mul_le_mul_left _ h
    have x4 : (U r2 + U (r2 + 1)) * (b1 * b2) ≤ (U (r1 - 1) + U r1) * (b1 * b2) := Nat.mul_le_mul_right _ (by omega)
    rw [Nat.mul_assoc] at x1
    rw [Nat.mul_assoc (U r2 + U (r2 + 1)), Nat.mul_comm b2 b1] at x2
    have hpos : 0 < b1 * b2 := Nat.mul_pos p1 p2
    have e : (U r2 + U (r2 + 1)) * (b1 * b2) = (U (r1 - 1) + U r1) * (b1 * b2) := by omega
    have e' := Nat.eq_of_mul_eq_mul_right hpos e
    have f1 : U r2 = U (r1 - 1) := by omega
    have g1 : r2 = r1 - 1 := U_inj f1
    have t1 : 2 * a1 * b2 = (U (r1 - 1) + U r1) * b1 * b2 := by rw [Nat.mul_assoc (U (r1 - 1) + U r1)]; omega
    have t2 : 2 * a2 * b1 = (U r2 + U (r2 + 1)) * b2 * b1 := by rw [Nat.mul_assoc (U r2 + U (r2 + 1)), Nat.mul_comm b2 b1]; omega
    have u1 := h1.tlo (by omega) (Nat.eq_of_mul_eq_mul_right p2 t1)
    have u2 := h2.thi (Nat.eq_of_mul_eq_mul_right p1 t2)
    omega
  · exact hge

theorem Rn.congr {r a b a' b' : Nat} (h : Rn r a b) (p : 0 < b) (p' : 0 < b') (e : a * b' = a' * b) : Rn r a' b' := by
  have key : ∀ c : Nat, (c * b ≤ 2 * a ↔ c * b' ≤ 2 * a') ∧ (2 * a ≤ c * b ↔ 2 * a' ≤ c * b') ∧ (2 * a = c * b ↔ 2 * a' = c * b') := by
    intro c
    have e2 : 2 * a * b' = 2 * a' * b := by rw [Nat.mul_assoc, e, Nat.mul_assoc]
    have s1 : c * b * b' = c * b' * b := by rw [Nat.mul_assoc, Nat.mul_assoc, Nat.mul_comm b b']
    refine ⟨?_, ?_, ?_⟩
    · rw [← Nat.mul_le_mul_right_iff p', e2, s1, Nat.mul_le_mul_right_iff p]
    · rw [← Nat.mul_le_mul_right_iff p', e2, s1, Nat.mul_le_mul_right_iff p]
    · constructor
      · intro h; apply Nat.eq_of_mul_eq_mul_right p; rw [← e2, h, s1]
      · intro h; apply Nat.eq_of_mul_eq_mul_right p'; rw [e2, h, s1]
  exact ⟨fun hr => (key _).1.1 (h.lo hr), (key _).2.1.1 h.hi, fun hr ht => h.tlo hr ((key _).2.2.2 ht), fun ht => h.thi ((key _).2.2.2 ht)⟩

theorem Rn.self (r : Nat) : Rn r (U r) 1 := by
  have h1 := U_succ r
  refine ⟨fun hr => ?_, by omega, fun hr ht => ?_, fun ht => by omega⟩
  · have := U_le (show r - 1 ≤ r by omega); omega
  · have := U_mono (show r - 1 < r by omega); omega

theorem Rn.uniq {r s a b : Nat} (h : Rn r a b) (k : Rn s a b) (p : 0 < b) : r = s :=
  Nat.le_antisymm (h.mono k p p (Nat.le_refl _)) (k.mono h p p (Nat.le_refl _))

theorem Rn.exact {r s : Nat} (h : Rn r (U s) 1) : r = s := h.uniq (Rn.self s) (by omega)

/-- Rounding off 'd' digits to the nearest, ties to even. -/
theorem cut_spec (n d : Nat) :
    let k := Toward.even.cut false n d
    2 ^ d * (2 * k) ≤ 2 * n + 2 ^ d ∧ 2 * n ≤ 2 ^ d * (2 * k + 1) ∧ (2 ^ d * (2 * k) = 2 * n + 2 ^ d → k % 2 = 0) ∧ (2 * n = 2 ^ d * (2 * k + 1) → k % 2 = 0) := by
  intro k
  have hn : n < 2 ^ (n.log2 + 1) := Nat.lt_log2_self
  rcases Nat.lt_or_ge d (n.log2 + 3) with h | h
  · have hg : 1 <<< min d (n.log2 + 2) = 2 ^ d := by rw [Nat.min_eq_left (by omega), Nat.one_shiftLeft]
    have hk : k = n / 2 ^ d + (decide (2 ^ d < 2 * (n % 2 ^ d)) || (2 ^ d == 2 * (n % 2 ^ d) && n / 2 ^ d % 2 == 1)).toNat := by
      show Toward.even.cut false n d = _
      simp only [Toward.cut, hg]
    have hp := Nat.two_pow_pos d
    have hm := Nat.mod_lt n hp
    have he := Nat.mod_add_div n (2 ^ d)
    generalize 2 ^ d = g at *
    generalize hq : n / g = q at *
    generalize hr : n % g = r at *
    have e1 : ∀ x : Nat, g * (2 * (q + x)) = 2 * (g * q) + 2 * (g * x) := by intro x; rw [Nat.mul_left_comm, Nat.mul_add]; omega
    have e2 : ∀ x : Nat, g * (2 * (q + x) + 1) = 2 * (g * q) + 2 * (g * x) + g := by intro x; rw [Nat.mul_add, e1]; omega
    by_cases c1 : g < 2 * r
    · have : k = q + 1 := by rw [hk]; simp [c1]
      rw [this, e1, e2]
      refine ⟨by omega, by omega, fun h => by omega, fun h => by omega⟩
    · by_cases c2 : g = 2 * r
      · by_cases c3 : q % 2 = 1
        · have : k = q + 1 := by rw [hk]; simp [c2, c3]
          rw [this, e1, e2]
          refine ⟨by omega, by omega, fun h => by omega, fun h => by omega⟩
        · have : k = q + 0 := by
            rw [hk]
            have : (q % 2 == 1) = false := by simpa using c3
            simp [this]; omega
          rw [this, e1, e2]
          refine ⟨by omega, by omega, fun h => by omega, fun h => by omega⟩
      · have : k = q + 0 := by
          rw [hk]
          have h1 : decide (g < 2 * r) = false := by simpa using c1
          have h2 : (g == 2 * r) = false := by simpa using c2
          simp [h1, h2]
        rw [this, e1, e2]
        refine ⟨by omega, by omega, fun h => by omega, fun h => by omega⟩
  · have hg : 1 <<< min d (n.log2 + 2) = 2 ^ (n.log2 + 2) := by rw [Nat.min_eq_right (by omega), Nat.one_shiftLeft]
    have h4 : 2 ^ (n.log2 + 2) = 2 * 2 ^ (n.log2 + 1) := by rw [Nat.pow_succ 2 (n.log2 + 1), Nat.mul_comm]
    have hk : k = 0 := by
      show Toward.even.cut false n d = _
      simp only [Toward.cut, hg]
      rw [Nat.div_eq_of_lt (by omega), Nat.mod_eq_of_lt (by omega)]
      have h1 : decide (2 ^ (n.log2 + 2) < 2 * n) = false := by simp; omega
      simp [h1]
    have hd : 2 ^ (n.log2 + 1) * 2 ≤ 2 ^ d := by rw [← Nat.pow_succ]; exact Nat.pow_le_pow_right (by omega) (by omega)
    rw [hk]
    simp
    omega

theorem cut_neg (s : Bool) (n d : Nat) : Toward.even.cut s n d = Toward.even.cut false n d := rfl

/-- The rung that 'nearest' finds, ahead of the cap. -/
def rung (mag : Nat) (place : Int) : Nat :=
  if mag = 0 then 0 else
  let last := max (place + mag.log2 - 52) (-1074)
  (last + 1074).toNat * B + Toward.even.cut false (mag <<< (place - last).toNat) (last - place).toNat

theorem nearest_eq (s : Bool) (mag : Nat) (place : Int) : double.nearest s mag place = double.word s (min (rung mag place) INF) := by
  unfold Format.nearest rung
  by_cases h : mag = 0
  · simp [h]
  · simp only [if_neg h, dB, dI, dL]
    rw [cut_neg s]
    have : (double.fractionBits : Int) = 52 := rfl
    rw [this]
    simp [Int.sub_neg]


theorem even_rung (E k : Nat) (h : k % 2 = 0) : (E * B + k) % 2 = 0 := by
  have : B = 2 * 2251799813685248 := rfl
  rw [this, Nat.mul_left_comm]
  omega

/-- From what the cut off digits say to the nearest rung. -/
theorem rn_of (E k a b d X Y : Nat) (hX : 0 < X) (hXY : X * 2 ^ d = 2 ^ E * Y) (hE : E = 0 ∨ B ≤ k) (hk : k ≤ 2 * B)
    (F1 : k ≠ 0 → 2 ^ d * (2 * k - 1) * b ≤ 2 * a) (F2 : 2 * a ≤ 2 ^ d * (2 * k + 1) * b)
    (F3 : k ≠ 0 → 2 * a = 2 ^ d * (2 * k - 1) * b → k % 2 = 0) (F4 : 2 * a = 2 ^ d * (2 * k + 1) * b → k % 2 = 0)
    (F5 : E ≠ 0 → 2 ^ d * B * b ≤ a) : Rn (E * B + k) (a * X) (b * Y) := by
  have hu : U (E * B + k) = k * 2 ^ E := U_at E k hE hk
  have hup : (k + 1) * 2 ^ E ≤ U (E * B + k + 1) ∧ (k < 2 * B → U (E * B + k + 1) = (k + 1) * 2 ^ E) := by
    rcases Nat.lt_or_ge k (2 * B) with h | h
    · have := U_at E (k + 1) (by omega) (by omega)
      rw [Nat.add_assoc, this]; exact ⟨Nat.le_refl _, fun _ => rfl⟩
    · have e : k = 2 * B := by omega
      have e1 : E * B + k + 1 = (E + 1) * B + (B + 1) := by rw [Nat.add_mul]; omega
      have h2B : B + 1 ≤ 2 * B := by decide
      have := U_at (E + 1) (B + 1) (.inr (by omega)) h2B
      rw [e1, this, Nat.pow_succ]
      refine ⟨?_, fun h => by omega⟩
      have : (k + 1) ≤ (B + 1) * 2 := by omega
      calc (k + 1) * 2 ^ E ≤ ((B + 1) * 2) * 2 ^ E := Nat.mul_le_mul_right _ this
        _ = (B + 1) * (2 ^ E * 2) := by rw [Nat.mul_assoc, Nat.mul_comm 2]
  have conv : ∀ c, 2 ^ d * c * b * X = c * 2 ^ E * (b * Y) := by
    intro c
    calc 2 ^ d * c * b * X = (X * 2 ^ d) * (c * b) := by
          rw [Nat.mul_assoc (2 ^ d), Nat.mul_comm (2 ^ d * (c * b)) X, Nat.mul_assoc]
      _ = 2 ^ E * Y * (c * b) := by rw [hXY]
      _ = c * 2 ^ E * (b * Y) := by
          rw [Nat.mul_comm c (2 ^ E), Nat.mul_assoc, Nat.mul_assoc, Nat.mul_left_comm Y c b, Nat.mul_comm Y b]
  have tw : 2 * (a * X) = 2 * a * X := by rw [Nat.mul_assoc]
  refine ⟨fun hr => ?_, ?_, fun hr ht => ?_, fun ht => ?_⟩
  · rw [tw]
    rcases Nat.lt_or_ge B k with h | h
    · have h1 := U_at E (k - 1) (by omega) (by omega)
      have e1 : E * B + k - 1 = E * B + (k - 1) := by omega
      rw [e1, h1, hu, ← Nat.add_mul, show k - 1 + k = 2 * k - 1 by omega, ← conv]
      exact Nat.mul_le_mul_right _ (F1 (by omega))
    · by_cases hE0 : E = 0
      · subst hE0
        by_cases hk0 : k = 0
        · subst hk0; simp at hr
        · have h1 := U_at 0 (k - 1) (by omega) (by omega)
          have e1 : 0 * B + k - 1 = 0 * B + (k - 1) := by omega
          rw [e1, h1, hu, ← Nat.add_mul, show k - 1 + k = 2 * k - 1 by omega, ← conv]
          exact Nat.mul_le_mul_right _ (F1 (by omega))
      · have hkB : k = B := by omega
        have h1 : U (E * B + k - 1) ≤ U (E * B + k) := U_le (by omega)
        calc (U (E * B + k - 1) + U (E * B + k)) * (b * Y) ≤ (k * 2 ^ E + k * 2 ^ E) * (b * Y) := Nat.mul_le_mul_right _ (by omega)
          _ = 2 * (k * 2 ^ E * (b * Y)) := by rw [Nat.add_mul]; omega
          _ = 2 * (2 ^ d * k * b * X) := by rw [conv]
          _ ≤ 2 * (a * X) := Nat.mul_le_mul_left _ (Nat.mul_le_mul_right _ (by rw [hkB]; exact F5 hE0))
          _ = 2 * a * X := tw
  · rw [tw]
    calc 2 * a * X ≤ 2 ^ d * (2 * k + 1) * b * X := Nat.mul_le_mul_right _ F2
      _ = (2 * k + 1) * 2 ^ E * (b * Y) := conv _
      _ ≤ (U (E * B + k) + U (E * B + k + 1)) * (b * Y) := Nat.mul_le_mul_right _ (by
          rw [hu]
          have h1 := hup.1
          rw [show 2 * k + 1 = k + (k + 1) by omega, Nat.add_mul]
          omega)
  · apply even_rung
    rw [tw] at ht
    rcases Nat.lt_or_ge B k with h | h
    · have h1 := U_at E (k - 1) (by omega) (by omega)
      have e1 : E * B + k - 1 = E * B + (k - 1) := by omega
      rw [e1, h1, hu, ← Nat.add_mul, show k - 1 + k = 2 * k - 1 by omega, ← conv] at ht
      exact F3 (by omega) (Nat.eq_of_mul_eq_mul_right hX ht)
    · by_cases hE0 : E = 0
      · subst hE0
        by_cases hk0 : k = 0
        · subst hk0; simp at hr
        · have h1 := U_at 0 (k - 1) (by omega) (by omega)
          have e1 : 0 * B + k - 1 = 0 * B + (k - 1) := by omega
          rw [e1, h1, hu, ← Nat.add_mul, show k - 1 + k = 2 * k - 1 by omega, ← conv] at ht
          exact F3 (by omega) (Nat.eq_of_mul_eq_mul_right hX ht)
      · have hkB : k = B := by omega
        rw [hkB]; decide
  · apply even_rung
    rw [tw] at ht
    rcases Nat.lt_or_ge k (2 * B) with h | h
    · rw [hup.2 h, hu, ← Nat.add_mul, show k + (k + 1) = 2 * k + 1 by omega, ← conv] at ht
      exact F4 (Nat.eq_of_mul_eq_mul_right hX ht)
    · have hkB : k = 2 * B := by omega
      rw [hkB]; omega

/-- WHAT THE RUNG IS: 'mag * 2 ^ place' stands for a / b of the same units (mag itself, or a quotient cut off with a last digit that tells of the rest). -/
theorem rung_rn (mag a b : Nat) (place : Int) (hm : mag ≠ 0)
    (hex : (a = mag ∧ b = 1) ∨ (54 ≤ mag.log2 ∧ ∀ c, (mag ≤ 2 * c ↔ a ≤ 2 * c * b) ∧ (2 * c ≤ mag ↔ 2 * c * b ≤ a))) :
    Rn (rung mag place) (a * 2 ^ (place + 1074).toNat) (b * 2 ^ (-1074 - place).toNat) := by
  have ht1 : 2 ^ mag.log2 ≤ mag := Nat.log2_self_le hm
  have ht2 : mag < 2 ^ (mag.log2 + 1) := Nat.lt_log2_self
  have hBp : B = 2 ^ 52 := by decide
  unfold rung
  rw [if_neg hm]
  generalize ht : mag.log2 = t at *
  simp only []
  generalize hl : max (place + (t : Int) - 52) (-1074) = last
  generalize hE : (last + 1074).toNat = E
  generalize hp : (place - last).toNat = p
  generalize hd : (last - place).toNat = d
  obtain ⟨s1, s2, s3, s4⟩ := cut_spec (mag <<< p) d
  generalize Toward.even.cut false (mag <<< p) d = k at *
  rw [Nat.shiftLeft_eq] at *
  have hEd : (place + 1074).toNat + d = E + (-1074 - place).toNat + p := by omega
  by_cases hd0 : d = 0
  · subst hd0
    simp only [Nat.pow_zero, Nat.one_mul] at *
    have hkn : k = mag * 2 ^ p := by omega
    rcases hex with ⟨rfl, rfl⟩ | ⟨h54, _⟩
    · have hk2 : k < 2 * B := by
        have h1 : k < 2 ^ (t + 1) * 2 ^ p := by rw [hkn]; exact Nat.mul_lt_mul_of_pos_right ht2 (Nat.two_pow_pos p)
        rw [← Nat.pow_add] at h1
        have h2 : 2 ^ (t + 1 + p) ≤ 2 ^ 53 := Nat.pow_le_pow_right (by omega) (by omega)
        have h3 : 2 * B = 2 ^ 53 := by decide
        omega
      have hk1 : E = 0 ∨ B ≤ k := by
        by_cases h0 : E = 0
        · exact .inl h0
        · right
          have h1 : 2 ^ t * 2 ^ p ≤ k := by rw [hkn]; exact Nat.mul_le_mul_right _ ht1
          rw [← Nat.pow_add] at h1
          have h2 : 2 ^ 52 ≤ 2 ^ (t + p) := Nat.pow_le_pow_right (by omega) (by omega)
          omega
      have hu := U_at E k hk1 (by omega)
      have hself := Rn.self (E * B + k)
      rw [hu] at hself
      refine hself.congr (by omega) (by simp [Nat.two_pow_pos]) ?_
      have e1 : (place + 1074).toNat = E + p + (-1074 - place).toNat := by omega
      rw [hkn, e1]
      simp only [Nat.one_mul, Nat.mul_one, Nat.pow_add]
      rw [Nat.mul_assoc, Nat.mul_assoc, Nat.mul_comm (2 ^ p), Nat.mul_assoc, Nat.mul_assoc, Nat.mul_comm (2 ^ p)]
    · exfalso; omega
  · have hp0 : p = 0 := by omega
    subst hp0
    simp only [Nat.pow_zero, Nat.mul_one] at *
    have hdp := Nat.two_pow_pos d
    have hk : k ≤ 2 * B := by
      have h1 : 2 ^ (t + 1) ≤ 2 ^ 53 * 2 ^ d := by rw [← Nat.pow_add]; exact Nat.pow_le_pow_right (by omega) (by omega)
      have h3 : 2 * B = 2 ^ 53 := by decide
      rw [h3]
      have h4 : 2 ^ d * (2 * k) < 2 ^ d * (2 * 2 ^ 53 + 1) := by
        have : 2 ^ d * (2 * 2 ^ 53 + 1) = 2 * (2 ^ 53 * 2 ^ d) + 2 ^ d := by rw [Nat.mul_add, Nat.mul_one, Nat.mul_left_comm, Nat.mul_comm (2 ^ d)]
        omega
      have := Nat.lt_of_mul_lt_mul_left h4
      omega
    have hEk : E = 0 ∨ (B ≤ k ∧ 2 ^ d * B = 2 ^ t) := by
      by_cases h0 : E = 0
      · exact .inl h0
      · right
        have e0 : 2 ^ d * B = 2 ^ t := by rw [hBp, ← Nat.pow_add]; congr 1; omega
        refine ⟨?_, e0⟩
        have h1 : 2 ^ d * (2 * B) ≤ 2 ^ d * (2 * k + 1) := by
          rw [Nat.mul_left_comm, e0]; omega
        have := Nat.le_of_mul_le_mul_left h1 hdp
        omega
    have hXY : 2 ^ (place + 1074).toNat * 2 ^ d = 2 ^ E * 2 ^ (-1074 - place).toNat := by
      rw [← Nat.pow_add, ← Nat.pow_add]; congr 1
    have hlow : k ≠ 0 → 2 ^ d * (2 * k) = 2 ^ d * (2 * k - 1) + 2 ^ d := by
      intro h0
      rw [← Nat.mul_succ]; congr 1; omega
    rcases hex with ⟨rfl, rfl⟩ | ⟨h54, hc⟩
    · refine rn_of E k _ _ d _ _ (Nat.two_pow_pos _) hXY (hEk.imp id And.left) hk ?_ ?_ ?_ ?_ ?_
      · intro h0; have := hlow h0; omega
      · omega
      · intro h0 h1; have := hlow h0; exact s3 (by omega)
      · intro h1; exact s4 (by omega)
      · intro h0; rcases hEk with h | ⟨_, h⟩
        · exact absurd h h0
        · rw [h]; omega
    · have hd2 : 2 ≤ d := by omega
      obtain ⟨f, rfl⟩ : ∃ f, d = f + 2 := ⟨d - 2, by omega⟩
      have e4 : ∀ c, 2 ^ (f + 2) * c = 2 * (2 * (2 ^ f * c)) := by
        intro c; rw [Nat.pow_add, Nat.mul_assoc, Nat.mul_left_comm]; omega
      have e5 : ∀ c b, 2 ^ (f + 2) * c * b = 2 * (2 * (2 ^ f * c) * b) := by
        intro c b; rw [e4, Nat.mul_assoc]
      refine rn_of E k a b (f + 2) _ _ (Nat.two_pow_pos _) hXY (hEk.imp id And.left) hk ?_ ?_ ?_ ?_ ?_
      · intro h0
        have h1 := hlow h0
        rw [e5]
        have h2 := ((hc (2 ^ f * (2 * k - 1))).2).1 (by have := e4 (2 * k - 1); omega)
        omega
      · rw [e5]
        have h2 := ((hc (2 ^ f * (2 * k + 1))).1).1 (by have := e4 (2 * k + 1); omega)
        omega
      · intro h0 h1
        rw [e5] at h1
        have g1 := ((hc (2 ^ f * (2 * k - 1))).2).2 (by omega)
        have g2 := ((hc (2 ^ f * (2 * k - 1))).1).2 (by omega)
        have h2 := hlow h0
        have h3 := e4 (2 * k - 1)
        exact s3 (by omega)
      · intro h1
        rw [e5] at h1
        have g1 := ((hc (2 ^ f * (2 * k + 1))).2).2 (by omega)
        have g2 := ((hc (2 ^ f * (2 * k + 1))).1).2 (by omega)
        have h3 := e4 (2 * k + 1)
        exact s4 (by omega)
      · intro h0
        rcases hEk with h | ⟨_, h⟩
        · exact absurd h h0
        · rw [h]
          obtain ⟨g, rfl⟩ : ∃ g, t = g + 1 := ⟨t - 1, by omega⟩
          have := ((hc (2 ^ g)).2).1 (by rw [Nat.pow_succ] at ht1; omega)
          rw [Nat.pow_succ, Nat.mul_comm (2 ^ g)]
          exact this


/-- A finite word: a sign over a rung below infinity's. -/
def sg (x : Nat) : Bool := x / SW % 2 == 1
def rg (x : Nat) : Nat := x % SW
def Fin' (x : Nat) : Prop := rg x < INF
def mg (r : Nat) : Nat := if r < B then r else B + r % B
def pl (r : Nat) : Int := if r < B then -1074 else -1074 + (r / B - 1 : Nat)

theorem read_fin {x : Nat} (h : Fin' x) : double.read x = .number (sg x) (mg (rg x)) (pl (rg x)) := by
  unfold Fin' at h
  unfold Format.read mg pl sg
  simp only [dS, dB, dI, dL]
  unfold rg at *
  by_cases h1 : x % SW < B
  · simp [h1]
  · simp [h1, h]

theorem pl_ge (r : Nat) : -1074 ≤ pl r := by unfold pl; split <;> omega
theorem U_eq (r : Nat) : U r = mg r * 2 ^ (pl r + 1074).toNat := by
  unfold U mg pl
  by_cases h : r < B
  · simp [h]
  · simp only [if_neg h]
    congr 2
    omega
theorem mg_lt (r : Nat) : mg r < 2 ^ 53 := by
  have hB : 0 < B := by decide
  have e : 2 ^ 53 = 2 * B := by decide
  have := Nat.mod_lt r hB
  unfold mg; split <;> omega
theorem mg_ne {r : Nat} (h : r ≠ 0) : mg r ≠ 0 := by
  have hB : 0 < B := by decide
  unfold mg; split <;> omega

/-- The number of a finite word, in units of 2^-1074. -/
def V (x : Nat) : Int := if sg x then -(U (rg x) : Int) else U (rg x)

theorem signed_eq (s : Bool) (m u : Nat) : signed s m u = (if s then -((m * 2 ^ u : Nat) : Int) else ((m * 2 ^ u : Nat) : Int)) := by
  unfold signed; rw [Nat.shiftLeft_eq]

theorem signed_V {x : Nat} (b : Int) (h1 : -1074 ≤ b) (h2 : b ≤ pl (rg x)) : signed (sg x) (mg (rg x)) (pl (rg x) - b).toNat * 2 ^ (b + 1074).toNat = V x := by
  have e : mg (rg x) * 2 ^ (pl (rg x) - b).toNat * 2 ^ (b + 1074).toNat = U (rg x) := by
    rw [U_eq, Nat.mul_assoc, ← Nat.pow_add]
    congr 2; omega
  rw [signed_eq]
  unfold V
  have e' : ((mg (rg x) * 2 ^ (pl (rg x) - b).toNat : Nat) : Int) * 2 ^ (b + 1074).toNat = (U (rg x) : Int) := by
    rw [← e]; simp
  cases sg x
  · simpa using e'
  · simp only [if_true]
    rw [Int.neg_mul, e']

theorem compare_mul (a b c : Int) (h : 0 < c) : compare (a * c) (b * c) = compare a b := by
  have k : ∀ x y : Int, x < y → x * c < y * c := fun x y hxy => Int.mul_lt_mul_of_pos_right hxy h
  rcases Int.lt_trichotomy a b with h1 | h1 | h1
  · rw [show compare a b = .lt from Int.compare_eq_lt.2 h1, Int.compare_eq_lt.2 (k _ _ h1)]
  · subst h1; simp
  · rw [show compare a b = .gt from Int.compare_eq_gt.2 h1, Int.compare_eq_gt.2 (k _ _ h1)]

theorem order_fin {x y : Nat} (hx : Fin' x) (hy : Fin' y) : double.order x y = some (compare (V x) (V y)) := by
  unfold Format.order
  rw [read_fin hx, read_fin hy]
  simp only [Datum.order]
  have g1 := pl_ge (rg x)
  have g2 := pl_ge (rg y)
  have m1 : min (pl (rg x)) (pl (rg y)) ≤ pl (rg x) := Int.min_le_left _ _
  have m2 : min (pl (rg x)) (pl (rg y)) ≤ pl (rg y) := Int.min_le_right _ _
  have m3 : -1074 ≤ min (pl (rg x)) (pl (rg y)) := Int.le_min.2 ⟨g1, g2⟩
  rw [← signed_V _ m3 m1, ← signed_V _ m3 m2, compare_mul]
  exact Int.pow_pos (by omega)

theorem word_eq (s : Bool) (r : Nat) : double.word s r = if s then SW + r else r := by
  unfold Format.word; rw [dS]
theorem sg_word (s : Bool) {r : Nat} (h : r < SW) : sg (double.word s r) = s := by
  rw [word_eq]; unfold sg
  cases s
  · simp [Nat.div_eq_of_lt h]
  · have : (SW + r) / SW = 1 := by
      rw [Nat.add_div_left _ (by decide), Nat.div_eq_of_lt h]
    simp [this]
theorem rg_word (s : Bool) {r : Nat} (h : r < SW) : rg (double.word s r) = r := by
  rw [word_eq]; unfold rg
  cases s
  · simp [Nat.mod_eq_of_lt h]
  · simp [Nat.mod_eq_of_lt h]
theorem fin_word (s : Bool) {r : Nat} (h : r < INF) : Fin' (double.word s r) := by
  unfold Fin'
  rw [rg_word s (Nat.lt_trans h (by decide))]; exact h
theorem V_word (s : Bool) {r : Nat} (h : r < INF) : V (double.word s r) = if s then -(U r : Int) else U r := by
  have h' : r < SW := Nat.lt_trans h (by decide)
  unfold V; rw [sg_word s h', rg_word s h']

theorem rung_zero (p : Int) : rung 0 p = 0 := by simp [rung]

/-- The rung of a whole number of units. -/
theorem rung_exact (mag : Nat) (place : Int) (h : -1074 ≤ place) : Rn (rung mag place) (mag * 2 ^ (place + 1074).toNat) 1 := by
  by_cases hm : mag = 0
  · subst hm; rw [rung_zero]; have := Rn.self 0; rw [U_zero] at this; simpa using this
  · have := rung_rn mag mag 1 place hm (.inl ⟨rfl, rfl⟩)
    rw [show (-1074 - place).toNat = 0 by omega] at this
    simpa using this

theorem log2_ge {n k : Nat} (h : 2 ^ k ≤ n) : k ≤ n.log2 := by
  have h0 : n ≠ 0 := by have := Nat.two_pow_pos k; omega
  exact (Nat.le_log2 h0).2 h

theorem sticky (A b : Nat) (hb : 0 < b) (c : Nat) :
    (2 * (A / b) + (A % b != 0).toNat ≤ 2 * c ↔ 2 * A ≤ 2 * c * b) ∧ (2 * c ≤ 2 * (A / b) + (A % b != 0).toNat ↔ 2 * c * b ≤ 2 * A) := by
  have h1 := Nat.mod_add_div A b
  have h2 := Nat.mod_lt A hb
  generalize A / b = q at *
  generalize A % b = r at *
  have e : 2 * c * b = 2 * (b * c) := by rw [Nat.mul_assoc, Nat.mul_comm c]
  rw [e]
  rcases Nat.lt_trichotomy q c with h | h | h
  · have h3 : b * (q + 1) ≤ b * c := Nat.mul_le_mul_left _ h
    rw [Nat.mul_succ] at h3
    rcases Nat.eq_zero_or_pos r with h0 | h0
    · simp [h0]; constructor <;> omega
    · have : (r != 0) = true := by simp; omega
      simp only [this, Bool.toNat_true]; constructor <;> omega
  · subst h
    rcases Nat.eq_zero_or_pos r with h0 | h0
    · simp [h0]; constructor <;> omega
    · have : (r != 0) = true := by simp; omega
      simp only [this, Bool.toNat_true]; constructor <;> omega
  · have h3 : b * (c + 1) ≤ b * q := Nat.mul_le_mul_left _ h
    rw [Nat.mul_succ] at h3
    rcases Nat.eq_zero_or_pos r with h0 | h0
    · simp [h0]; constructor <;> omega
    · have : (r != 0) = true := by simp; omega
      simp only [this, Bool.toNat_true]; constructor <;> omega

theorem cross (m n a b c d e K : Nat) (h : 1 + a + b + c = d + K + e) : 2 * (m * 2 ^ a) * 2 ^ b * (n * 2 ^ c) = m * 2 ^ d * 2 ^ K * (n * 2 ^ e) := by
  have l1 : 2 * (m * 2 ^ a) * 2 ^ b * (n * 2 ^ c) = (m * n) * 2 ^ (1 + a + b + c) := by
    simp only [Nat.pow_add, Nat.pow_one]; ac_rfl
  have l2 : m * 2 ^ d * 2 ^ K * (n * 2 ^ e) = (m * n) * 2 ^ (d + K + e) := by
    simp only [Nat.pow_add]; ac_rfl
  rw [l1, l2, h]

/-- 1, in units of 2^-1074: kept shut. -/
def K0 : Nat := 1074
theorem K0_eq : K0 = 1074 := rfl
def T : Nat := 2 ^ K0
theorem T_pow : T = 2 ^ K0 := rfl
theorem T_pos : 0 < T := Nat.two_pow_pos _

/-- A QUOTIENT: the sign, and the nearest rung to the quotient of the two magnitudes. -/
theorem div_fin {x y : Nat} (hx : Fin' x) (hy : Fin' y) (hy0 : rg y ≠ 0) :
    ∃ r, double.div x y = some (double.word (sg x ^^ sg y) (min r INF)) ∧ Rn r (U (rg x) * T) (U (rg y)) := by
  unfold Format.div
  rw [read_fin hx, read_fin hy]
  have hn := mg_ne hy0
  have hUy : 0 < U (rg y) := by have := U_mono (show 0 < rg y by omega); rw [U_zero] at this; exact this
  simp only [Datum.quotient, if_neg hn, Option.map_some, Format.write, nearest_eq]
  refine ⟨_, rfl, ?_⟩
  have fb : double.fractionBits + 2 = 54 := rfl
  rw [fb]
  generalize hm : mg (rg x) = m
  generalize hnn : mg (rg y) = n at *
  by_cases hm0 : m = 0
  · have hx0 : rg x = 0 := by
      by_cases h : rg x = 0
      · exact h
      · exact absurd hm (by rw [hm0]; exact mg_ne h)
    subst hm0
    simp only [Nat.zero_shiftLeft, Nat.zero_div, Nat.zero_mod]
    simp only [Nat.mul_zero, bne_self_eq_false, Bool.toNat_false, Nat.add_zero, rung_zero, hx0, U_zero, Nat.zero_mul]
    have h0 := Rn.self 0
    rw [U_zero] at h0
    exact h0.congr (by omega) hUy (by simp)
  · have lm1 : 2 ^ m.log2 ≤ m := Nat.log2_self_le hm0
    have ln2 : n < 2 ^ (n.log2 + 1) := Nat.lt_log2_self
    have lm : m.log2 ≤ 52 := by
      have h1 : m < 2 ^ 53 := by rw [← hm]; exact mg_lt _
      have := (Nat.log2_lt hm0).2 h1
      omega
    generalize hmore : 54 + n.log2 - m.log2 = more
    have hsum : m.log2 + more = 54 + n.log2 := by omega
    rw [Nat.shiftLeft_eq]
    have hn0 : 0 < n := by omega
    have hq : 2 ^ 53 ≤ m * 2 ^ more / n := by
      rw [Nat.le_div_iff_mul_le hn0]
      have h1 : 2 ^ m.log2 * 2 ^ more ≤ m * 2 ^ more := Nat.mul_le_mul_right _ lm1
      rw [← Nat.pow_add, hsum] at h1
      have h2 : 2 ^ 53 * n ≤ 2 ^ 53 * 2 ^ (n.log2 + 1) := Nat.mul_le_mul_left _ (by omega)
      rw [← Nat.pow_add] at h2
      rw [show 54 + n.log2 = 53 + (n.log2 + 1) by omega] at h1
      omega
    have hst := sticky (m * 2 ^ more) n hn0
    generalize hM : 2 * (m * 2 ^ more / n) + (m * 2 ^ more % n != 0).toNat = M at *
    have hM54 : 2 ^ 54 ≤ M := by omega
    have hM0 : M ≠ 0 := by
      have : 0 < 2 ^ 54 := by decide
      omega
    generalize hP : pl (rg x) - pl (rg y) - (more : Int) - 1 = P
    have hr := rung_rn M (2 * (m * 2 ^ more)) n P hM0 (.inr ⟨log2_ge hM54, hst⟩)
    refine hr.congr (Nat.mul_pos hn0 (Nat.two_pow_pos _)) hUy ?_
    rw [U_eq, U_eq, hm, hnn]
    have g1 := pl_ge (rg x)
    have g2 := pl_ge (rg y)
    have hK := K0_eq
    have e : 1 + more + (P + 1074).toNat + (pl (rg y) + 1074).toNat = (pl (rg x) + 1074).toNat + K0 + (-1074 - P).toNat := by omega
    rw [T_pow]
    exact cross m n _ _ _ _ _ _ e

/-- A SUM: the nearest to the sum of the two numbers. -/
theorem add_fin {x y : Nat} (hx : Fin' x) (hy : Fin' y) :
    ∃ r, double.add x y = some (double.word (if V x + V y = 0 then sg x && sg y else V x + V y < 0) (min r INF)) ∧ Rn r (V x + V y).natAbs 1 := by
  unfold Format.add
  rw [read_fin hx, read_fin hy]
  simp only [Datum.sum, Option.map_some, Format.write, nearest_eq]
  have g1 := pl_ge (rg x)
  have g2 := pl_ge (rg y)
  generalize hb : min (pl (rg x)) (pl (rg y)) = b
  have m1 : b ≤ pl (rg x) := by rw [← hb]; exact Int.min_le_left _ _
  have m2 : b ≤ pl (rg y) := by rw [← hb]; exact Int.min_le_right _ _
  have m3 : -1074 ≤ b := by rw [← hb]; exact Int.le_min.2 ⟨g1, g2⟩
  have s1 := signed_V (x := x) b m3 m1
  have s2 := signed_V (x := y) b m3 m2
  generalize signed (sg x) (mg (rg x)) (pl (rg x) - b).toNat = p at *
  generalize signed (sg y) (mg (rg y)) (pl (rg y) - b).toNat = q at *
  have hs : (p + q) * 2 ^ (b + 1074).toNat = V x + V y := by rw [Int.add_mul, s1, s2]
  have hpos : (0 : Int) < 2 ^ (b + 1074).toNat := Int.pow_pos (by omega)
  refine ⟨rung (p + q).natAbs b, ?_, ?_⟩
  · have z : (p + q = 0) ↔ (V x + V y = 0) := by
      rw [← hs]
      constructor
      · intro h; rw [h]; simp
      · intro h; rcases Int.mul_eq_zero.1 h with h | h
        · exact h
        · omega
    have n : (p + q < 0) ↔ (V x + V y < 0) := by
      rw [← hs]
      constructor
      · intro h; exact Int.mul_neg_of_neg_of_pos h hpos
      · intro h
        rcases Int.lt_or_le (p + q) 0 with h1 | h1
        · exact h1
        · have := Int.mul_nonneg h1 (Int.le_of_lt hpos); omega
    simp only [z, n]
  · have := rung_exact (p + q).natAbs b m3
    rw [← hs, Int.natAbs_mul]
    have e : ((2 : Int) ^ (b + 1074).toNat).natAbs = 2 ^ (b + 1074).toNat := by
      rw [Int.natAbs_pow]; rfl
    rw [e]; exact this


/-- A whole number as a float: a finite word of its sign; the nearest rung. -/
theorem of_int (n : Int) (h : n.natAbs < 2 ^ 64) :
    ∃ r, FloatKind.f64.nearest n = double.word (n < 0) r ∧ r < INF ∧ Rn r (n.natAbs * T) 1 := by
  have hK := K0_eq
  have hr := rung_exact n.natAbs 0 (by omega)
  have e0 : ((0 : Int) + 1074).toNat = K0 := by omega
  rw [e0, ← T_pow] at hr
  have hlt : rung n.natAbs 0 < INF := by
    have h1 : Rn (1087 * B) (2 ^ 64 * T) 1 := by
      obtain ⟨E, hE⟩ : ∃ E : Nat, E = 1086 := ⟨_, rfl⟩
      have h2 := Rn.self (E * B + B)
      rw [U_at E B (by omega) (by omega)] at h2
      have e : B * 2 ^ E = 2 ^ 64 * T := by
        have e1 : B = 2 ^ 52 := by decide
        rw [e1, T_pow, ← Nat.pow_add, ← Nat.pow_add]
        exact congrArg (2 ^ ·) (by omega)
      rw [e] at h2
      have e2 : E * B + B = 1087 * B := by rw [hE]; omega
      rwa [e2] at h2
    have h3 : rung n.natAbs 0 ≤ 1087 * B := by
      refine Rn.mono (b1 := 1) (b2 := 1) hr h1 (by omega) (by omega) ?_
      rw [Nat.mul_one, Nat.mul_one]
      exact Nat.mul_le_mul_right _ (Nat.le_of_lt h)
    have h4 : 1087 * B < INF := by decide
    exact Nat.lt_of_le_of_lt h3 h4
  refine ⟨rung n.natAbs 0, ?_, hlt, hr⟩
  have : FloatKind.f64.nearest n = double.nearest (n < 0) n.natAbs 0 := rfl
  rw [this, nearest_eq, Nat.min_eq_left (Nat.le_of_lt hlt)]


/-- A word that is no NaN. -/
def Ok (x : Nat) : Prop := ∃ s r, x = double.word s r ∧ r ≤ INF

theorem INF_SW : INF < SW := by decide
theorem Ok.min (s : Bool) (r : Nat) : Ok (double.word s (min r INF)) := ⟨s, _, rfl, Nat.min_le_right _ _⟩
theorem Ok.of_lt (s : Bool) {r : Nat} (h : r < INF) : Ok (double.word s r) := ⟨s, r, rfl, Nat.le_of_lt h⟩
theorem ok_int (n : Int) (h : n.natAbs < 2 ^ 64) : Ok (FloatKind.f64.nearest n) := by
  obtain ⟨r, e, hr, _⟩ := of_int n h
  rw [e]; exact Ok.of_lt _ hr
theorem fin_int (n : Int) (h : n.natAbs < 2 ^ 64) : Fin' (FloatKind.f64.nearest n) := by
  obtain ⟨r, e, hr, _⟩ := of_int n h
  rw [e]; exact fin_word _ hr

theorem read_inf (s : Bool) : double.read (double.word s INF) = .infinity s := by
  have h1 := sg_word s INF_SW
  have h2 := rg_word s INF_SW
  have hB : ¬ INF < B := by decide
  unfold Format.read
  unfold sg at h1
  unfold rg at h2
  simp only [dS, dB, dI, h1, h2]
  simp [hB]

theorem Ok.cases {x : Nat} (h : Ok x) : Fin' x ∨ ∃ s, x = double.word s INF := by
  obtain ⟨s, r, rfl, hr⟩ := h
  rcases Nat.lt_or_ge r INF with h1 | h1
  · exact .inl (fin_word s h1)
  · have : r = INF := by omega
    subst this; exact .inr ⟨s, rfl⟩

theorem add_ok {x y : Nat} (hx : Ok x) (hy : Fin' y) : ∃ z, double.add x y = some z ∧ Ok z := by
  rcases hx.cases with h | ⟨s, rfl⟩
  · obtain ⟨r, e, _⟩ := add_fin h hy
    exact ⟨_, e, Ok.min _ _⟩
  · unfold Format.add
    rw [read_inf, read_fin hy]
    refine ⟨_, rfl, ?_⟩
    show Ok (double.word s double.infRung)
    rw [dI]
    exact ⟨s, INF, rfl, Nat.le_refl _⟩

theorem V_int (n : Int) {r : Nat} (e : FloatKind.f64.nearest n = double.word (n < 0) r) (hr : r < INF) :
    V (FloatKind.f64.nearest n) = if n < 0 then -(U r : Int) else U r := by
  rw [e, V_word _ hr]; simp

/-- 0 and a whole number: that number. -/
theorem add_zero (n : Int) (h : n.natAbs < 2 ^ 64) : double.add 0 (FloatKind.f64.nearest n) = some (FloatKind.f64.nearest n) := by
  have z0 : (0 : Nat) = double.word false 0 := by rw [word_eq]; rfl
  have hz : Fin' 0 := by unfold Fin'; decide
  have hV0 : V 0 = 0 := by decide
  have hs0 : sg 0 = false := by decide
  obtain ⟨r, e, hr, hrn⟩ := of_int n h
  obtain ⟨q, ea, hq⟩ := add_fin hz (fin_int n h)
  have hv := V_int n e hr
  rw [hV0, Int.zero_add, hs0, hv] at ea
  rw [hV0, Int.zero_add, hv] at hq
  rw [ea]
  have hab : (if n < 0 then -(U r : Int) else U r).natAbs = U r := by split <;> omega
  rw [hab] at hq
  have hqr := hq.exact
  subst hqr
  rw [Nat.min_eq_left (Nat.le_of_lt hr), e]
  congr 2
  by_cases hn : n < 0
  · have hU : U q ≠ 0 := by
      intro h0
      have : 2 * (n.natAbs * T) ≤ (U q + U (q + 1)) * 1 := hrn.hi
      have hq0 : q = 0 := U_inj (by rw [h0, U_zero])
      subst hq0
      have u1 : U 1 = 1 := by decide
      have tp := T_pos
      have : n.natAbs * T ≥ 1 * T := Nat.mul_le_mul_right _ (by omega)
      have t2 : 2 ≤ T := by rw [T_pow]; exact Nat.le_trans (by decide) (Nat.pow_le_pow_right (by omega) (show 1 ≤ K0 by decide))
      simp only [U_zero, Nat.zero_add, u1] at *
      omega
    simp only [hn, if_true]
    rw [if_neg (by omega)]
    simp; omega
  · simp only [hn, if_false]
    split
    · simp
    · simp


theorem sg_of (s : Bool) {r : Nat} (h : r < INF) : sg (double.word s r) = s := sg_word s (Nat.lt_trans h INF_SW)
theorem rg_of (s : Bool) {r : Nat} (h : r < INF) : rg (double.word s r) = r := rg_word s (Nat.lt_trans h INF_SW)

/-- A quotient by a number of at least 1. -/
theorem quo_ex {x y : Nat} (hx : Fin' x) (hy : Fin' y) (hs : sg y = false) (h1 : T ≤ U (rg y)) :
    ∃ r, double.div x y = some (double.word (sg x) r) ∧ r < INF ∧ Rn r (U (rg x) * T) (U (rg y)) := by
  have tp := T_pos
  have hy0 : rg y ≠ 0 := by
    intro h; rw [h, U_zero] at h1; omega
  obtain ⟨r, e, hr⟩ := div_fin hx hy hy0
  have hle : r ≤ rg x := by
    refine hr.mono (Rn.self (rg x)) (by omega) (by omega) ?_
    rw [Nat.mul_one]
    exact Nat.mul_le_mul_left _ h1
  have hlt : r < INF := Nat.lt_of_le_of_lt hle hx
  refine ⟨r, ?_, hlt, hr⟩
  rw [e, hs, Nat.min_eq_left (Nat.le_of_lt hlt)]
  simp

theorem quo_le {x1 y1 x2 y2 z1 z2 : Nat} (hx1 : Fin' x1) (hy1 : Fin' y1) (hs1 : sg y1 = false) (h1 : T ≤ U (rg y1)) (hx2 : Fin' x2) (hy2 : Fin' y2) (hs2 : sg y2 = false) (h2 : T ≤ U (rg y2))
    (h : V x1 * (U (rg y2) : Int) ≤ V x2 * (U (rg y1) : Int)) (e1 : double.div x1 y1 = some z1) (e2 : double.div x2 y2 = some z2) : Fin' z1 ∧ Fin' z2 ∧ V z1 ≤ V z2 := by
  have tp := T_pos
  obtain ⟨r1, d1, l1, n1⟩ := quo_ex hx1 hy1 hs1 h1
  obtain ⟨r2, d2, l2, n2⟩ := quo_ex hx2 hy2 hs2 h2
  rw [d1] at e1
  rw [d2] at e2
  cases e1
  cases e2
  refine ⟨fin_word _ l1, fin_word _ l2, ?_⟩
  rw [V_word _ l1, V_word _ l2]
  have key : ∀ {a b : Nat} {ra rb ya yb : Nat}, Rn ra (a * T) ya → Rn rb (b * T) yb → T ≤ ya → T ≤ yb → a * yb ≤ b * ya → U ra ≤ U rb := by
    intro a b ra rb ya yb ha hb la lb hab
    refine U_le (ha.mono hb (by omega) (by omega) ?_)
    rw [Nat.mul_right_comm, Nat.mul_right_comm b]
    exact Nat.mul_le_mul_right _ hab
  unfold V at h
  cases c1 : sg x1 <;> cases c2 : sg x2 <;> simp only [c1, c2, if_true, if_false, Bool.false_eq_true] at h ⊢
  · have : U (rg x1) * U (rg y2) ≤ U (rg x2) * U (rg y1) := by exact_mod_cast h
    have := key n1 n2 h1 h2 this
    omega
  · rw [Int.neg_mul] at h
    have p2 : (0 : Int) ≤ (U (rg x2) : Int) * (U (rg y1) : Int) := Int.mul_nonneg (by omega) (by omega)
    have p1 : (0 : Int) ≤ (U (rg x1) : Int) * (U (rg y2) : Int) := Int.mul_nonneg (by omega) (by omega)
    have z1 : U (rg x1) * U (rg y2) = 0 := by
      have : (U (rg x1) : Int) * (U (rg y2) : Int) = 0 := by omega
      exact_mod_cast this
    have z2 : U (rg x2) * U (rg y1) = 0 := by
      have : (U (rg x2) : Int) * (U (rg y1) : Int) = 0 := by omega
      exact_mod_cast this
    have w1 : U (rg x1) = 0 := by
      rcases Nat.mul_eq_zero.1 z1 with h | h
      · exact h
      · omega
    have w2 : U (rg x2) = 0 := by
      rcases Nat.mul_eq_zero.1 z2 with h | h
      · exact h
      · omega
    have zz := Rn.self 0
    rw [U_zero] at zz
    have v1 : U r1 ≤ U 0 := by
      refine U_le (n1.mono zz (by omega) (by omega) ?_)
      rw [w1]; simp
    have v2 : U r2 ≤ U 0 := by
      refine U_le (n2.mono zz (by omega) (by omega) ?_)
      rw [w2]; simp
    rw [U_zero] at v1 v2
    omega
  · omega
  · rw [Int.neg_mul, Int.neg_mul] at h
    have h' : (U (rg x2) : Int) * (U (rg y1) : Int) ≤ (U (rg x1) : Int) * (U (rg y2) : Int) := by omega
    have : U (rg x2) * U (rg y1) ≤ U (rg x1) * U (rg y2) := by exact_mod_cast h'
    have := key n2 n1 h2 h1 this
    omega

theorem one_rung : ∃ r, U r = T := by
  have hK := K0_eq
  obtain ⟨E, hE⟩ : ∃ E, E = K0 - 52 := ⟨_, rfl⟩
  refine ⟨E * B + B, ?_⟩
  rw [U_at E B (by omega) (by omega), T_pow]
  have e1 : B = 2 ^ 52 := by decide
  rw [e1, ← Nat.pow_add]
  exact congrArg (2 ^ ·) (by omega)

theorem int_pos (n : Int) (h : n.natAbs < 2 ^ 64) (h0 : 0 < n) : sg (FloatKind.f64.nearest n) = false ∧ T ≤ U (rg (FloatKind.f64.nearest n)) := by
  obtain ⟨r, e, hr, hn⟩ := of_int n h
  rw [e, sg_of _ hr, rg_of _ hr]
  refine ⟨by simp; omega, ?_⟩
  obtain ⟨r1, h1⟩ := one_rung
  have h2 := Rn.self r1
  have h3 : r1 ≤ r := by
    refine h2.mono hn (by omega) (by omega) ?_
    rw [h1, Nat.mul_one, Nat.mul_one]
    exact Nat.le_mul_of_pos_left _ (by omega)
  rw [← h1]; exact U_le h3

theorem int_mono (n m : Int) (hn : n.natAbs < 2 ^ 64) (hm : m.natAbs < 2 ^ 64) (h : n ≤ m) : V (FloatKind.f64.nearest n) ≤ V (FloatKind.f64.nearest m) := by
  obtain ⟨r, e, hr, en⟩ := of_int n hn
  obtain ⟨q, f, hq, eq⟩ := of_int m hm
  rw [V_int n e hr, V_int m f hq]
  by_cases h1 : n < 0 <;> by_cases h2 : m < 0 <;> simp only [h1, h2, if_true, if_false]
  · have : U q ≤ U r := U_le (eq.mono en (by omega) (by omega) (by rw [Nat.mul_one, Nat.mul_one]; exact Nat.mul_le_mul_right _ (by omega)))
    omega
  · omega
  · omega
  · have : U r ≤ U q := U_le (en.mono eq (by omega) (by omega) (by rw [Nat.mul_one, Nat.mul_one]; exact Nat.mul_le_mul_right _ (by omega)))
    omega

/-- A number of at most 53 digits is a rung's. -/
theorem small_rung (n : Nat) (h : n < 2 ^ 53) : ∃ r, U r = n * T := by
  have hK := K0_eq
  by_cases h0 : n = 0
  · exact ⟨0, by rw [h0, U_zero, Nat.zero_mul]⟩
  · have l1 : 2 ^ n.log2 ≤ n := Nat.log2_self_le h0
    have l2 : n < 2 ^ (n.log2 + 1) := Nat.lt_log2_self
    have l3 : n.log2 ≤ 52 := by have := (Nat.log2_lt h0).2 h; omega
    obtain ⟨p, hp⟩ : ∃ p, p = 52 - n.log2 := ⟨_, rfl⟩
    obtain ⟨E, hE⟩ : ∃ E, E = K0 - p := ⟨_, rfl⟩
    have e1 : B = 2 ^ 52 := by decide
    have e2 : 2 * B = 2 ^ 53 := by decide
    have k1 : B ≤ n * 2 ^ p := by
      have : 2 ^ n.log2 * 2 ^ p ≤ n * 2 ^ p := Nat.mul_le_mul_right _ l1
      rw [← Nat.pow_add, show n.log2 + p = 52 by omega, ← e1] at this
      exact this
    have k2 : n * 2 ^ p ≤ 2 * B := by
      have : n * 2 ^ p ≤ 2 ^ (n.log2 + 1) * 2 ^ p := Nat.mul_le_mul_right _ (by omega)
      rw [← Nat.pow_add, show n.log2 + 1 + p = 53 by omega, ← e2] at this
      exact this
    refine ⟨E * B + n * 2 ^ p, ?_⟩
    rw [U_at E _ (.inr k1) k2, T_pow, Nat.mul_assoc, ← Nat.pow_add]
    exact congrArg (n * 2 ^ ·) (by omega)

theorem int_exact (n : Int) (h : n.natAbs < 2 ^ 53) : ∃ r, FloatKind.f64.nearest n = double.word (n < 0) r ∧ r < INF ∧ U r = n.natAbs * T ∧ V (FloatKind.f64.nearest n) = n * T := by
  obtain ⟨r, e, hr, hn⟩ := of_int n (Nat.lt_trans h (by decide))
  obtain ⟨q, hq⟩ := small_rung n.natAbs h
  rw [← hq] at hn
  have := hn.exact
  subst this
  refine ⟨r, e, hr, hq, ?_⟩
  rw [V_int n e hr, hq, Int.natCast_mul]
  by_cases h1 : n < 0
  · rw [if_pos h1, ← Int.neg_mul]; congr 1; omega
  · rw [if_neg h1]; congr 1; omega

/-- The sum of two such, if it is one, is exact. -/
theorem add_exact (a b : Int) (ha : a.natAbs < 2 ^ 53) (hb : b.natAbs < 2 ^ 53) (hs : (a + b).natAbs < 2 ^ 53) :
    double.add (FloatKind.f64.nearest a) (FloatKind.f64.nearest b) = some (FloatKind.f64.nearest (a + b)) := by
  have tp := T_pos
  obtain ⟨ra, ea, la, ua, va⟩ := int_exact a ha
  obtain ⟨rb, eb, lb, ub, vb⟩ := int_exact b hb
  obtain ⟨rs, es, ls, us, vs⟩ := int_exact (a + b) hs
  have fa : Fin' (FloatKind.f64.nearest a) := by rw [ea]; exact fin_word _ la
  have fb : Fin' (FloatKind.f64.nearest b) := by rw [eb]; exact fin_word _ lb
  obtain ⟨q, e, hq⟩ := add_fin fa fb
  have hv : V (FloatKind.f64.nearest a) + V (FloatKind.f64.nearest b) = (a + b) * T := by rw [va, vb, Int.add_mul]
  have sa : sg (FloatKind.f64.nearest a) = decide (a < 0) := by rw [ea, sg_of _ la]
  have sb : sg (FloatKind.f64.nearest b) = decide (b < 0) := by rw [eb, sg_of _ lb]
  rw [hv, sa, sb] at e
  rw [hv, Int.natAbs_mul, Int.natAbs_natCast, ← us] at hq
  have := hq.exact
  subst this
  rw [e, es, Nat.min_eq_left (Nat.le_of_lt ls)]
  congr 2
  by_cases hz : a + b = 0
  · rw [hz]; simp; omega
  · have : (a + b) * (T : Int) ≠ 0 := by
      intro h; rcases Int.mul_eq_zero.1 h with h | h
      · exact hz h
      · omega
    rw [if_neg this]
    rcases Int.lt_or_le (a + b) 0 with h | h
    · have : (a + b) * (T : Int) < 0 := Int.mul_neg_of_neg_of_pos h (by omega)
      simp [h, this]
    · have : 0 ≤ (a + b) * (T : Int) := Int.mul_nonneg h (by omega)
      simp; omega

/-- A number divided by itself is 1. -/
theorem quo_self (n : Int) (h : n.natAbs < 2 ^ 64) (h0 : n ≠ 0) : double.div (FloatKind.f64.nearest n) (FloatKind.f64.nearest n) = some 4607182418800017408 := by
  have tp := T_pos
  have hK := K0_eq
  obtain ⟨r, e, hr, hn⟩ := of_int n h
  have fx := fin_int n h
  have hrg : rg (FloatKind.f64.nearest n) = r := by rw [e, rg_of _ hr]
  have hsg : sg (FloatKind.f64.nearest n) = decide (n < 0) := by rw [e, sg_of _ hr]
  have hr0 : r ≠ 0 := by
    rintro rfl
    obtain ⟨r1, h1⟩ := one_rung
    have h3 : r1 ≤ 0 := by
      refine (Rn.self r1).mono hn (by omega) (by omega) ?_
      rw [h1, Nat.mul_one, Nat.mul_one]
      exact Nat.le_mul_of_pos_left _ (by omega)
    have : r1 = 0 := by omega
    subst this
    rw [U_zero] at h1; omega
  obtain ⟨q, eq, hq⟩ := div_fin fx fx (by rw [hrg]; exact hr0)
  rw [hrg] at hq
  have hU : 0 < U r := by have := U_mono (show 0 < r by omega); rw [U_zero] at this; exact this
  have hq1 : Rn q T 1 := hq.congr hU (by omega) (by rw [Nat.mul_one, Nat.mul_comm])
  obtain ⟨E, hE⟩ : ∃ E, E = K0 - 52 := ⟨_, rfl⟩
  have hT : U (E * B + B) = T := by
    rw [U_at E B (by omega) (by omega), T_pow]
    have e1 : B = 2 ^ 52 := by decide
    rw [e1, ← Nat.pow_add]
    exact congrArg (2 ^ ·) (by omega)
  rw [← hT] at hq1
  have hqe := hq1.exact
  have hE2 : E = 1022 := by omega
  subst hE2
  rw [eq, hqe]
  simp
  decide

end Go.Proofs.Ytoiblmhhilipjaa.Fl
