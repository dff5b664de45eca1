/- PLAIN: what a second change gives. -/
import Derived.Test.YtoiblmhhilipjaaA
set_option linter.unusedVariables false
namespace Go.Proofs.Ytoiblmhhilipjaa

theorem planR_cases (k mo li sz mt ct ino gen mode size guard now : Int) : (planR k mo li sz mt ct ino gen mode size guard now = er 1 ∨ planR k mo li sz mt ct ino gen mode size guard now = er 59 ∨ planR k mo li sz mt ct ino gen mode size guard now = er 55 ∨ planR k mo li sz mt ct ino gen mode size guard now = er 40) ∨
    (¬ (mode < -1 ∨ 4095 < mode ∨ size < -1 ∨ guard < -1 ∨ now < 0 ∨ 2147483647 < now) ∧ ¬ (guard ≠ -1 ∧ guard ≠ ct) ∧ ¬ (size ≠ -1 ∧ k ≠ 1) ∧ ¬ 32768 < size ∧
      ∃ mo' sz' mt' ct', planR k mo li sz mt ct ino gen mode size guard now = .tuple #[ag k mo' li sz' mt' ct' ino gen, .int .i64 0] ∧ (mode ≠ -1 → mo' = mode) ∧ (size ≠ -1 → sz' = size)) := by
  by_cases h : mode < -1 ∨ 4095 < mode ∨ size < -1 ∨ guard < -1 ∨ now < 0 ∨ 2147483647 < now
  · exact .inl (.inl (planR_arg h).symm)
  by_cases h2 : guard ≠ -1 ∧ guard ≠ ct
  · exact .inl (.inr (.inl (planR_guard h h2).symm))
  by_cases h3 : size ≠ -1 ∧ k ≠ 1
  · exact .inl (.inr (.inr (.inl (planR_kind h h2 h3).symm)))
  by_cases h4 : 32768 < size
  · exact .inl (.inr (.inr (.inr (planR_large h h2 h3 h4).symm)))
  refine .inr ⟨h, h2, h3, h4, ?_⟩
  by_cases h5 : size = -1 <;> by_cases h6 : mode = -1
  · exact ⟨_, _, _, _, (planR_1 h h2 h3 h4 h5 h6).symm, fun h => absurd h6 h, fun h => absurd h5 h⟩
  · exact ⟨_, _, _, _, (planR_2 h h2 h3 h4 h5 h6).symm, fun _ => rfl, fun h => absurd h5 h⟩
  · exact ⟨_, _, _, _, (planR_3 h h2 h3 h4 h5 h6).symm, fun h => absurd h6 h, fun _ => rfl⟩
  · exact ⟨_, _, _, _, (planR_4 h h2 h3 h4 h5 h6).symm, fun _ => rfl, fun _ => rfl⟩

/-- A change: refused, with nothing; or done, and then a second one is refused by its time alone, or changes times alone. -/
theorem planR_twice (k mo li sz mt ct ino gen mode size now : Int) :
    (∃ e, planR k mo li sz mt ct ino gen mode size (-1) now = .tuple #[.agg #[.int .u8 0, .int .i64 0, .int .i64 0, .int .i64 0, .int .i64 0, .int .i64 0, .int .i64 0, .int .i64 0], .int .i64 e] ∧ (e != 0) = true) ∨
    ∃ mo' sz' mt' ct', planR k mo li sz mt ct ino gen mode size (-1) now = .tuple #[.agg #[.int .u8 k, .int .i64 mo', .int .i64 li, .int .i64 sz', .int .i64 mt', .int .i64 ct', .int .i64 ino, .int .i64 gen], .int .i64 0] ∧
      ∀ thn, ((thn < 0 ∨ 2147483647 < thn) → planR k mo' li sz' mt' ct' ino gen mode size (-1) thn = .tuple #[.agg #[.int .u8 0, .int .i64 0, .int .i64 0, .int .i64 0, .int .i64 0, .int .i64 0, .int .i64 0, .int .i64 0], .int .i64 1]) ∧
        (¬ (thn < 0 ∨ 2147483647 < thn) → ∃ mt2 ct2, planR k mo' li sz' mt' ct' ino gen mode size (-1) thn = .tuple #[.agg #[.int .u8 k, .int .i64 mo', .int .i64 li, .int .i64 sz', .int .i64 mt2, .int .i64 ct2, .int .i64 ino, .int .i64 gen], .int .i64 0]) := by
  rcases planR_cases k mo li sz mt ct ino gen mode size (-1) now with (h | h | h | h) | ⟨h1, h2, h3, h4, mo', sz', mt', ct', h, hm, hs⟩
  · exact .inl ⟨1, h, rfl⟩
  · exact .inl ⟨59, h, rfl⟩
  · exact .inl ⟨55, h, rfl⟩
  · exact .inl ⟨40, h, rfl⟩
  · refine .inr ⟨mo', sz', mt', ct', h, fun thn => ⟨fun hb => (planR_arg (by omega)).symm, fun hb => ?_⟩⟩
    have g1 : ¬ (mode < -1 ∨ 4095 < mode ∨ size < -1 ∨ (-1 : Int) < -1 ∨ thn < 0 ∨ 2147483647 < thn) := by omega
    have g2 : ¬ ((-1 : Int) ≠ -1 ∧ (-1 : Int) ≠ ct') := by omega
    by_cases h5 : size = -1 <;> by_cases h6 : mode = -1
    · exact ⟨_, _, (planR_1 g1 g2 h3 h4 h5 h6).symm⟩
    · have e := hm h6; subst e
      exact ⟨_, _, (planR_2 g1 g2 h3 h4 h5 h6).symm⟩
    · have e := hs h5; subst e
      exact ⟨_, _, (planR_3 g1 g2 h3 h4 h5 h6).symm⟩
    · have e := hs h5; subst e
      have e := hm h6; subst e
      exact ⟨_, _, (planR_4 g1 g2 h3 h4 h5 h6).symm⟩

theorem planR_nothing (k mo li sz mt ct ino gen now : Int) (h1 : 0 ≤ now) (h2 : now ≤ 2147483647) (h3 : 0 ≤ ct) :
    planR k mo li sz mt ct ino gen (-1) (-1) ct now = .tuple #[.agg #[.int .u8 k, .int .i64 mo, .int .i64 li, .int .i64 sz, .int .i64 mt, .int .i64 ct, .int .i64 ino, .int .i64 gen], .int .i64 0] :=
  (planR_1 (by omega) (by omega) (by omega) (by omega) rfl rfl).symm
end Go.Proofs.Ytoiblmhhilipjaa
