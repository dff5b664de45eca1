/- LAYER 24, PLAIN LAW: what the document passes and what the program tells are one. -/
import Derived.Test.YtajopaljiondlaaE
set_option linter.unusedVariables false
namespace Go.Proofs.Ytajopaljiondlaa

/-- What the document passes. -/
def passed (par : Int → Option Int) : Nat → List Int → Int → List Int × Int
  | 0, _, _ => ([], 5)
  | f + 1, out, x => match par x with
    | none => ([], 5)
    | some p => if p = x then (out, 0) else if p ∈ out then ([], 50) else passed par f (out ++ [p]) p
theorem up_law (l : List (Int × Int)) (ino : Int) : ∀ (f : Nat) (seen out : List Int) (x n : Int), l.length + 1 ≤ f + seen.length → seen.Nodup → (∀ y ∈ seen, (parL l y).isSome = true) → x ∉ seen → (∀ y, y ∈ out ↔ y = x ∨ y ∈ seen) →
    depthU (upT (parL l) (f + 1) seen x) n = (if (passed (parL l) f out x).2 = 0 then (n + ((passed (parL l) f out x).1.length - out.length) + 1, 0) else (0, (passed (parL l) f out x).2)) ∧
    movesU ino (upT (parL l) (f + 1) seen x) (if ino ∈ seen then 58 else 0) = (if (passed (parL l) f out x).2 = 0 then (if ino ∈ (passed (parL l) f out x).1 then 58 else 0) else (passed (parL l) f out x).2) := by
  intro f
  induction f with
  | zero =>
    intro seen out x n hf hn hs hx ho
    have := seen_le l seen hn hs
    omega
  | succ f ih =>
    intro seen out x n hf hn hs hx ho
    have h58 : (if x = ino then (58 : Int) else if ino ∈ seen then 58 else 0) = if ino ∈ x :: seen then 58 else 0 := by
      by_cases h1 : x = ino
      · simp [h1]
      · simp [h1, show ¬ ino = x from fun h => h1 h.symm]
    unfold upT passed
    cases hp : parL l x with
    | none =>
      have hc : codeU (parL l) seen x = 5 := by unfold codeU; rw [if_neg hx, hp]; rfl
      rw [hc]
      simp [depthU, movesU]
    | some p =>
      have hc : codeU (parL l) seen x = 0 := by unfold codeU; rw [if_neg hx, hp]; rfl
      rw [hc]
      by_cases hpx : p = x
      · subst hpx
        simp only [ne_eq, not_true_eq_false, false_or, if_true, depthU, movesU]
        refine ⟨by simp, ?_⟩
        rw [h58]
        by_cases h1 : ino ∈ p :: seen
        · rw [if_pos h1, if_pos ((ho ino).2 (by simpa using h1))]
        · rw [if_neg h1, if_neg (fun h => h1 (by simpa using (ho ino).1 h))]
      · have hpx' : ¬ (some p = some x) := fun h => hpx (Option.some.inj h)
        simp only [ne_eq, not_true_eq_false, false_or, hpx', hpx, if_false, Option.getD_some, depthU, movesU, if_true]
        rw [h58]
        have hn2 : (x :: seen).Nodup := List.nodup_cons.2 ⟨hx, hn⟩
        have hs2 : ∀ y ∈ x :: seen, (parL l y).isSome = true := fun y hy => by
          rcases List.mem_cons.1 hy with rfl | h
          · rw [hp]; rfl
          · exact hs y h
        by_cases hpo : p ∈ out
        · have hps : p ∈ x :: seen := by have := (ho p).1 hpo; simpa using this
          have hc2 : codeU (parL l) (x :: seen) p = 50 := by unfold codeU; rw [if_pos hps]
          simp only [if_pos hpo]
          unfold upT
          rw [hc2]
          simp [depthU, movesU]
        · have hps : p ∉ x :: seen := fun h => hpo ((ho p).2 (by simpa using h))
          simp only [if_neg hpo]
          have h2 := ih (x :: seen) (out ++ [p]) p (n + 1) (by simp; omega) hn2 hs2 hps (fun y => by simp [ho y]; exact ⟨fun h => h.elim .inr .inl, fun h => h.elim .inr .inl⟩)
          refine ⟨?_, h2.2⟩
          rw [h2.1]
          split
          · simp; omega
          · rfl
theorem depth_law (l : List (Int × Int)) (x : Int) : depthU (goUp l x) (-1) = (if (passed (parL l) (l.length + 1) [x] x).2 = 0 then (((passed (parL l) (l.length + 1) [x] x).1.length : Int) - 1, 0) else (0, (passed (parL l) (l.length + 1) [x] x).2)) := by
  have := (up_law l 0 (l.length + 1) [] [x] x (-1) (by simp) List.nodup_nil (fun y hy => by simp at hy) (by simp) (fun y => by simp)).1
  unfold goUp
  rw [this]
  split
  · simp; omega
  · rfl
theorem moves_law (l : List (Int × Int)) (ino x : Int) : movesU ino (goUp l x) 0 = (if (passed (parL l) (l.length + 1) [x] x).2 = 0 then (if ino ∈ (passed (parL l) (l.length + 1) [x] x).1 then 58 else 0) else (passed (parL l) (l.length + 1) [x] x).2) := by
  have := (up_law l ino (l.length + 1) [] [x] x (-1) (by simp) List.nodup_nil (fun y hy => by simp at hy) (by simp) (fun y => by simp)).2
  unfold goUp
  simpa using this
end Go.Proofs.Ytajopaljiondlaa
