/- LAYER 24, PLAIN LAWS: Split of Join are the names, Join of Split is the path. -/
import Derived.Test.YtajopaljiondlaaV
set_option linter.unusedVariables false
namespace Go.Proofs.Ytajopaljiondlaa

theorem parts_tail : ∀ (r : List (List UInt8)) (x : List UInt8), 47 ∉ x → (∀ y ∈ r, 47 ∉ y) → partsL (x ++ Lib.joinTail [47] r) = x :: r
  | [], x, hx, _ => by
    have : Lib.joinTail [47] [] = [] := rfl
    rw [this, List.append_nil, partsL_last x hx]
  | y :: r, x, hx, hr => by
    have e : Lib.joinTail [47] (y :: r) = 47 :: (y ++ Lib.joinTail [47] r) := by simp [Lib.joinTail]
    rw [e, partsL_sep x _ hx, parts_tail r y (hr y (List.mem_cons_self ..)) (fun z hz => hr z (List.mem_cons_of_mem _ hz))]
theorem partsL_ne (s : List UInt8) : partsL s ≠ [] := by
  cases s with
  | nil => simp [partsL]
  | cons c l =>
    show (if c = 47 then [] :: partsL l else match partsL l with | p :: ps => (c :: p) :: ps | [] => [[c]]) ≠ []
    split
    · simp
    · split <;> simp
theorem join_parts : ∀ (s : List UInt8), Lib.join (partsL s) [47] = s
  | [] => Lib.join_one _ _
  | c :: l => by
    have ih := join_parts l
    show Lib.join (if c = 47 then [] :: partsL l else match partsL l with | p :: ps => (c :: p) :: ps | [] => [[c]]) [47] = _
    by_cases hc : c = 47
    · rw [if_pos hc, Lib.join_cons]
      cases h : partsL l with
      | nil => exact absurd h (partsL_ne l)
      | cons p ps =>
        rw [h, Lib.join_cons] at ih
        rw [← ih, hc]
        simp [Lib.joinTail]
    · rw [if_neg hc]
      cases h : partsL l with
      | nil => rw [h, Lib.join_nil] at ih; rw [← ih]; exact Lib.join_one _ _
      | cons p ps =>
        rw [h, Lib.join_cons] at ih
        simp only [Lib.join_cons, List.cons_append]
        rw [ih]
theorem back_split (l : List ByteArray) (h : (joinU l).2 = 0) : splitU (joinU l).1.data.toList = (l, 0) := by
  unfold joinU at h ⊢
  by_cases hb : l.any badB = true
  · rw [if_pos hb] at h; simp at h
  · rw [if_neg hb] at h ⊢
    by_cases h4 : 4096 < (joinL l).length
    · rw [if_pos h4] at h; simp at h
    · rw [if_neg h4]
      show splitU (joinL l) = _
      have hmay : ∀ s ∈ l, mayB s.data.toList = true := fun s hs => by
        apply Classical.byContradiction
        intro hm
        exact hb (List.any_eq_true.2 ⟨s, hs, by unfold badB; rw [Bool.eq_false_iff.2 hm]; rfl⟩)
      have h47 : ∀ s ∈ l, 47 ∉ s.data.toList := fun s hs => by
        have := hmay s hs
        unfold mayB at this
        rw [decide_eq_true_iff] at this
        exact this.2.2.2.2.2.1
      unfold splitU
      rw [if_neg h4]
      cases l with
      | nil => rfl
      | cons x r =>
        have hne : joinL (x :: r) ≠ [] := by
          have := hmay x (List.mem_cons_self ..)
          unfold mayB at this
          rw [decide_eq_true_iff] at this
          unfold joinL
          simp only [List.map_cons, Lib.join_cons]
          intro h
          exact this.1 (List.append_eq_nil_iff.1 h).1
        have hp : partsL (joinL (x :: r)) = (x :: r).map (·.data.toList) := by
          unfold joinL
          simp only [List.map_cons, Lib.join_cons]
          exact parts_tail _ _ (h47 x (List.mem_cons_self ..)) (fun y hy => by
            obtain ⟨z, hz, rfl⟩ := List.mem_map.1 hy
            exact h47 z (List.mem_cons_of_mem _ hz))
        have hall : (partsL (joinL (x :: r))).all mayB = true := by
          rw [hp, List.all_eq_true]
          intro y hy
          obtain ⟨z, hz, rfl⟩ := List.mem_map.1 hy
          exact hmay z hz
        rw [if_neg hne, if_pos hall, hp, List.map_map]
        congr 1
        rw [show (str ∘ fun x : ByteArray => x.data.toList) = id from by funext z; exact str_eta z, List.map_id]
theorem split_len (s : List UInt8) : (splitU s).1.length ≤ 4097 ∧ ∀ p ∈ (splitU s).1, p.size ≤ 32 := by
  unfold splitU
  split
  · simp
  · rename_i h4
    split
    · simp
    · split
      · rename_i hall
        have := partsL_len s
        refine ⟨by simp; omega, fun p hp => ?_⟩
        obtain ⟨q, hq, rfl⟩ := List.mem_map.1 hp
        have := List.all_eq_true.1 hall q hq
        unfold mayB at this
        rw [decide_eq_true_iff] at this
        rw [str_size]
        exact this.2.2.2.2.1
      · simp
theorem back_join (s : List UInt8) (h : (splitU s).2 = 0) : joinU (splitU s).1 = (str s, 0) := by
  unfold splitU at h ⊢
  by_cases h4 : 4096 < s.length
  · rw [if_pos h4] at h; simp at h
  · rw [if_neg h4] at h ⊢
    by_cases he : s = []
    · subst he; rfl
    · rw [if_neg he] at h ⊢
      by_cases hall : (partsL s).all mayB = true
      · rw [if_pos hall]
        have hj : joinL ((partsL s).map str) = s := by
          unfold joinL
          rw [List.map_map, show ((fun b : ByteArray => b.data.toList) ∘ str) = id from by funext x; rfl, List.map_id, join_parts]
        have hb : ((partsL s).map str).any badB = false := by
          rw [List.any_eq_false]
          intro x hx
          obtain ⟨p, hp, rfl⟩ := List.mem_map.1 hx
          have := List.all_eq_true.1 hall p hp
          unfold badB
          rw [str_data, this]
          simp
        unfold joinU
        rw [hb, hj, if_neg (by simp), if_neg h4]
      · rw [if_neg hall] at h; simp at h
theorem split_err (s : List UInt8) (h : (splitU s).2 ≠ 0) : (splitU s).1 = [] := by
  unfold splitU at h ⊢
  split
  · rfl
  · split
    · rfl
    · split
      · rename_i h1 h2 h3
        rw [if_neg h1, if_neg h2, if_pos h3] at h
        exact absurd rfl h
      · rfl
end Go.Proofs.Ytajopaljiondlaa
