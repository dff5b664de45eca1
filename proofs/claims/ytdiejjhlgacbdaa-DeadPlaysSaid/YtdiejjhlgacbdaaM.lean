/- LAYER 16, DeadOnce: the plain law: a step. -/
import Derived.Test.YtdiejjhlgacbdaaN
set_option linter.unusedVariables false
namespace Go.Proofs.Ytdiejjhlgacbdaa

theorem step_good (o : Stp) {S : Int → Nat} (hG : Good S) : Good (stepS o S) := by
  unfold stepS
  split
  · exact needS_good hG _ _
  · split
    · exact giveS_good hG _ _
    · split
      · exact likeS_good hG _ _
      · exact dropU_good hG _
theorem step_gone (o : Stp) {S : Int → Nat} (hG : Good S) {g : Int} (h : g ∈ stepG o S) : S g ≠ 0 ∧ stepS o S g = 0 := by
  unfold stepG at h
  unfold stepS
  split at h
  · simp at h
  · rename_i h0
    rw [if_neg h0]
    split at h
    · rename_i h1
      rw [if_pos h1]
      split at h
      · rename_i hb
        simp at h
        rw [h]
        exact giveS_gone hb
      · simp at h
    · rename_i h1
      rw [if_neg h1]
      split at h
      · simp at h
      · rename_i h2
        rw [if_neg h2]
        rw [dropU_spec hG] at h ⊢
        split at h
        · rename_i ht
          rw [if_pos ht]
          obtain ⟨hm, hz⟩ := List.mem_filter.1 h
          refine ⟨bit_ne (mem_ofL hG hm).2.2.2.2, ?_⟩
          show (if g ∈ ofL S o.tree then _ else _) = 0
          rw [if_pos hm]
          simpa using hz
        · simp at h
theorem step_old (o : Stp) {S : Int → Nat} (hG : Good S) {x : Int} (h : S x ≠ 0) : stepS o S x ≠ 0 ∨ x ∈ stepG o S := by
  unfold stepG stepS
  split
  · exact .inl (needS_old hG _ _ _ h)
  · split
    · rcases giveS_old o.tree o.block x h with h1 | ⟨h1, h2⟩
      · exact .inl h1
      · rw [if_pos h1, h2]
        exact .inr (by simp)
    · split
      · exact .inl ((likeS_iff hG _ _ _).2 h)
      · rw [dropU_spec hG]
        split
        · by_cases hx : x ∈ ofL S o.tree
          · by_cases hz : clrB (S x) o.tree.toNat = 0
            · exact .inr (List.mem_filter.2 ⟨hx, by simpa using hz⟩)
            · refine .inl ?_
              show (if x ∈ ofL S o.tree then _ else _) ≠ 0
              rw [if_pos hx]
              exact hz
          · refine .inl ?_
            show (if x ∈ ofL S o.tree then _ else _) ≠ 0
            rw [if_neg hx]
            exact h
        · exact .inl h
theorem step_new (o : Stp) {S : Int → Nat} (hG : Good S) {x : Int} (h : stepS o S x ≠ 0) : S x ≠ 0 ∨ (o.kind = 0 ∧ x = o.block) := by
  unfold stepS at h
  split at h
  · rename_i h0
    exact (needS_new _ _ _ h).imp (fun h => h) (fun h => ⟨h0, h⟩)
  · split at h
    · exact .inl (giveS_new _ _ _ h)
    · split at h
      · exact .inl ((likeS_iff hG _ _ _).1 h)
      · rw [dropU_spec hG] at h
        split at h
        · replace h : (if x ∈ ofL S o.tree then clrB (S x) o.tree.toNat else S x) ≠ 0 := h
          split at h
          · refine .inl fun e => ?_
            rw [e, clr_zero] at h
            exact h rfl
          · exact .inl h
        · exact .inl h
theorem step_inv (o : Stp) {S : Int → Nat} {K : Nat → List Int} (hG : Good S) (hK : KInv S K) : KInv (stepS o S) (stepK o S K) := by
  intro n h1 h7 x hx
  unfold stepK at hx
  unfold stepS
  split at hx
  · rename_i h0
    rw [if_pos h0]
    exact needS_bit hG _ _ _ h7 (hK n h1 h7 x hx)
  · rename_i h0
    rw [if_neg h0]
    split at hx
    · rename_i k1
      rw [if_pos k1]
      split at hx
      · rename_i he
        unfold updK at hx
        split at hx
        · simp at hx
        · rename_i hn
          refine giveS_bit hG _ _ _ h7 (.inl ?_) (hK n h1 h7 x hx)
          intro e
          exact hn (by omega)
      · rename_i he
        by_cases hz : giveE S o.tree o.block = 0
        · have : o.tree = 0 := by
            by_cases ht : o.tree = 0
            · exact ht
            · exact absurd ⟨hz, ht⟩ he
          exact giveS_bit hG _ _ _ h7 (.inl (by omega)) (hK n h1 h7 x hx)
        · exact giveS_bit hG _ _ _ h7 (.inr hz) (hK n h1 h7 x hx)
    · rename_i k1
      rw [if_neg k1]
      split at hx
      · rename_i k2
        rw [if_pos k2]
        split at hx
        · rename_i he
          unfold updK at hx
          split at hx
          · rename_i hn
            have := mayB_iff.1 (likeE_may he)
            have h := (mem_ofL (likeS_good hG _ _) hx).2.2.2.2
            rw [hn]
            exact h
          · exact likeS_bit hG _ _ _ h7 (hK n h1 h7 x hx)
        · exact likeS_bit hG _ _ _ h7 (hK n h1 h7 x hx)
      · rename_i k2
        rw [if_neg k2, dropU_spec hG]
        split at hx
        · rename_i ht
          rw [if_pos ht]
          unfold updK at hx
          split at hx
          · simp at hx
          · rename_i hn
            have hb := hK n h1 h7 x hx
            show ((if x ∈ ofL S o.tree then clrB (S x) o.tree.toNat else S x)).testBit n = true
            split
            · rw [clr_bit (hG x).1 (by omega) h7, hb]
              simpa using hn
            · exact hb
        · rename_i ht
          rw [if_neg ht]
          exact hK n h1 h7 x hx
/-- What the walk asks of a step. -/
theorem mem_all {S : Int → Nat} (hG : Good S) {x : Int} : x ∈ blks prAll S ↔ S x ≠ 0 := by
  rw [mem_blks hG]
  unfold prAll
  simp
theorem who_nil {s : Nat} (hs : s < 128) : whoU s 7 = [] ↔ s = 0 := by
  rw [mask_zero hs]
  unfold whoU
  rw [List.map_eq_nil_iff, List.filter_eq_nil_iff]
  constructor
  · intro h u hu
    have := h u (by simpa using hu)
    simpa using this
  · intro h u hu
    have := h u (by simpa using hu)
    simp [this]
theorem ask_gone (o : Stp) {S : Int → Nat} {K : Nat → List Int} (hG : Good S) (hK : KInv S K) {g : Int} (h : g ∈ stepG o S) :
    g ∈ blks prAll S ∧ g ∉ blks prAll (stepS o S) ∧ whoU (stepS o S g) 7 = [] ∧ ∀ n, 1 ≤ n → n < 7 → g ∉ stepK o S K n := by
  obtain ⟨h1, h2⟩ := step_gone o hG h
  refine ⟨(mem_all hG).2 h1, fun hm => (mem_all (step_good o hG)).1 hm h2, by rw [h2]; rfl, fun n hn1 hn7 hm => ?_⟩
  have := step_inv o hG hK n hn1 hn7 g hm
  rw [h2] at this
  simp at this
theorem ask_was (o : Stp) {S : Int → Nat} (hG : Good S) {x : Int} (h : x ∈ blks prAll S) : x ∈ blks prAll (stepS o S) ∨ x ∈ stepG o S :=
  (step_old o hG ((mem_all hG).1 h)).imp (fun h => (mem_all (step_good o hG)).2 h) (fun h => h)
theorem ask_now (o : Stp) {S : Int → Nat} (hG : Good S) {x : Int} (h : x ∈ blks prAll (stepS o S)) : (x ∈ blks prAll S ∨ (o.kind = 0 ∧ x = o.block)) ∧ whoU (stepS o S x) 7 ≠ [] := by
  have h1 := (mem_all (step_good o hG)).1 h
  exact ⟨(step_new o hG h1).imp (fun h => (mem_all hG).2 h) (fun h => h), fun e => h1 ((who_nil (step_good o hG x).1).1 e)⟩
theorem giveB_code {S : Int → Nat} {a b : Int} (h : giveB S a b = true) : giveE S a b = 0 := by
  obtain ⟨h1, h2, _⟩ := giveB_spec.1 h
  unfold giveE
  rw [if_pos h1, if_pos h2]
end Go.Proofs.Ytdiejjhlgacbdaa
