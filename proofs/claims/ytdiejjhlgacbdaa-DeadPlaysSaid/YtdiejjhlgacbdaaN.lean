/- LAYER 16, DeadOnce: the plain law: what a step changes. -/
import Derived.Test.YtdiejjhlgacbdaaJ
set_option linter.unusedVariables false
namespace Go.Proofs.Ytdiejjhlgacbdaa

/-- A step: its kind, tree and block. -/
structure Stp where
  kind : Nat
  tree : Int
  block : Int
def stepS (o : Stp) (S : Int → Nat) : Int → Nat := if o.kind = 0 then needS S o.tree o.block else if o.kind = 1 then giveS S o.tree o.block else if o.kind = 2 then likeS S o.tree o.block else (dropU S o.tree).1
def stepG (o : Stp) (S : Int → Nat) : List Int := if o.kind = 0 then [] else if o.kind = 1 then (if giveB S o.tree o.block then [o.block] else []) else if o.kind = 2 then [] else (dropU S o.tree).2
def updK (K : Nat → List Int) (n : Nat) (l : List Int) : Nat → List Int := fun m => if m = n then l else K m
def stepK (o : Stp) (S : Int → Nat) (K : Nat → List Int) : Nat → List Int := if o.kind = 0 then K else if o.kind = 1 then (if giveE S o.tree o.block = 0 ∧ o.tree ≠ 0 then updK K o.tree.toNat [] else K)
  else if o.kind = 2 then (if likeE S o.tree o.block = 0 then updK K o.block.toNat (ofL (likeS S o.tree o.block) o.block) else K) else (if 0 ≤ o.tree ∧ o.tree ≤ 6 then updK K o.tree.toNat [] else K)
/-- What was kept is needed. -/
def KInv (S : Int → Nat) (K : Nat → List Int) : Prop := ∀ n, 1 ≤ n → n < 7 → ∀ x ∈ K n, (S x).testBit n = true
theorem bit_ne {s n : Nat} (h : s.testBit n = true) : s ≠ 0 := fun e => by rw [e] at h; simp at h
theorem needS_bit {S : Int → Nat} (hG : Good S) (a b x : Int) {n : Nat} (hn : n < 7) (h : (S x).testBit n = true) : (needS S a b x).testBit n = true := by
  unfold needS
  split
  · rename_i hm
    rw [mayB_iff] at hm
    split
    · exact h
    · unfold updS
      split
      · subst x
        rw [with_bit (hG b).1 (by omega) hn, h]
        rfl
      · exact h
  · exact h
theorem needS_new {S : Int → Nat} (a b x : Int) (h : needS S a b x ≠ 0) : S x ≠ 0 ∨ x = b := by
  unfold needS at h
  split at h
  · split at h
    · exact .inl h
    · unfold updS at h
      split at h
      · exact .inr (by assumption)
      · exact .inl h
  · exact .inl h
theorem needS_old {S : Int → Nat} (hG : Good S) (a b x : Int) (h : S x ≠ 0) : needS S a b x ≠ 0 := by
  unfold needS
  split
  · split
    · exact h
    · unfold updS
      split
      · exact with_ne _ _
      · exact h
  · exact h
theorem likeR_bit {t : Nat} (ht : t < 7) : ∀ (l : List Int) {S : Int → Nat}, (∀ x ∈ l, 2 ≤ x ∧ x < 8192) → Good S → ∀ x n, n < 7 → (S x).testBit n = true → (likeR t l S x).testBit n = true
  | [], S, _, _, x, n, hn, h => h
  | y :: l, S, hl, hG, x, n, hn, h => by
    refine likeR_bit ht l (fun z hz => hl z (by simp [hz])) (hG.upd (hl y (by simp)) (with_lt (hG y).1 ht)) x n hn ?_
    unfold updS
    split
    · subst x
      rw [with_bit (hG y).1 ht hn, h]
      rfl
    · exact h
theorem likeR_old {t : Nat} : ∀ (l : List Int) {S : Int → Nat} (x : Int), S x ≠ 0 → likeR t l S x ≠ 0
  | [], S, x, h => h
  | y :: l, S, x, h => by
    refine likeR_old l x ?_
    unfold updS
    split
    · exact with_ne _ _
    · exact h
theorem likeR_new {t : Nat} : ∀ (l : List Int) {S : Int → Nat} (x : Int), (∀ y ∈ l, S y ≠ 0) → likeR t l S x ≠ 0 → S x ≠ 0
  | [], S, x, _, h => h
  | y :: l, S, x, hl, h => by
    have h1 := likeR_new l x (fun z hz => by
      unfold updS
      split
      · exact with_ne _ _
      · exact hl z (by simp [hz])) h
    unfold updS at h1
    split at h1
    · rename_i he
      rw [he]
      exact hl y (by simp)
    · exact h1
theorem likeE_may {S : Int → Nat} {a b : Int} (h : likeE S a b = 0) : mayB b 2 = true := by
  cases hb : mayB b 2
  · unfold likeE at h
    rw [if_pos (.inr (.inr hb))] at h
    cases h
  · rfl
theorem likeS_bit {S : Int → Nat} (hG : Good S) (a b x : Int) {n : Nat} (hn : n < 7) (h : (S x).testBit n = true) : (likeS S a b x).testBit n = true := by
  unfold likeS
  split
  · rename_i he
    have := mayB_iff.1 (likeE_may he)
    exact likeR_bit (by omega) _ (fun x hx => ⟨(mem_ofL hG hx).2.2.1, (mem_ofL hG hx).2.2.2.1⟩) hG x n hn h
  · exact h
theorem likeS_iff {S : Int → Nat} (hG : Good S) (a b x : Int) : likeS S a b x ≠ 0 ↔ S x ≠ 0 := by
  unfold likeS
  split
  · exact ⟨likeR_new _ x (fun y hy => bit_ne (mem_ofL hG hy).2.2.2.2), likeR_old _ x⟩
  · exact Iff.rfl
theorem giveS_bit {S : Int → Nat} (hG : Good S) (a b x : Int) {n : Nat} (hn : n < 7) (hne : (n : Int) ≠ a ∨ giveE S a b ≠ 0) (h : (S x).testBit n = true) : (giveS S a b x).testBit n = true := by
  unfold giveS
  unfold giveE at hne
  split
  · rename_i hm
    rw [if_pos hm] at hne
    rw [mayB_iff] at hm
    split
    · rename_i hb
      rw [if_pos hb] at hne
      unfold updS
      split
      · subst x
        have hn2 : n ≠ a.toNat := by rcases hne with h | h
                                     · omega
                                     · exact absurd rfl h
        rw [clr_bit (hG b).1 (by omega) hn, h]
        simpa using hn2
      · exact h
    · exact h
  · exact h
theorem giveB_spec {S : Int → Nat} {a b : Int} : giveB S a b = true ↔ mayB a b = true ∧ (S b).testBit a.toNat = true ∧ clrB (S b) a.toNat = 0 := by
  unfold giveB
  simp [Bool.and_eq_true, and_assoc]
theorem giveS_old {S : Int → Nat} (a b x : Int) (h : S x ≠ 0) : giveS S a b x ≠ 0 ∨ (giveB S a b = true ∧ x = b) := by
  unfold giveS
  split
  · rename_i hm
    split
    · rename_i hb
      unfold updS
      split
      · rename_i hx
        by_cases hz : clrB (S b) a.toNat = 0
        · exact .inr ⟨giveB_spec.2 ⟨hm, hb, hz⟩, hx⟩
        · exact .inl hz
      · exact .inl h
    · exact .inl h
  · exact .inl h
theorem clr_zero (t : Nat) : clrB 0 t = 0 := by simp [clrB]
theorem giveS_new {S : Int → Nat} (a b x : Int) (h : giveS S a b x ≠ 0) : S x ≠ 0 := by
  unfold giveS at h
  split at h
  · split at h
    · unfold updS at h
      split at h
      · rename_i hx
        intro e
        rw [hx] at e
        rw [e, clr_zero] at h
        exact h rfl
      · exact h
    · exact h
  · exact h
theorem giveS_gone {S : Int → Nat} {a b : Int} (h : giveB S a b = true) : S b ≠ 0 ∧ giveS S a b b = 0 := by
  obtain ⟨h1, h2, h3⟩ := giveB_spec.1 h
  refine ⟨bit_ne h2, ?_⟩
  unfold giveS
  rw [if_pos h1, if_pos h2]
  simp [updS, h3]
theorem dropR_spec {t : Int} (h0 : 0 ≤ t) (h6 : t ≤ 6) : ∀ (l : List Int) (S : Int → Nat) (out : List Int), Good S → l.Nodup → (∀ x ∈ l, 2 ≤ x ∧ x < 8192 ∧ (S x).testBit t.toNat = true) →
    dropR t l S out = (fun x => if x ∈ l then clrB (S x) t.toNat else S x, out ++ l.filter (fun x => decide (clrB (S x) t.toNat = 0)))
  | [], S, out, _, _, _ => by simp [dropR]
  | y :: l, S, out, hG, hn, hl => by
    have hy := hl y (by simp)
    have hm : mayB t y = true := mayB_iff.2 ⟨h0, h6, hy.1, hy.2.1⟩
    have hS : giveS S t y = updS S y (clrB (S y) t.toNat) := by unfold giveS; rw [if_pos hm, if_pos hy.2.2]
    have hB : giveB S t y = decide (clrB (S y) t.toNat = 0) := by unfold giveB; rw [hm, hy.2.2]; simp
    have hn' := List.nodup_cons.1 hn
    have hne : ∀ x ∈ l, x ≠ y := fun x hx e => hn'.1 (e ▸ hx)
    have hS' : ∀ x ∈ l, updS S y (clrB (S y) t.toNat) x = S x := fun x hx => by unfold updS; rw [if_neg (hne x hx)]
    show dropR t l (giveS S t y) (if giveB S t y then out ++ [y] else out) = _
    rw [hS, hB, dropR_spec h0 h6 l _ _ (hG.upd ⟨hy.1, hy.2.1⟩ (clr_lt (hG y).1 (by omega))) hn'.2 (fun x hx => by rw [hS' x hx]; exact hl x (by simp [hx]))]
    refine Prod.ext (funext fun x => ?_) ?_
    · show (if x ∈ l then clrB (updS S y (clrB (S y) t.toNat) x) t.toNat else updS S y (clrB (S y) t.toNat) x) = if x ∈ y :: l then clrB (S x) t.toNat else S x
      by_cases hx : x ∈ l
      · rw [if_pos hx, if_pos (by simp [hx]), hS' x hx]
      · rw [if_neg hx]
        by_cases hxy : x = y
        · subst hxy
          simp [updS]
        · rw [if_neg (by simp [hx, hxy])]
          simp [updS, hxy]
    · show _ ++ _ = out ++ (y :: l).filter _
      have hf : l.filter (fun x => decide (clrB (updS S y (clrB (S y) t.toNat) x) t.toNat = 0)) = l.filter (fun x => decide (clrB (S x) t.toNat = 0)) := List.filter_congr fun x hx => by rw [hS' x hx]
      rw [hf, List.filter_cons]
      by_cases hz : clrB (S y) t.toNat = 0 <;> simp [hz]
theorem dropU_spec {S : Int → Nat} (hG : Good S) (t : Int) : dropU S t = if 0 ≤ t ∧ t ≤ 6 then (fun x => if x ∈ ofL S t then clrB (S x) t.toNat else S x, (ofL S t).filter (fun x => decide (clrB (S x) t.toNat = 0))) else (S, []) := by
  unfold dropU
  by_cases h : 0 ≤ t ∧ t ≤ 6
  · rw [if_pos (mayB_iff.2 ⟨h.1, h.2, by omega, by omega⟩), if_pos h, dropR_spec h.1 h.2 _ _ _ hG ?_ (fun x hx => (mem_ofL hG hx).2.2)]
    · simp
    · unfold ofL
      rw [if_pos h]
      exact (blks_lt _ _).imp (fun h => by omega)
  · rw [if_neg h, if_neg (fun hm => h ⟨(mayB_iff.1 hm).1, (mayB_iff.1 hm).2.1⟩)]
end Go.Proofs.Ytdiejjhlgacbdaa
