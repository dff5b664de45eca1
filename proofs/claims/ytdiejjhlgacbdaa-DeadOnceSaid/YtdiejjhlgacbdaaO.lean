/- LAYER 16, DeadOnce: what holds at the head of its loop. -/
import Derived.Test.YtdiejjhlgacbdaaK
set_option linter.unusedVariables false
namespace Go.Proofs.Ytdiejjhlgacbdaa
open Go.RowKit Go.ChangeShapes Go.WideShapes Go.ChangeAt Go.Deep

/-- The array of what was kept: a row for each tree, apart from the blocks that are written. -/
def KArr (w : World) (kb bm : Nat) (K : Nat → List Int) : Prop := ∀ n, n < 7 → (K n).length ≤ 8192 ∧ ∃ A c, w.cell? ⟨kb, n, none⟩ = some (.slice A (K n).length c) ∧ w.frozen? ⟨kb, n, none⟩ = false ∧ RdI w A (K n) ∧ ∀ a, A = some a → a.block ≠ kb ∧ a.block ≠ bm
theorem KArr.off {O : Nat → Prop} {w w' : World} {kb bm : Nat} {K : Nat → List Int} (h : KArr w kb bm K) (ho : Off O w w') (h1 : ¬ O kb) (h2 : ∀ k, O k → k = bm) : KArr w' kb bm K := fun n hn => by
  obtain ⟨hl, A, c, hc, hf, hr, ha⟩ := h n hn
  refine ⟨hl, A, c, ho.cell hc h1, ?_, hr.off ho (fun a e hx => (ha a e).2 (h2 _ hx)), ha⟩
  have hb := ho.block kb (World.block_lt_of_cell? w _ hc) h1
  unfold World.frozen? at hf ⊢
  simp only at hf ⊢
  rw [hb]
  exact hf
theorem KArr.below {w w' : World} {kb bm : Nat} {K : Nat → List Int} (h : KArr w kb bm K) (ho : Below w.heap.size w w') : KArr w' kb bm K := h.off (Off.of_below (fun _ => False) ho) (fun h => h) (fun _ h => h.elim)
/-- A row is stored into the array. -/
theorem KArr.set {w : World} {kb bm : Nat} {K : Nat → List Int} (h : KArr w kb bm K) (m : Nat) (hm : m < 7) (l : List Int) (hl : l.length ≤ 8192) (A : Option Addr) (c : Nat) (hR : RdI w A l) (hA : ∀ a, A = some a → a.block ≠ kb ∧ a.block ≠ bm) :
    KArr (w.setCell ⟨kb, m, none⟩ (.slice A l.length c)) kb bm (updK K m l) := fun n hn => by
  have ho := setCell_off w ⟨kb, m, none⟩ (.slice A l.length c)
  obtain ⟨hl0, A0, c0, hc0, hf0, hr0, ha0⟩ := h n hn
  have hfz : (w.setCell ⟨kb, m, none⟩ (.slice A l.length c)).frozen? ⟨kb, n, none⟩ = false := by
    rw [World.frozen?_setCell]
    exact hf0
  unfold updK
  by_cases hnm : n = m
  · subst hnm
    rw [if_pos rfl]
    refine ⟨hl, A, c, ?_, hfz, hR.off ho (fun a e hx => (hA a e).1 hx), hA⟩
    exact World.cell?_setCell_same _ _ _ hc0
  · rw [if_neg hnm]
    refine ⟨hl0, A0, c0, ?_, hfz, hr0.off ho (fun a e hx => (ha0 a e).1 hx), ha0⟩
    rw [World.cell?_setCell_other _ _ _ _ (fun e => hnm (by simpa using e.symm))]
    exact hc0
end Go.Proofs.Ytdiejjhlgacbdaa
