/- LAYER 24: texts that came in: '[]string'. -/
import Derived.Test.YtajopaljiondlaaT
import Derived.Test.YtajopaljiondlaaL
import Derived.Deep.Slices
import Derived.SliceStrings
set_option linter.unusedVariables false
namespace Go.Proofs.Ytajopaljiondlaa
open Go.RowKit Go.ChangeShapes Go.WideShapes Go.ChangeAt

theorem add_cell {W : World} {a : Addr} {v : Value} (h : W.cell? (a.add 0) = some v) : ∃ b off, a = ⟨b, off, none⟩ := by
  obtain ⟨b, off, spot⟩ := a
  have hspot : spot = none := by simpa [Addr.add] using World.cell?_spot h
  subst hspot
  exact ⟨b, off, rfl⟩
theorem open_rdt {H : Type} {enc : TypeId × Value → H} {W : World} {base : Nat} {v : Value} {d : DataW H} {p : List MemPlace} (hval : Value.okWide Try.prog W .any base 35 v) (h : DataW.Trod enc Try.prog W 0 (fun _ => true) true 35 v d p) :
    ∃ (A : Option Addr) (c : Nat) (l : List ByteArray), v = .slice A l.length c ∧ RdT W A l ∧ l.length ≤ c ∧ l.length ≤ maxLen ∧ (∀ s ∈ l, s.size ≤ maxLen) ∧ (A = none → c = 0) := by
  obtain ⟨a0, len, cap, rfl⟩ := okWide_slice Try.underlying35 hval
  obtain ⟨fuel, hf⟩ := h
  rcases open_strings Try.underlying35 Try.underlying9 (show Try.prog.cellsOf 9 = 1 by kernel_rfl) hf with ⟨hcs, hx⟩ | ⟨a1, len', cap', zs, hcs, _, hl, hm, hz, hx, hcell, hwz⟩
  · simp [Value.cells] at hcs
    obtain ⟨rfl, rfl, rfl⟩ := hcs
    exact ⟨none, 0, [], rfl, fun h => absurd rfl h, Nat.le_refl _, Nat.zero_le _, fun s hs => by simp at hs, fun _ => rfl⟩
  · simp [Value.cells] at hcs
    obtain ⟨rfl, rfl, rfl⟩ := hcs
    simp only [if_true] at hz
    have hlen : (zs.take len).length = len := by rw [List.length_take]; omega
    refine ⟨some a1, cap, zs.take len, by rw [hlen], fun hne => ?_, by omega, by omega, fun s hs => hwz s (List.mem_of_mem_take hs), fun h => by cases h⟩
    have hp : 0 < zs.length := by
      rcases Nat.eq_zero_or_pos zs.length with h | h
      · have : zs = [] := List.eq_nil_of_length_eq_zero h
        subst this; simp at hne
      · exact h
    obtain ⟨b, off, rfl⟩ := add_cell (hcell 0 hp)
    refine ⟨b, off, rfl, fun k hk => ?_⟩
    rw [hlen] at hk
    have := hcell k (by omega)
    rw [Go.WideShapes.add_plain] at this
    rw [this]
    congr 2
    simp [List.getD, show k < zs.length by omega]
end Go.Proofs.Ytajopaljiondlaa
