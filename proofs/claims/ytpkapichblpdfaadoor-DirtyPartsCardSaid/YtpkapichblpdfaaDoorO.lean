/- LAYER 22, PLAIN LAW: a write and its two parts. -/
import Derived.Test.YtpkapichblpdfaaDoorC
set_option linter.unusedVariables false
namespace Go.Proofs.YtpkapichblpdfaaDoor

theorem poke_two (M t1 t2 : List UInt8) (a : Nat) (h : a + t1.length + t2.length ≤ M.length) : poke (poke M a t1) (a + t1.length) t2 = poke M a (t1 ++ t2) := by
  unfold poke
  have h1 : (M.take a ++ t1).length = a + t1.length := by simp; omega
  rw [List.take_append_of_le_length (by omega), List.take_of_length_le (by omega)]
  rw [show (M.take a ++ t1 ++ M.drop (a + t1.length)).drop (a + t1.length + t2.length) = M.drop (a + (t1 ++ t2).length) from by
    rw [List.drop_append, List.drop_eq_nil_of_le (by omega), List.nil_append, List.drop_drop, h1]
    congr 1
    simp
    omega]
  simp [List.append_assoc]
theorem over_two (a : Nat) (t t1 t2 : ByteArray) (f : List UInt8) (h : t.data.toList = t1.data.toList ++ t2.data.toList) :
    overL [((a : Int), t1), (((a + t1.size : Nat) : Int), t2)] f = overL [((a : Int), t)] f ∧ sizeL [((a : Int), t1), (((a + t1.size : Nat) : Int), t2)] f.length = sizeL [((a : Int), t)] f.length := by
  have e1 : t1.data.toList.length = t1.size := rfl
  have e2 : t2.data.toList.length = t2.size := rfl
  have e : t.size = t1.size + t2.size := by
    rw [← e1, ← e2, ← List.length_append, ← h]; rfl
  have hs : sizeL [((a : Int), t1), (((a + t1.size : Nat) : Int), t2)] f.length = sizeL [((a : Int), t)] f.length := by
    simp only [sizeL, List.foldl_cons, List.foldl_nil, e]
    omega
  refine ⟨?_, hs⟩
  unfold overL
  rw [hs]
  have hsz : sizeL [((a : Int), t)] f.length = max (f.length : Int) (a + t.size) := rfl
  simp only [List.foldl_cons, List.foldl_nil, Int.toNat_natCast]
  rw [h, ← e1]
  refine poke_two _ _ _ _ ?_
  rw [hsz, e]
  simp
  omega
theorem empty_iff (t : ByteArray) : t = ⟨#[]⟩ ↔ t.size = 0 := by
  constructor
  · rintro rfl; rfl
  · intro h
    apply bytes_inj
    exact List.eq_nil_of_length_eq_zero h
/-- What the two parts leave. -/
def twoL (a : Int) (text : ByteArray) (m : Nat) : List Pt :=
  if (0 : Int) = 0 ∧ text.extract m text.size ≠ ⟨#[]⟩ then (if text.extract 0 m ≠ ⟨#[]⟩ then [(a, text.extract 0 m)] else []) ++ [(a + m, text.extract m text.size)]
  else if text.extract 0 m ≠ ⟨#[]⟩ then [(a, text.extract 0 m)] else []
def oneL (a : Int) (text : ByteArray) : List Pt := if text ≠ ⟨#[]⟩ then [(a, text)] else []
theorem parts_law (a : Int) (text : ByteArray) (m : Nat) (f : List UInt8) (ha : 0 ≤ a) (hm : m ≤ text.size) : overL (twoL a text m) f = overL (oneL a text) f ∧ sizeL (twoL a text m) f.length = sizeL (oneL a text) f.length := by
  have s1 : (text.extract 0 m).size = m := by simp [ByteArray.size_extract]; omega
  have s2 : (text.extract m text.size).size = text.size - m := by simp [ByteArray.size_extract]
  unfold twoL oneL
  by_cases h1 : m = 0
  · subst h1
    have e1 : text.extract 0 0 = ⟨#[]⟩ := (empty_iff _).2 s1
    have e2 : text.extract 0 text.size = text := by apply bytes_inj; simp [ByteArray.data_extract]
    rw [e1, e2]
    simp only [ne_eq, not_true_eq_false, if_false, List.nil_append, true_and, eq_self, Int.natCast_zero, Int.add_zero, and_self]
  · by_cases h2 : m = text.size
    · subst h2
      have e1 : text.extract text.size text.size = ⟨#[]⟩ := (empty_iff _).2 (by omega)
      have e2 : text.extract 0 text.size = text := by apply bytes_inj; simp [ByteArray.data_extract]
      rw [e1, e2]
      simp only [ne_eq, not_true_eq_false, if_false, and_false, and_self, eq_self]
    · have n1 : text.extract 0 m ≠ ⟨#[]⟩ := fun h => by have := (empty_iff _).1 h; omega
      have n2 : text.extract m text.size ≠ ⟨#[]⟩ := fun h => by have := (empty_iff _).1 h; omega
      have n3 : text ≠ ⟨#[]⟩ := fun h => by have := (empty_iff _).1 h; omega
      rw [if_pos ⟨rfl, n2⟩, if_pos n1, if_pos n3]
      obtain ⟨b, rfl⟩ : ∃ b : Nat, a = b := ⟨a.toNat, by omega⟩
      have := over_two b text (text.extract 0 m) (text.extract m text.size) f (by
        simp only [ByteArray.data_extract, Array.toList_extract, List.extract, List.drop_zero, Nat.sub_zero]
        rw [List.take_of_length_le (l := List.drop m text.data.toList) (by simp), List.take_append_drop])
      rw [s1] at this
      simpa using this
end Go.Proofs.YtpkapichblpdfaaDoor
