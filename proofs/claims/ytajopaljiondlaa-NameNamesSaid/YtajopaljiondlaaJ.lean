/- LAYER 24: the parts of a path, as plain lists; the walks of strings.Cut and of both Splits. -/
import Derived.Test.YtajopaljiondlaaI
import Derived.Lib.SlFresh
set_option linter.unusedVariables false
namespace Go.Proofs.Ytajopaljiondlaa
open Go.RowKit Go.ChangeShapes Go.WideShapes Go.ChangeAt

/-- The parts of a path. -/
def partsL : List UInt8 → List (List UInt8)
  | [] => [[]]
  | c :: l => if c = 47 then [] :: partsL l else match partsL l with
    | p :: ps => (c :: p) :: ps
    | [] => [[c]]
theorem partsL_last : ∀ (one : List UInt8), 47 ∉ one → partsL one = [one]
  | [], _ => rfl
  | c :: l, h => by
    have h1 : c ≠ 47 := fun e => h (by rw [e]; exact List.mem_cons_self ..)
    have h2 := partsL_last l (fun hm => h (List.mem_cons_of_mem _ hm))
    show (if c = 47 then _ else _) = _
    rw [if_neg h1, h2]
theorem partsL_sep : ∀ (one r : List UInt8), 47 ∉ one → partsL (one ++ 47 :: r) = one :: partsL r
  | [], r, _ => by
    show (if (47 : UInt8) = 47 then _ else _) = _
    rw [if_pos rfl]
  | c :: l, r, h => by
    have h1 : c ≠ 47 := fun e => h (by rw [e]; exact List.mem_cons_self ..)
    have h2 := partsL_sep l r (fun hm => h (List.mem_cons_of_mem _ hm))
    show (if c = 47 then _ else _) = _
    rw [if_neg h1]
    show (match partsL (l ++ 47 :: r) with | p :: ps => (c :: p) :: ps | [] => [[c]]) = _
    rw [h2]
theorem partsL_len : ∀ (s : List UInt8), (partsL s).length ≤ s.length + 1
  | [] => Nat.le_refl _
  | c :: l => by
    have := partsL_len l
    show (if c = 47 then [] :: partsL l else _).length ≤ _
    split
    · simp; omega
    · cases h : partsL l with
      | nil => simp
      | cons p ps => rw [h] at this; simp at this ⊢; omega
def str (l : List UInt8) : ByteArray := ⟨l.toArray⟩
theorem str_data (l : List UInt8) : (str l).data.toList = l := rfl
theorem str_size (l : List UInt8) : (str l).size = l.length := by simp [str, ByteArray.size]
theorem str_eta (s : ByteArray) : str s.data.toList = s := bytes_inj rfl
/-- The names of a path, and the code. -/
def splitU (s : List UInt8) : List ByteArray × Int := if 4096 < s.length then ([], 40) else if s = [] then ([], 0) else if (partsL s).all mayB then ((partsL s).map str, 0) else ([], 56)
/-- Texts as cells. -/
def strs (l : List ByteArray) : List Value := l.map Value.string
theorem info_str : (Try.prog.info? 9).map (fun i => (i.zero, i.size, i.bytes)) = some (some (.string ⟨#[]⟩), 1, 16) := by kernel_rfl
/-- Texts that the call has made. -/
def OwnS (base : Nat) (w : World) (v : Value) (l : List ByteArray) : Prop := w.ownsRow base 9 1 v l.length (strs l)
theorem OwnS.nil (base : Nat) (w : World) : OwnS base w (.slice none 0 0) [] := World.ownsRow_nil _ _ _ _
theorem OwnS.form {base : Nat} {w : World} {v : Value} {l : List ByteArray} (h : OwnS base w v l) : ∃ A c, v = .slice A l.length c ∧ (∀ a, A = some a → ∃ g, a = ⟨g, 0, none⟩ ∧ base ≤ g ∧ g < w.heap.size) ∧ (l ≠ [] → ∃ g, A = some ⟨g, 0, none⟩ ∧ ∀ k, (h : k < l.length) → w.cell? ⟨g, k, none⟩ = some (.string l[k]) ∧ w.frozen? ⟨g, k, none⟩ = false) := by
  have h' := h
  rcases h.2 with ⟨rfl, h0⟩ | ⟨g, cap, cur, rfl, hb, hg, hc, _, _, ht⟩
  · exact ⟨none, 0, by rw [h0], (fun a ha => by cases ha), fun hne => absurd (List.eq_nil_of_length_eq_zero h0) hne⟩
  · refine ⟨some ⟨g, 0, none⟩, cap, rfl, fun a ha => ?_, fun hne => ⟨g, rfl, fun k hk => ⟨?_, ?_⟩⟩⟩
    · cases ha
      exact ⟨g, rfl, hb, (Array.getElem?_eq_some_iff.1 hg).1⟩
    · rw [World.ownsRow.cellAt h' k (by omega)]
      simp [strs, List.getElem?_map, List.getElem?_eq_getElem hk]
    · exact World.ownsRow.frozenAt h' k
theorem own_block {base : Nat} {w : World} {e : TypeId} {size : Nat} {v : Value} {n : Nat} {xs : List Value} (h : w.ownsRow base e size v n xs) {g : Nat} (hg : v.ownBlock = some g) : base ≤ g ∧ g < w.heap.size := by
  rcases h.2 with ⟨rfl, _⟩ | ⟨g', cap, cur, rfl, hb, hh, _⟩
  · cases hg
  · simp [Value.ownBlock] at hg
    subst hg
    exact ⟨hb, (Array.getElem?_eq_some_iff.1 hh).1⟩
theorem OwnS.off {O : Nat → Prop} {base : Nat} {w w' : World} {v : Value} {l : List ByteArray} (h : OwnS base w v l) (ho : Off O w w') (hn : ∀ g, v.ownBlock = some g → ¬ O g) : OwnS base w' v l := by
  refine ⟨h.1, ?_⟩
  rcases h.2 with h1 | ⟨g, cap, cur, rfl, h2, h3, h4⟩
  · exact .inl h1
  · exact .inr ⟨g, cap, cur, rfl, h2, ho.obj h3 (hn g rfl), h4⟩
theorem OwnS.below {base : Nat} {w w' : World} {v : Value} {l : List ByteArray} (h : OwnS base w v l) (hb : Below w.heap.size w w') : OwnS base w' v l := h.off (Off.of_below (fun _ => False) hb) (fun _ _ h => h)
theorem owns_app {base : Nat} {w : World} {v : Value} {l : List ByteArray} (h : OwnS base w v l) (s : ByteArray) (hl : l.length ≤ 1000000) (hb : base ≤ w.heap.size) :
    ∃ v' w', (Builtin.append_ #[35, 35] 35 #[v, .slice (some ⟨w.heap.size, 0, none⟩) 1 1]).run Try.prog (w.alloc (.cells #[.string s] 9)) = .ok v' w' ∧ OwnS base w' v' (l ++ [s]) ∧ Below base w w' := by
  obtain ⟨i0, hi, hz0, hz1, hz2⟩ := info_parts info_str
  have hnews : ∀ j u, [Value.string s][j]? = some u → (w.alloc (.cells #[.string s] 9)).cell? ((⟨w.heap.size, 0, none⟩ : Addr).add j) = some u := fun j u hj => by
    match j, hj with
    | 0, hj =>
      simp at hj
      subst hj
      exact (World.cell?_alloc_new w _ _ 0).trans rfl
  obtain ⟨v', w', hr, hown, hgrow, _⟩ := run_append_own (P := Try.prog) (w.alloc (.cells #[.string s] 9)) base 35 35 9 i0 _ 1 16 Try.underlying35 hi hz0 hz1 hz2 rfl (by omega) v _ _ (h.below ((Below.refl _ _).alloc (Nat.le_refl _) _)) ⟨w.heap.size, 0, none⟩ 1 1 [.string s] rfl hnews (by simp [Value.oneCell']) (by unfold maxLen; omega) (by omega) (by simp; omega)
  refine ⟨v', w', hr, ?_, ((Below.refl base w).alloc hb _).grown hgrow (by simp; omega) (fun k e => (own_block h e).1)⟩
  unfold OwnS
  have e1 : (l ++ [s]).length = l.length + 1 := by simp
  have e2 : strs (l ++ [s]) = strs l ++ [.string s] := by simp [strs]
  rw [e1, e2]
  exact hown
/-- strings.Cut at '/'. -/
def cutU (s : List UInt8) : List UInt8 × List UInt8 × Bool := if 0 ≤ Lib.indexByte s 47 then (s.take (Lib.indexByte s 47).toNat, s.drop ((Lib.indexByte s 47).toNat + 1), true) else (s, [], false)
theorem cut_some {s : List UInt8} (h : 0 ≤ Lib.indexByte s 47) : 47 ∉ s.take (Lib.indexByte s 47).toNat ∧ s = s.take (Lib.indexByte s 47).toNat ++ 47 :: s.drop ((Lib.indexByte s 47).toNat + 1) ∧ (Lib.indexByte s 47).toNat < s.length := by
  obtain ⟨o, ho⟩ : ∃ o : Nat, Lib.indexByte s 47 = (o : Int) := ⟨(Lib.indexByte s 47).toNat, by omega⟩
  obtain ⟨h1, h2⟩ := Lib.indexByte_some ho
  rw [ho, Int.toNat_natCast]
  obtain ⟨hlt, h3⟩ := List.getElem?_eq_some_iff.1 h1
  refine ⟨fun hm => ?_, ?_, hlt⟩
  · obtain ⟨k, hk, he⟩ := List.getElem_of_mem hm
    rw [List.getElem_take] at he
    have hk' : k < o ∧ k < s.length := by simp at hk; omega
    exact h2 k hk'.1 (by rw [List.getElem?_eq_getElem hk'.2, he])
  · rw [← h3, ← List.drop_eq_getElem_cons hlt, List.take_append_drop]
theorem cut_none {s : List UInt8} (h : ¬ 0 ≤ Lib.indexByte s 47) : 47 ∉ s := fun hm => h ((idx_mem s 47).2 hm)
end Go.Proofs.Ytajopaljiondlaa
