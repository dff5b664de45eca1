/- LAYER 24, PLAIN LAW: a directory that may be moved into another one leads to a root then, and so does each one that did. -/
import Derived.Test.YtajopaljiondlaaF
set_option linter.unusedVariables false
namespace Go.Proofs.Ytajopaljiondlaa

/-- Going up from x ends at a root behind n steps. -/
def EndsN (par : Int → Option Int) : Nat → Int → Prop
  | 0, x => par x = some x
  | n + 1, x => ∃ p, par x = some p ∧ p ≠ x ∧ EndsN par n p
theorem EndsN.has {par : Int → Option Int} {n : Nat} {x : Int} (h : EndsN par n x) : (par x).isSome = true := by
  cases n with
  | zero => rw [show par x = some x from h]; rfl
  | succ n =>
    obtain ⟨p, hp, _⟩ := h
    rw [hp]; rfl
theorem EndsN.one {par : Int → Option Int} : ∀ {n m : Nat} {x : Int}, EndsN par n x → EndsN par m x → n = m
  | 0, 0, x, _, _ => rfl
  | 0, m + 1, x, h, ⟨p, hp, hne, _⟩ => absurd (Option.some.inj ((show par x = some x from h).symm.trans hp)) (fun e => hne e.symm)
  | n + 1, 0, x, ⟨p, hp, hne, _⟩, h => absurd (Option.some.inj ((show par x = some x from h).symm.trans hp)) (fun e => hne e.symm)
  | n + 1, m + 1, x, ⟨p, hp, _, hn⟩, ⟨q, hq, _, hm⟩ => by
    obtain rfl := Option.some.inj (hp.symm.trans hq)
    rw [EndsN.one hn hm]
theorem ends_of_ok (par : Int → Option Int) : ∀ (f : Nat) (out : List Int) (x : Int), (passed par f out x).2 = 0 → ∃ n, EndsN par n x
  | 0, out, x, h => by simp [passed] at h
  | f + 1, out, x, h => by
    unfold passed at h
    cases hp : par x with
    | none => rw [hp] at h; simp at h
    | some p =>
      rw [hp] at h
      simp only at h
      by_cases hx : p = x
      · exact ⟨0, by rw [← hx] at hp ⊢; exact hp⟩
      · rw [if_neg hx] at h
        by_cases ho : p ∈ out
        · rw [if_pos ho] at h; simp at h
        · rw [if_neg ho] at h
          obtain ⟨n, hn⟩ := ends_of_ok par f _ p h
          exact ⟨n + 1, p, hp, hx, hn⟩
theorem ok_of_ends (l : List (Int × Int)) : ∀ (n f : Nat) (out : List Int) (x : Int), EndsN (parL l) n x → (∀ y ∈ out, y = x ∨ ∃ m, n < m ∧ EndsN (parL l) m y) → out.Nodup → l.length + 2 ≤ f + out.length → (passed (parL l) f out x).2 = 0 := by
  intro n
  induction n with
  | zero =>
    intro f out x h ho hn hf
    have hle := seen_le l out hn (fun y hy => by
      rcases ho y hy with rfl | ⟨m, _, hm⟩
      · exact h.has
      · exact hm.has)
    obtain ⟨f, rfl⟩ : ∃ g, f = g + 1 := ⟨f - 1, by omega⟩
    unfold passed
    rw [show parL l x = some x from h]
    simp
  | succ n ih =>
    intro f out x h ho hn hf
    have hle := seen_le l out hn (fun y hy => by
      rcases ho y hy with rfl | ⟨m, _, hm⟩
      · exact h.has
      · exact hm.has)
    obtain ⟨f, rfl⟩ : ∃ g, f = g + 1 := ⟨f - 1, by omega⟩
    obtain ⟨p, hp, hpx, he⟩ := h
    have hpo : p ∉ out := fun hm => by
      rcases ho p hm with h1 | ⟨m, hlt, hm⟩
      · exact hpx h1
      · have := EndsN.one he hm
        omega
    unfold passed
    rw [hp]
    simp only
    rw [if_neg hpx, if_neg hpo]
    refine ih f (out ++ [p]) p he (fun y hy => ?_) ?_ (by simp; omega)
    · rcases List.mem_append.1 hy with h1 | h1
      · rcases ho y h1 with rfl | ⟨m, hlt, hm⟩
        · exact .inr ⟨n + 1, by omega, p, hp, hpx, he⟩
        · exact .inr ⟨m, by omega, hm⟩
      · simp at h1
        exact .inl h1
    · rw [List.nodup_append]
      refine ⟨hn, by simp, fun a ha b hb => ?_⟩
      simp at hb
      subst hb
      exact fun e => hpo (e ▸ ha)
theorem depth_ok (l : List (Int × Int)) (x : Int) : (depthU (goUp l x) (-1)).2 = 0 ↔ ∃ n, EndsN (parL l) n x := by
  rw [depth_law]
  constructor
  · intro h
    refine ends_of_ok _ (l.length + 1) [x] x ?_
    by_cases h1 : (passed (parL l) (l.length + 1) [x] x).2 = 0
    · exact h1
    · rw [if_neg h1] at h
      exact h
  · rintro ⟨n, hn⟩
    rw [if_pos (ok_of_ends l n (l.length + 1) [x] x hn (fun y hy => .inl (by simpa using hy)) (by simp) (by simp))]
theorem passed_ext (par : Int → Option Int) : ∀ (f : Nat) (out : List Int) (x : Int), (passed par f out x).2 = 0 → ∀ y ∈ out, y ∈ (passed par f out x).1
  | 0, out, x, h => by simp [passed] at h
  | f + 1, out, x, h => by
    intro y hy
    unfold passed at h ⊢
    cases hp : par x with
    | none => rw [hp] at h; simp at h
    | some p =>
      rw [hp] at h
      simp only at h ⊢
      by_cases hx : p = x
      · rw [if_pos hx]
        exact hy
      · rw [if_neg hx] at h ⊢
        by_cases ho : p ∈ out
        · rw [if_pos ho] at h; simp at h
        · rw [if_neg ho] at h ⊢
          exact passed_ext par f _ p h y (List.mem_append_left _ hy)
/-- A chain that does not pass ino is as it was. -/
theorem ends_moved (par par' : Int → Option Int) (ino : Int) (hpar : ∀ y, y ≠ ino → par' y = par y) : ∀ (f : Nat) (out : List Int) (x : Int), (passed par f out x).2 = 0 → ino ∉ (passed par f out x).1 → x ∈ out → ∃ n, EndsN par' n x
  | 0, out, x, h, _, _ => by simp [passed] at h
  | f + 1, out, x, h, hi, hx => by
    have hxi : x ≠ ino := fun e => hi (e ▸ passed_ext par (f + 1) out x h x hx)
    unfold passed at h hi
    cases hp : par x with
    | none => rw [hp] at h; simp at h
    | some p =>
      rw [hp] at h hi
      simp only at h hi
      by_cases hpx : p = x
      · exact ⟨0, by rw [← hpx] at hp ⊢; show par' p = some p; rw [hpar p (hpx ▸ hxi)]; exact hp⟩
      · rw [if_neg hpx] at h hi
        by_cases ho : p ∈ out
        · rw [if_pos ho] at h; simp at h
        · rw [if_neg ho] at h hi
          obtain ⟨n, hn⟩ := ends_moved par par' ino hpar f _ p h hi (by simp)
          exact ⟨n + 1, p, by rw [hpar x hxi]; exact hp, hpx, hn⟩
/-- The chain behind the move. -/
def nowL (ino to_ : Int) (was : List (Int × Int)) : List (Int × Int) := (ino, to_) :: was.filter fun q => q.1 != ino
theorem parL_filter (ino : Int) : ∀ (l : List (Int × Int)) (y : Int), y ≠ ino → parL (l.filter fun q => q.1 != ino) y = parL l y
  | [], y, _ => rfl
  | q :: l, y, h => by
    have ih := parL_filter ino l y h
    by_cases hq : q.1 = ino
    · rw [List.filter_cons_of_neg (by simp [hq]), ih]
      show _ = if y = q.1 then some q.2 else parL l y
      rw [if_neg (by rw [hq]; exact h)]
    · rw [List.filter_cons_of_pos (by simp [hq])]
      show (if y = q.1 then some q.2 else parL (l.filter fun q => q.1 != ino) y) = if y = q.1 then some q.2 else parL l y
      rw [ih]
theorem noring_law (ino to_ : Int) (was : List (Int × Int)) (hm : movesU ino (goUp was to_) 0 = 0) :
    (∀ x, (depthU (goUp was x) (-1)).2 = 0 → (depthU (goUp (nowL ino to_ was) x) (-1)).2 = 0) ∧ (depthU (goUp (nowL ino to_ was) ino) (-1)).2 = 0 := by
  rw [moves_law] at hm
  have h0 : (passed (parL was) (was.length + 1) [to_] to_).2 = 0 := by
    apply Classical.byContradiction
    intro h
    rw [if_neg h] at hm
    exact h hm
  rw [if_pos h0] at hm
  have hi : ino ∉ (passed (parL was) (was.length + 1) [to_] to_).1 := fun h => by rw [if_pos h] at hm; cases hm
  have hto : to_ ≠ ino := fun e => hi (e ▸ passed_ext _ _ _ _ h0 to_ (by simp))
  have hpi : parL (nowL ino to_ was) ino = some to_ := by
    show (if ino = ino then some to_ else _) = _
    rw [if_pos rfl]
  have hpo : ∀ y, y ≠ ino → parL (nowL ino to_ was) y = parL was y := fun y hy => by
    show (if y = ino then some to_ else parL (was.filter fun q => q.1 != ino) y) = _
    rw [if_neg hy, parL_filter ino was y hy]
  obtain ⟨n, hn⟩ := ends_moved (parL was) (parL (nowL ino to_ was)) ino hpo _ _ _ h0 hi (by simp)
  have hino : EndsN (parL (nowL ino to_ was)) (n + 1) ino := ⟨to_, hpi, hto, hn⟩
  refine ⟨fun x hx => ?_, (depth_ok _ _).2 ⟨_, hino⟩⟩
  obtain ⟨m, hm2⟩ := (depth_ok _ _).1 hx
  refine (depth_ok _ _).2 ?_
  clear hx
  induction m generalizing x with
  | zero =>
    by_cases hxi : x = ino
    · subst hxi; exact ⟨_, hino⟩
    · exact ⟨0, by show parL (nowL ino to_ was) x = some x; rw [hpo x hxi]; exact hm2⟩
  | succ m ih =>
    by_cases hxi : x = ino
    · subst hxi; exact ⟨_, hino⟩
    · obtain ⟨p, hp, hpx, he⟩ := hm2
      obtain ⟨k, hk⟩ := ih p he
      exact ⟨k + 1, p, by rw [hpo x hxi]; exact hp, hpx, hk⟩
end Go.Proofs.Ytajopaljiondlaa
