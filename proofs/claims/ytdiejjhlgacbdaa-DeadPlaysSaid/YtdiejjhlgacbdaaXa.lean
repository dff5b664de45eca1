/- LAYER 16, the document's sorted: a number put into a row; plain laws. -/
import Derived.Test.YtdiejjhlgacbdaaW
import Derived.Laws.OwnMore
set_option linter.unusedVariables false
namespace Go.Proofs.Ytdiejjhlgacbdaa
open Go.RowKit Go.ChangeShapes Go.WideShapes Go.ChangeAt

theorem rdI_cells {W : World} {g off : Nat} {Q : List Int} (h : RdI W (some ⟨g, off, none⟩) Q) : ∀ j u, (Q.map (Value.int .i64))[j]? = some u → W.cell? ((⟨g, off, none⟩ : Addr).add j) = some u := fun j u hj => by
  obtain ⟨hjl, hj'⟩ := List.getElem?_eq_some_iff.1 hj
  rw [List.length_map] at hjl
  obtain ⟨b, o, e, hc⟩ := h (by intro e; subst e; simp at hjl)
  simp only [Option.some.injEq, Addr.mk.injEq, and_true] at e
  obtain ⟨rfl, rfl⟩ := e
  rw [Go.WideShapes.add_plain, hc j hjl, ← hj']
  simp
theorem own_appsI {base : Nat} {W : World} {v : Value} {l : List Int} (h : OwnI base W v l) (g off c : Nat) (Q : List Int) (hQ : RdI W (some ⟨g, off, none⟩) Q) (hl : l.length + Q.length ≤ 100000000) (hb : base ≤ W.heap.size) :
    ∃ v' W', (Builtin.append_ #[26, 26] 26 #[v, .slice (some ⟨g, off, none⟩) Q.length c]).run Try.prog W = .ok v' W' ∧ OwnI base W' v' (l ++ Q) ∧ W.grownBy W' v.ownBlock ∧ (v'.ownBlock = v.ownBlock ∨ v'.ownBlock = some W.heap.size) := by
  obtain ⟨i0, hi, hz0, hz1, hz2⟩ := info_parts info_int
  obtain ⟨v', W', hr, hown, hgrow, _, hat⟩ := run_append_own_at (P := Try.prog) W base 26 26 3 i0 (.int .i64 0) 1 8 Try.underlying26 hi hz0 hz1 hz2 rfl (by decide) v l.length (l.map (Value.int .i64)) h ⟨g, off, none⟩ Q.length c (Q.map (Value.int .i64)) (by simp) (rdI_cells hQ) (fun u hu => by
    rw [List.mem_map] at hu
    obtain ⟨z, _, rfl⟩ := hu
    rfl) (by unfold maxLen; omega) (by omega) hb
  refine ⟨v', W', hr, ?_, hgrow, hat⟩
  unfold OwnI
  rw [List.length_append, List.map_append]
  exact hown
theorem own_appsI_none {base : Nat} {W : World} {v : Value} {l : List Int} (h : OwnI base W v l) : (Builtin.append_ #[26, 26] 26 #[v, .slice none 0 0]).run Try.prog W = .ok v W := by
  obtain ⟨i0, hi, hz0, hz1, hz2⟩ := info_parts info_int
  exact run_append_owned_none (P := Try.prog) W base 26 26 3 i0 1 Try.underlying26 hi v l.length _ h
theorem ownI_empty (base : Nat) (w : World) (hb : base ≤ w.heap.size) : OwnI base (w.alloc (.cells #[] 3)) (.slice (some ⟨w.heap.size, 0, none⟩) 0 0) [] :=
  ⟨rfl, .inr ⟨w.heap.size, 0, #[], rfl, hb, heap_alloc_new _ _, Nat.le_refl _, Nat.zero_le _, rfl, rfl⟩⟩
theorem OwnI.len {base : Nat} {w : World} {A : Option Addr} {n c : Nat} {l : List Int} (h : OwnI base w (.slice A n c) l) : n = l.length := by
  obtain ⟨A', c', e, _⟩ := h.form
  cases e
  rfl
theorem OwnI.cap {base : Nat} {w : World} {A : Option Addr} {n c : Nat} {l : List Int} (h : OwnI base w (.slice A n c) l) : n ≤ c := by
  rcases h.2 with ⟨e, h0⟩ | ⟨g, cap, cur, e, _, _, h4, _⟩
  · cases e
    exact Nat.le_refl _
  · cases e
    omega
theorem OwnI.spot {base : Nat} {w : World} {A : Option Addr} {n c : Nat} {l : List Int} (h : OwnI base w (.slice A n c) l) : (A = none ∧ n = 0 ∧ c = 0 ∧ l = []) ∨ ∃ g, A = some ⟨g, 0, none⟩ ∧ base ≤ g := by
  rcases h.2 with ⟨e, h0⟩ | ⟨g, cap, cur, e, hb, _⟩
  · cases e
    exact .inl ⟨rfl, rfl, rfl, List.eq_nil_of_length_eq_zero h0⟩
  · cases e
    exact .inr ⟨g, rfl, hb⟩
theorem grown_off {base : Nat} {w w' : World} {v : Value} {l : List Int} (h : OwnI base w v l) (hg : w.grownBy w' v.ownBlock) : Off (fun k => base ≤ k) w w' := Off.of_grown hg (fun k e => (row_lt h e).1)
/-- A number put into a row, at q. -/
def insQ (out : List Int) (q : Nat) (x : Int) : List Int := out.take q ++ [x] ++ out.drop q
theorem ins_some {base : Nat} {W : World} {g c : Nat} {out : List Int} (h : OwnI base W (.slice (some ⟨g, 0, none⟩) out.length c) out) (x : Int) (q : Nat) (hq : q ≤ out.length) (hb : base ≤ W.heap.size) (hl : out.length ≤ 1000000) :
    ∃ v1 W1 v2 W2 A3 n3 c3 W3,
      (Builtin.append_ #[26, 26] 26 #[.slice (some ⟨W.heap.size, 0, none⟩) 0 0, .slice (some ⟨g, 0, none⟩) q c]).run Try.prog (W.alloc (.cells #[] 3)) = .ok v1 W1 ∧
      (Builtin.append_ #[26, 26] 26 #[v1, .slice (some ⟨W1.heap.size, 0, none⟩) 1 1]).run Try.prog (W1.alloc (.cells #[.int .i64 x] 3)) = .ok v2 W2 ∧
      (Builtin.append_ #[26, 26] 26 #[v2, .slice (if c = q then some ⟨g, 0, none⟩ else some ⟨g, q, none⟩) (out.length - q) (c - q)]).run Try.prog W2 = .ok (.slice A3 n3 c3) W3 ∧
      OwnI base W3 (.slice A3 n3 c3) (insQ out q x) ∧ Off (fun k => base ≤ k ∧ k ≠ g) W W1 ∧ Off (fun k => base ≤ k) W W3 := by
  have ha : Below W.heap.size W (W.alloc (.cells #[] 3)) := (Below.refl _ _).alloc (Nat.le_refl _) _
  have hgW : g < W.heap.size := by
    obtain ⟨A', c', e, hA⟩ := h.form
    cases e
    exact (hA _ rfl).2
  have hR := h.rd
  have hlk : (out.take q).length = q := by rw [List.length_take]; omega
  have hQ1 : RdI (W.alloc (.cells #[] 3)) (some ⟨g, 0, none⟩) (out.take q) := fun hne => by
    obtain ⟨b, off, e, hc⟩ := (hR.below ha) (by intro e; subst e; simp at hne)
    refine ⟨b, off, e, fun j hj => ?_⟩
    rw [List.getElem_take]
    exact hc j (by rw [hlk] at hj; omega)
  obtain ⟨v1, W1, hap1, hown1, hg1, hv1⟩ := own_appsI (ownI_empty base W hb) g 0 c (out.take q) hQ1 (by rw [hlk]; simp; omega) (Nat.le_trans hb ha.size)
  rw [hlk] at hap1
  rw [List.nil_append] at hown1
  have ho1 : Off (fun k => W.heap.size ≤ k) W W1 := (Off.of_below _ ha).trans (Off.of_grown hg1 (fun k e => by cases e; exact Nat.le_refl _))
  have hb1 : Below W.heap.size W W1 := ho1.below (Nat.le_refl _) (fun k hk => hk)
  obtain ⟨v2, W2, hap2, hown2, hg2, hv2⟩ := own_appI hown1 x (by rw [hlk]; omega) (Nat.le_trans hb hb1.size)
  have ho2 := own_grow hown1 (Nat.le_trans hb hb1.size) hg2
  have hv1n : ∀ j, v1.ownBlock = some j → W.heap.size ≤ j := fun j hj => by
    rcases hv1 with e | e
    · rw [e] at hj; cases hj; exact Nat.le_refl _
    · rw [e] at hj; cases hj; exact ha.size
  have hb2 : Below W.heap.size W W2 := by
    have h1 : Off (fun k => W.heap.size ≤ k) W1 W2 := (Off.of_below _ ((Below.refl _ W1).alloc (Nat.le_refl _) _)).trans (Off.of_grown hg2 (fun k e => hv1n k e))
    exact hb1.trans (h1.below hb1.size (fun k hk => hk))
  obtain ⟨off2, hA2, hQ2⟩ : ∃ off2, (if c = q then some (⟨g, 0, none⟩ : Addr) else some ⟨g, q, none⟩) = some ⟨g, off2, none⟩ ∧ RdI W2 (some ⟨g, off2, none⟩) (out.drop q) := by
    have hcap := h.cap
    by_cases hc : c = q
    · refine ⟨0, by rw [if_pos hc], fun hne => absurd ?_ hne⟩
      rw [List.drop_eq_nil_iff]
      omega
    · refine ⟨q, by rw [if_neg hc], fun hne => ⟨g, q, rfl, fun j hj => ?_⟩⟩
      rw [List.length_drop] at hj
      obtain ⟨b, off, e, hcc⟩ := (hR.below hb2) (by intro e; subst e; simp at hj)
      simp only [Option.some.injEq, Addr.mk.injEq, and_true] at e
      obtain ⟨rfl, rfl⟩ := e
      have h := hcc (q + j) (by omega)
      rw [List.getElem_drop]
      rw [Nat.zero_add] at h
      exact h
  obtain ⟨v3, W3, hap3, hown3, hg3, hv3⟩ := own_appsI hown2 g off2 (c - q) (out.drop q) hQ2 (by simp; omega) (Nat.le_trans hb hb2.size)
  rw [List.length_drop, ← hA2] at hap3
  have ho3 := grown_off hown2 hg3
  obtain ⟨A3, c3, e3, _⟩ := hown3.form
  generalize (out.take q ++ [x] ++ out.drop q).length = n3 at e3
  subst e3
  refine ⟨v1, W1, v2, W2, A3, n3, c3, W3, hap1, hap2, hap3, hown3, ho1.mono (fun k hk h => ⟨Nat.le_trans hb h, by omega⟩), ?_⟩
  exact ((ho1.mono (fun k _ h => Nat.le_trans hb h)).trans ho2).trans ho3
theorem ins_none (base : Nat) (W : World) (x : Int) (hb : base ≤ W.heap.size) :
    ∃ A3 n3 c3 W2,
      (Builtin.append_ #[26, 26] 26 #[.slice (some ⟨W.heap.size, 0, none⟩) 0 0, .slice none 0 0]).run Try.prog (W.alloc (.cells #[] 3)) = .ok (.slice (some ⟨W.heap.size, 0, none⟩) 0 0) (W.alloc (.cells #[] 3)) ∧
      (Builtin.append_ #[26, 26] 26 #[.slice (some ⟨W.heap.size, 0, none⟩) 0 0, .slice (some ⟨W.heap.size + 1, 0, none⟩) 1 1]).run Try.prog ((W.alloc (.cells #[] 3)).alloc (.cells #[.int .i64 x] 3)) = .ok (.slice A3 n3 c3) W2 ∧
      (Builtin.append_ #[26, 26] 26 #[.slice A3 n3 c3, .slice none 0 0]).run Try.prog W2 = .ok (.slice A3 n3 c3) W2 ∧
      OwnI base W2 (.slice A3 n3 c3) [x] ∧ Off (fun k => base ≤ k) W W2 := by
  have ha : Below W.heap.size W (W.alloc (.cells #[] 3)) := (Below.refl _ _).alloc (Nat.le_refl _) _
  have h0 := ownI_empty base W hb
  obtain ⟨v2, W2, hap2, hown2, hg2, hv2⟩ := own_appI h0 x (by simp) (Nat.le_trans hb ha.size)
  obtain ⟨A3, c3, e3, _⟩ := hown2.form
  generalize ([] ++ [x] : List Int).length = n3 at e3
  subst e3
  refine ⟨A3, n3, c3, W2, own_appsI_none h0, by simpa using hap2, own_appsI_none hown2, hown2, ?_⟩
  exact (Off.of_below _ ha).trans (own_grow h0 (Nat.le_trans hb ha.size) hg2)
theorem ins_rising {out : List Int} {x : Int} {q : Nat} (h : out.Pairwise (· < ·)) (h1 : ∀ y ∈ out.take q, y < x) (h2 : ∀ y ∈ out.drop q, x < y) : (insQ out q x).Pairwise (· < ·) := by
  have h' := h
  rw [← List.take_append_drop q out, List.pairwise_append] at h'
  unfold insQ
  rw [List.pairwise_append, List.pairwise_append]
  refine ⟨⟨h'.1, by simp, fun a ha b hb => ?_⟩, h'.2.1, fun a ha b hb => ?_⟩
  · simp at hb
    subst hb
    exact h1 a ha
  · simp at ha
    rcases ha with ha | rfl
    · exact h'.2.2 a ha b hb
    · exact h2 b hb
theorem mem_ins {out : List Int} {x y : Int} {q : Nat} : y ∈ insQ out q x ↔ y ∈ out ∨ y = x := by
  unfold insQ
  conv => rhs; rw [← List.take_append_drop q out]
  simp only [List.mem_append, List.mem_singleton]
  constructor
  · rintro ((h | h) | h)
    · exact .inl (.inl h)
    · exact .inr h
    · exact .inl (.inr h)
  · rintro ((h | h) | h)
    · exact .inl (.inl h)
    · exact .inr h
    · exact .inl (.inr h)
theorem ins_len {out : List Int} {x : Int} {q : Nat} (hq : q ≤ out.length) : (insQ out q x).length = out.length + 1 := by
  unfold insQ
  simp
  omega
/-- All numbers ahead of q are less, if the last of them is. -/
theorem take_less {out : List Int} (h : out.Pairwise (· < ·)) {x : Int} {p : Nat} (hp : p < out.length) (hx : out[p] < x) : ∀ y ∈ out.take (p + 1), y < x := fun y hy => by
  rw [List.mem_take_iff_getElem] at hy
  obtain ⟨j, hj, rfl⟩ := hy
  rcases Nat.lt_or_ge j p with h1 | h1
  · have := List.pairwise_iff_getElem.1 h j p (by omega) hp h1
    omega
  · have : j = p := by omega
    subst this
    exact hx
theorem drop_more {out : List Int} {x : Int} {q : Nat} (h : ∀ i, (hi : i < out.length) → q ≤ i → x < out[i]) : ∀ y ∈ out.drop q, x < y := fun y hy => by
  rw [List.mem_drop_iff_getElem] at hy
  obtain ⟨j, hj, rfl⟩ := hy
  exact h (q + j) (by omega) (by omega)
/-- At the head of the loop. -/
def SHead (l : List Int) (w : World) (v3 v4 : Value) (wr : World) : Prop := ∃ k out, k ≤ l.length ∧ v4 = .int .i64 (k : Nat) ∧ OwnI w.heap.size wr v3 out ∧ out.Pairwise (· < ·) ∧ (∀ y, y ∈ out ↔ y ∈ l.take k) ∧ out.length ≤ k ∧ Below w.heap.size w wr
def IHead (out : List Int) (x : Int) (w wr : World) (v5 : Value) : Prop := ∃ q, q ≤ out.length ∧ v5 = .int .i64 (q : Nat) ∧ (∀ i, (hi : i < out.length) → q ≤ i → x < out[i]) ∧ Below w.heap.size w wr
theorem SHead.have_ {l : List Int} {w wr : World} {v3 : Value} {k : Nat} {out : List Int} (hk : k < l.length) (ho : OwnI w.heap.size wr v3 out) (hp : out.Pairwise (· < ·)) (hm : ∀ y, y ∈ out ↔ y ∈ l.take k) (hl : out.length ≤ k) (hb : Below w.heap.size w wr) (hx : l[k] ∈ out) (v4 : Value) (hv : v4 = .int .i64 ((k + 1 : Nat) : Int)) : SHead l w v3 v4 wr := by
  refine ⟨k + 1, out, by omega, hv, ho, hp, fun y => ?_, by omega, hb⟩
  rw [List.take_succ_eq_append_getElem hk, List.mem_append, ← hm]
  constructor
  · exact fun h => .inl h
  · rintro (h | h)
    · exact h
    · simp at h
      rw [h]
      exact hx
theorem SHead.new_ {l : List Int} {w wr : World} {v3 : Value} {k q : Nat} {out : List Int} (hk : k < l.length) (hq : q ≤ out.length) (ho : OwnI w.heap.size wr v3 (insQ out q l[k])) (hp : (insQ out q l[k]).Pairwise (· < ·)) (hm : ∀ y, y ∈ out ↔ y ∈ l.take k) (hl : out.length ≤ k) (hb : Below w.heap.size w wr) (v4 : Value) (hv : v4 = .int .i64 ((k + 1 : Nat) : Int)) : SHead l w v3 v4 wr := by
  refine ⟨k + 1, _, by omega, hv, ho, hp, fun y => ?_, by rw [ins_len hq]; omega, hb⟩
  rw [List.take_succ_eq_append_getElem hk, List.mem_append, ← hm, mem_ins]
  simp
end Go.Proofs.Ytdiejjhlgacbdaa
