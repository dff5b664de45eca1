/- LAYER 16 (dead): the blocks of which something is so, rising: blocks; Of, All. -/
import Derived.Test.YtdiejjhlgacbdaaC
set_option linter.unusedVariables false
namespace Go.Proofs.Ytdiejjhlgacbdaa
open Go.RowKit Go.ChangeShapes Go.WideShapes Go.ChangeAt Go.Sort

/-- The blocks of which something is so. -/
def blks (pr : Nat → Bool) (S : Int → Nat) : List Int := ((List.range 8192).map (fun i : Nat => (i : Int))).filter (fun x => decide (S x ≠ 0) && pr (S x))
theorem mem_blks {pr : Nat → Bool} {S : Int → Nat} (hG : Good S) {x : Int} : x ∈ blks pr S ↔ S x ≠ 0 ∧ pr (S x) = true := by
  unfold blks
  rw [List.mem_filter]
  simp only [List.mem_map, List.mem_range, Bool.and_eq_true, decide_eq_true_eq]
  constructor
  · exact fun h => h.2
  · intro h
    have := (hG x).2 h.1
    exact ⟨⟨x.toNat, by omega, by omega⟩, h⟩
theorem blks_lt (pr : Nat → Bool) (S : Int → Nat) : (blks pr S).Pairwise (· < ·) := by
  unfold blks
  refine List.Pairwise.filter _ (List.pairwise_map.2 (List.pairwise_lt_range.imp ?_))
  intro a b h
  omega
theorem blks_len (pr : Nat → Bool) (S : Int → Nat) : (blks pr S).length ≤ 8192 := by
  unfold blks
  refine Nat.le_trans (List.length_filter_le _ _) ?_
  simp
theorem rising_unique : ∀ {l m : List Int}, l.Pairwise (· < ·) → m.Pairwise (· < ·) → (∀ x, x ∈ l ↔ x ∈ m) → l = m := fun {l m} h1 h2 h3 => by
  refine List.Perm.eq_of_pairwise (le := fun a b => a < b) (fun a b _ _ h1 h2 => by omega) h1 h2 ((List.perm_ext_iff_of_nodup (h1.imp (fun h => by omega)) (h2.imp (fun h => by omega))).2 h3)
theorem sort_blks {pr : Nat → Bool} {S : Int → Nat} {ss : List Int} (hn : ss.Nodup) (hm : ∀ x, x ∈ ss ↔ x ∈ blks pr S) : (ss.mergeSort fun x y => decide (x ≤ y)) = blks pr S := by
  have hp : ss.Perm (blks pr S) := (List.perm_ext_iff_of_nodup hn ((blks_lt pr S).imp (fun h => by omega))).2 hm
  refine List.Perm.eq_of_pairwise (le := fun a b : Int => a ≤ b) (fun a b _ _ h1 h2 => by omega) ?_ ((blks_lt pr S).imp (fun h => by omega)) ((List.mergeSort_perm ss _).trans hp)
  have := List.pairwise_mergeSort (le := fun x y : Int => decide (x ≤ y)) (fun a b c h1 h2 => by simp only [decide_eq_true_eq] at *; omega) (fun a b => by simp; omega) ss
  exact this.imp (fun h => by simpa using h)
/-- What was collected so far. -/
def Coll (pr : Nat → Bool) (S : Int → Nat) (left : Lit → Bool) (ss : List Int) : Prop := ss.Nodup ∧ ∀ x, x ∈ ss ↔ (S x ≠ 0 ∧ pr (S x) = true ∧ left (.int .i64 x) = false)
theorem Coll.step {pr : Nat → Bool} {S : Int → Nat} {left : Lit → Bool} {ss : List Int} (h : Coll pr S left ss) {x : Int} (hl : left (.int .i64 x) = true) (h0 : S x ≠ 0) :
    Coll pr S (fun z => left z && !z.sameKey (.int .i64 x)) (if pr (S x) then ss ++ [x] else ss) := by
  have hnew : x ∉ ss := fun hx => by have := ((h.2 x).1 hx).2.2; rw [hl] at this; cases this
  cases hp : pr (S x)
  · simp only [Bool.false_eq_true, if_false]
    refine ⟨h.1, fun y => ?_⟩
    by_cases hy : y = x
    · subst hy; simp [hp, hnew]
    · simp [h.2 y, hy, Lit.sameKey]
  · simp only [if_true]
    refine ⟨List.nodup_append.2 ⟨h.1, by simp, fun a ha b hb => by simp at hb; subst hb; exact fun e => hnew (e ▸ ha)⟩, fun y => ?_⟩
    by_cases hy : y = x
    · subst hy; simp [hp, h0, Lit.sameKey]
    · simp [h.2 y, hy, Lit.sameKey]
theorem Coll.last {pr : Nat → Bool} {S : Int → Nat} {left : Lit → Bool} {ss : List Int} (h : Coll pr S left ss) (hG : Good S) (hl : ∀ z, left z = false) : (ss.mergeSort fun x y => decide (x ≤ y)) = blks pr S :=
  sort_blks h.1 fun x => by rw [h.2 x, mem_blks hG, hl]; simp
/-- A row of numbers of the call's own. -/
def OwnI (base : Nat) (w : World) (v : Value) (l : List Int) : Prop := w.ownsRow base 3 1 v l.length (l.map (Value.int .i64))
theorem OwnI.nil (base : Nat) (w : World) : OwnI base w (.slice none 0 0) [] := World.ownsRow_nil _ _ _ _
theorem info_int : (Try.prog.info? 3).map (fun i => (i.zero, i.size, i.bytes)) = some (some (.int .i64 0), 1, 8) := by kernel_rfl
theorem row_lt {w : World} {base : Nat} {e : TypeId} {size : Nat} {v : Value} {n : Nat} {xs : List Value} (h : w.ownsRow base e size v n xs) {g : Nat} (hg : v.ownBlock = some g) : base ≤ g ∧ ∃ cs, w.heap[g]? = some (.cells cs e (0, 0)) := by
  rcases h.2 with ⟨rfl, _⟩ | ⟨g', cap, cur, rfl, hb, h3, _⟩
  · cases hg
  · simp [Value.ownBlock] at hg
    subst hg
    exact ⟨hb, _, h3⟩
theorem OwnI.off {O : Nat → Prop} {w w' : World} {base : Nat} {v : Value} {l : List Int} (h : OwnI base w v l) (ho : Off O w w') (hn : ∀ g, v.ownBlock = some g → ¬ O g) : OwnI base w' v l := by
  refine ⟨h.1, ?_⟩
  rcases h.2 with h2 | ⟨g, cap, cur, rfl, hb, h3, h4⟩
  · exact .inl h2
  · exact .inr ⟨g, cap, cur, rfl, hb, ho.obj h3 (hn g rfl), h4⟩
theorem OwnI.below {w w' : World} {base : Nat} {v : Value} {l : List Int} (h : OwnI base w v l) (ho : Below w.heap.size w w') : OwnI base w' v l := h.off (Off.of_below (fun _ => False) ho) (fun _ _ h => h)
theorem OwnI.form {w : World} {base : Nat} {v : Value} {l : List Int} (h : OwnI base w v l) : ∃ A c, v = .slice A l.length c ∧ (∀ a, A = some a → base ≤ a.block ∧ a.block < w.heap.size) := by
  rcases h.2 with ⟨rfl, hx⟩ | ⟨g, cap, cur, rfl, hb, h3, _⟩
  · have : l = [] := by simpa using hx
    subst this
    exact ⟨none, 0, rfl, fun a h => by cases h⟩
  · exact ⟨_, cap, rfl, fun a h => by cases h; exact ⟨hb, (Array.getElem?_eq_some_iff.1 h3).1⟩⟩
theorem own_appI {base : Nat} {v : Value} {ss : List Int} {w : World} (h : OwnI base w v ss) (x : Int) (hl : ss.length ≤ 10000000) (hb : base ≤ w.heap.size) :
    ∃ v' w', (Builtin.append_ #[26, 26] 26 #[v, .slice (some ⟨w.heap.size, 0, none⟩) 1 1]).run Try.prog (w.alloc (.cells #[.int .i64 x] 3)) = .ok v' w' ∧ OwnI base w' v' (ss ++ [x]) ∧ (w.alloc (.cells #[.int .i64 x] 3)).grownBy w' v.ownBlock ∧
      (v'.ownBlock = v.ownBlock ∨ v'.ownBlock = some (w.heap.size + 1)) := by
  obtain ⟨i0, hi, hz0, hz1, hz2⟩ := info_parts info_int
  have h1 := h.below ((Below.refl _ w).alloc (Nat.le_refl _) (.cells #[.int .i64 x] 3))
  obtain ⟨v', w', hr, hown, hgrow, _, hat⟩ := run_append_own_at (P := Try.prog) (w.alloc (.cells #[.int .i64 x] 3)) base 26 26 3 i0 (.int .i64 0) 1 8 Try.underlying26 hi hz0 hz1 hz2 rfl (by decide) v ss.length (ss.map (Value.int .i64)) h1 ⟨w.heap.size, 0, none⟩ 1 1 [.int .i64 x] rfl (cell_one_new _ _ _) (by simp [Value.oneCell']) (by unfold maxLen; omega) (by omega) (by simp; omega)
  refine ⟨v', w', hr, ?_, hgrow, ?_⟩
  · unfold OwnI
    rw [List.length_append, List.map_append]
    exact hown
  · simpa using hat
/-- What a list that is told is. -/
def ListPost (L : List Int) (w : World) (e : Ending) (w' : World) : Prop := ∃ A c, e = .returned (.slice A L.length c) ∧ OwnI w.heap.size w' (.slice A L.length c) L ∧ Below w.heap.size w w'
theorem sort_any (base : Nat) (v : Value) (ss L : List Int) (w : World) (ho : OwnI base w v ss) (hL : (ss.mergeSort fun x y => decide (x ≤ y)) = L) (hs : ss.length ≤ 10000000) (hB : base ≤ w.heap.size) :
    Calls Try.prog 37 #[v] w fun e w' => e = .returned (.tuple #[]) ∧ OwnI base w' v L ∧ v.ownBlock = v.ownBlock ∧ Off (fun k => v.ownBlock = some k) w w' ∧ ss.length = L.length := by
  have hlen : L.length = ss.length := by rw [← hL, List.length_mergeSort]
  rcases ho.2 with ⟨rfl, hx⟩ | ⟨g, cap, cur, rfl, hbase, hb, h1, h2, h3, h4⟩
  · have : ss = [] := by simpa using hx
    subst this
    have : L = [] := by simpa using hlen
    subst this
    refine (Try.slices_Sort_int_none none 0 w).mono ?_
    rintro e w' ⟨rfl, rfl⟩
    exact ⟨rfl, OwnI.nil _ _, rfl, Off.refl _ _, rfl⟩
  · have hH : Holds (Value.int .i64) w g 0 ss.toArray := holds_of_blockI hb (by simpa using h4)
    refine (Try.slices_Sort_int g 0 cap ss w hH (Array.getElem?_eq_some_iff.1 hb).1 (by omega)).mono ?_
    rintro e w' ⟨rfl, nn, os, rfl⟩
    have hrow := ownsRow_sortedI (n := nn) (os := os) (ts := ss.mergeSort fun x y => decide (x ≤ y)) (by simp) hbase hb h1 h2 h3
    have hg := grownBy_sortedI (w := w) (g := g) (n := nn) (os := os) (ss.mergeSort fun x y => decide (x ≤ y)).toArray
    refine ⟨rfl, ?_, rfl, Off.of_grown hg (fun k e => by cases e; rfl), hlen.symm⟩
    rw [← hL]
    unfold OwnI
    rw [List.length_mergeSort]
    exact hrow
end Go.Proofs.Ytdiejjhlgacbdaa
