/- WALKS of layer 20: what may be. -/
import Derived.Test.YtlkjgnnnamkfeaaRows
import Derived.WalkKit
import Derived.ProofKit
import Derived.Handy
import Derived.Deep.Light
import Derived.Lib.Hide
import Derived.StillTailTactics
set_option linter.unusedVariables false
namespace Go.Proofs.Ytlkjgnnnamkfeaa
open Go.RowKit Go.ChangeShapes Go.WideShapes Go.ChangeAt

theorem ret_bool {a b : Bool} (h : a = b) : Ending.returned (.bool a) = .returned (.bool b) := by rw [h]
theorem bcell {W w1 : World} (hb : Below W.heap.size W w1) : (∀ b o, b < W.heap.size → w1.cell? ⟨b, o, none⟩ = W.cell? ⟨b, o, none⟩) ∧ (∀ b o, b < W.heap.size → w1.frozen? ⟨b, o, none⟩ = W.frozen? ⟨b, o, none⟩) :=
  ⟨fun b o h => hb.cell (p := ⟨b, o, none⟩) h, fun b o h => hb.frozen (p := ⟨b, o, none⟩) h⟩

/-- An object's value. -/
def ag (k mo li sz mt ct ino gen : Int) : Value := .agg #[.int .u8 k, .int .i64 mo, .int .i64 li, .int .i64 sz, .int .i64 mt, .int .i64 ct, .int .i64 ino, .int .i64 gen]
def er (e : Int) : Value := .tuple #[ag 0 0 0 0 0 0 0 0, .int .i64 e]
def cnt (n : Int) : Bool := decide (0 ≤ n ∧ n ≤ 2147483647)
theorem cnt_true {n : Int} : cnt n = true ↔ (0 ≤ n ∧ n ≤ 2147483647) := by unfold cnt; exact decide_eq_true_iff
theorem cnt_false {n : Int} : cnt n = false ↔ ¬ (0 ≤ n ∧ n ≤ 2147483647) := by unfold cnt; exact decide_eq_false_iff_not

theorem counts_one (n : Int) (a : Addr) (c : Nat) (w : World) (hc : w.cell? a = some (.int .i64 n)) :
    Calls Try.prog 36 #[.slice (some a) 1 c] w fun e w' => e = .returned (.bool (cnt n)) ∧ w = w' := by
  go_enter Try.func36, Try.ntmps36
  go_wp2
  go_rounds 2
  all_goals go_ret
  all_goals exact ⟨ret_bool (by unfold cnt; simp; try omega), rfl⟩
theorem counts_new (n : Int) (b : Nat) (w : World) (t : TypeId) (h : w.heap.size = b) :
    Calls Try.prog 36 #[.slice (some ⟨b, 0, none⟩) 1 1] (w.alloc (.cells #[.int .i64 n] t)) fun e w' => e = .returned (.bool (cnt n)) ∧ w.alloc (.cells #[.int .i64 n] t) = w' := by
  subst h; exact counts_one n _ 1 _ (by rw [World.cell?_alloc_new]; rfl)
theorem count_any (n : Int) (w : World) : Calls Try.prog 43 #[.int .i64 n] w fun e w' => e = .returned (.bool (cnt n)) ∧ w = w' := by
  go_enter Try.func43, Try.ntmps43
  go_wp2
  all_goals go_ret
  all_goals exact ⟨ret_bool (by unfold cnt; simp <;> omega), rfl⟩

/-- The seven places. -/
def places (b : Nat) : Value := .agg #[.pointer (some ⟨b, 1, none⟩), .pointer (some ⟨b, 2, none⟩), .pointer (some ⟨b, 3, none⟩), .pointer (some ⟨b, 4, none⟩), .pointer (some ⟨b, 5, none⟩), .pointer (some ⟨b, 6, none⟩), .pointer (some ⟨b, 7, none⟩)]

set_option maxHeartbeats 1000000 in
theorem fields_any (b : Nat) (w : World) : Calls Try.prog 35 #[.pointer (some ⟨b, 0, none⟩)] w fun e w' => e = .returned (places b) ∧ Below w.heap.size w w' := by
  go_enter Try.func35, Try.ntmps35
  go_wp2_with fail
  go_still_tail 22, (by kernel_rfl)
  change wpList _ _ _ _ _ (w.alloc (.cells #[.pointer none, .pointer none, .pointer none, .pointer none, .pointer none, .pointer none, .pointer none] 65)).drew
  go_wp2_with fail
  all_goals go_returns
  all_goals exact ⟨rfl, by go_grown⟩

/-- Eight cells in a block of their own. -/
def Held8 (w : World) (R : Nat) (z : List Value) : Prop := (∀ i, i < 8 → w.cell? ⟨R, i, none⟩ = z[i]?) ∧ ∀ i, w.frozen? ⟨R, i, none⟩ = false
theorem Held8.below {W W' : World} {g : Nat} {z : List Value} (h : Held8 W g z) (hb : Below W.heap.size W W') (hg : g < W.heap.size) : Held8 W' g z :=
  ⟨fun i hi => ((bcell hb).1 g i hg).trans (h.1 i hi), fun i => ((bcell hb).2 g i hg).trans (h.2 i)⟩
theorem Held8.alloc {W : World} {g : Nat} {z : List Value} (h : Held8 W g z) (hg : g < W.heap.size) (o : Obj) : Held8 (W.alloc o) g z :=
  ⟨fun i hi => (World.cell?_alloc_lt W o _ hg).trans (h.1 i hi), fun i => (World.frozen?_alloc_old W o _ (Nat.ne_of_lt hg)).trans (h.2 i)⟩
theorem Held8.new (w : World) (z : List Value) (t : TypeId) : Held8 (w.alloc (.cells z.toArray t)) w.heap.size z :=
  ⟨fun i _ => by rw [World.cell?_alloc_new]; simp, fun i => World.frozen?_alloc_new w _ _ _⟩
theorem keep1 {W W' : World} (hb : Below W.heap.size W W') {p : Addr} {v : Value} (h : W.cell? p = some v) : W'.cell? p = some v := (hb.cell (World.block_lt_of_cell? W _ h)).trans h
theorem cells8 {w : World} {g : Nat} {k mo li sz mt ct ino gen : Int} (h : Held8 w g [.int .u8 k, .int .i64 mo, .int .i64 li, .int .i64 sz, .int .i64 mt, .int .i64 ct, .int .i64 ino, .int .i64 gen]) : w.cell? ⟨g, 0, none⟩ = some (.int .u8 k) ∧ w.cell? ⟨g, 1, none⟩ = some (.int .i64 mo) ∧ w.cell? ⟨g, 2, none⟩ = some (.int .i64 li) ∧ w.cell? ⟨g, 3, none⟩ = some (.int .i64 sz) ∧ w.cell? ⟨g, 4, none⟩ = some (.int .i64 mt) ∧ w.cell? ⟨g, 5, none⟩ = some (.int .i64 ct) ∧ w.cell? ⟨g, 6, none⟩ = some (.int .i64 ino) ∧ w.cell? ⟨g, 7, none⟩ = some (.int .i64 gen) := by
  obtain ⟨h, _⟩ := h
  exact ⟨h 0 (by omega), h 1 (by omega), h 2 (by omega), h 3 (by omega), h 4 (by omega), h 5 (by omega), h 6 (by omega), h 7 (by omega)⟩

/-- May it be? -/
def mayB (k mo li sz mt ct ino gen : Int) : Bool :=
  decide (0 ≤ mo ∧ mo ≤ 4095 ∧ 0 ≤ li ∧ li ≤ 2147483647 ∧ 0 ≤ sz ∧ sz ≤ 2147483647 ∧ 0 ≤ mt ∧ mt ≤ 2147483647 ∧ 0 ≤ ct ∧ ct ≤ 2147483647 ∧ 1 ≤ ino ∧ ino < 2147483647 ∧ 0 ≤ gen ∧ gen ≤ 2147483647 ∧
    1 ≤ k ∧ k ≤ 3 ∧ (k = 1 → sz ≤ 32768) ∧ (k = 3 → sz ≤ 160))
theorem mayB_t {k mo li sz mt ct ino gen : Int} (h : 0 ≤ mo ∧ mo ≤ 4095 ∧ 0 ≤ li ∧ li ≤ 2147483647 ∧ 0 ≤ sz ∧ sz ≤ 2147483647 ∧ 0 ≤ mt ∧ mt ≤ 2147483647 ∧ 0 ≤ ct ∧ ct ≤ 2147483647 ∧ 1 ≤ ino ∧ ino < 2147483647 ∧ 0 ≤ gen ∧ gen ≤ 2147483647 ∧
    1 ≤ k ∧ k ≤ 3 ∧ (k = 1 → sz ≤ 32768) ∧ (k = 3 → sz ≤ 160)) : true = mayB k mo li sz mt ct ino gen := (decide_eq_true h).symm
theorem mayB_f {k mo li sz mt ct ino gen : Int} (h : ¬ (0 ≤ mo ∧ mo ≤ 4095 ∧ 0 ≤ li ∧ li ≤ 2147483647 ∧ 0 ≤ sz ∧ sz ≤ 2147483647 ∧ 0 ≤ mt ∧ mt ≤ 2147483647 ∧ 0 ≤ ct ∧ ct ≤ 2147483647 ∧ 1 ≤ ino ∧ ino < 2147483647 ∧ 0 ≤ gen ∧ gen ≤ 2147483647 ∧
    1 ≤ k ∧ k ≤ 3 ∧ (k = 1 → sz ≤ 32768) ∧ (k = 3 → sz ≤ 160))) : false = mayB k mo li sz mt ct ino gen := (decide_eq_false h).symm

set_option maxHeartbeats 2000000 in
theorem may_any (k mo li sz mt ct ino gen : Int) (w : World) :
    Calls Try.prog 15 #[.agg #[.int .u8 k, .int .i64 mo, .int .i64 li, .int .i64 sz, .int .i64 mt, .int .i64 ct, .int .i64 ino, .int .i64 gen]] w fun e w' => e = .returned (.bool (mayB k mo li sz mt ct ino gen)) ∧ Below w.heap.size w w' := by
  have i0 : ∀ W : World, (Instr.index 65 (places w.heap.size) (.int .i64 0)).run Try.prog W = .ok (.pointer (some ⟨w.heap.size, 1, none⟩)) W := fun _ => by kernel_rfl
  have i1 : ∀ W : World, (Instr.index 65 (places w.heap.size) (.int .i64 1)).run Try.prog W = .ok (.pointer (some ⟨w.heap.size, 2, none⟩)) W := fun _ => by kernel_rfl
  have i2 : ∀ W : World, (Instr.index 65 (places w.heap.size) (.int .i64 2)).run Try.prog W = .ok (.pointer (some ⟨w.heap.size, 3, none⟩)) W := fun _ => by kernel_rfl
  have i3 : ∀ W : World, (Instr.index 65 (places w.heap.size) (.int .i64 3)).run Try.prog W = .ok (.pointer (some ⟨w.heap.size, 4, none⟩)) W := fun _ => by kernel_rfl
  have i4 : ∀ W : World, (Instr.index 65 (places w.heap.size) (.int .i64 4)).run Try.prog W = .ok (.pointer (some ⟨w.heap.size, 5, none⟩)) W := fun _ => by kernel_rfl
  have i5 : ∀ W : World, (Instr.index 65 (places w.heap.size) (.int .i64 5)).run Try.prog W = .ok (.pointer (some ⟨w.heap.size, 6, none⟩)) W := fun _ => by kernel_rfl
  have i6 : ∀ W : World, (Instr.index 65 (places w.heap.size) (.int .i64 6)).run Try.prog W = .ok (.pointer (some ⟨w.heap.size, 7, none⟩)) W := fun _ => by kernel_rfl
  go_enter Try.func15, Try.ntmps15
  go_wp2_with fail
  refine (fields_any _ _).mono ?_
  rintro e w1 ⟨rfl, hb⟩
  have ha := (Held8.new w [.int .u8 k, .int .i64 mo, .int .i64 li, .int .i64 sz, .int .i64 mt, .int .i64 ct, .int .i64 ino, .int .i64 gen] 37).below hb (by simp)
  have B1 := Lib.hid (((Below.refl w.heap.size w).alloc (Nat.le_refl _) _).trans (hb.mono (by simp)))
  have hz1 : w.heap.size < w1.heap.size := by have := hb.size; simp at this; omega
  obtain ⟨a0, a1, a2, a3, a4, a5, a6, a7⟩ := cells8 ha
  clear hb ha
  have hy1 : w.heap.size < w1.heap.size + 1 := by omega
  have hy2 : w.heap.size < w1.heap.size + 1 + 1 := by omega
  have hy3 : w.heap.size < w1.heap.size + 1 + 1 + 1 := by omega
  have hy4 : w.heap.size < w1.heap.size + 1 + 1 + 1 + 1 := by omega
  have hy5 : w.heap.size < w1.heap.size + 1 + 1 + 1 + 1 + 1 := by omega
  have hy6 : w.heap.size < w1.heap.size + 1 + 1 + 1 + 1 + 1 + 1 := by omega
  have hy7 : w.heap.size < w1.heap.size + 1 + 1 + 1 + 1 + 1 + 1 + 1 := by omega
  have hy8 : w.heap.size < w1.heap.size + 1 + 1 + 1 + 1 + 1 + 1 + 1 + 1 := by omega
  go_wp2_with fail
  refine wp_loop_rounds 8 ?_
  repeat any_goals (rw [rounds_succ]; go_wp2_with (go_at_call 36; refine (counts_new _ _ _ _ (by first | rfl | simp)).mono ?_; rintro e w' ⟨rfl, rfl⟩))
  all_goals go_ret
  all_goals refine ⟨?_, by have := B1.out; go_grown⟩
  all_goals (go_light; try simp only [Bool.not_eq_true', Bool.not_eq_false', cnt_true, cnt_false, beq_iff_eq, beq_eq_false_iff_ne, ne_eq] at *)
  all_goals first | exact ret_bool (mayB_f (by omega)) | exact ret_bool (mayB_t (by omega)) | (refine ret_bool ?_; unfold mayB; rw [decide_eq_decide]; omega) | (refine ret_bool ?_; unfold mayB; rw [Bool.eq_iff_iff]; simp only [beq_iff_eq, decide_eq_true_eq]; omega)

set_option maxHeartbeats 2000000 in
theorem refmay_any (k mo li sz mt ct ino gen : Int) (w : World) :
    Calls Try.prog 24 #[.agg #[.int .u8 k, .int .i64 mo, .int .i64 li, .int .i64 sz, .int .i64 mt, .int .i64 ct, .int .i64 ino, .int .i64 gen]] w fun e w' => e = .returned (.bool (mayB k mo li sz mt ct ino gen)) ∧ Below w.heap.size w w' := by
  go_enter Try.func24, Try.ntmps24
  go_wp2_with (go_at_call 43; refine (count_any _ _).mono ?_; rintro e w' ⟨rfl, rfl⟩)
  all_goals go_ret
  all_goals refine ⟨?_, by go_grown⟩
  all_goals (go_light; try simp only [cnt_true] at *)
  all_goals first | exact ret_bool (mayB_f (by omega)) | exact ret_bool (mayB_t (by omega)) | (refine ret_bool ?_; unfold mayB cnt; rw [decide_eq_decide]; omega)

/-- What 'Sized' gives. -/
def sizedR (k mo li sz mt ct ino gen size now : Int) : Value :=
  if k ≠ 1 then er 55 else if size < 0 ∨ now < 0 ∨ 2147483647 < now then er 1 else if 32768 < size then er 40
  else .tuple #[ag k mo li size now now ino gen, .int .i64 0]
def modedR (k mo li sz mt ct ino gen mode now : Int) : Value :=
  if mode < 0 ∨ 4095 < mode ∨ now < 0 ∨ 2147483647 < now then er 1
  else .tuple #[ag k mode li sz mt now ino gen, .int .i64 0]
def linkedR (k mo li sz mt ct ino gen by_ now : Int) : Value :=
  if (by_ ≠ 1 ∧ by_ ≠ -1) ∨ now < 0 ∨ 2147483647 < now then er 1
  else if (by_ = 1 ∧ 2147483647 ≤ li) ∨ (by_ = -1 ∧ li ≤ 0) ∨ li + by_ < 0 ∨ 2147483647 < li + by_ then er 50
  else .tuple #[ag k mo (li + by_) sz mt now ino gen, .int .i64 0]
def newR (k mo ino gen now : Int) : Value :=
  if mayB k mo (if k = 2 then 2 else 1) 0 now now ino gen = true then .tuple #[ag k mo (if k = 2 then 2 else 1) 0 now now ino gen, .int .i64 0] else er 1

set_option maxHeartbeats 1000000 in
theorem sized_any (k mo li sz mt ct ino gen size now : Int) (w : World) :
    Calls Try.prog 18 #[.agg #[.int .u8 k, .int .i64 mo, .int .i64 li, .int .i64 sz, .int .i64 mt, .int .i64 ct, .int .i64 ino, .int .i64 gen], .int .i64 size, .int .i64 now] w fun e w' => e = .returned (sizedR k mo li sz mt ct ino gen size now) ∧ Below w.heap.size w w' := by
  go_enter Try.func18, Try.ntmps18
  go_wp2_with (go_at_call 36; refine (counts_new _ _ _ _ (by first | rfl | simp)).mono ?_; rintro e w' ⟨rfl, rfl⟩)
  all_goals go_returns
  all_goals refine ⟨?_, by go_grown⟩
  all_goals (go_light; refine congrArg Ending.returned ?_; try simp only [Bool.not_eq_true', Bool.not_eq_false', cnt_true, cnt_false, bne_iff_ne, bne_eq_false_iff_eq, ne_eq] at *)
  all_goals (unfold sizedR; first | (rw [if_pos (by omega)]; rfl) | (rw [if_neg (by omega), if_pos (by omega)]; rfl) | (rw [if_neg (by omega), if_neg (by omega), if_pos (by omega)]; rfl) | (rw [if_neg (by omega), if_neg (by omega), if_neg (by omega)]; rfl))

set_option maxHeartbeats 1000000 in
theorem moded_any (k mo li sz mt ct ino gen mode now : Int) (w : World) :
    Calls Try.prog 19 #[.agg #[.int .u8 k, .int .i64 mo, .int .i64 li, .int .i64 sz, .int .i64 mt, .int .i64 ct, .int .i64 ino, .int .i64 gen], .int .i64 mode, .int .i64 now] w fun e w' => e = .returned (modedR k mo li sz mt ct ino gen mode now) ∧ Below w.heap.size w w' := by
  go_enter Try.func19, Try.ntmps19
  go_wp2_with (go_at_call 36; refine (counts_new _ _ _ _ (by first | rfl | simp)).mono ?_; rintro e w' ⟨rfl, rfl⟩)
  all_goals go_returns
  all_goals refine ⟨?_, by go_grown⟩
  all_goals (go_light; refine congrArg Ending.returned ?_; try simp only [Bool.not_eq_true', Bool.not_eq_false', cnt_true, cnt_false] at *)
  all_goals (unfold modedR; first | (rw [if_pos (by omega)]; rfl) | (rw [if_neg (by omega)]; rfl))

set_option maxHeartbeats 1000000 in
theorem linked_any (k mo li sz mt ct ino gen by_ now : Int) (w : World) (b1 : -9223372036854775808 ≤ li) (b2 : li ≤ 9223372036854775807) :
    Calls Try.prog 17 #[.agg #[.int .u8 k, .int .i64 mo, .int .i64 li, .int .i64 sz, .int .i64 mt, .int .i64 ct, .int .i64 ino, .int .i64 gen], .int .i64 by_, .int .i64 now] w fun e w' => e = .returned (linkedR k mo li sz mt ct ino gen by_ now) ∧ Below w.heap.size w w' := by
  by_cases h1 : by_ = 1
  · subst h1
    go_enter Try.func17, Try.ntmps17
    go_wp2_with (go_at_call 36; refine (counts_new _ _ _ _ (by first | rfl | simp)).mono ?_; rintro e w' ⟨rfl, rfl⟩)
    all_goals go_returns
    all_goals refine ⟨?_, by go_grown⟩
    all_goals (go_light; refine congrArg Ending.returned ?_; try simp only [Bool.not_eq_true', Bool.not_eq_false', cnt_true, cnt_false] at *)
    all_goals (unfold linkedR; first | (rw [if_pos (by omega)]; rfl) | (rw [if_neg (by omega), if_pos (by omega)]; rfl) | (rw [if_neg (by omega), if_neg (by omega)]; rfl))
  · by_cases h2 : by_ = -1
    · subst h2
      clear h1
      go_enter Try.func17, Try.ntmps17
      go_wp2_with (go_at_call 36; refine (counts_new _ _ _ _ (by first | rfl | simp)).mono ?_; rintro e w' ⟨rfl, rfl⟩)
      all_goals go_returns
      all_goals refine ⟨?_, by go_grown⟩
      all_goals (go_light; refine congrArg Ending.returned ?_; try simp only [Bool.not_eq_true', Bool.not_eq_false', cnt_true, cnt_false] at *)
      all_goals (unfold linkedR; first | (rw [if_pos (by omega)]; rfl) | (rw [if_neg (by omega), if_pos (by omega)]; rfl) | (rw [if_neg (by omega), if_neg (by omega)]; rfl))
    · have c1 : (by_ != 1) = true := by simpa using h1
      have c2 : (by_ != -1) = true := by simpa using h2
      have H := Lib.hid (And.intro h1 h2)
      clear h1 h2
      go_enter Try.func17, Try.ntmps17
      go_wp2_with (go_at_call 36; refine (counts_new _ _ _ _ (by first | rfl | simp)).mono ?_; rintro e w' ⟨rfl, rfl⟩)
      all_goals go_returns
      all_goals refine ⟨?_, by go_grown⟩
      all_goals (have h := H.out; refine congrArg Ending.returned ?_; unfold linkedR; rw [if_pos (Or.inl h)]; rfl)

end Go.Proofs.Ytlkjgnnnamkfeaa
