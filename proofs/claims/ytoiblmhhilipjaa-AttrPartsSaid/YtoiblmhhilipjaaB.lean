/- WALKS of layer 26: Plan. -/
import Derived.Test.YtoiblmhhilipjaaA
import Derived.Lib.Hide
set_option linter.unusedVariables false
namespace Go.Proofs.Ytoiblmhhilipjaa
open Go.RowKit Go.ChangeShapes Go.WideShapes Go.ChangeAt

theorem sized_v (k mo li sz mt ct ino gen size now : Int) (w : World) (v : Value) (h : sizedR k mo li sz mt ct ino gen size now = v) :
    Calls Try.prog 20 #[.agg #[.int .u8 k, .int .i64 mo, .int .i64 li, .int .i64 sz, .int .i64 mt, .int .i64 ct, .int .i64 ino, .int .i64 gen], .int .i64 size, .int .i64 now] w fun e w' => e = .returned v ∧ Below w.heap.size w w' := by
  rw [← h]; exact sized_any k mo li sz mt ct ino gen size now w
theorem moded_v (k mo li sz mt ct ino gen mode now : Int) (w : World) (v : Value) (h : modedR k mo li sz mt ct ino gen mode now = v) :
    Calls Try.prog 21 #[.agg #[.int .u8 k, .int .i64 mo, .int .i64 li, .int .i64 sz, .int .i64 mt, .int .i64 ct, .int .i64 ino, .int .i64 gen], .int .i64 mode, .int .i64 now] w fun e w' => e = .returned v ∧ Below w.heap.size w w' := by
  rw [← h]; exact moded_any k mo li sz mt ct ino gen mode now w

def Z8 : Value := .agg #[.int .u8 0, .int .i64 0, .int .i64 0, .int .i64 0, .int .i64 0, .int .i64 0, .int .i64 0, .int .i64 0]


theorem cell_set (w : World) (A o B p : Nat) (v : Value) : (w.setCell ⟨A, o, none⟩ v).cell? ⟨B, p, none⟩ = if A = B ∧ o = p then (w.cell? ⟨B, p, none⟩).map (fun _ => v) else w.cell? ⟨B, p, none⟩ := by
  by_cases h : A = B ∧ o = p
  · rw [if_pos h]
    obtain ⟨rfl, rfl⟩ := h
    cases hc : w.cell? ⟨A, o, none⟩ with
    | some u => rw [World.cell?_setCell_same w _ _ hc]; rfl
    | none =>
      unfold World.cell? at hc ⊢
      simp only [World.setCell, Array.getElem?_modify, if_true] at hc ⊢
      cases hh : w.heap[A]? with
      | none => rfl
      | some x =>
        rw [hh] at hc
        cases x with
        | cells c e f => simp at hc ⊢; omega
        | _ => rfl
  · rw [if_neg h]
    exact World.cell?_setCell_other w _ _ _ (fun e => h (by injection e with e1 e2; exact ⟨e1, e2⟩))

/-- WHAT THE CALL KNOWS of its three captured variables: the object (block A), the error (E), the time (N). -/
structure Has (w : World) (A E N : Nat) (k mo li sz mt ct ino gen ev now : Int) : Prop where
  c0 : w.cell? ⟨A, 0, none⟩ = some (.int .u8 k)
  c1 : w.cell? ⟨A, 1, none⟩ = some (.int .i64 mo)
  c2 : w.cell? ⟨A, 2, none⟩ = some (.int .i64 li)
  c3 : w.cell? ⟨A, 3, none⟩ = some (.int .i64 sz)
  c4 : w.cell? ⟨A, 4, none⟩ = some (.int .i64 mt)
  c5 : w.cell? ⟨A, 5, none⟩ = some (.int .i64 ct)
  c6 : w.cell? ⟨A, 6, none⟩ = some (.int .i64 ino)
  c7 : w.cell? ⟨A, 7, none⟩ = some (.int .i64 gen)
  ce : w.cell? ⟨E, 0, none⟩ = some (.int .i64 ev)
  cn : w.cell? ⟨N, 0, none⟩ = some (.int .i64 now)
  fa : ∀ o, w.frozen? ⟨A, o, none⟩ = false
  fe : ∀ o, w.frozen? ⟨E, o, none⟩ = false
  fn : ∀ o, w.frozen? ⟨N, o, none⟩ = false

/-- Eight cells in a block of their own. -/
def Held8 (w : World) (R : Nat) (z : List Value) : Prop := (∀ i, i < 8 → w.cell? ⟨R, i, none⟩ = z[i]?) ∧ ∀ i, w.frozen? ⟨R, i, none⟩ = false

theorem clos_skip (is : Bool) (f : Value) (n ev : Int) (A E N : Nat) (w : World) (hE : w.cell? ⟨E, 0, none⟩ = some (.int .i64 ev)) (h : is = false ∨ ev ≠ 0) :
    Calls Try.prog 19 #[.bool is, f, .int .i64 n, .pointer (some ⟨E, 0, none⟩), .pointer (some ⟨A, 0, none⟩), .pointer (some ⟨N, 0, none⟩)] w fun e w' => e = .returned (.tuple #[]) ∧ w = w' := by
  rcases h with rfl | h
  · go_enter Try.func19, Try.ntmps19
    go_wp2_with fail
    all_goals go_end0
    all_goals exact ⟨rfl, rfl⟩
  · have hb : (ev == 0) = false := by simpa using h
    cases is
    all_goals
      go_enter Try.func19, Try.ntmps19
      go_wp2_with fail
      all_goals go_end0
      all_goals exact ⟨rfl, rfl⟩

set_option maxHeartbeats 1000000 in
theorem clos_sized (k mo li sz mt ct ino gen n now k' mo' li' sz' mt' ct' ino' gen' ev' : Int) (A E N : Nat) (w : World) (H : Has w A E N k mo li sz mt ct ino gen 0 now)
    (hA : A < w.heap.size) (hE : E < w.heap.size) (hN : N < w.heap.size) (n1 : A ≠ E) (n2 : A ≠ N) (n3 : E ≠ N)
    (hv : sizedR k mo li sz mt ct ino gen n now = .tuple #[.agg #[.int .u8 k', .int .i64 mo', .int .i64 li', .int .i64 sz', .int .i64 mt', .int .i64 ct', .int .i64 ino', .int .i64 gen'], .int .i64 ev']) :
    Calls Try.prog 19 #[.bool true, .func (.func 20) #[] #[], .int .i64 n, .pointer (some ⟨E, 0, none⟩), .pointer (some ⟨A, 0, none⟩), .pointer (some ⟨N, 0, none⟩)] w
      fun e w' => e = .returned (.tuple #[]) ∧ Has w' A E N k' mo' li' sz' mt' ct' ino' gen' ev' now ∧ w.heap.size ≤ w'.heap.size ∧ (∀ B, B ≤ A → B ≤ E → Below B w w') ∧ ∀ R z, Held8 w R z → R < w.heap.size → R ≠ A → R ≠ E → Held8 w' R z := by
  have HV := Lib.hid hv
  clear hv
  obtain ⟨c0, c1, c2, c3, c4, c5, c6, c7, ce, cn, fa, fe, fn⟩ := H
  have m1 : E ≠ A := fun h => n1 h.symm
  have m2 : N ≠ A := fun h => n2 h.symm
  have m3 : N ≠ E := fun h => n3 h.symm
  go_enter Try.func19, Try.ntmps19
  go_wp2_with (first | (go_at_call 20; refine (sized_v _ _ _ _ _ _ _ _ _ _ _ _ HV.out).mono ?_; rintro e w1 ⟨rfl, hb⟩; obtain ⟨hc, hf⟩ := bcell hb; have hz := hb.size))
  all_goals go_end0
  refine ⟨rfl, ⟨?_, ?_, ?_, ?_, ?_, ?_, ?_, ?_, ?_, ?_, ?_, ?_, ?_⟩, by simpa using hz, fun B b1 b2 => ?_, fun R z h r1 r2 r3 => ?_⟩
  iterate 10 (simp only [cell_set, n1, n2, n3, m1, hc _ _ hA, hc _ _ hE, hc _ _ hN, c0, c1, c2, c3, c4, c5, c6, c7, ce, cn]; simp)
  iterate 3 (intro o; simp [hf _ _ hA, hf _ _ hE, hf _ _ hN, fa, fe, fn])
  · exact (((((((((hb.mono (by omega)).setCell b1 _).setCell b1 _).setCell b1 _).setCell b1 _).setCell b1 _).setCell b1 _).setCell b1 _).setCell b1 _).setCell b2 _
  · have r2' : A ≠ R := fun e => r2 e.symm
    have r3' : E ≠ R := fun e => r3 e.symm
    exact ⟨fun i hi => by simpa [cell_set, r2, r3, r2', r3', hc _ _ r1] using h.1 i hi, fun i => by simpa [hf _ _ r1] using h.2 i⟩

set_option maxHeartbeats 1000000 in
theorem clos_moded (k mo li sz mt ct ino gen n now k' mo' li' sz' mt' ct' ino' gen' ev' : Int) (A E N : Nat) (w : World) (H : Has w A E N k mo li sz mt ct ino gen 0 now)
    (hA : A < w.heap.size) (hE : E < w.heap.size) (hN : N < w.heap.size) (n1 : A ≠ E) (n2 : A ≠ N) (n3 : E ≠ N)
    (hv : modedR k mo li sz mt ct ino gen n now = .tuple #[.agg #[.int .u8 k', .int .i64 mo', .int .i64 li', .int .i64 sz', .int .i64 mt', .int .i64 ct', .int .i64 ino', .int .i64 gen'], .int .i64 ev']) :
    Calls Try.prog 19 #[.bool true, .func (.func 21) #[] #[], .int .i64 n, .pointer (some ⟨E, 0, none⟩), .pointer (some ⟨A, 0, none⟩), .pointer (some ⟨N, 0, none⟩)] w
      fun e w' => e = .returned (.tuple #[]) ∧ Has w' A E N k' mo' li' sz' mt' ct' ino' gen' ev' now ∧ w.heap.size ≤ w'.heap.size ∧ (∀ B, B ≤ A → B ≤ E → Below B w w') ∧ ∀ R z, Held8 w R z → R < w.heap.size → R ≠ A → R ≠ E → Held8 w' R z := by
  have HV := Lib.hid hv
  clear hv
  obtain ⟨c0, c1, c2, c3, c4, c5, c6, c7, ce, cn, fa, fe, fn⟩ := H
  have m1 : E ≠ A := fun h => n1 h.symm
  have m2 : N ≠ A := fun h => n2 h.symm
  have m3 : N ≠ E := fun h => n3 h.symm
  go_enter Try.func19, Try.ntmps19
  go_wp2_with (first | (go_at_call 21; refine (moded_v _ _ _ _ _ _ _ _ _ _ _ _ HV.out).mono ?_; rintro e w1 ⟨rfl, hb⟩; obtain ⟨hc, hf⟩ := bcell hb; have hz := hb.size))
  all_goals go_end0
  refine ⟨rfl, ⟨?_, ?_, ?_, ?_, ?_, ?_, ?_, ?_, ?_, ?_, ?_, ?_, ?_⟩, by simpa using hz, fun B b1 b2 => ?_, fun R z h r1 r2 r3 => ?_⟩
  iterate 10 (simp only [cell_set, n1, n2, n3, m1, hc _ _ hA, hc _ _ hE, hc _ _ hN, c0, c1, c2, c3, c4, c5, c6, c7, ce, cn]; simp)
  iterate 3 (intro o; simp [hf _ _ hA, hf _ _ hE, hf _ _ hN, fa, fe, fn])
  · exact (((((((((hb.mono (by omega)).setCell b1 _).setCell b1 _).setCell b1 _).setCell b1 _).setCell b1 _).setCell b1 _).setCell b1 _).setCell b1 _).setCell b2 _
  · have r2' : A ≠ R := fun e => r2 e.symm
    have r3' : E ≠ R := fun e => r3 e.symm
    exact ⟨fun i hi => by simpa [cell_set, r2, r3, r2', r3', hc _ _ r1] using h.1 i hi, fun i => by simpa [hf _ _ r1] using h.2 i⟩
end Go.Proofs.Ytoiblmhhilipjaa
