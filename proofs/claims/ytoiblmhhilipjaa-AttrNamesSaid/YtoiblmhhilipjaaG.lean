/- WALKS of layer 26: the laws AttrPlans, AttrFloats. -/
import Derived.Test.YtoiblmhhilipjaaF
import Derived.Deep.RegionHeld3
set_option linter.unusedVariables false
namespace Go.Proofs.Ytoiblmhhilipjaa
open Go.RowKit Go.ChangeShapes Go.WideShapes Go.ChangeAt

theorem planR_form (k mo li sz mt ct ino gen mode size guard now : Int) : ∃ k' mo' li' sz' mt' ct' ino' gen' e : Int, planR k mo li sz mt ct ino gen mode size guard now = .tuple #[.agg #[.int .u8 k', .int .i64 mo', .int .i64 li', .int .i64 sz', .int .i64 mt', .int .i64 ct', .int .i64 ino', .int .i64 gen'], .int .i64 e] := by
  unfold planR er ag
  repeat' split
  all_goals exact ⟨_, _, _, _, _, _, _, _, _, rfl⟩

theorem keep1 {W W' : World} (hb : Below W.heap.size W W') {p : Addr} {v : Value} (h : W.cell? p = some v) : W'.cell? p = some v := (hb.cell (World.block_lt_of_cell? W _ h)).trans h

theorem cells8 {w : World} {g : Nat} {k mo li sz mt ct ino gen : Int} (h : Held8 w g [.int .u8 k, .int .i64 mo, .int .i64 li, .int .i64 sz, .int .i64 mt, .int .i64 ct, .int .i64 ino, .int .i64 gen]) : w.cell? ⟨g, 0, none⟩ = some (.int .u8 k) ∧ w.cell? ⟨g, 1, none⟩ = some (.int .i64 mo) ∧ w.cell? ⟨g, 2, none⟩ = some (.int .i64 li) ∧ w.cell? ⟨g, 3, none⟩ = some (.int .i64 sz) ∧ w.cell? ⟨g, 4, none⟩ = some (.int .i64 mt) ∧ w.cell? ⟨g, 5, none⟩ = some (.int .i64 ct) ∧ w.cell? ⟨g, 6, none⟩ = some (.int .i64 ino) ∧ w.cell? ⟨g, 7, none⟩ = some (.int .i64 gen) := by
  obtain ⟨h, _⟩ := h
  exact ⟨h 0 (by omega), h 1 (by omega), h 2 (by omega), h 3 (by omega), h 4 (by omega), h 5 (by omega), h 6 (by omega), h 7 (by omega)⟩

set_option maxHeartbeats 1000000 in
theorem plans_walk (k mo li sz mt ct ino gen k2 mo2 li2 sz2 mt2 ct2 ino2 gen2 mode size guard now : Int) (w : World) :
    Calls Try.prog 3 #[.agg #[.int .u8 k, .int .i64 mo, .int .i64 li, .int .i64 sz, .int .i64 mt, .int .i64 ct, .int .i64 ino, .int .i64 gen], .agg #[.int .u8 k2, .int .i64 mo2, .int .i64 li2, .int .i64 sz2, .int .i64 mt2, .int .i64 ct2, .int .i64 ino2, .int .i64 gen2], .int .i64 mode, .int .i64 size, .int .i64 guard, .int .i64 now] w fun e w' => e = .returned (.bool true) ∧ Below w.heap.size w w' := by
  obtain ⟨k', mo', li', sz', mt', ct', ino', gen', er, h⟩ := planR_form k mo li sz mt ct ino gen mode size guard now
  have HP := Lib.hid h
  clear h
  go_enter Try.func3, Try.ntmps3
  go_wp2_with fail
  refine (plan_v _ _ _ _ _ _ _ _ _ _ _ _ _ _ HP.out).mono ?_
  rintro e w1 ⟨rfl, hb⟩
  have hz1 : w.heap.size + 2 ≤ w1.heap.size := by have := hb.size; simp at this; omega
  have hz1' : w.heap.size < w1.heap.size := by omega
  have ha := (((Held8.new w [.int .u8 k, .int .i64 mo, .int .i64 li, .int .i64 sz, .int .i64 mt, .int .i64 ct, .int .i64 ino, .int .i64 gen] 23).alloc (by simp) (.cells #[.int .u8 k2, .int .i64 mo2, .int .i64 li2, .int .i64 sz2, .int .i64 mt2, .int .i64 ct2, .int .i64 ino2, .int .i64 gen2] 23)).below hb (by simp; omega))
  have hbb := ((Held8.new (w.alloc (.cells #[.int .u8 k, .int .i64 mo, .int .i64 li, .int .i64 sz, .int .i64 mt, .int .i64 ct, .int .i64 ino, .int .i64 gen] 23)) [.int .u8 k2, .int .i64 mo2, .int .i64 li2, .int .i64 sz2, .int .i64 mt2, .int .i64 ct2, .int .i64 ino2, .int .i64 gen2] 23).below hb (by simp))
  rw [World.size_alloc] at hbb
  have HA := Lib.hid ha
  have HB := Lib.hid hbb
  have B1 := Lib.hid (show Below w.heap.size w w1 from ((((Below.refl _ _).alloc (by omega) _).alloc (by simp) _).trans (hb.mono (by simp; omega))))
  obtain ⟨a0, a1, a2, a3, a4, a5, a6, a7⟩ := cells8 ha
  clear hb ha hbb
  go_wp2_with fail
  refine (refplan_v _ _ _ _ _ _ _ _ _ _ _ _ _ _ HP.out).mono ?_
  clear a0 a1 a2 a3 a4 a5 a6 a7
  rintro e w2 ⟨rfl, hb⟩
  have hz2 : w1.heap.size + 1 ≤ w2.heap.size := by simpa using hb.size
  have HA2 := Lib.hid ((HA.out.alloc (by omega) _).below hb (by simp; omega))
  have HB2 := Lib.hid ((HB.out.alloc (by omega) _).below hb (by simp; omega))
  have HC2 := Lib.hid ((Held8.new w1 [.int .u8 k', .int .i64 mo', .int .i64 li', .int .i64 sz', .int .i64 mt', .int .i64 ct', .int .i64 ino', .int .i64 gen'] 23).below hb (by simp))
  have B2 := Lib.hid (B1.out.trans (((Below.refl _ _).alloc (by omega) _).trans (hb.mono (by simp; omega))))
  clear hb HA HB B1
  go_wp2_with fail
  have HA3 := Lib.hid (HA2.out.alloc (by omega) (.cells #[.int .u8 k', .int .i64 mo', .int .i64 li', .int .i64 sz', .int .i64 mt', .int .i64 ct', .int .i64 ino', .int .i64 gen'] 23))
  have HB3 := Lib.hid (HB2.out.alloc (by omega) (.cells #[.int .u8 k', .int .i64 mo', .int .i64 li', .int .i64 sz', .int .i64 mt', .int .i64 ct', .int .i64 ino', .int .i64 gen'] 23))
  have HC3 := Lib.hid (HC2.out.alloc (by omega) (.cells #[.int .u8 k', .int .i64 mo', .int .i64 li', .int .i64 sz', .int .i64 mt', .int .i64 ct', .int .i64 ino', .int .i64 gen'] 23))
  have HD3 := Lib.hid (Held8.new w2 [.int .u8 k', .int .i64 mo', .int .i64 li', .int .i64 sz', .int .i64 mt', .int .i64 ct', .int .i64 ino', .int .i64 gen'] 23)
  have B3 := Lib.hid (show Below w.heap.size w (w2.alloc (.cells #[.int .u8 k', .int .i64 mo', .int .i64 li', .int .i64 sz', .int .i64 mt', .int .i64 ct', .int .i64 ino', .int .i64 gen'] 23)) from B2.out.trans ((Below.refl _ _).alloc (by omega) _))
  have hz3 : w2.heap.size + 1 ≤ (w2.alloc (.cells #[.int .u8 k', .int .i64 mo', .int .i64 li', .int .i64 sz', .int .i64 mt', .int .i64 ct', .int .i64 ino', .int .i64 gen'] 23)).heap.size := by simp
  clear HA2 HB2 HC2 B2
  generalize w2.alloc (.cells #[.int .u8 k', .int .i64 mo', .int .i64 li', .int .i64 sz', .int .i64 mt', .int .i64 ct', .int .i64 ino', .int .i64 gen'] 23) = w3 at *
  obtain ⟨a0, a1, a2, a3, a4, a5, a6, a7⟩ := cells8 HA3.out
  obtain ⟨b0, b1, b2, b3, b4, b5, b6, b7⟩ := cells8 HB3.out
  obtain ⟨c0, c1, c2, c3, c4, c5, c6, c7⟩ := cells8 HC3.out
  obtain ⟨d0, d1, d2, d3, d4, d5, d6, d7⟩ := cells8 HD3.out
  clear HA3 HB3 HC3 HD3
  go_region_held3 (fun w' => w'.cell? ⟨w.heap.size, 0, none⟩ = some (.int .u8 k) ∧ w'.cell? ⟨w.heap.size, 1, none⟩ = some (.int .i64 mo) ∧ w'.cell? ⟨w.heap.size, 2, none⟩ = some (.int .i64 li) ∧ w'.cell? ⟨w.heap.size, 3, none⟩ = some (.int .i64 sz) ∧ w'.cell? ⟨w.heap.size, 4, none⟩ = some (.int .i64 mt) ∧ w'.cell? ⟨w.heap.size, 5, none⟩ = some (.int .i64 ct) ∧ w'.cell? ⟨w.heap.size, 6, none⟩ = some (.int .i64 ino) ∧ w'.cell? ⟨w.heap.size, 7, none⟩ = some (.int .i64 gen) ∧ w'.cell? ⟨w.heap.size + 1, 0, none⟩ = some (.int .u8 k2) ∧ w'.cell? ⟨w.heap.size + 1, 1, none⟩ = some (.int .i64 mo2) ∧ w'.cell? ⟨w.heap.size + 1, 2, none⟩ = some (.int .i64 li2) ∧ w'.cell? ⟨w.heap.size + 1, 3, none⟩ = some (.int .i64 sz2) ∧ w'.cell? ⟨w.heap.size + 1, 4, none⟩ = some (.int .i64 mt2) ∧ w'.cell? ⟨w.heap.size + 1, 5, none⟩ = some (.int .i64 ct2) ∧ w'.cell? ⟨w.heap.size + 1, 6, none⟩ = some (.int .i64 ino2) ∧ w'.cell? ⟨w.heap.size + 1, 7, none⟩ = some (.int .i64 gen2) ∧ w'.cell? ⟨w1.heap.size, 0, none⟩ = some (.int .u8 k') ∧ w'.cell? ⟨w1.heap.size, 1, none⟩ = some (.int .i64 mo') ∧ w'.cell? ⟨w1.heap.size, 2, none⟩ = some (.int .i64 li') ∧ w'.cell? ⟨w1.heap.size, 3, none⟩ = some (.int .i64 sz') ∧ w'.cell? ⟨w1.heap.size, 4, none⟩ = some (.int .i64 mt') ∧ w'.cell? ⟨w1.heap.size, 5, none⟩ = some (.int .i64 ct') ∧ w'.cell? ⟨w1.heap.size, 6, none⟩ = some (.int .i64 ino') ∧ w'.cell? ⟨w1.heap.size, 7, none⟩ = some (.int .i64 gen') ∧ w'.cell? ⟨w2.heap.size, 0, none⟩ = some (.int .u8 k') ∧ w'.cell? ⟨w2.heap.size, 1, none⟩ = some (.int .i64 mo') ∧ w'.cell? ⟨w2.heap.size, 2, none⟩ = some (.int .i64 li') ∧ w'.cell? ⟨w2.heap.size, 3, none⟩ = some (.int .i64 sz') ∧ w'.cell? ⟨w2.heap.size, 4, none⟩ = some (.int .i64 mt') ∧ w'.cell? ⟨w2.heap.size, 5, none⟩ = some (.int .i64 ct') ∧ w'.cell? ⟨w2.heap.size, 6, none⟩ = some (.int .i64 ino') ∧ w'.cell? ⟨w2.heap.size, 7, none⟩ = some (.int .i64 gen') ∧ w2.heap.size + 1 ≤ w'.heap.size ∧ Below w.heap.size w w')
    (first | exact ⟨a0, a1, a2, a3, a4, a5, a6, a7, b0, b1, b2, b3, b4, b5, b6, b7, c0, c1, c2, c3, c4, c5, c6, c7, d0, d1, d2, d3, d4, d5, d6, d7, hz3, B3.out.drew⟩ | (go_split_ands; refine ⟨?_, ?_, ?_, ?_, ?_, ?_, ?_, ?_, ?_, ?_, ?_, ?_, ?_, ?_, ?_, ?_, ?_, ?_, ?_, ?_, ?_, ?_, ?_, ?_, ?_, ?_, ?_, ?_, ?_, ?_, ?_, ?_, ?_, ?_⟩; (iterate 32 (exact keep1 hb (by assumption))); all_goals first | (have := hb.size; omega) | (have := hb.size; simp at this; omega) | exact Below.trans (by assumption) (hb.mono (by omega)) | exact Below.trans (by assumption) (hb.mono (by simp; omega))))
    (first | (go_at_call 10; refine (same_any _ _ _ _ _ _ _ _ _ _ _ _ _ _ _ _ _).mono ?_; rintro e w4 ⟨rfl, hb⟩) | (go_at_call 11; refine (refsame_any _ _ _ _ _ _ _ _ _ _ _ _ _ _ _ _ _).mono ?_; rintro e w4 ⟨rfl, hb⟩) | (go_at_call 12; refine (awake_any _).mono ?_; rintro e w4 ⟨rfl, hb⟩))
  go_wp2_with fail
  go_ret
  go_split_ands
  exact ⟨ret_bool (by simp), by assumption⟩
end Go.Proofs.Ytoiblmhhilipjaa
