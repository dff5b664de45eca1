/- LAYER 16, the document's table: cut. -/
import Derived.Test.YtdiejjhlgacbdaaU
import Derived.Deep.RegionLaw
import Derived.Lib.SlFresh
set_option linter.unusedVariables false
namespace Go.Proofs.Ytdiejjhlgacbdaa
open Go.RowKit Go.ChangeShapes Go.WideShapes Go.ChangeAt

theorem own_empty (w : World) : OwnP (w.alloc (.cells #[] 62)) (.slice (some ⟨w.heap.size, 0, none⟩) 0 0) [] := by
  refine ⟨rfl, .inr ⟨w.heap.size, 0, #[], rfl, Nat.zero_le _, heap_alloc_new _ _, Nat.le_refl _, Nat.zero_le _, rfl, rfl⟩⟩
set_option maxRecDepth 100000 in
set_option maxHeartbeats 8000000 in
theorem cut_ref (O : Nat → Prop) (x k : Nat) (P : List Pr) (w : World) (hRT : RT O w x P) (hk : k < P.length) (hl : P.length ≤ 20000000) :
    Calls Try.prog 42 #[.pointer (some ⟨x, 0, none⟩), .int .i64 k] w fun e w' => e = .returned (.tuple #[]) ∧ RT (grow O w w') w' x (P.take k ++ P.drop (k + 1)) ∧ Off O w w' := by
  obtain ⟨v, h1, h2, h3, h4, h5, h6⟩ := hRT
  obtain ⟨A, c, rfl, h7, hRd, h8, hlc⟩ := h2.form
  obtain ⟨g, hA⟩ : ∃ g, A = some ⟨g, 0, none⟩ := by
    obtain ⟨b, off, e, _⟩ := hRd (by intro e; subst e; simp at hk)
    obtain ⟨g, hg⟩ := h8 _ e
    exact ⟨g, by rw [e, hg]⟩
  subst hA
  have cx := cell_of_obj h1
  have hk0 : (0 : Int) ≤ k := by omega
  have hk1 : (k : Int) ≤ P.length := by omega
  have hk2 : (k : Int) ≤ c := by omega
  have hk3 : (k : Int) + 1 ≤ P.length := by omega
  have hk4 : (k : Int) + 1 ≤ c := by omega
  have hk5 : (P.length : Int) ≤ c := by omega
  have hk6 : (0 : Int) ≤ (k : Int) + 1 := by omega
  have hk7 : (k : Int) + 1 ≤ 20000000 := by omega
  have hba : Below w.heap.size w (w.alloc (.cells #[] 62)) := (Below.refl _ _).alloc (Nat.le_refl _) _
  have cx1 := keep1 hba cx.1
  have cx0 := cx.1
  have hwr : IntKind.i64.wrap ((k : Int) + 1) = (k : Int) + 1 := by rw [IntKind.wrap_i64]; omega
  have hbd : Below w.heap.size w (w.alloc (.cells #[] 62)).drew := hba.drew
  have hlk : (P.take k).length = k := by rw [List.length_take]; omega
  have hrd0 := hRd.below hbd
  have hQ1 : RdP (w.alloc (.cells #[] 62)).drew (some ⟨g, 0, none⟩) (P.take k) := fun hne => by
    obtain ⟨b, off, e, hc⟩ := hrd0 (by intro e; subst e; simp at hk)
    refine ⟨b, off, e, fun j hj => ?_⟩
    have := hc j (by omega)
    rw [List.getElem_take]
    exact this
  have hE0 : OwnP (w.alloc (.cells #[] 62)).drew (.slice (some ⟨w.heap.size, 0, none⟩) 0 0) [] := (own_empty w).off (Off.of_below (fun _ => False) ((Below.refl _ _).drew)) (fun _ _ h => h)
  obtain ⟨v1, W1, hap1, hown1, hg1, hv1⟩ := own_appsP hE0 g 0 c (P.take k) hQ1 (by rw [hlk]; simp; omega)
  rw [hlk] at hap1
  have hxl : x < w.heap.size := h6 x h4
  have hb1 : Below w.heap.size w W1 := hbd.trans ((Off.of_grown (O := fun j => w.heap.size ≤ j) hg1 (fun j e => by cases e; exact Nat.le_refl _)).below (by simp) (fun j hj => hj))
  have cx2 := keep1 hb1 cx.1
  have hs1 := hb1.size
  have hv1g : ∀ j, v1.ownBlock = some j → w.heap.size ≤ j := fun j hj => by
    rcases hv1 with e | e
    · rw [e] at hj; cases hj; exact Nat.le_refl _
    · rw [e] at hj; cases hj; exact hbd.size
  obtain ⟨off2, hA2, hQ2⟩ : ∃ off2, (if c = k + 1 then some (⟨g, 0, none⟩ : Addr) else some ⟨g, (k + 1) * 2, none⟩) = some ⟨g, off2, none⟩ ∧ RdP W1 (some ⟨g, off2, none⟩) (P.drop (k + 1)) := by
    by_cases hc : c = k + 1
    · refine ⟨0, by rw [if_pos hc], fun hne => absurd ?_ hne⟩
      rw [List.drop_eq_nil_iff]
      omega
    · refine ⟨(k + 1) * 2, by rw [if_neg hc], fun hne => ⟨g, (k + 1) * 2, rfl, fun j hj => ?_⟩⟩
      rw [List.length_drop] at hj
      obtain ⟨b, off, e, hcc⟩ := (hRd.below hb1) (by intro e; subst e; simp at hk)
      simp only [Option.some.injEq, Addr.mk.injEq, and_true] at e
      obtain ⟨rfl, rfl⟩ := e
      have h := hcc (k + 1 + j) (by omega)
      rw [List.getElem_drop]
      rw [show (0 : Nat) + (k + 1 + j) * 2 = (k + 1) * 2 + j * 2 from by omega] at h
      exact h
  obtain ⟨v2, W2, hap2, hown2, hg2, hv2⟩ := own_appsP hown1 g off2 (c - (k + 1)) (P.drop (k + 1)) hQ2 (by simp; omega)
  rw [List.length_drop, ← hA2] at hap2
  rw [List.nil_append] at hown2
  obtain ⟨A3, c3, rfl, _⟩ := hown2.form
  have hb2 : Below w.heap.size w W2 := hb1.trans ((Off.of_grown (O := fun j => w.heap.size ≤ j) hg2 (fun j e => hv1g j e)).below hs1 (fun j hj => hj))
  have hx2 := cell_of_obj ((Off.of_below (fun _ => False) hb2).obj h1 (fun h => h))
  have hcW := hx2.1
  have hfW := hx2.2
  have hfin0 := (rt_store (O := O) h1 h3 h4 h5 h6 (Off.of_below _ hb2) hown2 (hv2.elim (fun e => by
    rcases hv1 with e1 | e1
    · exact .inr ⟨_, by rw [e, e1]; rfl, Nat.le_refl _⟩
    · exact .inr ⟨_, by rw [e, e1], hbd.size⟩) (fun e => .inr ⟨_, e, hs1⟩)))
  generalize (P.take k ++ P.drop (k + 1)).length = n2 at *
  have hfin := Lib.hid hfin0
  clear hfin0
  clear h1 h2 h3 h5 h6 h7 h8 hRd hba hbd hlk hrd0 hQ1 hE0 hown1 hg1 hv1 hb1 cx hs1 hv1g hA2 hQ2 hown2 hg2 hv2 hb2 hx2 hxl
  go_enter Try.func42, Try.ntmps42
  go_wp2_with fail
  go_region_law (first | (refine Go.Lib.wp_append_run_sl _ _ _ _ rfl _ _ rfl rfl hap1 ?_) | (refine Go.Lib.wp_append_run_sl _ _ _ _ rfl _ _ rfl rfl hap2 ?_))
  all_goals (
    clear hap1 hap2 hwr hk0 hk1 hk2 hk3 hk4 hk5 hk6 hk7 cx0 cx1 cx2 hcW hfW
    go_wp2_with fail
    all_goals (
      go_end0
      exact ⟨rfl, hfin.out⟩))
end Go.Proofs.Ytdiejjhlgacbdaa
