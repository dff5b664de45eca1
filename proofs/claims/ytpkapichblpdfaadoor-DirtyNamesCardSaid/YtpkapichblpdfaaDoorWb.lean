/- WALK of layer 22: Who. -/
import Derived.Test.YtpkapichblpdfaaDoorWa
import Derived.Test.YtpkapichblpdfaaDoorTa
set_option linter.unusedVariables false
namespace Go.Proofs.YtpkapichblpdfaaDoor
open Go.RowKit Go.ChangeShapes Go.WideShapes Go.ChangeAt Go.Sort

/-- What was collected of a map's keys so far. -/
def CollK (L : Int → List Pt) (left : Lit → Bool) (ss : List Int) : Prop := ss.Nodup ∧ ∀ x, x ∈ ss ↔ (L x ≠ [] ∧ left (.int .i64 x) = false)
theorem CollK.step {L : Int → List Pt} {left : Lit → Bool} {ss : List Int} (h : CollK L left ss) {x : Int} (hl : left (.int .i64 x) = true) (h0 : L x ≠ []) :
    CollK L (fun z => left z && !z.sameKey (.int .i64 x)) (ss ++ [x]) := by
  have hnew : x ∉ ss := fun hx => by have := ((h.2 x).1 hx).2; rw [hl] at this; cases this
  refine ⟨List.nodup_append.2 ⟨h.1, by simp, fun a ha b hb => by simp at hb; subst hb; exact fun e => hnew (e ▸ ha)⟩, fun y => ?_⟩
  by_cases hy : y = x
  · subst hy; simp [h0, Lit.sameKey]
  · simp [h.2 y, hy, Lit.sameKey]
theorem CollK.start {L : Int → List Pt} {D : DataW Unit} (h : ∀ x, Go.Maps.has D (.int .i64 x) = decide (L x ≠ [])) : CollK L (Go.Maps.has D) [] := ⟨List.nodup_nil, fun x => by
  rw [h x]
  by_cases hx : L x = [] <;> simp [hx]⟩
theorem CollK.last {L : Int → List Pt} {left : Lit → Bool} {ss l : List Int} (h : CollK L left ss) (hl : ∀ z, left z = false) (h1 : l.Pairwise (· < ·)) (h2 : ∀ x, x ∈ l ↔ L x ≠ []) : (ss.mergeSort fun x y => decide (x ≤ y)) = l := by
  have hp : ss.Perm l := (List.perm_ext_iff_of_nodup h.1 (h1.imp (fun h => by omega))).2 (fun x => by rw [h.2 x, h2, hl]; simp)
  refine List.Perm.eq_of_pairwise (le := fun a b : Int => a ≤ b) (fun a b _ _ h1 h2 => by omega) ?_ (h1.imp (fun h => by omega)) ((List.mergeSort_perm ss _).trans hp)
  have := List.pairwise_mergeSort (le := fun x y : Int => decide (x ≤ y)) (fun a b c h1 h2 => by simp only [decide_eq_true_eq] at *; omega) (fun a b => by simp; omega) ss
  exact this.imp (fun h => by simpa using h)
theorem size_le {w : World} {P : Program} {k : TypeId} {R : Value → Option (DataW Unit × List MemPlace)} {b n : Nat} {D : DataW Unit} (h : w.ownsMap P k R b n D) : Go.Maps.size D ≤ n := by
  obtain ⟨es, clock, hb, F, hs, rfl⟩ := h
  rw [Go.Maps.size_eq, length_sorted]
  simpa using hs
def KHead (L : Int → List Pt) (D : DataW Unit) (bm r0 n base : Nat) (w : World) (v : Value) (wr : World) : Prop := ∃ (left : Lit → Bool) (cnt : Nat) (ss : List Int),
  wr.ranges Tryd.prog 3 encS bm r0 n D left cnt ∧ ss.length + cnt ≤ n ∧ Dd.OwnI base wr v ss ∧ CollK L left ss ∧ Below base w wr
set_option maxRecDepth 20000 in
set_option maxHeartbeats 2000000 in
theorem who_any (O : Nat → Prop) (r n : Nat) (L : Int → List Pt) (h : Int) (w : World) (hb : Buf O w r n L h) (hn : n ≤ 1000000) (l : List Int) (hl1 : l.Pairwise (· < ·)) (hl2 : ∀ x, x ∈ l ↔ L x ≠ []) :
    Calls Tryd.prog 18 #[.pointer (some ⟨r, 0, none⟩)] w (Dd.ListPost l w) := by
  obtain ⟨bm, D, F, hb1, hown, ⟨hM, hK⟩, _⟩ := hb
  obtain ⟨c0, c1, cf⟩ := cell_two hb1
  have hbl := hown.lt
  have hsz := size_le hown
  have HL := Lib.hid (And.intro hl1 hl2)
  clear hb1 hl1 hl2 hM
  go_enter Tryd.func18, Tryd.ntmps18
  go_wp2_with (at_range; refine wpList_range_own _ rfl _ 52 rfl 3 42 int_keys Tryd.underlying52 _ bm n D rfl hown ?_; intro w0 hrg0 hg0 hs0)
  go_frame
  clear c0 c1 cf
  go_loopw [3] (fun v wr => KHead L D bm w.heap.size n w.heap.size w v wr) (fun _ wr => wr.rangeLeft bm w.heap.size)
  case atStart =>
    exact ⟨_, _, [], hrg0, by simpa using hsz, Dd.OwnI.nil _ _, CollK.start hK, (Below.refl _ _).grown hg0 (Nat.le_refl _) (fun j hj => by cases hj)⟩
  case round =>
    obtain ⟨left, cnt, ss, hrg, hcs, hrow, hC, hnx⟩ := hrel
    obtain ⟨A, c0, rfl, hA⟩ := hrow.form
    clear hrg0 hg0 hs0 w0
    go_wp2_with (at_next; refine wpList_next_ranges _ rfl _ rfl 3 int_keys encS (Value.int .i64) (fun v : Value => v) (fun key kl hkey => by obtain ⟨x, rfl, _⟩ := Maps.keyOf_int_inv Tryd.underlying3 hkey; exact ⟨x, rfl⟩) (fun v y _ => ⟨v, rfl⟩) bm w.heap.size n _ _ _ rfl hrg ?_ ?_)
    · intro hc0 hl0
      have hL := hC.last hl0 HL.out.1 HL.out.2
      have hnz := hnx.size
      have hsrt := Dd.sort_any w.heap.size _ ss _ wr hrow hL (by omega) hnz
      have HB := Lib.hid hnx
      have hAb := Lib.hid (fun k (hk : (Value.slice A ss.length c0).ownBlock = some k) => (Dd.row_lt hrow hk).1)
      clear hrow hrg hcs hC hnx hL hl0 hown hK
      go_wp2_with fail
      refine hsrt.mono ?_
      rintro e w1 ⟨rfl, hrow1, _, ho1, hlen⟩
      have HF := Lib.hid (And.intro hrow1 (HB.out.trans (ho1.below hnz hAb.out)))
      clear hrow1 ho1 hsrt
      go_wp2_with fail
      go_ret
      exact ⟨A, c0, by rw [← hlen]; rfl, by rw [← hlen]; exact HF.out.1, HF.out.2⟩
    · intro x c kl y y2 w1 cnt1 hkey hlx hc hat hrg1 hlt1 hg1 hs1 hen
      obtain ⟨x', ex, rfl, hwx⟩ := Maps.keyOf_int_inv Tryd.underlying3 hkey
      cases ex
      have h0 : L x ≠ [] := by
        have h1 := hK x
        rw [Go.Maps.has_true_of_atKey hat] at h1
        simpa using h1.symm
      have hCs := hC.step hlx h0
      have hrowi : Dd.OwnI w.heap.size w1 _ ss := hrow.off (O := fun k => k = w.heap.size) (Dd.Off.of_grown hg1 (fun k e => by simpa using e.symm)) (fun g hg e => row_ne_iter hrow hrg (by rw [hg, e]))
      have hnx1 : Below w.heap.size w w1 := hnx.grown hg1 hnx.size (fun j hj => by cases hj; exact Nat.le_refl _)
      have HC := Lib.hid hCs
      have HO := Lib.hid hrowi
      have HN := Lib.hid hnx1
      have HR := Lib.hid hrg1
      have hleft := hrg.left_eq
      replace hleft := Lib.hid hleft
      have hnz := hnx.size
      have hs1' := Lib.hid hs1
      clear hCs hrowi hnx1 hrow hC hnx hwx hkey hat hown hg1 hs1 hrg1 hrg hc
      obtain ⟨v', w3, hap, hown', hg3, hv'⟩ := Dd.own_appI HO.out x (by omega) (by have := hs1'.out; omega)
      have hn3 := Lib.hid hown'
      have hg3' := Lib.hid hg3
      obtain ⟨A2, c2, rfl, _⟩ := hown'.form
      clear hown' hg3 hv'
      go_wp2_with (at_builtin; refine Go.Lib.wpList_append_run_sl _ rfl _ _ _ rfl _ _ rfl rfl hap ?_)
      go_roundw
      case rel =>
        refine ⟨_, cnt1, ss ++ [x], (HR.out.alloc _).kept hg3'.out (row_ne_low HO.out hbl) ?_, by simp; omega, by have h := hn3.out; rw [List.length_append] at h; exact h, HC.out, ?_⟩
        · exact row_ne_iter HO.out HR.out
        · exact (HN.out.alloc (by have := hs1'.out; omega) _).grown hg3'.out (by have := hs1'.out; simp; omega) (fun j hj => (Dd.row_lt HO.out hj).1)
      case measure => rw [((HR.out.alloc _).kept hg3'.out (row_ne_low HO.out hbl) (row_ne_iter HO.out HR.out)).left_eq, hleft.out]; exact hlt1
end Go.Proofs.YtpkapichblpdfaaDoor
