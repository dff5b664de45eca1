/- LAYER 16 (dead): the walks of blocks (at All's function, at Of's), Of, All. -/
import Derived.Test.YtdiejjhlgacbdaaD
set_option linter.unusedVariables false
namespace Go.Proofs.Ytdiejjhlgacbdaa
open Go.RowKit Go.ChangeShapes Go.WideShapes Go.ChangeAt Go.Sort

/-- What All and Of ask. -/
def prAll (s : Nat) : Bool := decide (s ≠ 0)
def prOf (t s : Nat) : Bool := s.testBit t
theorem all1_any (s : Nat) (w : World) (hs : s < 128) : Calls Try.prog 22 #[.int .u8 s] w fun e w' => e = .returned (.bool (prAll s)) ∧ w' = w := by
  go_enter Try.func22, Try.ntmps22
  go_wp2_with fail
  go_ret
  refine ⟨ret_bool ?_, rfl⟩
  unfold prAll
  by_cases h : s = 0
  · subst h; rfl
  · have : (s : Int) ≠ 0 := by omega
    simp [h]
theorem of1_any (s t bc : Nat) (w : World) (hs : s < 128) (ht : t < 7) (hc : w.cell? ⟨bc, 0, none⟩ = some (.int .i64 t)) : Calls Try.prog 27 #[.int .u8 s, .pointer (some ⟨bc, 0, none⟩)] w fun e w' => e = .returned (.bool (prOf t s)) ∧ w' = w := by
  have hH := has_any s t w hs ht
  go_enter Try.func27, Try.ntmps27
  go_wp2_with (go_at_call 24; refine hH.mono ?_; rintro e w1 ⟨rfl, rfl⟩)
  go_ret
  exact ⟨rfl, rfl⟩
/-- At the head of the loop of blocks. -/
def BHead (pr : Nat → Bool) (S : Int → Nat) (D : DataW Unit) (bm r0 n base : Nat) (w : World) (v : Value) (wr : World) : Prop := ∃ (left : Lit → Bool) (cnt : Nat) (ss : List Int),
  wr.ranges Try.prog 3 (plainElem Try.prog 52) bm r0 n D left cnt ∧ ss.length + cnt ≤ n ∧ OwnI base wr v ss ∧ Coll pr S left ss ∧ Below base w wr
theorem size_le {w : World} {P : Program} {k : TypeId} {R : Value → Option (DataW Unit × List MemPlace)} {b n : Nat} {D : DataW Unit} (h : w.ownsMap P k R b n D) : Go.Maps.size D ≤ n := by
  obtain ⟨es, clock, hb, F, hs, rfl⟩ := h
  rw [Go.Maps.size_eq, length_sorted]
  simpa using hs
theorem coll_start {pr : Nat → Bool} {S : Int → Nat} {D : DataW Unit} (h : ∀ x, Go.Maps.has D (.int .i64 x) = decide (S x ≠ 0)) : Coll pr S (Go.Maps.has D) [] := ⟨List.nodup_nil, fun x => by
  rw [h x]
  by_cases hx : S x = 0 <;> simp [hx]⟩

set_option maxRecDepth 20000 in
set_option maxHeartbeats 2000000 in
theorem blocks_all (r bm n : Nat) (S : Int → Nat)  (w : World) (hT : Tab w r bm n S) (hG : Good S) (hn : n ≤ 10000000)  :
    Calls Try.prog 21 #[.pointer (some ⟨r, 0, none⟩), .func (.func 22) #[] #[]] w (ListPost (blks prAll S) w) := by
  have c0 := hT.cell
  obtain ⟨D, hown, hD⟩ := hT.2
  have hlt := hT.lt
  have hbl := hown.lt
  have hsz := size_le hown
  obtain ⟨i0, hi, hz0, hz1, hz2⟩ := info_parts info_int
  clear hT
  go_enter Try.func21, Try.ntmps21
  go_wp2_with (at_range; refine wpList_range_own _ rfl _ 48 rfl 3 52 int_keys Try.underlying48 _ bm n D rfl hown ?_; intro w0 hrg0 hg0 hs0)
  go_frame
  clear c0
  go_loopw [5] (fun v wr => BHead prAll S D bm w.heap.size n w.heap.size w v wr) (fun _ wr => wr.rangeLeft bm w.heap.size)
  case atStart =>
    exact ⟨_, _, [], hrg0, by simpa using hsz, OwnI.nil _ _, coll_start fun x => (hD x).1, (Below.refl _ _).grown hg0 (Nat.le_refl _) (fun j hj => by cases hj)⟩
  case round =>
    obtain ⟨left, cnt, ss, hrg, hcs, hrow, hC, hnx⟩ := hrel
    obtain ⟨A, c0, rfl, hA⟩ := hrow.form
    clear hrg0 hg0 hs0 w0
    go_wp2_with (at_next; refine wpList_next_ranges_ii _ rfl _ rfl 3 52 .i64 .u8 int_keys Try.underlying3 Try.underlying52 bm w.heap.size n _ _ _ rfl hrg ?_ ?_)
    · intro hc0 hl0
      have hL := hC.last hG hl0
      have hnz := hnx.size
      have hsrt := sort_any w.heap.size _ ss _ wr hrow hL (by omega) hnz
      have HB := Lib.hid hnx
      have hAb := Lib.hid (fun k (hk : (Value.slice A ss.length c0).ownBlock = some k) => (row_lt hrow hk).1)
      obtain ⟨L, hLe⟩ : ∃ L, L = blks prAll S := ⟨_, rfl⟩
      rw [← hLe] at hsrt
      replace hLe := Lib.hid hLe
      clear hrow hrg hcs hC hnx hL hD hG hl0 hown
      go_wp2_with (go_at_call 37; refine hsrt.mono ?_; rintro e w1 ⟨rfl, hrow1, _, ho1, hlen⟩)
      rw [← hLe.out]
      go_ret
      exact ⟨A, c0, rfl, by rw [← hlen]; exact hrow1, HB.out.trans (ho1.below hnz hAb.out)⟩
    · intro x c w1 cnt1 hwx hwc hlx hat hrg1 hlt1 hg1 hs1 hen
      have hx2 := (hD x).2
      rw [hat] at hx2
      simp only [DataW.lit.injEq, Lit.int.injEq, true_and] at hx2
      subst hx2
      have h0 : S x ≠ 0 := by
        have h1 := (hD x).1
        rw [Go.Maps.has_true_of_atKey hat] at h1
        simpa using h1.symm
      have hCs := hC.step hlx h0
      have hsx := (hG x).1
      have hrowi : OwnI w.heap.size w1 _ ss := hrow.off (O := fun k => k = w.heap.size) (Off.of_grown hg1 (fun k e => by simpa using e.symm)) (fun g hg e => row_ne_iter hrow hrg (by rw [hg, e]))
      have hnx1 : Below w.heap.size w w1 := hnx.grown hg1 hnx.size (fun j hj => by cases hj; exact Nat.le_refl _)
      have hcon := all1_any (S x) w1 hsx
      generalize hpr : prAll (S x) = px at *
      have HC := Lib.hid hCs
      have HO := Lib.hid hrowi
      have HN := Lib.hid hnx1
      have HR := Lib.hid hrg1
      have hleft := hrg.left_eq
      replace hleft := Lib.hid hleft
      have hnz := hnx.size
      have hs1' := Lib.hid hs1
      clear hCs hrowi hnx1 hrow hC hnx hwx hwc hat hown hD hG hg1 hs1 hrg1 hrg 
      cases px
      · go_wp2_with (go_at_call 22; refine hcon.mono ?_; rintro e w2 ⟨rfl, rfl⟩)
        go_roundw
        case rel => exact ⟨_, cnt1, ss, HR.out, by omega, HO.out, by simpa using HC.out, HN.out⟩
        case measure => rw [HR.out.left_eq, hleft.out]; exact hlt1
      · obtain ⟨v', w3, hap, hown', hg3, hv'⟩ := own_appI HO.out x (by omega) (by have := hs1'.out; omega)
        have hn3 := Lib.hid hown'
        have hg3' := Lib.hid hg3
        obtain ⟨A2, c2, rfl, _⟩ := hown'.form
        clear hown' hg3 hv'
        go_wp2_with fail
        refine hcon.mono ?_
        rintro e w2 ⟨rfl, rfl⟩
        go_wp2_with (at_builtin; refine Go.Lib.wpList_append_run_sl _ rfl _ _ _ rfl _ _ rfl rfl hap ?_)
        go_roundw
        case rel =>
          refine ⟨_, cnt1, ss ++ [x], (HR.out.alloc _).kept hg3'.out (row_ne_low HO.out hbl) ?_, by simp; omega, by have h := hn3.out; rw [List.length_append] at h; exact h, by simpa using HC.out, ?_⟩
          · exact row_ne_iter HO.out HR.out
          · exact (HN.out.alloc (by have := hs1'.out; omega) _).grown hg3'.out (by have := hs1'.out; simp; omega) (fun j hj => (row_lt HO.out hj).1)
        case measure => rw [((HR.out.alloc _).kept hg3'.out (row_ne_low HO.out hbl) (row_ne_iter HO.out HR.out)).left_eq, hleft.out]; exact hlt1

set_option maxRecDepth 20000 in
set_option maxHeartbeats 2000000 in
theorem blocks_of (r bm n : Nat) (S : Int → Nat) (t bc : Nat) (w : World) (hT : Tab w r bm n S) (hG : Good S) (hn : n ≤ 10000000) (ht : t < 7) (hc : w.cell? ⟨bc, 0, none⟩ = some (.int .i64 t)) :
    Calls Try.prog 21 #[.pointer (some ⟨r, 0, none⟩), .func (.func 27) #[] #[.pointer (some ⟨bc, 0, none⟩)]] w (ListPost (blks (prOf t) S) w) := by
  have c0 := hT.cell
  obtain ⟨D, hown, hD⟩ := hT.2
  have hlt := hT.lt
  have hbl := hown.lt
  have hsz := size_le hown
  obtain ⟨i0, hi, hz0, hz1, hz2⟩ := info_parts info_int
  clear hT
  go_enter Try.func21, Try.ntmps21
  go_wp2_with (at_range; refine wpList_range_own _ rfl _ 48 rfl 3 52 int_keys Try.underlying48 _ bm n D rfl hown ?_; intro w0 hrg0 hg0 hs0)
  go_frame
  clear c0
  go_loopw [5] (fun v wr => BHead (prOf t) S D bm w.heap.size n w.heap.size w v wr) (fun _ wr => wr.rangeLeft bm w.heap.size)
  case atStart =>
    exact ⟨_, _, [], hrg0, by simpa using hsz, OwnI.nil _ _, coll_start fun x => (hD x).1, (Below.refl _ _).grown hg0 (Nat.le_refl _) (fun j hj => by cases hj)⟩
  case round =>
    obtain ⟨left, cnt, ss, hrg, hcs, hrow, hC, hnx⟩ := hrel
    obtain ⟨A, c0, rfl, hA⟩ := hrow.form
    clear hrg0 hg0 hs0 w0
    go_wp2_with (at_next; refine wpList_next_ranges_ii _ rfl _ rfl 3 52 .i64 .u8 int_keys Try.underlying3 Try.underlying52 bm w.heap.size n _ _ _ rfl hrg ?_ ?_)
    · intro hc0 hl0
      have hL := hC.last hG hl0
      have hnz := hnx.size
      have hsrt := sort_any w.heap.size _ ss _ wr hrow hL (by omega) hnz
      have HB := Lib.hid hnx
      have hAb := Lib.hid (fun k (hk : (Value.slice A ss.length c0).ownBlock = some k) => (row_lt hrow hk).1)
      obtain ⟨L, hLe⟩ : ∃ L, L = blks (prOf t) S := ⟨_, rfl⟩
      rw [← hLe] at hsrt
      replace hLe := Lib.hid hLe
      clear hrow hrg hcs hC hnx hL hD hG hl0 hown
      go_wp2_with (go_at_call 37; refine hsrt.mono ?_; rintro e w1 ⟨rfl, hrow1, _, ho1, hlen⟩)
      rw [← hLe.out]
      go_ret
      exact ⟨A, c0, rfl, by rw [← hlen]; exact hrow1, HB.out.trans (ho1.below hnz hAb.out)⟩
    · intro x c w1 cnt1 hwx hwc hlx hat hrg1 hlt1 hg1 hs1 hen
      have hx2 := (hD x).2
      rw [hat] at hx2
      simp only [DataW.lit.injEq, Lit.int.injEq, true_and] at hx2
      subst hx2
      have h0 : S x ≠ 0 := by
        have h1 := (hD x).1
        rw [Go.Maps.has_true_of_atKey hat] at h1
        simpa using h1.symm
      have hCs := hC.step hlx h0
      have hsx := (hG x).1
      have hrowi : OwnI w.heap.size w1 _ ss := hrow.off (O := fun k => k = w.heap.size) (Off.of_grown hg1 (fun k e => by simpa using e.symm)) (fun g hg e => row_ne_iter hrow hrg (by rw [hg, e]))
      have hnx1 : Below w.heap.size w w1 := hnx.grown hg1 hnx.size (fun j hj => by cases hj; exact Nat.le_refl _)
      have hcc := keep1 hnx1 hc
      have hcon := of1_any (S x) t bc w1 hsx ht hcc
      generalize hpr : (prOf t) (S x) = px at *
      have HC := Lib.hid hCs
      have HO := Lib.hid hrowi
      have HN := Lib.hid hnx1
      have HR := Lib.hid hrg1
      have hleft := hrg.left_eq
      replace hleft := Lib.hid hleft
      have hnz := hnx.size
      have hs1' := Lib.hid hs1
      clear hCs hrowi hnx1 hrow hC hnx hwx hwc hat hown hD hG hg1 hs1 hrg1 hrg hcc
      cases px
      · go_wp2_with (go_at_call 27; refine hcon.mono ?_; rintro e w2 ⟨rfl, rfl⟩)
        go_roundw
        case rel => exact ⟨_, cnt1, ss, HR.out, by omega, HO.out, by simpa using HC.out, HN.out⟩
        case measure => rw [HR.out.left_eq, hleft.out]; exact hlt1
      · obtain ⟨v', w3, hap, hown', hg3, hv'⟩ := own_appI HO.out x (by omega) (by have := hs1'.out; omega)
        have hn3 := Lib.hid hown'
        have hg3' := Lib.hid hg3
        obtain ⟨A2, c2, rfl, _⟩ := hown'.form
        clear hown' hg3 hv'
        go_wp2_with fail
        refine hcon.mono ?_
        rintro e w2 ⟨rfl, rfl⟩
        go_wp2_with (at_builtin; refine Go.Lib.wpList_append_run_sl _ rfl _ _ _ rfl _ _ rfl rfl hap ?_)
        go_roundw
        case rel =>
          refine ⟨_, cnt1, ss ++ [x], (HR.out.alloc _).kept hg3'.out (row_ne_low HO.out hbl) ?_, by simp; omega, by have h := hn3.out; rw [List.length_append] at h; exact h, by simpa using HC.out, ?_⟩
          · exact row_ne_iter HO.out HR.out
          · exact (HN.out.alloc (by have := hs1'.out; omega) _).grown hg3'.out (by have := hs1'.out; simp; omega) (fun j hj => (row_lt HO.out hj).1)
        case measure => rw [((HR.out.alloc _).kept hg3'.out (row_ne_low HO.out hbl) (row_ne_iter HO.out HR.out)).left_eq, hleft.out]; exact hlt1
theorem all_any (r bm n : Nat) (S : Int → Nat) (w : World) (hT : Tab w r bm n S) (hG : Good S) (hn : n ≤ 10000000) : Calls Try.prog 8 #[.pointer (some ⟨r, 0, none⟩)] w (ListPost (blks prAll S) w) := by
  have hB := blocks_all r bm n S w hT hG hn
  go_enter Try.func8, Try.ntmps8
  go_wp2_with (go_at_call 21; refine hB.mono ?_; rintro e w1 ⟨A, c, rfl, h1, h2⟩)
  go_ret
  exact ⟨A, c, rfl, h1, h2⟩
/-- What Of tells. -/
def ofL (S : Int → Nat) (t : Int) : List Int := if 0 ≤ t ∧ t ≤ 6 then blks (prOf t.toNat) S else []
set_option maxRecDepth 20000 in
set_option maxHeartbeats 1000000 in
theorem of_any (r bm n : Nat) (S : Int → Nat) (t : Int) (w : World) (hT : Tab w r bm n S) (hG : Good S) (hn : n ≤ 10000000) : Calls Try.prog 12 #[.pointer (some ⟨r, 0, none⟩), .int .i64 t] w (ListPost (ofL S t) w) := by
  have hL := Lib.hid (show ofL S t = if 0 ≤ t ∧ t ≤ 6 then blks (prOf t.toNat) S else [] from rfl)
  generalize ofL S t = L at *
  have hb1 : Below w.heap.size w (w.alloc (.cells #[.int .i64 t] 3)) := (Below.refl _ _).alloc (Nat.le_refl _) _
  have HB1 := Lib.hid hb1
  by_cases h0 : 0 ≤ t
  · by_cases h6 : t ≤ 6
    · obtain ⟨k, rfl⟩ : ∃ k : Nat, t = (k : Int) := ⟨t.toNat, by omega⟩
      have hL2 := hL.out
      rw [if_pos ⟨h0, h6⟩, Int.toNat_natCast] at hL2
      subst hL2
      have hB := blocks_of r bm n S k w.heap.size (w.alloc (.cells #[.int .i64 k] 3)) (hT.below hb1) hG hn (by omega) (World.cell?_alloc_new w _ _ 0)
      clear hL hT hb1
      go_enter Try.func12, Try.ntmps12
      go_wp2_with (go_at_call 21; refine hB.mono ?_; rintro e w1 ⟨A, c, rfl, h1, h2⟩)
      go_ret
      exact ⟨A, c, rfl, ⟨h1.1, h1.2.imp (fun h => h) (fun ⟨g, cap, cur, e, hb, h3⟩ => ⟨g, cap, cur, e, Nat.le_trans HB1.out.size hb, h3⟩)⟩, HB1.out.trans (h2.mono HB1.out.size)⟩
    · have hL2 := hL.out
      rw [if_neg (by omega)] at hL2
      subst hL2
      clear hL hT hb1
      go_enter Try.func12, Try.ntmps12
      go_wp2_with fail
      go_ret
      exact ⟨none, 0, rfl, OwnI.nil _ _, HB1.out⟩
  · have hL2 := hL.out
    rw [if_neg (by omega)] at hL2
    subst hL2
    clear hL hT hb1
    go_enter Try.func12, Try.ntmps12
    go_wp2_with fail
    go_ret
    exact ⟨none, 0, rfl, OwnI.nil _ _, HB1.out⟩
end Go.Proofs.Ytdiejjhlgacbdaa
