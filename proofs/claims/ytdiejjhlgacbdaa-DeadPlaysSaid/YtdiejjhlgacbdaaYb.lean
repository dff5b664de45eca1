/- LAYER 16, the document's table: Drop, Copy. -/
import Derived.Test.YtdiejjhlgacbdaaYa
set_option linter.unusedVariables false
namespace Go.Proofs.Ytdiejjhlgacbdaa
open Go.RowKit Go.ChangeShapes Go.WideShapes Go.ChangeAt

/-- At the head of the document's Drop's loop: OK is what the table owns, all of it O's or made since. -/
def DHeadP (t : Int) (l : List Int) (S : Int → Nat) (A : Option Addr) (O : Nat → Prop) (x n base : Nat) (w : World) (v6 v8 : Value) (wr : World) : Prop := ∃ (k : Nat) (S' : Int → Nat) (out : List Int) (A' : Option Addr) (c' : Nat) (OK : Nat → Prop),
  k ≤ l.length ∧ v8 = .int .i64 (k : Nat) ∧ v6 = .slice A' out.length c' ∧ OwnI base wr (.slice A' out.length c') out ∧ XS OK wr x n S' ∧ Good S' ∧ dropR t (l.drop k) S' out = dropR t l S [] ∧ out.length ≤ k ∧ RdI wr A l ∧ Off O w wr ∧ base ≤ wr.heap.size ∧
  (∀ g, OK g → O g ∨ base ≤ g) ∧ (∀ g, (Value.slice A' out.length c').ownBlock = some g → ¬ OK g)
def DropRef (O : Nat → Prop) (x n : Nat) (S : Int → Nat) (t : Int) (w : World) (e : Ending) (w' : World) : Prop := ∃ A c, e = .returned (.tuple #[.slice A (dropU S t).2.length c, .int .i64 (dropE t)]) ∧ OwnI w.heap.size w' (.slice A (dropU S t).2.length c) (dropU S t).2 ∧ XS (grow O w w') w' x n (dropU S t).1 ∧ Off O w w'
theorem grow_new {O : Nat → Prop} {w w' : World} {base : Nat} {OK : Nat → Prop} (hO : ∀ g, OK g → O g ∨ base ≤ g) (hb : base ≤ w.heap.size) : ∀ g, grow OK w w' g → O g ∨ base ≤ g := by
  rintro g (h | ⟨h, _⟩)
  · exact hO g h
  · exact .inr (Nat.le_trans hb h)
set_option maxRecDepth 20000 in
set_option maxHeartbeats 4000000 in
theorem drop_ref (O : Nat → Prop) (x n : Nat) (S : Int → Nat) (t : Int) (w : World) (hX : XS O w x n S) (hG : Good S) (hn : n ≤ 900000) : Calls Try.prog 32 #[.pointer (some ⟨x, 0, none⟩), .int .i64 t] w (DropRef O x n S t w) := by
  have hM := tree_any t w
  have hU := Lib.hid (show dropU S t = if mayB t 2 then dropR t (ofL S t) S [] else (S, []) from rfl)
  have hE := Lib.hid (show dropE t = if mayB t 2 then 0 else 1 from rfl)
  have HX := Lib.hid hX
  have HG := Lib.hid hG
  have hOl := Lib.hid hX.lt
  by_cases ht : 0 ≤ t ∧ t ≤ 6
  · have hm : mayB t 2 = true := mayB_iff.2 ⟨ht.1, ht.2, by omega, by omega⟩
    rw [decide_eq_true ht] at hM
    have hU' := hU.out; have hE' := hE.out
    rw [hm] at hU' hE'
    simp only [if_true] at hU' hE'
    have hlen := ofL_len S t
    have hO := of_ref O x n S t w hX hG (by omega)
    generalize ofL S t = l at *
    replace hU' := Lib.hid hU'
    replace hE' := Lib.hid hE'
    replace ht := Lib.hid ht
    clear hU hE hX hG hm
    go_enter Try.func32, Try.ntmps32
    go_wp2_with fail
    refine hM.mono ?_
    rintro e w1 ⟨rfl, rfl⟩
    go_wp2_with fail
    refine hO.mono ?_
    rintro e w2 ⟨A, c, rfl, hrow, hB⟩
    have hRd := hrow.rd
    have hAb : ∀ a, A = some a → w1.heap.size ≤ a.block ∧ a.block < w2.heap.size := fun a ha => by
      obtain ⟨A1, c1, e1, h1⟩ := hrow.form
      cases e1
      exact h1 a ha
    replace hAb := Lib.hid hAb
    have hz2 := hB.size
    have HX2 := Lib.hid (HX.out.below hB)
    have HRd := Lib.hid hRd
    have HB2 := Lib.hid hB
    clear hrow hB hRd hO hM
    go_wp2_with fail
    go_loopw [6, 8] (fun v6 v8 wr => DHeadP t l S A O x n w2.heap.size w1 v6 v8 wr) (fun _ v8 _ => l.length - (intOf v8).toNat)
    case atStart => exact ⟨0, S, [], none, 0, O, by omega, rfl, rfl, OwnI.nil _ _, HX2.out, HG.out, rfl, by simp, HRd.out, Off.of_below _ HB2.out, Nat.le_refl _, fun g h => .inl h, fun g h => by cases h⟩
    case round =>
      obtain ⟨k, S', out, A', c', OK, hk, rfl, rfl, hown, hXr, hGr, hR, hol, hRl, hOff, hz, hOK, hOo⟩ := hrel
      by_cases hkl : k < l.length
      · obtain ⟨b, off, rfl, hc⟩ := hRl (by intro h; subst h; simp at hkl)
        have d0 := hc k hkl
        have hbb := hAb.out _ rfl
        have hbOK : ¬ OK b := fun h => by
          rcases hOK b h with h1 | h1
          · have := hOl.out b h1
            have h2 : w1.heap.size ≤ b := hbb.1
            omega
          · have h2 : b < w2.heap.size := hbb.2
            omega
        have HRl := Lib.hid hRl
        clear hc hRl
        have hdr : l.drop k = l[k] :: l.drop (k + 1) := (List.drop_eq_getElem_cons hkl)
        rw [hdr] at hR
        generalize l[k] = y at *
        have hR' : dropR t (l.drop (k + 1)) (giveS S' t y) (if giveB S' t y then out ++ [y] else out) = dropR t l S [] := hR
        have hcon := give_ref OK x n S' t y wr hXr hGr (by omega)
        have hGn := giveS_good hGr t y
        generalize giveB S' t y = B at *
        generalize giveS S' t y = S2 at *
        generalize giveE S' t y = E at *
        have HR := Lib.hid hR'
        have HGn := Lib.hid hGn
        have HO := Lib.hid hOff
        have HW := Lib.hid hown
        have HOK := Lib.hid (And.intro hOK hOo)
        have hXl := Lib.hid hXr.lt
        clear hR hR' hdr hGn hOff hown hXr hGr hOK hOo
        go_wp2_with fail
        refine hcon.mono ?_
        rintro e w3 ⟨rfl, hX3, ho3⟩
        have HX3 := Lib.hid hX3
        have hz3 := ho3.size
        have HR3 := Lib.hid (HRl.out.off ho3 (fun a ha => by cases ha; exact hbOK))
        have HW3 := Lib.hid (HW.out.off ho3 HOK.out.2)
        have HO3 := Lib.hid (HO.out.thenNew ho3 (fun g hg hlt => (HOK.out.1 g hg).elim (fun h => h) (fun h => by omega)))
        have HK3 := Lib.hid (And.intro (grow_new (w := wr) (w' := w3) HOK.out.1 hz) (fun g hg (h : grow OK wr w3 g) => by
          rcases h with h | ⟨h, _⟩
          · exact HOK.out.2 g hg h
          · obtain ⟨_, cs, hcs⟩ := row_lt HW.out hg
            have := (Array.getElem?_eq_some_iff.1 hcs).1
            omega))
        have d3 := ho3.cell d0 hbOK
        clear hX3 ho3 HRl HW HO d0 hcon
        cases B with
        | false =>
          go_wp2_with fail
          go_roundw
          case rel => exact ⟨k + 1, S2, out, A', c', _, by omega, by go_num, rfl, HW3.out, HX3.out, HGn.out, by simpa using HR.out, by omega, HR3.out, HO3.out, by omega, HK3.out.1, HK3.out.2⟩
          case measure => simp [intOf]; omega
        | true =>
          obtain ⟨v', w4, hap, hown', hg3, hv'⟩ := own_appI HW3.out y (by omega) (by omega)
          have hgr := own_grow HW3.out (by omega) hg3
          have hz4 := hgr.size
          have hga : Off (fun g => (Value.slice A' out.length c').ownBlock = some g) w3 w4 := (Off.of_below _ ((Below.refl _ w3).alloc (Nat.le_refl _) _)).trans (Off.of_grown hg3 (fun g e => e))
          have HX4 := Lib.hid (HX3.out.off hga (fun g hg e => HK3.out.2 g e hg))
          have hX3l := HX3.out.lt
          have HR4 := Lib.hid (HR3.out.off hgr (fun a ha => by cases ha; have : b < w2.heap.size := hbb.2; show ¬ (w2.heap.size ≤ b); omega))
          have HO4 := Lib.hid (HO3.out.thenNew hgr (fun y hy hy2 => by omega))
          have HK4 := Lib.hid (fun g (hg : v'.ownBlock = some g) (h : grow OK wr w3 g) => by
            rcases hv' with e | e
            · rw [e] at hg
              exact HK3.out.2 g hg h
            · rw [e] at hg
              cases hg
              have := hX3l _ h
              omega)
          obtain ⟨A2, c2, rfl, _⟩ := hown'.form
          have HW4 := Lib.hid hown'
          clear hown' hg3 hv' hgr HX3 HR3 HO3 HW3 hga hX3l
          go_wp2_with (at_builtin; refine Go.Lib.wpList_append_run_sl _ rfl _ _ _ rfl _ _ rfl rfl hap ?_)
          go_roundw
          case rel => exact ⟨k + 1, S2, out ++ [y], A2, c2, _, by omega, by go_num, by rw [List.length_append]; rfl, HW4.out, HX4.out, HGn.out, by simpa using HR.out, by simp; omega, HR4.out, HO4.out, by omega, HK3.out.1, HK4.out⟩
          case measure => simp [intOf]; omega
      · have hke : k = l.length := by omega
        subst hke
        rw [List.drop_length] at hR
        have hR' : (S', out) = dropR t l S [] := hR
        have HR := Lib.hid hR'
        have HW := Lib.hid hown
        have HXr := Lib.hid (show XS (grow O w1 wr) wr x n S' from hXr.wide (fun g hg => (hOK g hg).elim .inl (fun h => .inr ⟨Nat.le_trans hz2 h, hXr.lt g hg⟩)) (grow_lt hOl.out hOff.size) (Nat.le_refl n))
        have HO := Lib.hid hOff
        clear hR hR' hown hXr hGr hOff hRl hOK hOo
        go_wp2_with fail
        unfold DropRef
        rw [hU'.out, hE'.out, ← HR.out]
        go_ret2
        exact ⟨A', c', rfl, HW.out.base hz2, HXr.out, HO.out⟩
  · have hm : mayB t 2 = false := by
      rw [← Bool.not_eq_true, mayB_iff]
      exact fun h => ht ⟨h.1, h.2.1⟩
    rw [decide_eq_false ht] at hM
    have hU' := hU.out; have hE' := hE.out
    rw [hm] at hU' hE'
    simp only [Bool.false_eq_true, if_false] at hU' hE'
    replace hU' := Lib.hid hU'
    replace hE' := Lib.hid hE'
    replace ht := Lib.hid ht
    clear hU hE hX hG hm
    go_enter Try.func32, Try.ntmps32
    go_wp2_with fail
    refine hM.mono ?_
    rintro e w1 ⟨rfl, rfl⟩
    go_wp2_with fail
    unfold DropRef
    rw [hU'.out, hE'.out]
    go_ret2
    exact ⟨none, 0, rfl, OwnI.nil _ _, HX.out.grown (Below.refl _ _) (Nat.le_refl n), Off.refl _ _⟩
end Go.Proofs.Ytdiejjhlgacbdaa
