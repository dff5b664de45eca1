/- LAYER 16 (dead): Drop. -/
import Derived.Test.YtdiejjhlgacbdaaF
set_option linter.unusedVariables false
namespace Go.Proofs.Ytdiejjhlgacbdaa
open Go.RowKit Go.ChangeShapes Go.WideShapes Go.ChangeAt Go.Sort

/-- Drop's rounds. -/
def dropR (t : Int) : List Int → (Int → Nat) → List Int → (Int → Nat) × List Int
  | [], S, out => (S, out)
  | x :: l, S, out => dropR t l (giveS S t x) (if giveB S t x then out ++ [x] else out)
/-- Drop's answer, its code, and what is needed then. -/
def dropU (S : Int → Nat) (t : Int) : (Int → Nat) × List Int := if mayB t 2 then dropR t (ofL S t) S [] else (S, [])
def dropE (t : Int) : Int := if mayB t 2 then 0 else 1
theorem ofL_len (S : Int → Nat) (t : Int) : (ofL S t).length ≤ 8192 := by
  unfold ofL
  split
  · exact blks_len _ _
  · simp
theorem mem_ofL {S : Int → Nat} (hG : Good S) {t x : Int} (h : x ∈ ofL S t) : 0 ≤ t ∧ t ≤ 6 ∧ 2 ≤ x ∧ x < 8192 ∧ (S x).testBit t.toNat = true := by
  unfold ofL at h
  split at h
  · rename_i ht
    obtain ⟨h1, h2⟩ := (mem_blks hG).1 h
    have := (hG x).2 h1
    exact ⟨ht.1, ht.2, this.1, this.2, h2⟩
  · simp at h
/-- At the head of Drop's loop. -/
def DHead (t : Int) (l : List Int) (S : Int → Nat) (A : Option Addr) (r bm n base : Nat) (w : World) (v6 v22 : Value) (wr : World) : Prop := ∃ (k : Nat) (S' : Int → Nat) (out : List Int) (A' : Option Addr) (c' : Nat),
  k ≤ l.length ∧ v22 = .int .i64 (k : Nat) ∧ v6 = .slice A' out.length c' ∧ OwnI base wr (.slice A' out.length c') out ∧ Tab wr r bm (n + k) S' ∧ Good S' ∧ dropR t (l.drop k) S' out = dropR t l S [] ∧ out.length ≤ k ∧ RdI wr A l ∧ Off (fun k => k = bm) w wr ∧ base ≤ wr.heap.size
/-- What Drop does. -/
def DropPost (S : Int → Nat) (t : Int) (r bm n : Nat) (w : World) (e : Ending) (w' : World) : Prop := ∃ A c, e = .returned (.tuple #[.slice A (dropU S t).2.length c, .int .i64 (dropE t)]) ∧ OwnI w.heap.size w' (.slice A (dropU S t).2.length c) (dropU S t).2 ∧ Tab w' r bm (n + 8192) (dropU S t).1 ∧ Good (dropU S t).1 ∧ Off (fun k => k = bm) w w'
theorem OwnI.base {b b' : Nat} {w : World} {v : Value} {l : List Int} (h : OwnI b w v l) (hb : b' ≤ b) : OwnI b' w v l :=
  ⟨h.1, h.2.imp (fun h => h) (fun ⟨g, cap, cur, e, hg, h3⟩ => ⟨g, cap, cur, e, Nat.le_trans hb hg, h3⟩)⟩
theorem ret_tup {A : Option Addr} {c : Nat} {l m : List Int} {x y : Int} (h : l = m) (hx : x = y) : Ending.returned (.tuple #[.slice A l.length c, .int .i64 x]) = .returned (.tuple #[.slice A m.length c, .int .i64 y]) := by rw [h, hx]
set_option maxRecDepth 20000 in
set_option maxHeartbeats 4000000 in
theorem drop_any (r bm n : Nat) (S : Int → Nat) (t : Int) (w : World) (hT : Tab w r bm n S) (hG : Good S) (hn : n ≤ 9000000) (ht : In64 t) : Calls Try.prog 13 #[.pointer (some ⟨r, 0, none⟩), .int .i64 t] w (DropPost S t r bm n w) := by
  have hM := may_any t 2 w
  have hU := Lib.hid (show dropU S t = if mayB t 2 then dropR t (ofL S t) S [] else (S, []) from rfl)
  have hE := Lib.hid (show dropE t = if mayB t 2 then 0 else 1 from rfl)
  have HT := Lib.hid hT
  have HG := Lib.hid hG
  cases hm : mayB t 2 with
  | false =>
    rw [hm] at hM
    have hU' := hU.out; have hE' := hE.out
    rw [hm] at hU' hE'
    simp only [Bool.false_eq_true, if_false] at hU' hE'
    replace hU' := Lib.hid hU'
    replace hE' := Lib.hid hE'
    clear hU hE hT hG
    go_enter Try.func13, Try.ntmps13
    go_wp2_with (go_at_call 23; refine hM.mono ?_; rintro e w1 ⟨rfl, rfl⟩)
    unfold DropPost
    rw [hU'.out, hE'.out]
    go_ret2
    exact ⟨none, 0, rfl, OwnI.nil _ _, HT.out.mono (by omega), HG.out, Off.refl _ _⟩
  | true =>
    rw [hm] at hM
    have hU' := hU.out; have hE' := hE.out
    rw [hm] at hU' hE'
    simp only [if_true] at hU' hE'
    have hlen := ofL_len S t
    have hO := of_any r bm n S t w hT hG (by omega)
    generalize ofL S t = l at *
    replace hU' := Lib.hid hU'
    replace hE' := Lib.hid hE'
    have c0 := hT.cell
    have hlt := hT.lt
    clear hU hE hT hG
    go_enter Try.func13, Try.ntmps13
    go_wp2_with (first | (go_at_call 23; refine hM.mono ?_; rintro e w1 ⟨rfl, rfl⟩) | (go_at_call 12; refine hO.mono ?_; rintro e w2 ⟨A, c, rfl, hrow, hB⟩))
    have hB' := hB
    have hRd := hrow.rd
    have hAb : ∀ a, A = some a → w1.heap.size ≤ a.block ∧ a.block < w2.heap.size := fun a ha => by
      obtain ⟨A1, c1, e1, h1⟩ := hrow.form
      cases e1
      exact h1 a ha
    replace hAb := Lib.hid hAb
    have hz2 := hB.size
    have HT2 := Lib.hid (HT.out.below hB)
    have HRd := Lib.hid hRd
    have HB2 := Lib.hid hB
    clear hrow hB hB' hRd hO hM c0
    go_loopw [6, 22] (fun v6 v22 wr => DHead t l S A r bm n w2.heap.size w1 v6 v22 wr) (fun _ v22 _ => l.length - (intOf v22).toNat)
    case atStart => exact ⟨0, S, [], none, 0, by omega, rfl, rfl, OwnI.nil _ _, HT2.out, HG.out, rfl, by simp, HRd.out, Off.of_below _ HB2.out, Nat.le_refl _⟩
    case round =>
      obtain ⟨k, S', out, A', c', hk, rfl, rfl, hown, hTr, hGr, hR, hol, hRl, hOff, hz⟩ := hrel
      by_cases hkl : k < l.length
      · obtain ⟨b, off, rfl, hc⟩ := hRl (by intro h; subst h; simp at hkl)
        have d0 := hc k hkl
        have hbb := hAb.out _ rfl
        have HRl := Lib.hid hRl
        clear hc hRl
        have hdr : l.drop k = l[k] :: l.drop (k + 1) := (List.drop_eq_getElem_cons hkl)
        rw [hdr] at hR
        generalize l[k] = x at *
        have hR' : dropR t (l.drop (k + 1)) (giveS S' t x) (if giveB S' t x then out ++ [x] else out) = dropR t l S [] := hR
        have hcon := give_any r bm (n + k) S' t x wr hTr hGr (by omega)
        have hGn := giveS_good hGr t x
        generalize giveB S' t x = B at *
        generalize giveS S' t x = S2 at *
        generalize giveE S' t x = E at *
        have HR := Lib.hid hR'
        have HGn := Lib.hid hGn
        have HO := Lib.hid hOff
        have HW := Lib.hid hown
        have hrlt := hTr.lt
        have hbm := hlt.2
        clear hR hR' hdr hGn hOff hown hTr hGr
        go_wp2_with fail
        refine hcon.mono ?_
        rintro e w3 ⟨rfl, hT3, ho3⟩
        have HT3 := Lib.hid hT3
        have hz3 := ho3.size
        have HR3 := Lib.hid (HRl.out.off ho3 (fun a ha => by cases ha; show b ≠ bm; have : w1.heap.size ≤ b := hbb.1; omega))
        have HW3 := Lib.hid (HW.out.off ho3 (fun g hg => by have := (row_lt HW.out hg).1; omega))
        have HO3 := Lib.hid (HO.out.trans ho3)
        clear hT3 ho3 HRl HW HO d0 hcon
        cases B with
        | false =>
          go_wp2_with fail
          go_roundw
          case rel => exact ⟨k + 1, S2, out, A', c', by omega, by go_num, rfl, HW3.out, HT3.out, HGn.out, by simpa using HR.out, by omega, HR3.out, HO3.out, by omega⟩
          case measure => simp [intOf]; omega
        | true =>
          obtain ⟨v', w4, hap, hown', hg3, hv'⟩ := own_appI HW3.out x (by omega) (by omega)
          have hgr := own_grow HW3.out (by omega) hg3
          have hz4 := hgr.size
          have HT4 := Lib.hid (HT3.out.off hgr (by omega) (by omega))
          have HR4 := Lib.hid (HR3.out.off hgr (fun a ha => by cases ha; have : b < w2.heap.size := hbb.2; show ¬ (w2.heap.size ≤ b); omega))
          have HO4 := Lib.hid (HO3.out.thenNew hgr (fun y hy hy2 => by omega))
          obtain ⟨A2, c2, rfl, _⟩ := hown'.form
          have HW4 := Lib.hid hown'
          clear hown' hg3 hv' hgr HT3 HR3 HO3 HW3
          go_wp2_with (at_builtin; refine Go.Lib.wpList_append_run_sl _ rfl _ _ _ rfl _ _ rfl rfl hap ?_)
          go_roundw
          case rel => exact ⟨k + 1, S2, out ++ [x], A2, c2, by omega, by go_num, by rw [List.length_append]; rfl, HW4.out, HT4.out, HGn.out, by simpa using HR.out, by simp; omega, HR4.out, HO4.out, by omega⟩
          case measure => simp [intOf]; omega
      · have hke : k = l.length := by omega
        subst hke
        rw [List.drop_length] at hR
        have hR' : (S', out) = dropR t l S [] := hR
        have HR := Lib.hid hR'
        have HW := Lib.hid hown
        have HTr := Lib.hid hTr
        have HGr := Lib.hid hGr
        have HO := Lib.hid hOff
        clear hR hR' hown hTr hGr hOff hRl
        go_wp2_with fail
        unfold DropPost
        rw [hU'.out, hE'.out, ← HR.out]
        go_ret2
        exact ⟨A', c', rfl, HW.out.base hz2, HTr.out.mono (by omega), HGr.out, HO.out⟩
end Go.Proofs.Ytdiejjhlgacbdaa
