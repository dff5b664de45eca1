/- LAYER 16 (dead): Like. -/
import Derived.Test.YtdiejjhlgacbdaaG
set_option linter.unusedVariables false
namespace Go.Proofs.Ytdiejjhlgacbdaa
open Go.RowKit Go.ChangeShapes Go.WideShapes Go.ChangeAt Go.Sort

/-- Like's rounds. -/
def likeR (t : Nat) : List Int → (Int → Nat) → (Int → Nat)
  | [], S => S
  | x :: l, S => likeR t l (updS S x (withB (S x) t))
/-- Like's code, and what is needed then. -/
def likeE (S : Int → Nat) (a b : Int) : Int := if a = b ∨ mayB a 2 = false ∨ mayB b 2 = false then 1 else if ofL S b = [] then 0 else 50
def likeS (S : Int → Nat) (a b : Int) : Int → Nat := if likeE S a b = 0 then likeR b.toNat (ofL S a) S else S
/-- At the head of Like's loop. -/
def LHead (t : Nat) (l : List Int) (S : Int → Nat) (A : Option Addr) (r bm n base : Nat) (w : World) (v36 : Value) (wr : World) : Prop := ∃ (k : Nat) (S' : Int → Nat),
  k ≤ l.length ∧ v36 = .int .i64 (k : Nat) ∧ Tab wr r bm (n + k) S' ∧ Good S' ∧ likeR t (l.drop k) S' = likeR t l S ∧ RdI wr A l ∧ Off (fun k => k = bm) w wr
/-- What Like does. -/
def LikePost (S : Int → Nat) (a b : Int) (r bm n : Nat) (w : World) (e : Ending) (w' : World) : Prop := e = .returned (.int .i64 (likeE S a b)) ∧ Tab w' r bm (n + 8192) (likeS S a b) ∧ Good (likeS S a b) ∧ Off (fun k => k = bm) w w'
theorem LikePost.err {S : Int → Nat} {a b : Int} {r bm n : Nat} {w w' : World} {E : Int} (hT : Tab w r bm n S) (hG : Good S) (he : likeE S a b = E) (h0 : E ≠ 0) (hB : Below w.heap.size w w') : LikePost S a b r bm n w (.returned (.int .i64 E)) w' := by
  unfold LikePost likeS
  rw [he, if_neg h0]
  exact ⟨rfl, (hT.below hB).mono (by omega), hG, Off.of_below _ hB⟩
set_option maxRecDepth 20000 in
set_option maxHeartbeats 4000000 in
theorem like_any (r bm n : Nat) (S : Int → Nat) (a b : Int) (w : World) (hT : Tab w r bm n S) (hG : Good S) (hn : n ≤ 9000000) : Calls Try.prog 11 #[.pointer (some ⟨r, 0, none⟩), .int .i64 a, .int .i64 b] w (LikePost S a b r bm n w) := by
  have hMa := may_any a 2 w
  have hMb := may_any b 2 w
  have HT := Lib.hid hT
  have HG := Lib.hid hG
  have hE := Lib.hid (show likeE S a b = if a = b ∨ mayB a 2 = false ∨ mayB b 2 = false then 1 else if ofL S b = [] then 0 else 50 from rfl)
  by_cases hab : a = b
  · have hE' : likeE S a b = 1 := by rw [hE.out, if_pos (.inl hab)]
    subst hab
    clear hE hT hG hMa hMb
    replace hE' := Lib.hid hE'
    go_enter Try.func11, Try.ntmps11
    go_wp2_with fail
    go_ret
    exact LikePost.err HT.out HG.out hE'.out (by decide) (Below.refl _ _)
  cases hma : mayB a 2 with
  | false =>
    have hE' : likeE S a b = 1 := by rw [hE.out, if_pos (.inr (.inl hma))]
    rw [hma] at hMa
    clear hE hT hG hMb
    replace hE' := Lib.hid hE'
    go_enter Try.func11, Try.ntmps11
    go_wp2_with (go_at_call 23; refine hMa.mono ?_; rintro e w1 ⟨rfl, rfl⟩)
    go_ret
    exact LikePost.err HT.out HG.out hE'.out (by decide) (Below.refl _ _)
  | true =>
  rw [hma] at hMa
  cases hmb : mayB b 2 with
  | false =>
    have hE' : likeE S a b = 1 := by rw [hE.out, if_pos (.inr (.inr hmb))]
    rw [hmb] at hMb
    clear hE hT hG
    replace hE' := Lib.hid hE'
    go_enter Try.func11, Try.ntmps11
    go_wp2_with fail
    refine hMa.mono ?_
    rintro e w1 ⟨rfl, rfl⟩
    go_wp2_with fail
    refine hMb.mono ?_
    rintro e w3 ⟨rfl, rfl⟩
    go_wp2_with fail
    go_ret
    exact LikePost.err HT.out HG.out hE'.out (by decide) (Below.refl _ _)
  | true =>
  rw [hmb] at hMb
  have hOb := of_any r bm n S b w hT hG (by omega)
  have hno : ¬ (a = b ∨ mayB a 2 = false ∨ mayB b 2 = false) := by rw [hma, hmb]; simp [hab]
  have hlt := hT.lt
  by_cases hq : ofL S b = []
  · have hE' : likeE S a b = 0 := by rw [hE.out, if_neg hno, if_pos hq]
    have hS' : likeS S a b = likeR b.toNat (ofL S a) S := by unfold likeS; rw [hE', if_pos rfl]
    rw [hq] at hOb
    have hbb := mayB_iff.1 hmb
    obtain ⟨t, rfl⟩ : ∃ t : Nat, b = (t : Int) := ⟨b.toNat, by omega⟩
    rw [Int.toNat_natCast] at hS'
    have ht7 : t < 7 := by omega
    have hlen := ofL_len S a
    have hmem : ∀ x ∈ ofL S a, 2 ≤ x ∧ x < 8192 := fun x hx => ⟨(mem_ofL hG hx).2.2.1, (mem_ofL hG hx).2.2.2.1⟩
    replace hmem := Lib.hid hmem
    have hOa := Lib.hid (fun (w1 : World) (h : Below w.heap.size w w1) => of_any r bm n S a w1 (hT.below h) hG (by omega))
    generalize ofL S a = l at *
    replace hE' := Lib.hid hE'
    replace hS' := Lib.hid hS'
    replace hno := Lib.hid hno
    replace hq := Lib.hid hq
    replace hab := Lib.hid hab
    clear hE hT hG hbb
    have hab' : (a == (t : Int)) = false := by simpa using hab.out
    go_enter Try.func11, Try.ntmps11
    go_wp2_with fail
    refine hMa.mono ?_
    rintro e w1 ⟨rfl, rfl⟩
    go_wp2_with fail
    refine hMb.mono ?_
    rintro e w3 ⟨rfl, rfl⟩
    go_wp2_with fail
    refine hOb.mono ?_
    rintro e w2 ⟨A1, c1, rfl, hrow1, hB1⟩
    have HB1 := Lib.hid hB1
    clear hrow1 hB1
    go_wp2_with fail
    refine (hOa.out _ HB1.out).mono ?_
    rintro e w4 ⟨A, c, rfl, hrow, hB⟩
    have hRd := hrow.rd
    have hAb : ∀ a, A = some a → w2.heap.size ≤ a.block ∧ a.block < w4.heap.size := fun a ha => by
      obtain ⟨A1, c1, e1, h1⟩ := hrow.form
      cases e1
      exact h1 a ha
    replace hAb := Lib.hid hAb
    have hz1 := HB1.out.size
    have hz4 := hB.size
    have HB4 := Lib.hid (HB1.out.trans (hB.mono hz1))
    have HT4 := Lib.hid (HT.out.below HB4.out)
    have HRd := Lib.hid hRd
    clear hrow hB hRd
    go_wp2_with fail
    go_loopw [36] (fun v36 wr => LHead t l S A r bm n w4.heap.size w3 v36 wr) (fun v36 _ => l.length - (intOf v36).toNat)
    case atStart => exact ⟨0, S, by omega, rfl, HT4.out, HG.out, rfl, HRd.out, Off.of_below _ HB4.out⟩
    case round =>
      obtain ⟨k, S', hk, rfl, hTr, hGr, hR, hRl, hOff⟩ := hrel
      by_cases hkl : k < l.length
      · obtain ⟨bl, off, rfl, hc⟩ := hRl (by intro h; subst h; simp at hkl)
        have d0 := hc k hkl
        have hbb := hAb.out _ rfl
        have hxm := hmem.out l[k] (List.getElem_mem hkl)
        have HRl := Lib.hid hRl
        clear hc hRl
        have hdr : l.drop k = l[k] :: l.drop (k + 1) := (List.drop_eq_getElem_cons hkl)
        rw [hdr] at hR
        generalize l[k] = x at *
        have hR' : likeR t (l.drop (k + 1)) (updS S' x (withB (S' x) t)) = likeR t l S := hR
        have HR := Lib.hid hR'
        have hxr : In64 x := by unfold In64; omega
        have hs := (hGr x).1
        have HGn := Lib.hid (hGr.upd hxm (with_lt hs ht7))
        have HO := Lib.hid hOff
        have c0 := hTr.cell
        have hlk1 : (Instr.lookup 48 (.map (some bm)) (.int .i64 x) false).run Try.prog wr.drew = .ok (.int .u8 (S' x)) wr.drew := (hTr.2.off (Off.of_below (fun _ => False) ((Below.refl _ _).drew)) (fun h => h)).look x hxr
        obtain ⟨w5, hup, hT5, ho5⟩ := (show TMap wr.drew bm (n + k) S' from hTr.2.off (Off.of_below (fun _ => False) ((Below.refl _ _).drew)) (fun h => h)).put x (withB (S' x) t) hxr (with_lt hs ht7) (with_ne _ _) (by omega)
        have ho5' : Off (fun k => k = bm) wr w5 := (Off.of_below (fun k => k = bm) ((Below.refl _ wr).drew)).trans ho5
        have HT5 := Lib.hid (hTr.map ho5' hT5)
        have HO5 := Lib.hid (HO.out.trans ho5')
        have HR5 := Lib.hid (HRl.out.off ho5' (fun a ha => by cases ha; show bl ≠ bm; have : w2.heap.size ≤ bl := hbb.1; omega))
        have cD : wr.drew.cell? ⟨r, 0, none⟩ = some (.map (some bm)) := c0
        have c5 := HT5.out.cell
        generalize S' x = s at *
        clear hR hR' hdr hGr hOff hTr HRl HO hT5 ho5 ho5'
        go_wp2_with fail
        go_region_held3 (fun w' => w'.cell? ⟨r, 0, none⟩ = some (.map (some bm)))
          (first | assumption | exact c0 | exact cD | exact c5)
          (first | (refine (with_any s t _ hs ht7).mono ?_; rintro e w1 ⟨rfl, rfl⟩) | (rw [hlk1]) | rw [hup])
        all_goals (
          clear hlk1 hup c0 cD c5 d0
          go_wp2_with fail
          go_roundw
          case rel => exact ⟨k + 1, _, by omega, by go_num, HT5.out, HGn.out, HR.out, HR5.out, HO5.out⟩
          case measure => simp [intOf]; omega)
      · have hke : k = l.length := by omega
        subst hke
        rw [List.drop_length] at hR
        have hR' : S' = likeR t l S := hR
        have HR := Lib.hid hR'
        have HTr := Lib.hid hTr
        have HGr := Lib.hid hGr
        have HO := Lib.hid hOff
        clear hR hR' hTr hGr hOff hRl
        go_wp2_with fail
        unfold LikePost
        rw [hS'.out, hE'.out, ← HR.out]
        go_ret
        exact ⟨rfl, HTr.out.mono (by omega), HGr.out, HO.out⟩
  · have hE' : likeE S a b = 50 := by rw [hE.out, if_neg hno, if_neg hq]
    have hp : 0 < (ofL S b).length := by
      cases h : ofL S b with
      | nil => exact absurd h hq
      | cons x l => simp
    generalize ofL S b = l at *
    have hab' : (a == b) = false := by simpa using hab
    replace hE' := Lib.hid hE'
    replace hno := Lib.hid hno
    replace hq := Lib.hid hq
    replace hab := Lib.hid hab
    clear hE hT hG
    go_enter Try.func11, Try.ntmps11
    go_wp2_with fail
    refine hMa.mono ?_
    rintro e w1 ⟨rfl, rfl⟩
    go_wp2_with fail
    refine hMb.mono ?_
    rintro e w3 ⟨rfl, rfl⟩
    go_wp2_with fail
    refine hOb.mono ?_
    rintro e w2 ⟨A, c, rfl, hrow, hB⟩
    go_wp2_with fail
    go_ret
    exact LikePost.err HT.out HG.out hE'.out (by decide) hB
end Go.Proofs.Ytdiejjhlgacbdaa
