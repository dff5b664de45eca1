/- LAYER 16, the document's table: Copy, Like. -/
import Derived.Test.YtdiejjhlgacbdaaYb
import Derived.StillTailTactics
set_option linter.unusedVariables false
namespace Go.Proofs.Ytdiejjhlgacbdaa
open Go.RowKit Go.ChangeShapes Go.WideShapes Go.ChangeAt

theorem own_appsP_none {W : World} {v : Value} {P : List Pr} (h : OwnP W v P) : (Builtin.append_ #[41, 41] 41 #[v, .slice none 0 0]).run Try.prog W = .ok v W := by
  obtain ⟨i0, hi, hz0, hz1, hz2⟩ := info_parts info_pair
  exact run_append_owned_none (P := Try.prog) W 0 41 41 62 i0 2 Try.underlying41 hi v P.length _ h
def CopyRef (n : Nat) (S : Int → Nat) (w : World) (e : Ending) (w' : World) : Prop := ∃ y, e = .returned (.pointer (some ⟨y, 0, none⟩)) ∧ XS (fun k => w.heap.size ≤ k ∧ k < w'.heap.size) w' y n S ∧ Below w.heap.size w w'
theorem copy_end {w W1 : World} {v1 : Value} {P : List Pr} {n : Nat} {S : Int → Nat} (hb : Below w.heap.size w W1) (ho : OwnP W1 v1 P) (hv : ∀ g, v1.ownBlock = some g → w.heap.size ≤ g) (hr : Rel S P) (hn : P.length ≤ n) :
    XS (fun k => w.heap.size ≤ k ∧ k < (W1.alloc (.cells #[v1] 43)).heap.size) (W1.alloc (.cells #[v1] 43)) W1.heap.size n S ∧ Below w.heap.size w (W1.alloc (.cells #[v1] 43)) := by
  have ha : Below W1.heap.size W1 (W1.alloc (.cells #[v1] 43)) := (Below.refl _ _).alloc (Nat.le_refl _) _
  have hsz : (W1.alloc (.cells #[v1] 43)).heap.size = W1.heap.size + 1 := by simp
  have hs := hb.size
  refine ⟨⟨P, ⟨v1, heap_alloc_new _ _, ho.off (Off.of_below (fun _ => False) ha) (fun _ _ h => h), fun e => ?_, ⟨hs, by omega⟩, fun g hg => ⟨hv g hg, ?_⟩, fun k hk => hk.2⟩, hr, hn⟩, hb.trans (ha.mono hs)⟩
  · have := own_lt ho e
    omega
  · have := own_lt ho hg
    omega
set_option maxRecDepth 20000 in
set_option maxHeartbeats 2000000 in
theorem copy_ref (O : Nat → Prop) (x n : Nat) (S : Int → Nat) (w : World) (hX : XS O w x n S) (hn : n ≤ 20000000) : Calls Try.prog 17 #[.pointer (some ⟨x, 0, none⟩)] w (CopyRef n S w) := by
  obtain ⟨P, hRT, hRel, hPn⟩ := hX
  obtain ⟨v, h1, h2, h3, h4, h5, h6⟩ := hRT
  obtain ⟨A, c, rfl, h7, hRd, h8, hlc⟩ := h2.form
  have hx := (cell_of_obj h1).1
  have ha : Below w.heap.size w (w.alloc (.cells #[] 62)) := (Below.refl _ _).alloc (Nat.le_refl _) _
  have hx0 := keep1 ha hx
  have h0 := own_empty w
  by_cases hA : A = none
  · subst hA
    have hP : P = [] := by
      by_cases hne : P = []
      · exact hne
      · obtain ⟨b, off, e, _⟩ := hRd hne
        cases e
    subst hP
    have hcz : c = 0 := by
      rcases h2.2 with ⟨e, _⟩ | ⟨g, cap, cur, e, _⟩
      · cases e; rfl
      · cases e
    subst hcz
    have hap := own_appsP_none h0
    have hF := Lib.hid (copy_end (n := n) (S := S) ha h0 (fun g hg => by cases hg; exact Nat.le_refl _) hRel hPn)
    clear h1 h2 h3 h4 h5 h6 h7 hRd h8 hlc ha h0 hRel hPn
    go_enter Try.func17, Try.ntmps17
    go_wp2_with (at_builtin; refine Go.Lib.wpList_append_run_sl _ rfl _ _ _ rfl _ _ rfl rfl hap ?_)
    go_ret
    exact ⟨(w.alloc (.cells #[] 62)).heap.size, by simp, hF.out⟩
  · obtain ⟨g, hg⟩ : ∃ g, A = some ⟨g, 0, none⟩ := by
      cases A with
      | none => exact absurd rfl hA
      | some a =>
        obtain ⟨g, hg⟩ := h8 a rfl
        exact ⟨g, by rw [hg]⟩
    subst hg
    obtain ⟨v1, W1, hap, hown, hgr, hv⟩ := own_appsP h0 g 0 c P (hRd.below ha) (by simp; omega)
    rw [List.nil_append] at hown
    have hb1 : Below w.heap.size w W1 := ((Off.of_below (fun j => w.heap.size ≤ j) ha).trans (Off.of_grown hgr (fun j e => by cases e; exact Nat.le_refl _))).below (Nat.le_refl _) (fun j h => h)
    have hF := Lib.hid (copy_end (n := n) (S := S) hb1 hown (fun j hj => by
      rcases hv with e | e
      · rw [e] at hj; cases hj; exact Nat.le_refl _
      · rw [e] at hj; cases hj; exact ha.size) hRel hPn)
    obtain ⟨A1, c1, rfl, _⟩ := hown.form
    clear h1 h2 h3 h4 h5 h6 h7 hRd h8 hlc ha h0 hRel hPn hA hown hgr hv hb1
    go_enter Try.func17, Try.ntmps17
    go_wp2_with (at_builtin; refine Go.Lib.wpList_append_run_sl _ rfl _ _ _ rfl _ _ rfl rfl hap ?_)
    go_ret
    exact ⟨_, rfl, hF.out⟩
/-- At the head of the document's Like's loop. -/
def LkHead (t : Nat) (l : List Int) (S : Int → Nat) (A : Option Addr) (O : Nat → Prop) (x n : Nat) (w : World) (base : Nat) (v8 : Value) (wr : World) : Prop := ∃ (k : Nat) (S' : Int → Nat) (P : List Pr) (OK : Nat → Prop),
  k ≤ l.length ∧ v8 = .int .i64 (k : Nat) ∧ RT OK wr x P ∧ Rel S' P ∧ P.length ≤ n + k ∧ Good S' ∧ likeR t (l.drop k) S' = likeR t l S ∧ (∀ y ∈ l.drop k, ((t : Int), y) ∉ P) ∧ RdI wr A l ∧ Off O w wr ∧ base ≤ wr.heap.size ∧ (∀ g, OK g → O g ∨ base ≤ g)
set_option maxRecDepth 20000 in
set_option maxHeartbeats 4000000 in
theorem like_ref (O : Nat → Prop) (x n : Nat) (S : Int → Nat) (a b : Int) (w : World) (hX : XS O w x n S) (hG : Good S) (hn : n ≤ 900000) : Calls Try.prog 31 #[.pointer (some ⟨x, 0, none⟩), .int .i64 a, .int .i64 b] w (RefPost O x (n + 8192) (likeS S a b) (.int .i64 (likeE S a b)) w) := by
  have hTa := tree_any a w
  have hTb := tree_any b w
  have HE := Lib.hid (show likeE S a b = if a = b ∨ mayB a 2 = false ∨ mayB b 2 = false then 1 else if ofL S b = [] then 0 else 50 from rfl)
  have hbad : likeE S a b ≠ 0 → RefPost O x (n + 8192) (likeS S a b) (.int .i64 (likeE S a b)) w (.returned (.int .i64 (likeE S a b))) w := fun h => ⟨rfl, by unfold likeS; rw [if_neg h]; exact hX.grown (Below.refl _ _) (by omega), Off.refl _ _⟩
  have mayt : ∀ t : Int, mayB t 2 = decide (0 ≤ t ∧ t ≤ 6) := fun t => by
    rw [Bool.eq_iff_iff, mayB_iff, decide_eq_true_iff]
    omega
  by_cases ha : 0 ≤ a ∧ a ≤ 6
  · by_cases hb : 0 ≤ b ∧ b ≤ 6
    · rw [decide_eq_true ha] at hTa
      rw [decide_eq_true hb] at hTb
      by_cases hab : a = b
      · have hE : likeE S a b = 1 := by rw [HE.out, if_pos (.inl hab)]
        rw [hE] at hbad ⊢
        have HB := Lib.hid (hbad (by decide))
        replace ha := Lib.hid ha
        replace hb := Lib.hid hb
        clear hbad mayt HE hE hX hG
        subst hab
        go_enter Try.func31, Try.ntmps31
        go_wp2_with fail
        refine hTa.mono ?_
        rintro e w1 ⟨rfl, rfl⟩
        go_wp2_with fail
        refine hTb.mono ?_
        rintro e w1 ⟨rfl, rfl⟩
        go_wp2_with fail
        go_ret
        exact HB.out
      · have hc : ¬ (a = b ∨ mayB a 2 = false ∨ mayB b 2 = false) := by
          rw [mayt, mayt, decide_eq_true ha, decide_eq_true hb]
          simp [hab]
        have hE := HE.out
        rw [if_neg hc] at hE
        have hO := of_ref O x n S b w hX hG (by omega)
        by_cases hol : ofL S b = []
        · rw [if_pos hol] at hE
          obtain ⟨t, rfl⟩ : ∃ t : Nat, b = (t : Int) := ⟨b.toNat, by omega⟩
          have ht7 : t < 7 := by omega
          have hS : likeS S a t = likeR t (ofL S a) S := by unfold likeS; rw [if_pos hE, Int.toNat_natCast]
          rw [hE, hS]
          have hO1 : Calls Try.prog 34 #[.pointer (some ⟨x, 0, none⟩), .int .i64 t] w fun e w' => ∃ A c, e = .returned (.slice A 0 c) ∧ Below w.heap.size w w' := hO.mono fun e w' h => by
            rw [hol] at h
            obtain ⟨A, c, he, _, hb⟩ := h
            exact ⟨A, c, he, hb⟩
          have HO2 := Lib.hid (fun (W : World) (h : XS O W x n S) => of_ref O x n S a W h hG (by omega))
          have HX := Lib.hid hX
          have HNP := Lib.hid (fun (P : List Pr) (hr : Rel S P) (y : Int) => show ((t : Int), y) ∉ P from fun hm => by
            have hp := (hr.2 _ _).1 hm
            have : y ∈ ofL S (t : Int) := by
              unfold ofL
              rw [if_pos ⟨hp.1, hp.2.1⟩, mem_blks hG]
              exact ⟨bit_ne hp.2.2, hp.2.2⟩
            rw [hol] at this
            simp at this)
          have HM := Lib.hid (fun (y : Int) (h : y ∈ ofL S a) => show mayB (t : Int) y = true from mayB_iff.2 ⟨by omega, by omega, (mem_ofL hG h).2.2.1, (mem_ofL hG h).2.2.2.1⟩)
          have HLT := Lib.hid (ofL_lt S a)
          have hlen := ofL_len S a
          have HG := Lib.hid hG
          have hab' : (a == (t : Int)) = false := by simpa using hab
          replace ha := Lib.hid ha
          replace hb := Lib.hid hb
          have hOl := Lib.hid hX.lt
          clear hbad mayt HE hE hX hG hol hc hS hO
          generalize ofL S a = l at *
          go_enter Try.func31, Try.ntmps31
          go_wp2_with fail
          refine hTa.mono ?_
          rintro e w1 ⟨rfl, rfl⟩
          go_wp2_with fail
          refine hTb.mono ?_
          rintro e w1 ⟨rfl, rfl⟩
          go_wp2_with fail
          refine hO1.mono ?_
          rintro e w2 ⟨A2, c2, rfl, hb2⟩
          have HX2 := Lib.hid (HX.out.below hb2)
          have hz2 := hb2.size
          replace hb2 := Lib.hid hb2
          clear hO1 HX hTa hTb
          go_wp2_with fail
          refine (HO2.out w2 HX2.out).mono ?_
          rintro e w3 ⟨A, c, rfl, hrow, hB⟩
          have hAb : ∀ a, A = some a → w2.heap.size ≤ a.block ∧ a.block < w3.heap.size := fun a ha => by
            obtain ⟨A1, c1, e1, h1⟩ := hrow.form
            cases e1
            exact h1 a ha
          replace hAb := Lib.hid hAb
          have hz3 := hB.size
          have HX3 := Lib.hid (HX2.out.below hB)
          have HRd := Lib.hid hrow.rd
          have HB3 := Lib.hid (hb2.out.trans (hB.mono hz2))
          clear hrow hB HO2 HX2
          go_wp2_with fail
          go_loopw [8] (fun v8 wr => LkHead t l S A O x n w1 w3.heap.size v8 wr) (fun v8 _ => l.length - (intOf v8).toNat)
          case atStart =>
            obtain ⟨P, q1, q2, q3⟩ := HX3.out
            exact ⟨0, S, P, O, Nat.zero_le _, rfl, q1, q2, by omega, HG.out, rfl, fun y _ => HNP.out P q2 y, HRd.out, Off.of_below _ HB3.out, Nat.le_refl _, fun g h => .inl h⟩
          case round =>
            obtain ⟨k, S', P, OK, hk, rfl, hRT, hRel, hPl, hGr, hR, hnin, hRl, hOff, hz, hOK⟩ := hrel
            by_cases hkl : k < l.length
            · obtain ⟨bl, off, rfl, hc⟩ := hRl (by intro h; subst h; simp at hkl)
              have d0 := hc k hkl
              have hbb := hAb.out _ rfl
              have hbOK : ¬ OK bl := fun h => by
                rcases hOK bl h with h1 | h1
                · have := hOl.out bl h1
                  have h2 : w2.heap.size ≤ bl := hbb.1
                  omega
                · have h2 : bl < w3.heap.size := hbb.2
                  omega
              have hym : l[k] ∈ l := List.getElem_mem hkl
              have hdr : l.drop k = l[k] :: l.drop (k + 1) := (List.drop_eq_getElem_cons hkl)
              have hpw : (l.drop k).Pairwise (· < ·) := HLT.out.sublist (List.drop_sublist _ _)
              rw [hdr] at hR hnin hpw
              generalize l[k] = y at *
              have hm := HM.out y hym
              have hny : ((t : Int), y) ∉ P := hnin y (by simp)
              have hbit : ¬ (S' y).testBit (t : Int).toNat = true := fun e => hny ((rel_in hRel hm).2 e)
              have hst : needS S' t y = updS S' y (withB (S' y) t) := by
                unfold needS
                rw [if_pos hm, if_neg hbit, Int.toNat_natCast]
              have hR' : likeR t (l.drop (k + 1)) (needS S' t y) = likeR t l S := by rw [hst]; exact hR
              have hRel' := Rel.need hGr hRel hm hny
              have hGn := needS_good hGr t y
              generalize needS S' t y = S2 at *
              have hnin' : ∀ z ∈ l.drop (k + 1), ((t : Int), z) ∉ P ++ [((t : Int), y)] := fun z hzm => by
                rw [List.mem_append]
                rintro (h | h)
                · exact hnin z (by simp [hzm]) h
                · simp at h
                  have := (List.pairwise_cons.1 hpw).1 z hzm
                  omega
              obtain ⟨A0, c0, cx, _⟩ := hRT.look
              have hRTd := hRT.below ((Below.refl _ wr).drew)
              have HN := Lib.hid (And.intro hR' (And.intro hRel' (And.intro hGn (And.intro hnin' (And.intro hRl (And.intro hOff hOK))))))
              have hbd : Below wr.heap.size wr wr.drew := (Below.refl _ wr).drew
              have hk0 : (0 : Int) ≤ k := by omega
              have hk1 : (k : Int) < l.length := by omega
              clear hR hR' hRel' hGn hnin' hRl hOff hOK hdr hpw hym hm hny hbit hst hnin hc hRel hGr hRT
              obtain ⟨A1, c1, A4, c4, W', v', hcx, rfl, hap0, hcx2, hfx2, hrt, hoff⟩ := push_ref hRTd t y (by omega)
              have e : (some (Value.slice A0 P.length c0)) = some (Value.slice A1 P.length c1) := cx.symm.trans hcx
              simp only [Option.some.injEq, Value.slice.injEq, true_and] at e
              obtain ⟨rfl, rfl⟩ := e
              have hap : (Builtin.append_ #[41, 41] 41 #[.slice A0 P.length c0, .slice (some ⟨wr.heap.size, 0, none⟩) 1 1]).run Try.prog (wr.alloc (.cells #[.int .i64 t, .int .i64 y] 62)).drew = .ok (.slice A4 (P ++ [((t : Int), y)]).length c4) W' := hap0
              have hoff' : Off OK wr (W'.setCell ⟨x, 0, none⟩ (.slice A4 (P ++ [((t : Int), y)]).length c4)) := (Off.of_below OK hbd).trans hoff
              have HZ := Lib.hid (And.intro (HN.out.2.2.2.2.1.off hoff' (fun a ha => by cases ha; exact hbOK)) (And.intro (HN.out.2.2.2.2.2.1.thenNew hoff' (fun g hg hlt => (HN.out.2.2.2.2.2.2 g hg).elim (fun h => h) (fun h => absurd hlt (by have := HB3.out.size; omega)))) (And.intro (Nat.le_trans hz hoff'.size) (grow_new (w := wr.drew) (w' := W'.setCell ⟨x, 0, none⟩ (.slice A4 (P ++ [((t : Int), y)]).length c4)) HN.out.2.2.2.2.2.2 hz))))
              have HRT := Lib.hid hrt
              have hba : Below wr.heap.size wr (wr.alloc (.cells #[.int .i64 t, .int .i64 y] 62)) := (Below.refl _ _).alloc (Nat.le_refl _) _
              have cx2 := keep1 hba cx
              generalize hlq : (P ++ [((t : Int), y)]).length = lq at *
              have hlq' : lq ≤ n + (k + 1) := by rw [← hlq, List.length_append]; simp; omega
              clear hoff hoff' hrt hRTd hbd hcx hba hap0 hlq hab'
              go_wp2_with fail
              go_region_law (refine Go.Lib.wp_append_run_sl _ _ _ _ rfl _ _ rfl rfl hap ?_)
              all_goals (
                clear hap cx cx2 hcx2 hfx2 d0
                go_wp2_with fail
                exact ⟨⟨k + 1, S2, P ++ [((t : Int), y)], _, by omega, by go_num, HRT.out, HN.out.2.1, by rw [List.length_append]; simp; omega, HN.out.2.2.1, HN.out.1, HN.out.2.2.2.1, HZ.out.1, HZ.out.2.1, HZ.out.2.2.1, HZ.out.2.2.2⟩, by simp [intOf]; omega⟩)
            · have hke : k = l.length := by omega
              subst hke
              rw [List.drop_length] at hR
              have hR' : S' = likeR t l S := hR
              have HF := Lib.hid (show XS (grow O w1 wr) wr x (n + 8192) (likeR t l S) from ⟨P, hRT.wide (fun g hg => (hOK g hg).elim .inl (fun h => .inr ⟨Nat.le_trans (Nat.le_trans hz2 hz3) h, hRT.choose_spec.2.2.2.2.2 g hg⟩)) (grow_lt hOl.out hOff.size), hR' ▸ hRel, by omega⟩)
              have HO := Lib.hid hOff
              clear hR hR' hRT hRel hGr hOff hRl hOK hnin
              go_wp2_with fail
              go_ret
              exact ⟨rfl, HF.out, HO.out⟩
        · rw [if_neg hol] at hE
          rw [hE] at hbad ⊢
          have hS : likeS S a b = S := by unfold likeS; rw [hE]; rfl
          rw [hS] at hbad ⊢
          have HX := Lib.hid hX
          have hl0 : ¬ ((ofL S b).length = 0) := fun e => hol (List.eq_nil_of_length_eq_zero e)
          replace ha := Lib.hid ha
          replace hb := Lib.hid hb
          clear hbad mayt HE hE hX hG hol hc hS
          generalize ofL S b = l at *
          have hl1 : (0 : Int) < (l.length : Int) := by omega
          go_enter Try.func31, Try.ntmps31
          go_wp2_with fail
          refine hTa.mono ?_
          rintro e w1 ⟨rfl, rfl⟩
          go_wp2_with fail
          refine hTb.mono ?_
          rintro e w1 ⟨rfl, rfl⟩
          go_wp2_with fail
          refine hO.mono ?_
          rintro e w2 ⟨A, c, rfl, hown, hb2⟩
          have HF := Lib.hid (And.intro (HX.out.grown hb2 (show n ≤ n + 8192 by omega)) (Off.of_below O hb2))
          clear hown hb2 hO
          go_wp2_with fail
          go_ret
          exact ⟨rfl, HF.out⟩
    · have hE : likeE S a b = 1 := by rw [HE.out, if_pos (.inr (.inr (by rw [mayt, decide_eq_false hb])))]
      rw [hE] at hbad ⊢
      have HB := Lib.hid (hbad (by decide))
      rw [decide_eq_true ha] at hTa
      rw [decide_eq_false hb] at hTb
      replace ha := Lib.hid ha
      replace hb := Lib.hid hb
      clear hbad mayt HE hE hX hG
      go_enter Try.func31, Try.ntmps31
      go_wp2_with fail
      refine hTa.mono ?_
      rintro e w1 ⟨rfl, rfl⟩
      go_wp2_with fail
      refine hTb.mono ?_
      rintro e w1 ⟨rfl, rfl⟩
      go_wp2_with fail
      go_ret
      exact HB.out
  · have hE : likeE S a b = 1 := by rw [HE.out, if_pos (.inr (.inl (by rw [mayt, decide_eq_false ha])))]
    rw [hE] at hbad ⊢
    have HB := Lib.hid (hbad (by decide))
    rw [decide_eq_false ha] at hTa
    replace ha := Lib.hid ha
    clear hbad mayt HE hE hX hG
    go_enter Try.func31, Try.ntmps31
    go_wp2_with fail
    refine hTa.mono ?_
    rintro e w1 ⟨rfl, rfl⟩
    go_wp2_with fail
    go_ret
    exact HB.out
end Go.Proofs.Ytdiejjhlgacbdaa
