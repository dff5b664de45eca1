/- WALK of NameTexts. -/
import Derived.Test.YtajopaljiondlaaX
set_option linter.unusedVariables false
namespace Go.Proofs.Ytajopaljiondlaa
open Go.RowKit Go.ChangeShapes Go.WideShapes Go.ChangeAt

theorem append_in {w : World} {A : Option Addr} {c : Nat} {l : List ByteArray} (hR : RdT w A l) (hl : l.length ≤ 1000) (hAc : A = none → c = 0) :
    ∃ v' w', (Builtin.append_ #[35, 35] 35 #[.slice (some ⟨w.heap.size, 0, none⟩) 0 0, .slice A l.length c]).run Try.prog (w.alloc (.cells #[] 9)) = .ok v' w' ∧ OwnS w.heap.size w' v' l ∧ Below w.heap.size w w' := by
  obtain ⟨i0, hi, hz0, hz1, hz2⟩ := info_parts info_str
  have hown : (w.alloc (.cells #[] 9)).ownsRow w.heap.size 9 1 (.slice (some ⟨w.heap.size, 0, none⟩) 0 0) 0 [] := ⟨rfl, .inr ⟨w.heap.size, 0, _, rfl, Nat.le_refl _, heap_alloc_new w _, Nat.le_refl _, by unfold maxLen; omega, rfl, rfl⟩⟩
  have hbl : Below w.heap.size w (w.alloc (.cells #[] 9)) := (Below.refl _ _).alloc (Nat.le_refl _) _
  cases A with
  | none =>
    have hle : l = [] := by
      apply Classical.byContradiction
      intro h
      obtain ⟨b, off, e, _⟩ := hR h
      cases e
    subst hle
    obtain rfl := hAc rfl
    have hr := run_append_owned_none (P := Try.prog) (w := w.alloc (.cells #[] 9)) w.heap.size 35 35 9 i0 1 Try.underlying35 hi _ _ _ hown
    exact ⟨_, _, hr, hown, hbl⟩
  | some a =>
    have hnews : ∀ j u, (strs l)[j]? = some u → (w.alloc (.cells #[] 9)).cell? (a.add j) = some u := fun j u hj => by
      unfold strs at hj
      rw [List.getElem?_map] at hj
      by_cases hjl : j < l.length
      · obtain ⟨b, off, e, hc⟩ := hR (by intro h; subst h; simp at hjl)
        obtain rfl := Option.some.inj e
        rw [List.getElem?_eq_getElem hjl] at hj
        simp at hj
        subst hj
        rw [Go.WideShapes.add_plain]
        exact keep1 hbl (hc j hjl)
      · rw [List.getElem?_eq_none (by omega)] at hj
        cases hj
    obtain ⟨v', w', hr, ho, hg, _⟩ := run_append_own (P := Try.prog) (w.alloc (.cells #[] 9)) w.heap.size 35 35 9 i0 _ 1 16 Try.underlying35 hi hz0 hz1 hz2 rfl (by omega) _ _ _ hown a l.length c (strs l) (by simp [strs]) hnews (by
      intro u hu
      unfold strs at hu
      obtain ⟨x, _, rfl⟩ := List.mem_map.1 hu
      rfl) (by unfold maxLen; omega) (by omega) (by simp)
    refine ⟨v', w', hr, ?_, hbl.grown hg (by simp) (fun k e => by simp [Value.ownBlock] at e; omega)⟩
    unfold OwnS
    rw [Nat.zero_add, List.nil_append] at ho
    exact ho
/-- A row that is written over. -/
def Spoil (g n : Nat) (w : World) : Prop := ∀ k, k < n → (∃ t, w.cell? ⟨g, k, none⟩ = some (.string t)) ∧ w.frozen? ⟨g, k, none⟩ = false
theorem Spoil.set {g n : Nat} {w : World} (h : Spoil g n w) (k : Nat) (t : ByteArray) (hk : k < n) : Spoil g n (w.setCell ⟨g, k, none⟩ (.string t)) := fun j hj => by
  rw [World.frozen?_setCell]
  refine ⟨?_, (h j hj).2⟩
  by_cases e : j = k
  · subst e
    obtain ⟨u, hu⟩ := (h j hj).1
    exact ⟨t, World.cell?_setCell_same' _ _ _ (by rw [hu]; rfl)⟩
  · obtain ⟨u, hu⟩ := (h j hj).1
    exact ⟨u, (World.cell?_setCell_other w _ _ _ (fun e2 => by simp at e2; first | done | omega)).trans hu⟩
set_option maxRecDepth 100000 in
set_option maxHeartbeats 4000000 in
theorem texts_walk (s : ByteArray) (A : Option Addr) (c : Nat) (l : List ByteArray) (w : World) (hs : s.size ≤ maxLen) (hR : RdT w A l) (hlm : l.length ≤ maxLen) (hlc : l.length ≤ c) (hok : ∀ o ∈ l, o.size ≤ maxLen) (hAc : A = none → c = 0) :
    Calls Try.prog 5 #[.string s, .slice A l.length c] w fun e w' => e = .returned (.bool true) ∧ Below w.heap.size w w' := by
  have HL := Lib.hid (long_any A c l w hR hlm hok)
  have HR := Lib.hid hR
  have HAc := Lib.hid hAc
  clear hR hok hAc
  unfold maxLen at hs hlm
  by_cases h6 : 6000 < s.size
  · go_enter Try.func5, Try.ntmps5
    go_wp2_with fail
    refine (awake_any w).mono ?_
    rintro e w1 ⟨rfl, hb⟩
    replace hb := Lib.hid hb
    go_wp2_with fail
    go_ret
    exact ⟨rfl, hb.out⟩
  go_enter Try.func5, Try.ntmps5
  go_wp2_with fail
  refine HL.out.mono ?_
  rintro e w1 ⟨b, rfl, hb, rfl⟩
  cases b with
  | true =>
    clear hb
    go_wp2_with fail
    refine (awake_any w).mono ?_
    rintro e w1 ⟨rfl, hb⟩
    replace hb := Lib.hid hb
    go_wp2_with fail
    go_ret
    exact ⟨rfl, hb.out⟩
  | false =>
    have HS := Lib.hid (hb rfl)
    clear hb
    have hl2 : l.length ≤ 200 := HS.out.1
    have SP := Lib.hid (fun W => split_any s W (by omega))
    have SR := Lib.hid (fun W => refsplit_any s W (by omega))
    have LN := Lib.hid (split_len s.data.toList)
    have M1 := Lib.hid (fun W => may_any s W (by omega))
    have M2 := Lib.hid (fun W => refmay_any s W (by omega))
    generalize mayB s.data.toList = mb at *
    generalize splitU s.data.toList = V at *
    obtain ⟨vl, cv⟩ := V
    have hvl : vl.length ≤ 4097 := LN.out.1
    generalize hJU : joinU l = U at *
    obtain ⟨u, cu⟩ := U
    replace hJU := Lib.hid hJU
    go_wp2_with fail
    refine (SP.out w).mono ?_
    rintro e w1 ⟨A1, c1, rfl, ho1, hb⟩
    have B1 := Lib.hid hb
    have R1 := Lib.hid (HR.out.below hb)
    have hga : ∀ g, (Value.slice A1 vl.length c1).ownBlock = some g → w.heap.size ≤ g ∧ g < w1.heap.size := fun g hg => own_block ho1 hg
    replace hga := Lib.hid hga
    replace ho1 := Lib.hid ho1
    clear hb
    simp only []
    go_wp2_with fail
    refine (SR.out w1).mono ?_
    rintro e w2 ⟨A2, c2, rfl, ho2, hb⟩
    have B2 := Lib.hid (B1.out.trans (hb.mono B1.out.size))
    have R2 := Lib.hid (R1.out.below hb)
    have O12 := Lib.hid (ho1.out.below hb)
    replace ho2 := Lib.hid ho2
    clear hb ho1 R1 B1
    simp only []
    obtain ⟨v3, w3, hap, ho3, hb3⟩ := append_in R2.out (by omega) HAc.out
    obtain ⟨A3, c3, rfl, _, _⟩ := ho3.form
    have B3 := Lib.hid (B2.out.trans (hb3.mono B2.out.size))
    have R3 := Lib.hid (R2.out.below hb3)
    have O13 := Lib.hid (O12.out.below hb3)
    have O23 := Lib.hid (ho2.out.below hb3)
    have J3 := Lib.hid (join_any A3 c3 l w3 ho3.rd (own_bk ho3).1 (by omega) (own_bk ho3).2 (fun o hx => by have := HS.out.2 o hx; omega))
    rw [hJU.out] at J3
    replace ho3 := Lib.hid ho3
    clear hb3 ho2 R2 B2 O12
    go_wp2_with (at_builtin; refine Go.Lib.wpList_append_run_sl _ rfl _ _ _ rfl _ _ rfl rfl hap ?_)
    refine J3.out.mono ?_
    rintro e w4 ⟨rfl, hb⟩
    have B4 := Lib.hid (B3.out.trans (hb.mono B3.out.size))
    have R4 := Lib.hid (R3.out.below hb)
    have O14 := Lib.hid (O13.out.below hb)
    have O24 := Lib.hid (O23.out.below hb)
    have O34 := Lib.hid (ho3.out.below hb)
    have J4 := Lib.hid (refjoin_any A c l w4 R4.out (by omega) (fun o hx => by have := HS.out.2 o hx; omega))
    rw [hJU.out] at J4
    clear hb ho3 J3 R3 B3 O13 O23 hap
    go_wp2_with fail
    refine J4.out.mono ?_
    rintro e w5 ⟨rfl, rfl⟩
    go_wp2_with fail
    refine (M1.out w4).mono ?_
    rintro e w5 ⟨rfl, rfl⟩
    go_wp2_with fail
    refine (M2.out w4).mono ?_
    rintro e w5 ⟨rfl, rfl⟩
    have SM := Lib.hid (same_any A1 A2 c1 c2 vl vl w4 O14.out.rd O24.out.rd (by omega) (by omega))
    rw [decide_eq_true (rfl : vl = vl)] at SM
    go_wp2_with fail
    refine SM.out.mono ?_
    rintro e w5 ⟨rfl, hb⟩
    have B5 := Lib.hid (B4.out.trans (hb.mono B4.out.size))
    have R5 := Lib.hid (R4.out.below hb)
    have O15 := Lib.hid (O14.out.below hb)
    have O25 := Lib.hid (O24.out.below hb)
    have O35 := Lib.hid (O34.out.below hb)
    have S5 := Lib.hid (same_any A3 A c3 c l l w5 O35.out.rd R5.out (by omega) (by omega))
    rw [decide_eq_true (rfl : l = l)] at S5
    clear hb SM B4 R4 O14 O24 O34
    go_wp2_with fail
    refine S5.out.mono ?_
    rintro e w6 ⟨rfl, hb⟩
    have B6 := Lib.hid (B5.out.trans (hb.mono B5.out.size))
    have O16 := Lib.hid (O15.out.below hb)
    have O26 := Lib.hid (O25.out.below hb)
    clear hb S5 B5 R5 O15 O25 O35
    obtain ⟨ga, hne, hSp, hA1, hgw⟩ : ∃ ga, (∀ g, (Value.slice A2 vl.length c2).ownBlock = some g → ¬ g = ga) ∧ Spoil ga vl.length w6 ∧ (vl ≠ [] → A1 = some ⟨ga, 0, none⟩) ∧ w.heap.size ≤ ga := by
      by_cases hv : vl = []
      · subst hv
        exact ⟨w6.heap.size, fun g hg => by have := (own_block O26.out hg).2; omega, fun k hk => by simp at hk, fun h => absurd rfl h, B6.out.size⟩
      · obtain ⟨A', c', e', _, hcell⟩ := O16.out.form
        simp only [Value.slice.injEq, true_and] at e'
        obtain ⟨rfl, rfl⟩ := e'
        obtain ⟨g1, rfl, hcl⟩ := hcell hv
        have hg1 := hga.out g1 rfl
        exact ⟨g1, fun g hg => by have := (own_block O26.out hg).1; omega, fun k hk => ⟨⟨_, (hcl k hk).1⟩, (hcl k hk).2⟩, fun _ => rfl, hg1.1⟩
    replace hne := Lib.hid hne
    replace hSp := Lib.hid hSp
    replace hA1 := Lib.hid hA1
    clear O16 hga
    go_wp2_with fail
    go_loopw [14] (fun v14 wr => ∃ k : Nat, k ≤ vl.length ∧ v14 = .int .i64 (k : Nat) ∧ Off (fun b => b = ga) w6 wr ∧ Spoil ga vl.length wr) (fun v14 _ => vl.length - (intOf v14).toNat)
    case atStart => exact ⟨0, Nat.zero_le _, rfl, Off.refl _ _, hSp.out⟩
    case round =>
      obtain ⟨k, hk, rfl, hoff, hsp⟩ := hrel
      have HOf := Lib.hid hoff
      have HSp := Lib.hid hsp
      by_cases hlt : k < vl.length
      · obtain ⟨⟨t, ht⟩, hf⟩ := hsp k hlt
        have hA := hA1.out (by intro h; subst h; simp at hlt)
        subst hA
        have o1 := setCell_off wr ⟨ga, k, none⟩ (.string ⟨#[115, 112, 111, 105, 108, 116]⟩)
        have H1 := Lib.hid (HOf.out.trans o1)
        have H2 := Lib.hid (HSp.out.set k ⟨#[115, 112, 111, 105, 108, 116]⟩ hlt)
        clear o1 hoff hsp
        go_wp2_with fail
        go_roundw
        case rel => exact ⟨k + 1, by omega, by go_num, H1.out, H2.out⟩
        case measure => simp [intOf]; omega
      · have O27 := Lib.hid (O26.out.off hoff hne.out)
        have B7 := Lib.hid (B6.out.trans (hoff.below B6.out.size (fun x hx => by have : x = ga := hx; omega)))
        have hkl : k = vl.length := by omega
        subst hkl
        clear hoff hsp HSp HOf
        go_wp2_with fail
        refine (SP.out wr).mono ?_
        rintro e w8 ⟨A8, c8, rfl, ho8, hb⟩
        have B8 := Lib.hid (B7.out.trans (hb.mono B7.out.size))
        have O28 := Lib.hid (O27.out.below hb)
        have S8 := Lib.hid (same_any A8 A2 c8 c2 vl vl w8 ho8.rd O28.out.rd (by omega) (by omega))
        rw [decide_eq_true (rfl : vl = vl)] at S8
        clear hb ho8
        simp only []
        go_wp2_with fail
        refine S8.out.mono ?_
        rintro e w9 ⟨rfl, hb⟩
        have B9 := Lib.hid (B8.out.trans (hb.mono B8.out.size))
        clear hb S8
        go_wp2_with fail
        refine (awake_any w9).mono ?_
        rintro e w10 ⟨rfl, hb⟩
        have B10 := Lib.hid (B9.out.trans (hb.mono B9.out.size))
        clear hb
        go_wp2_with fail
        go_ret
        exact ⟨rfl, B10.out⟩
end Go.Proofs.Ytajopaljiondlaa
