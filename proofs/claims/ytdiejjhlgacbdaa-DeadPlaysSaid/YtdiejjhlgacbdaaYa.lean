/- LAYER 16, the document's table: Of, All. -/
import Derived.Test.YtdiejjhlgacbdaaX
set_option linter.unusedVariables false
namespace Go.Proofs.Ytdiejjhlgacbdaa
open Go.RowKit Go.ChangeShapes Go.WideShapes Go.ChangeAt

theorem take_snocP (l : List Pr) (k : Nat) (h : k < l.length) : l.take (k + 1) = l.take k ++ [l[k]] := List.take_succ_eq_append_getElem h
def ofOut (P : List Pr) (a : Int) (k : Nat) : List Int := ((P.take k).filter (fun p => decide (p.1 = a))).map (·.2)
theorem ofOut_succ (P : List Pr) (a : Int) (k : Nat) (h : k < P.length) : ofOut P a (k + 1) = if P[k].1 = a then ofOut P a k ++ [P[k].2] else ofOut P a k := by
  unfold ofOut
  rw [take_snocP P k h, List.filter_append, List.map_append]
  by_cases e : P[k].1 = a <;> simp [e]
theorem ofOut_len (P : List Pr) (a : Int) (k : Nat) : (ofOut P a k).length ≤ k := by
  unfold ofOut
  rw [List.length_map]
  refine Nat.le_trans (List.length_filter_le _ _) ?_
  rw [List.length_take]
  omega
def allOut (P : List Pr) (k : Nat) : List Int := (P.take k).map (·.2)
theorem allOut_succ (P : List Pr) (k : Nat) (h : k < P.length) : allOut P (k + 1) = allOut P k ++ [P[k].2] := by
  unfold allOut
  rw [take_snocP P k h, List.map_append]
  rfl
theorem allOut_len (P : List Pr) (k : Nat) : (allOut P k).length ≤ k := by
  unfold allOut
  rw [List.length_map, List.length_take]
  omega
theorem mem_ofL' {S : Int → Nat} (hG : Good S) {P : List Pr} (hr : Rel S P) (a y : Int) : y ∈ ofL S a ↔ y ∈ ofOut P a P.length := by
  unfold ofOut
  rw [List.take_length]
  simp only [List.mem_map, List.mem_filter, decide_eq_true_iff]
  constructor
  · intro h
    obtain ⟨h0, h6, _, _, hb⟩ := mem_ofL hG h
    exact ⟨(a, y), ⟨(hr.2 a y).2 ⟨h0, h6, hb⟩, rfl⟩, rfl⟩
  · rintro ⟨⟨c, d⟩, ⟨hp, hc⟩, hd⟩
    simp only at hc hd
    subst hc
    subst hd
    obtain ⟨h0, h6, hb⟩ := (hr.2 c d).1 hp
    unfold ofL
    rw [if_pos ⟨h0, h6⟩, mem_blks hG]
    exact ⟨bit_ne hb, hb⟩
theorem mem_all' {S : Int → Nat} (hG : Good S) {P : List Pr} (hr : Rel S P) (y : Int) : y ∈ blks prAll S ↔ y ∈ allOut P P.length := by
  unfold allOut
  rw [List.take_length, mem_all hG]
  simp only [List.mem_map]
  constructor
  · intro h
    by_cases hn : ∃ u, u < 7 ∧ (S y).testBit u = true
    · obtain ⟨u, hu, hb⟩ := hn
      exact ⟨((u : Int), y), (hr.2 _ _).2 ⟨by omega, by omega, by simpa using hb⟩, rfl⟩
    · refine absurd ((mask_zero (hG y).1).2 fun u hu => ?_) h
      cases hb : (S y).testBit u
      · rfl
      · exact absurd ⟨u, hu, hb⟩ hn
  · rintro ⟨⟨c, d⟩, hp, hd⟩
    simp only at hd
    subst hd
    exact bit_ne ((hr.2 c d).1 hp).2.2
theorem ofL_lt (S : Int → Nat) (a : Int) : (ofL S a).Pairwise (· < ·) := by
  unfold ofL
  split
  · exact blks_lt _ _
  · exact List.Pairwise.nil
def LHeadP (n : Nat) (out : Nat → List Int) (w : World) (v v2 : Value) (wr : World) : Prop := ∃ k, k ≤ n ∧ v2 = .int .i64 (k : Nat) ∧ OwnI w.heap.size wr v (out k) ∧ Below w.heap.size w wr
set_option maxRecDepth 100000 in
set_option maxHeartbeats 2000000 in
theorem of_ref (O : Nat → Prop) (x n : Nat) (S : Int → Nat) (a : Int) (w : World) (hX : XS O w x n S) (hG : Good S) (hn : n ≤ 1000000) : Calls Try.prog 34 #[.pointer (some ⟨x, 0, none⟩), .int .i64 a] w (ListPost (ofL S a) w) := by
  obtain ⟨P, hRT, hRel, hPn⟩ := hX
  obtain ⟨A0, c0, hx, hR⟩ := hRT.look
  have HL := Lib.hid (fun (y : Int) => mem_ofL' hG hRel a y)
  have HP := Lib.hid (ofL_lt S a)
  have HR := Lib.hid hR
  have hlen : P.length ≤ 1000000 := by omega
  clear hRT hRel hR hPn
  generalize ofL S a = L at *
  go_enter Try.func34, Try.ntmps34
  go_wp2_with fail
  go_loopw [5, 6] (fun v5 v6 wr => LHeadP P.length (ofOut P a) w v5 v6 wr) (fun _ v6 _ => P.length - (intOf v6).toNat)
  case atStart => exact ⟨0, Nat.zero_le _, rfl, OwnI.nil _ _, Below.refl _ _⟩
  case round =>
    obtain ⟨k, hk, rfl, hrow, hB⟩ := hrel
    obtain ⟨A, c, rfl, hA⟩ := hrow.form
    have hle := ofOut_len P a k
    have cx := keep1 hB hx
    have hz := hB.size
    by_cases hlt : k < P.length
    · obtain ⟨b, off, rfl, hc⟩ := HR.out (by intro h; subst h; simp at hlt)
      obtain ⟨d0, d1⟩ := hc k hlt
      replace d0 := keep1 hB d0
      replace d1 := keep1 hB d1
      have hw := ofOut_succ P a k hlt
      have hk0 : (0 : Int) ≤ k := by omega
      have hk1 : (k : Int) < P.length := by omega
      generalize P[k] = y at *
      obtain ⟨y0, y1⟩ := y
      simp only at d0 d1 hw
      clear hc hx
      by_cases he : y0 = a
      · subst he
        rw [if_pos rfl] at hw
        generalize ofOut P y0 k = out at *
        obtain ⟨v', w3, hap, hown', hg3, hv'⟩ := own_appI hrow y1 (by omega) hz
        have HW := Lib.hid hw
        have HN := Lib.hid (hB.trans ((own_grow hrow hz hg3).below hz (fun x h => h)))
        obtain ⟨A2, c2, rfl, _⟩ := hown'.form
        have HO := Lib.hid hown'
        clear hw hrow hB hown' hg3 hv' hA
        go_wp2_with (at_builtin; refine Go.Lib.wpList_append_run_sl _ rfl _ _ _ rfl _ _ rfl rfl hap ?_)
        go_roundw
        case rel => exact ⟨k + 1, by omega, by go_num, by rw [HW.out]; have h := HO.out; rw [List.length_append] at h; exact h, HN.out⟩
        case measure => simp [intOf]; omega
      · rw [if_neg he] at hw
        have HW := Lib.hid hw
        have HO := Lib.hid hrow
        have HN := Lib.hid hB
        clear hw hrow hB hA
        go_wp2_with fail
        go_roundw
        case rel => exact ⟨k + 1, by omega, by go_num, by rw [HW.out]; exact HO.out, HN.out⟩
        case measure => simp [intOf]; omega
    · have hke : k = P.length := by omega
      subst hke
      have hS := sorted_any A c (ofOut P a P.length) wr hrow.rd (by omega) L HP.out (fun y => HL.out y)
      have HN := Lib.hid hB
      clear hrow hB hA hx
      go_wp2_with fail
      refine hS.mono ?_
      rintro e w2 ⟨A2, c2, rfl, hown, hb⟩
      have HF := Lib.hid (And.intro (hown.base hz) (HN.out.trans (hb.mono hz)))
      clear hown hb hS
      go_wp2_with fail
      go_ret
      exact ⟨A2, c2, rfl, HF.out⟩
set_option maxRecDepth 100000 in
set_option maxHeartbeats 2000000 in
theorem all_ref (O : Nat → Prop) (x n : Nat) (S : Int → Nat) (w : World) (hX : XS O w x n S) (hG : Good S) (hn : n ≤ 1000000) : Calls Try.prog 36 #[.pointer (some ⟨x, 0, none⟩)] w (ListPost (blks prAll S) w) := by
  obtain ⟨P, hRT, hRel, hPn⟩ := hX
  obtain ⟨A0, c0, hx, hR⟩ := hRT.look
  have HL := Lib.hid (fun (y : Int) => mem_all' hG hRel y)
  have HP := Lib.hid (blks_lt prAll S)
  have HR := Lib.hid hR
  have hlen : P.length ≤ 1000000 := by omega
  clear hRT hRel hR hPn
  generalize blks prAll S = L at *
  go_enter Try.func36, Try.ntmps36
  go_wp2_with fail
  go_loopw [3, 4] (fun v3 v4 wr => LHeadP P.length (allOut P) w v3 v4 wr) (fun _ v4 _ => P.length - (intOf v4).toNat)
  case atStart => exact ⟨0, Nat.zero_le _, rfl, OwnI.nil _ _, Below.refl _ _⟩
  case round =>
    obtain ⟨k, hk, rfl, hrow, hB⟩ := hrel
    obtain ⟨A, c, rfl, hA⟩ := hrow.form
    have hle := allOut_len P k
    have cx := keep1 hB hx
    have hz := hB.size
    by_cases hlt : k < P.length
    · obtain ⟨b, off, rfl, hc⟩ := HR.out (by intro h; subst h; simp at hlt)
      obtain ⟨d0, d1⟩ := hc k hlt
      replace d0 := keep1 hB d0
      replace d1 := keep1 hB d1
      have hw := allOut_succ P k hlt
      have hk0 : (0 : Int) ≤ k := by omega
      have hk1 : (k : Int) < P.length := by omega
      generalize P[k] = y at *
      obtain ⟨y0, y1⟩ := y
      simp only at d0 d1 hw
      clear hc hx
      generalize allOut P k = out at *
      obtain ⟨v', w3, hap, hown', hg3, hv'⟩ := own_appI hrow y1 (by omega) hz
      have HW := Lib.hid hw
      have HN := Lib.hid (hB.trans ((own_grow hrow hz hg3).below hz (fun x h => h)))
      obtain ⟨A2, c2, rfl, _⟩ := hown'.form
      have HO := Lib.hid hown'
      clear hw hrow hB hown' hg3 hv' hA
      go_wp2_with (at_builtin; refine Go.Lib.wpList_append_run_sl _ rfl _ _ _ rfl _ _ rfl rfl hap ?_)
      go_roundw
      case rel => exact ⟨k + 1, by omega, by go_num, by rw [HW.out]; have h := HO.out; rw [List.length_append] at h; exact h, HN.out⟩
      case measure => simp [intOf]; omega
    · have hke : k = P.length := by omega
      subst hke
      have hS := sorted_any A c (allOut P P.length) wr hrow.rd (by omega) L HP.out (fun y => HL.out y)
      have HN := Lib.hid hB
      clear hrow hB hA hx
      go_wp2_with fail
      refine hS.mono ?_
      rintro e w2 ⟨A2, c2, rfl, hown, hb⟩
      have HF := Lib.hid (And.intro (hown.base hz) (HN.out.trans (hb.mono hz)))
      clear hown hb hS
      go_wp2_with fail
      go_ret
      exact ⟨A2, c2, rfl, HF.out⟩
end Go.Proofs.Ytdiejjhlgacbdaa
