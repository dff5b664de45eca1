/- WALK of layer 24: the document's Split. -/
import Derived.Test.YtajopaljiondlaaK
import Derived.Laws.DeepStrings4
set_option linter.unusedVariables false
namespace Go.Proofs.Ytajopaljiondlaa
open Go.RowKit Go.ChangeShapes Go.WideShapes Go.ChangeAt

/-- At the head of the document's loop. -/
def DHead (s : ByteArray) (w wr : World) (v4 v5 v6 : Value) : Prop := ∃ (k : Nat) (one : ByteArray) (out : List (List UInt8)) (Ls : List ByteArray) (A : Option Addr) (c : Nat), k ≤ s.size + 1 ∧ v6 = .int .i64 (k : Nat) ∧ v5 = .string one ∧ v4 = .slice A Ls.length c ∧ OwnS w.heap.size wr (.slice A Ls.length c) Ls ∧ Ls = out.map str ∧
  (∀ p ∈ out, mayB p = true) ∧ one.size + out.length ≤ k ∧ 47 ∉ one.data.toList ∧ (if k ≤ s.size then partsL s.data.toList = out ++ partsL (one.data.toList ++ s.data.toList.drop k) else partsL s.data.toList = out) ∧ Below w.heap.size w wr
theorem app_data (a b : ByteArray) : (a ++ b).data.toList = a.data.toList ++ b.data.toList := by rw [ByteArray.data_append, Array.toList_append]
theorem extract_one (s : ByteArray) (k : Nat) (h : k < s.size) : (s.extract k (k + 1)).data.toList = [s[k]] := by
  rw [ByteArray.data_extract, Array.toList_extract]
  have h' : k < s.data.toList.length := h
  simp only [List.extract]
  rw [show k + 1 - k = 1 from by omega, List.drop_eq_getElem_cons h']
  rfl
theorem slice_one (s : ByteArray) (k : Nat) (h : k < s.size) (W : World) : (Instr.slice 9 (.string s) (some (.int .i64 (k : Int))) (some (.int .i64 ((k : Int) + 1))) none).run Try.prog W = .ok (.string (s.extract k (k + 1))) W := by
  rw [run_slice_string_if _ _ _ _ _ _ _ Try.underlying9, if_pos (by omega), if_pos (by omega)]
  rw [show ((k : Int) + 1).toNat = k + 1 from by omega, Int.toNat_natCast]
set_option maxRecDepth 100000 in
set_option maxHeartbeats 2000000 in
theorem refsplit_any (s : ByteArray) (w : World) (hs : s.size ≤ 9223372036854775807) : Calls Try.prog 16 #[.string s] w (SplitPost (splitU s.data.toList) w) := by
  have hlen : s.data.toList.length = s.size := rfl
  have hU : splitU s.data.toList = if 4096 < s.size then ([], 40) else if s.data.toList = [] then ([], 0) else if (partsL s.data.toList).all mayB then ((partsL s.data.toList).map str, 0) else ([], 56) := rfl
  generalize splitU s.data.toList = U at *
  by_cases h4 : 4096 < s.size
  · rw [if_pos h4] at hU
    subst hU
    clear hlen
    go_enter Try.func16, Try.ntmps16
    go_wp2_with fail
    go_ret2
    exact ⟨none, 0, rfl, OwnS.nil _ _, Below.refl _ _⟩
  rw [if_neg h4] at hU
  cases hE : s.toList.isEmpty with
  | true =>
    have he : s.data.toList = [] := by rw [toL] at hE; simpa using hE
    rw [if_pos he] at hU
    subst hU
    clear hlen he
    go_enter Try.func16, Try.ntmps16
    go_wp2_with fail
    go_ret2
    exact ⟨none, 0, rfl, OwnS.nil _ _, Below.refl _ _⟩
  | false =>
    have he : s.data.toList ≠ [] := fun h => by rw [toL, h] at hE; cases hE
    rw [if_neg he] at hU
    replace hU := Lib.hid hU
    replace hlen := Lib.hid hlen
    clear he
    go_enter Try.func16, Try.ntmps16
    go_wp2_with fail
    go_loopw [4, 5, 6] (fun v4 v5 v6 wr => DHead s w wr v4 v5 v6) (fun _ _ v6 _ => s.size + 2 - (intOf v6).toNat)
    case atStart => exact ⟨0, ⟨#[]⟩, [], [], none, 0, by omega, rfl, rfl, rfl, OwnS.nil _ _, rfl, fun p hp => by simp at hp, Nat.le_refl _, by simp, by rw [if_pos (Nat.zero_le _)]; rfl, Below.refl _ _⟩
    case round =>
      obtain ⟨k, one, out, Ls, A, c, hk, rfl, rfl, rfl, hown, hLs, hM, hsz, h47, hP, hB⟩ := hrel
      have HB := Lib.hid hB
      have HO := Lib.hid hown
      have hbz := hB.size
      have hol : Ls.length ≤ 4097 := by rw [hLs, List.length_map]; omega
      replace hLs := Lib.hid hLs
      replace hM := Lib.hid hM
      clear hB hown
      have hos : one.data.toList.length = one.size := rfl
      have MY := Lib.hid (refmay_any one wr (by omega))
      by_cases hlt : k ≤ s.size
      · rw [if_pos hlt] at hP
        by_cases hk2 : k < s.size ∧ s.data.toList[k]? ≠ some 47
        · obtain ⟨hks, hb⟩ := hk2
          have hgb := getD_byte s k hks
          have hq : s[k] ≠ 47 := fun e => hb (by rw [hgb, e])
          have t1 : ((s[k].toNat : Int) != 47) = true := by
            have := byte_ne (c := 47) (m := 47) rfl hq
            simpa [bne] using this
          have hd : s.data.toList.drop k = s[k] :: s.data.toList.drop (k + 1) := List.drop_eq_getElem_cons (by rw [hlen.out]; exact hks)
          have he1 := extract_one s k hks
          have hes : (s.extract k (k + 1)).size = 1 := by simp [ByteArray.size_extract]; omega
          have hna : (one ++ s.extract k (k + 1)).data.toList = one.data.toList ++ [s[k]] := by rw [app_data, he1]
          have hns : (one ++ s.extract k (k + 1)).size = one.size + 1 := by rw [ByteArray.size_append, hes]
          rw [hd] at hP
          have hP2 : partsL s.data.toList = out ++ partsL ((one ++ s.extract k (k + 1)).data.toList ++ s.data.toList.drop (k + 1)) := by rw [hna, hP]; simp
          have h472 : 47 ∉ (one ++ s.extract k (k + 1)).data.toList := by
            rw [hna]
            intro hm
            rcases List.mem_append.1 hm with h | h
            · exact h47 h
            · simp at h; exact hq h.symm
          replace hP2 := Lib.hid hP2
          replace h472 := Lib.hid h472
          replace hns := Lib.hid hns
          replace hos := Lib.hid hos
          clear hb hd hgb hna he1 h47 hP hq
          have hsl := slice_one s k hks
          go_wp2_with fail
          go_roundw
          case rel => exact ⟨k + 1, _, out, Ls, A, c, by omega, by go_num, rfl, rfl, HO.out, hLs.out, hM.out, by rw [hns.out]; omega, h472.out, by rw [if_pos (by omega)]; exact hP2.out, HB.out⟩
          case measure => simp [intOf]; omega
        · by_cases hks : k < s.size
          · have hgb := getD_byte s k hks
            have hq : s[k] = 47 := by
              apply Classical.byContradiction
              intro h
              exact hk2 ⟨hks, by rw [hgb]; intro h2; exact h (Option.some.inj h2)⟩
            have t1 : ((s[k].toNat : Int) != 47) = false := by
              have := byte_eq (c := 47) (m := 47) rfl hq
              simpa [bne] using this
            have hd : s.data.toList.drop k = s[k] :: s.data.toList.drop (k + 1) := List.drop_eq_getElem_cons (by rw [hlen.out]; exact hks)
            rw [hd, hq, partsL_sep _ _ h47] at hP
            have hP2 : partsL s.data.toList = out ++ one.data.toList :: partsL (s.data.toList.drop (k + 1)) := hP
            clear hP hd hgb hk2 hq h47
            have hdat : str one.data.toList = one := str_eta one
            cases hm : mayB one.data.toList with
            | false =>
              rw [hm] at MY
              have hno := may_mem (hP2 : partsL s.data.toList = _) (p := one.data.toList) (by simp) hm
              have hU2 := hU.out
              rw [hno] at hU2
              replace hU2 := Lib.hid hU2
              clear hm hno hP2 hdat
              replace hos := Lib.hid hos
              go_wp2_with fail
              refine MY.out.mono ?_
              rintro e w2 ⟨rfl, rfl⟩
              go_wp2_with fail
              go_ret2
              exact ⟨none, 0, by rw [hU2.out]; rfl, by rw [hU2.out]; exact OwnS.nil _ _, HB.out⟩
            | true =>
              rw [hm] at MY
              replace hm := Lib.hid hm
              obtain ⟨v', w3, hap, hown3, hb3⟩ := owns_app HO.out one (by omega) hbz
              obtain ⟨A3, c3, rfl, _, _⟩ := hown3.form
              have e1 : (Ls ++ [one]).length = Ls.length + 1 := by simp
              rw [e1] at hap
              have e2 : (out ++ [one.data.toList]).map str = Ls ++ [one] := by rw [hLs.out, List.map_append, List.map_cons, List.map_nil, hdat]
              have HO3 := Lib.hid hown3
              have HB3 := Lib.hid (HB.out.trans (hb3.mono (Nat.le_refl _)))
              replace e1 := Lib.hid e1
              replace e2 := Lib.hid e2
              replace hP2 := Lib.hid hP2
              clear hown3 hb3 hdat
              replace hos := Lib.hid hos
              go_wp2_with fail
              refine MY.out.mono ?_
              rintro e w2 ⟨rfl, rfl⟩
              go_wp2_with (at_builtin; refine Go.Lib.wpList_append_run_sl _ rfl _ _ _ rfl _ _ rfl rfl hap ?_)
              go_roundw
              case rel => exact ⟨k + 1, ⟨#[]⟩, out ++ [one.data.toList], _, A3, c3, by omega, by go_num, rfl, by rw [e1.out], HO3.out, e2.out.symm, fun p hp => by
                rcases List.mem_append.1 hp with h | h
                · exact hM.out p h
                · simp at h
                  rw [h]; exact hm.out, by
                have : (⟨#[]⟩ : ByteArray).size = 0 := rfl
                rw [this, List.length_append, List.length_cons, List.length_nil]; omega, by simp, (by rw [if_pos (by omega), hP2.out]; simp), HB3.out⟩
              case measure => simp [intOf]; omega
          · have hke : k = s.size := by omega
            have hd : s.data.toList.drop k = [] := List.drop_eq_nil_of_le (by rw [hlen.out]; omega)
            rw [hd, List.append_nil, partsL_last _ h47] at hP
            have hP2 : partsL s.data.toList = out ++ [one.data.toList] := hP
            clear hP hd hk2 h47
            replace hke := Lib.hid hke
            have hdat : str one.data.toList = one := str_eta one
            cases hm : mayB one.data.toList with
            | false =>
              rw [hm] at MY
              have hno := may_mem (hP2 : partsL s.data.toList = _) (p := one.data.toList) (by simp) hm
              have hU2 := hU.out
              rw [hno] at hU2
              replace hU2 := Lib.hid hU2
              clear hm hno hP2 hdat
              replace hos := Lib.hid hos
              go_wp2_with fail
              refine MY.out.mono ?_
              rintro e w2 ⟨rfl, rfl⟩
              go_wp2_with fail
              go_ret2
              exact ⟨none, 0, by rw [hU2.out]; rfl, by rw [hU2.out]; exact OwnS.nil _ _, HB.out⟩
            | true =>
              rw [hm] at MY
              replace hm := Lib.hid hm
              obtain ⟨v', w3, hap, hown3, hb3⟩ := owns_app HO.out one (by omega) hbz
              obtain ⟨A3, c3, rfl, _, _⟩ := hown3.form
              have e1 : (Ls ++ [one]).length = Ls.length + 1 := by simp
              rw [e1] at hap
              have e2 : (out ++ [one.data.toList]).map str = Ls ++ [one] := by rw [hLs.out, List.map_append, List.map_cons, List.map_nil, hdat]
              have HO3 := Lib.hid hown3
              have HB3 := Lib.hid (HB.out.trans (hb3.mono (Nat.le_refl _)))
              replace e1 := Lib.hid e1
              replace e2 := Lib.hid e2
              replace hP2 := Lib.hid hP2
              clear hown3 hb3 hdat
              replace hos := Lib.hid hos
              go_wp2_with fail
              refine MY.out.mono ?_
              rintro e w2 ⟨rfl, rfl⟩
              go_wp2_with (at_builtin; refine Go.Lib.wpList_append_run_sl _ rfl _ _ _ rfl _ _ rfl rfl hap ?_)
              go_roundw
              case rel => exact ⟨k + 1, ⟨#[]⟩, out ++ [one.data.toList], _, A3, c3, by omega, by go_num, rfl, by rw [e1.out], HO3.out, e2.out.symm, fun p hp => by
                rcases List.mem_append.1 hp with h | h
                · exact hM.out p h
                · simp at h
                  rw [h]; exact hm.out, by
                have : (⟨#[]⟩ : ByteArray).size = 0 := rfl
                rw [this, List.length_append, List.length_cons, List.length_nil]; omega, by simp, (by have := hke.out; rw [if_neg (by omega)]; exact hP2.out), HB3.out⟩
              case measure => simp [intOf]; omega
      · rw [if_neg hlt] at hP
        have hU2 := hU.out
        have hall : (partsL s.data.toList).all mayB = true := by
          rw [hP, List.all_eq_true]
          exact fun p hp => hM.out p hp
        rw [hall, if_pos rfl, hP, ← hLs.out] at hU2
        replace hU2 := Lib.hid hU2
        clear hall hP h47
        replace hos := Lib.hid hos
        go_wp2_with fail
        go_ret2
        exact ⟨A, c, by rw [hU2.out]; rfl, by rw [hU2.out]; exact HO.out, HB.out⟩
end Go.Proofs.Ytajopaljiondlaa
