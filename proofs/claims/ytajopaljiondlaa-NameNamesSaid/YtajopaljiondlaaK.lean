/- WALKS of layer 24: strings.Cut; Split, the program's and the document's. -/
import Derived.Test.YtajopaljiondlaaJ
import Derived.WalkMore
set_option linter.unusedVariables false
namespace Go.Proofs.Ytajopaljiondlaa
open Go.RowKit Go.ChangeShapes Go.WideShapes Go.ChangeAt

theorem extract_take (s : ByteArray) (o : Nat) : s.extract 0 o = str (s.data.toList.take o) := by
  apply bytes_inj
  simp [str, ByteArray.data_extract, Array.toList_extract]
theorem extract_drop (s : ByteArray) (o : Nat) : s.extract o s.size = str (s.data.toList.drop o) := by
  apply bytes_inj
  simp only [str, ByteArray.data_extract, Array.toList_extract, List.extract]
  rw [List.take_of_length_le]
  have : s.data.toList.length = s.size := rfl
  rw [List.length_drop, this]
  exact Nat.le_refl _
/-- What Cut hands back. -/
def CutPost (s : List UInt8) (w : World) (e : Ending) (w' : World) : Prop := e = .returned (.tuple #[.string (str (cutU s).1), .string (str (cutU s).2.1), .bool (cutU s).2.2]) ∧ ∃ n, w' = w.drewN n
set_option maxHeartbeats 1000000 in
theorem slcut_any (s : ByteArray) (w : World) (hs : s.size ≤ 1000000) : Calls Try.prog 32 #[.string s, .string ⟨#[47]⟩] w (CutPost s.data.toList w) := by
  have C1 := Lib.hid (Try.stringslite_Index_one s 47)
  have hge := Lib.indexByte_ge s.data.toList 47
  have hlen : s.data.toList.length = s.size := rfl
  have hcs := fun h => (cut_some (s := s.data.toList) h).2.2
  have HU := Lib.hid (show cutU s.data.toList = if 0 ≤ Lib.indexByte s.data.toList 47 then (s.data.toList.take (Lib.indexByte s.data.toList 47).toNat, s.data.toList.drop ((Lib.indexByte s.data.toList 47).toNat + 1), true) else (s.data.toList, [], false) from rfl)
  generalize Lib.indexByte s.data.toList 47 = i at *
  rw [hlen] at hcs
  replace hlen := Lib.hid hlen
  by_cases hi : 0 ≤ i
  · obtain ⟨o, rfl⟩ : ∃ o : Nat, i = (o : Int) := ⟨i.toNat, by omega⟩
    have ho : o < s.size := by simpa using hcs hi
    have hU := HU.out
    rw [if_pos hi, Int.toNat_natCast] at hU
    replace hU := Lib.hid hU
    clear HU hcs hge
    have hw1 : IntKind.i64.wrap ((o : Int) + 1) = (o : Int) + 1 := by rw [IntKind.wrap_i64]; omega
    have hw2 : ((o : Int) + 1).toNat = o + 1 := by omega
    go_enter Try.func32, Try.ntmps32
    go_wp2_with fail
    refine (C1.out w).mono ?_
    rintro e w1 ⟨rfl, rfl⟩
    go_wp2_with fail
    go_quiet (fail)
    go_wp2_with fail
    refine bodyPost_ret (v := .tuple #[.string (s.extract 0 o), .string (s.extract (o + 1) s.size), .bool true]) (by simp [results, Try.results32, go_sem]) rfl ⟨?_, _, rfl⟩
    rw [hU.out, extract_take, extract_drop]
  · have hU := HU.out
    rw [if_neg hi] at hU
    replace hU := Lib.hid hU
    clear HU hcs
    go_enter Try.func32, Try.ntmps32
    go_wp2_with fail
    refine (C1.out w).mono ?_
    rintro e w1 ⟨rfl, rfl⟩
    go_wp2_with fail
    refine bodyPost_ret (v := .tuple #[.string s, .string ⟨#[]⟩, .bool false]) (by simp [results, Try.results32, go_sem]) rfl ⟨?_, 0, rfl⟩
    rw [hU.out, str_eta]
    rfl
/-- The same, of the world below alone. -/
def CutPostB (s : List UInt8) (w : World) (e : Ending) (w' : World) : Prop := e = .returned (.tuple #[.string (str (cutU s).1), .string (str (cutU s).2.1), .bool (cutU s).2.2]) ∧ Below w.heap.size w w'
theorem cut_any (s : ByteArray) (w : World) (hs : s.size ≤ 1000000) : Calls Try.prog 24 #[.string s, .string ⟨#[47]⟩] w (CutPostB s.data.toList w) := by
  have C1 := Lib.hid (slcut_any s w hs)
  go_enter Try.func24, Try.ntmps24
  go_wp2_with fail
  refine C1.out.mono ?_
  rintro e w1 ⟨rfl, n, rfl⟩
  have hb : Below w.heap.size w (w.drewN n) := ⟨rfl, rfl, rfl, Nat.le_refl _, fun _ _ => rfl⟩
  go_wp2_with fail
  exact bodyPost_ret (v := .tuple #[.string (str (cutU s.data.toList).1), .string (str (cutU s.data.toList).2.1), .bool (cutU s.data.toList).2.2]) (by simp [results, Try.results24, go_sem]) rfl ⟨rfl, hb⟩
/-- What Split hands back. -/
def SplitPost (P : List ByteArray × Int) (w : World) (e : Ending) (w' : World) : Prop := ∃ A c, e = .returned (.tuple #[.slice A P.1.length c, .int .i64 P.2]) ∧ OwnS w.heap.size w' (.slice A P.1.length c) P.1 ∧ Below w.heap.size w w'
def strLen : Value → Nat
  | .string s => s.size
  | _ => 0
/-- At the head of Split's loop. -/
def SHead (s : List UInt8) (w wr : World) (v0 v4 : Value) : Prop := ∃ (path : ByteArray) (out : List (List UInt8)) (Ls : List ByteArray) (A : Option Addr) (c : Nat), v0 = .string path ∧ v4 = .slice A Ls.length c ∧ OwnS w.heap.size wr (.slice A Ls.length c) Ls ∧ Ls = out.map str ∧ partsL s = out ++ partsL path.data.toList ∧ (∀ p ∈ out, mayB p = true) ∧ path.size + out.length ≤ 4096 ∧ Below w.heap.size w wr
theorem may_mem {s : List UInt8} {ps : List (List UInt8)} {p : List UInt8} (h : partsL s = ps) (hp : p ∈ ps) (hm : mayB p = false) : (partsL s).all mayB = false := by
  rw [h, List.all_eq_false]
  exact ⟨p, hp, by rw [hm]; simp⟩
set_option maxRecDepth 100000 in
set_option maxHeartbeats 2000000 in
theorem split_any (s : ByteArray) (w : World) (hs : s.size ≤ 9223372036854775807) : Calls Try.prog 15 #[.string s] w (SplitPost (splitU s.data.toList) w) := by
  have hlen : s.data.toList.length = s.size := rfl
  have hU : splitU s.data.toList = if 4096 < s.size then ([], 40) else if s.data.toList = [] then ([], 0) else if (partsL s.data.toList).all mayB then ((partsL s.data.toList).map str, 0) else ([], 56) := rfl
  generalize splitU s.data.toList = U at *
  by_cases h4 : 4096 < s.size
  · rw [if_pos h4] at hU
    subst hU
    clear hlen
    go_enter Try.func15, Try.ntmps15
    go_wp2_with fail
    go_step3
    go_wp2_with fail
    try rw [Exit.noGoto_ret]
    go_ret2
    exact ⟨none, 0, rfl, OwnS.nil _ _, Below.refl _ _⟩
  rw [if_neg h4] at hU
  cases hE : s.toList.isEmpty with
  | true =>
    have he : s.data.toList = [] := by rw [toL] at hE; simpa using hE
    rw [if_pos he] at hU
    subst hU
    clear hlen he
    go_enter Try.func15, Try.ntmps15
    go_wp2_with fail
    go_step3
    go_wp2_with fail
    try rw [Exit.noGoto_ret]
    go_ret2
    exact ⟨none, 0, rfl, OwnS.nil _ _, Below.refl _ _⟩
  | false =>
    have he : s.data.toList ≠ [] := fun h => by rw [toL, h] at hE; cases hE
    rw [if_neg he] at hU
    replace hU := Lib.hid hU
    clear he
    generalize hS : s.data.toList = S at *
    replace hS := Lib.hid hS
    clear hlen
    go_enter Try.func15, Try.ntmps15
    go_wp2_with fail
    go_step3
    go_wp2_with fail
    go_step3
    go_wp2_with fail
    go_loopw [0, 4] (fun v0 v4 wr => SHead S w wr v0 v4) (fun v0 _ _ => strLen v0)
    case atStart => exact ⟨s, [], [], none, 0, rfl, rfl, OwnS.nil _ _, rfl, by rw [hS.out]; rfl, fun p hp => by simp at hp, by simp; omega, Below.refl _ _⟩
    case round =>
      obtain ⟨path, out, Ls, A, c, rfl, rfl, hown, hLs, hP, hM, hsz, hB⟩ := hrel
      have hol : Ls.length ≤ 4096 := by rw [hLs, List.length_map]; omega
      replace hLs := Lib.hid hLs
      have HB := Lib.hid hB
      have HO := Lib.hid hown
      have hbz := hB.size
      have hps : path.data.toList.length = path.size := rfl
      clear hB hown
      go_wp2_with fail
      refine (cut_any path wr (by omega)).mono ?_
      rintro e w1 ⟨rfl, hb1⟩
      have HO1 := Lib.hid (HO.out.below hb1)
      have hbz1 := hb1.size
      have HB1 := Lib.hid (HB.out.trans (hb1.mono hbz))
      clear hb1 HO HB
      by_cases hi : 0 ≤ Lib.indexByte path.data.toList 47
      · obtain ⟨c1, c2, c3⟩ := cut_some hi
        have hcu : cutU path.data.toList = (path.data.toList.take (Lib.indexByte path.data.toList 47).toNat, path.data.toList.drop ((Lib.indexByte path.data.toList 47).toNat + 1), true) := by unfold cutU; rw [if_pos hi]
        rw [hcu]
        have hl1 : (path.data.toList.take (Lib.indexByte path.data.toList 47).toNat).length ≤ path.size := by rw [← hps]; exact List.length_take_le' _ _
        have hl2 : (path.data.toList.drop ((Lib.indexByte path.data.toList 47).toNat + 1)).length + 1 ≤ path.size := by rw [List.length_drop]; omega
        generalize path.data.toList.take (Lib.indexByte path.data.toList 47).toNat = one at *
        generalize path.data.toList.drop ((Lib.indexByte path.data.toList 47).toNat + 1) = rest at *
        rw [c2, partsL_sep one rest c1] at hP
        have so := str_size one
        have sr := str_size rest
        replace hP := Lib.hid hP
        replace c1 := Lib.hid c1
        replace c2 := Lib.hid c2
        replace hps := Lib.hid hps
        replace so := Lib.hid so
        replace sr := Lib.hid sr
        have MY := Lib.hid (may_any (str one) w1 (by rw [so.out]; omega))
        rw [str_data] at MY
        clear hi c3 hcu
        simp only []
        cases hm : mayB one with
        | false =>
          rw [hm] at MY
          have hno := may_mem hP.out (p := one) (by simp) hm
          have hU2 := hU.out
          rw [hno] at hU2
          replace hU2 := Lib.hid hU2
          clear hm hno
          go_wp2_with fail
          refine MY.out.mono ?_
          rintro e w2 ⟨rfl, rfl⟩
          go_wp2_with fail
          try rw [Exit.noGoto_ret]
          go_ret2
          exact ⟨none, 0, by rw [hU2.out]; rfl, by rw [hU2.out]; exact OwnS.nil _ _, HB1.out⟩
        | true =>
          rw [hm] at MY
          replace hm := Lib.hid hm
          obtain ⟨v', w3, hap, hown3, hb3⟩ := owns_app HO1.out (str one) (by omega) (by omega)
          obtain ⟨A3, c3, rfl, _, _⟩ := hown3.form
          have e1 : (Ls ++ [str one]).length = Ls.length + 1 := by simp
          rw [e1] at hap
          have e2 : (out ++ [one]).map str = Ls ++ [str one] := by rw [hLs.out]; simp
          have HO3 := Lib.hid hown3
          have HB3 := Lib.hid (HB1.out.trans (hb3.mono (Nat.le_refl _)))
          replace e1 := Lib.hid e1
          replace e2 := Lib.hid e2
          clear hown3 hb3
          go_wp2_with fail
          refine MY.out.mono ?_
          rintro e w2 ⟨rfl, rfl⟩
          go_wp2_with (at_builtin; refine Go.Lib.wpList_append_run_sl _ rfl _ _ _ rfl _ _ rfl rfl hap ?_)
          go_roundw
          case rel => exact ⟨str rest, out ++ [one], _, A3, c3, rfl, by rw [e1.out], HO3.out, e2.out.symm, by rw [str_data, hP.out]; simp, fun p hp => by
            rcases List.mem_append.1 hp with h | h
            · exact hM p h
            · simp at h
              rw [h]; exact hm.out, by rw [sr.out, List.length_append, List.length_cons, List.length_nil]; omega, HB3.out⟩
          case measure => have := sr.out; simp [strLen]; omega
      · have c1 := cut_none hi
        have hcu : cutU path.data.toList = (path.data.toList, [], false) := by unfold cutU; rw [if_neg hi]
        rw [hcu]
        rw [partsL_last _ c1] at hP
        generalize hone : path.data.toList = one at *
        have so := str_size one
        have hl1 : one.length ≤ path.size := by omega
        replace hP := Lib.hid hP
        replace c1 := Lib.hid c1
        replace hps := Lib.hid hps
        replace so := Lib.hid so
        replace hone := Lib.hid hone
        have MY := Lib.hid (may_any (str one) w1 (by rw [so.out]; omega))
        rw [str_data] at MY
        clear hi hcu
        simp only []
        cases hm : mayB one with
        | false =>
          rw [hm] at MY
          have hno := may_mem hP.out (p := one) (by simp) hm
          have hU2 := hU.out
          rw [hno] at hU2
          replace hU2 := Lib.hid hU2
          clear hm hno
          go_wp2_with fail
          refine MY.out.mono ?_
          rintro e w2 ⟨rfl, rfl⟩
          go_wp2_with fail
          try rw [Exit.noGoto_ret]
          go_ret2
          exact ⟨none, 0, by rw [hU2.out]; rfl, by rw [hU2.out]; exact OwnS.nil _ _, HB1.out⟩
        | true =>
          rw [hm] at MY
          have hU2 := hU.out
          have hall : (partsL S).all mayB = true := by
            rw [hP.out, List.all_eq_true]
            intro p hp
            rcases List.mem_append.1 hp with h | h
            · exact hM p h
            · simp at h
              rw [h]; exact hm
          rw [hall, if_pos rfl, hP.out] at hU2
          replace hU2 := Lib.hid hU2
          clear hall hm hM
          obtain ⟨v', w3, hap, hown3, hb3⟩ := owns_app HO1.out (str one) (by omega) (by omega)
          obtain ⟨A3, c3, rfl, _, _⟩ := hown3.form
          have e1 : (Ls ++ [str one]).length = Ls.length + 1 := by simp
          rw [e1] at hap
          have e2 : (out ++ [one]).map str = Ls ++ [str one] := by rw [hLs.out]; simp
          have HO3 := Lib.hid hown3
          have HB3 := Lib.hid (HB1.out.trans (hb3.mono (Nat.le_refl _)))
          replace e1 := Lib.hid e1
          replace e2 := Lib.hid e2
          clear hown3 hb3
          go_wp2_with fail
          refine MY.out.mono ?_
          rintro e w2 ⟨rfl, rfl⟩
          go_wp2_with (at_builtin; refine Go.Lib.wpList_append_run_sl _ rfl _ _ _ rfl _ _ rfl rfl hap ?_)
          try rw [Exit.noGoto_ret]
          go_ret2
          exact ⟨A3, c3, by rw [hU2.out, e2.out]; simp only [e1.out]; rfl, by rw [hU2.out, e2.out]; exact HO3.out, HB3.out⟩
end Go.Proofs.Ytajopaljiondlaa
