/- WALKS of layer 24: May, the program's and the document's; strings.Cut at '/'. -/
import Derived.Test.YtajopaljiondlaaH
import Derived.Test.YtajopaljiondlaaSh
import Derived.Lib.IndexLaws
import Derived.Deep.QuietTactic
import Derived.BigQuiet
import Derived.Laws.IdiomStrings
set_option linter.unusedVariables false
namespace Go.Proofs.Ytajopaljiondlaa
open Go.RowKit Go.ChangeShapes Go.WideShapes Go.ChangeAt

/-- May a name be? -/
def mayB (s : List UInt8) : Bool := decide (s ≠ [] ∧ s ≠ [46] ∧ s ≠ [46, 46] ∧ s ≠ [46, 115, 110, 97, 112, 115, 104, 111, 116] ∧ s.length ≤ 32 ∧ 47 ∉ s ∧ 0 ∉ s)
theorem idx_mem (l : List UInt8) (c : UInt8) : (0 ≤ Lib.indexByte l c) ↔ c ∈ l := by
  constructor
  · intro h
    obtain ⟨o, ho⟩ : ∃ o : Nat, Lib.indexByte l c = (o : Int) := ⟨(Lib.indexByte l c).toNat, by omega⟩
    exact List.mem_of_getElem? (Lib.indexByte_some ho).1
  · intro h
    have h1 := Lib.indexByte_ge l c
    by_cases h2 : Lib.indexByte l c = -1
    · obtain ⟨k, hk, rfl⟩ := List.getElem_of_mem h
      exact absurd (List.getElem?_eq_getElem hk) (Lib.indexByte_none h2 k)
    · omega
theorem bytes_inj {a b : ByteArray} (h : a.data.toList = b.data.toList) : a = b := by
  cases a; cases b
  exact congrArg ByteArray.mk (Array.ext' h)
theorem toL (s : ByteArray) : s.toList = s.data.toList := ByteArray.toList_eq s
set_option maxHeartbeats 1000000 in
theorem may_any (s : ByteArray) (w : World) (hs : s.size ≤ 1000000) : Calls Try.prog 19 #[.string s] w fun e w' => e = .returned (.bool (mayB s.data.toList)) ∧ w = w' := by
  have C1 := Lib.hid (Try.strings_Contains_one s 47)
  have C2 := Lib.hid (Try.strings_Contains_one s 0)
  have hsz : s.data.toList.length = s.size := rfl
  replace hsz := Lib.hid hsz
  obtain ⟨b1, hb1⟩ : ∃ b, decide (0 ≤ Lib.indexByte s.data.toList 47) = b := ⟨_, rfl⟩
  obtain ⟨b2, hb2⟩ : ∃ b, decide (0 ≤ Lib.indexByte s.data.toList 0) = b := ⟨_, rfl⟩
  rw [hb1] at C1
  rw [hb2] at C2
  have H1 : (47 ∈ s.data.toList) ↔ b1 = true := by rw [← hb1, decide_eq_true_iff]; exact (idx_mem _ _).symm
  have H2 : (0 ∈ s.data.toList) ↔ b2 = true := by rw [← hb2, decide_eq_true_iff]; exact (idx_mem _ _).symm
  replace H1 := Lib.hid H1
  replace H2 := Lib.hid H2
  clear hb1 hb2
  obtain ⟨M, hM⟩ : ∃ M, mayB s.data.toList = M := ⟨_, rfl⟩
  rw [hM]
  replace hM := Lib.hid hM
  cases h0 : s.toList.isEmpty with
  | true =>
    have hF : M = false := by
      rw [← hM.out]
      unfold mayB
      rw [decide_eq_false_iff_not]
      rintro ⟨a0, a1, a2, a3, a4, a5, a6⟩
      exact a0 (by rw [← toL]; simpa using h0)
    replace hF := Lib.hid hF
    go_enter Try.func19, Try.ntmps19
    go_wp2_with fail
    go_ret
    exact ⟨by rw [hF.out]; rfl, rfl⟩
  | false =>
    cases h1 : (s.toList == [46]) with
    | true =>
      have hF : M = false := by
        rw [← hM.out]
        unfold mayB
        rw [decide_eq_false_iff_not]
        rintro ⟨a0, a1, a2, a3, a4, a5, a6⟩
        exact a1 (by rw [← toL]; simpa using h1)
      replace hF := Lib.hid hF
      go_enter Try.func19, Try.ntmps19
      go_wp2_with fail
      go_ret
      exact ⟨by rw [hF.out]; rfl, rfl⟩
    | false =>
      cases h2 : (s.toList == [46, 46]) with
      | true =>
        have hF : M = false := by
          rw [← hM.out]
          unfold mayB
          rw [decide_eq_false_iff_not]
          rintro ⟨a0, a1, a2, a3, a4, a5, a6⟩
          exact a2 (by rw [← toL]; simpa using h2)
        replace hF := Lib.hid hF
        go_enter Try.func19, Try.ntmps19
        go_wp2_with fail
        go_ret
        exact ⟨by rw [hF.out]; rfl, rfl⟩
      | false =>
        cases h3 : (s.toList == [46, 115, 110, 97, 112, 115, 104, 111, 116]) with
        | true =>
          have hF : M = false := by
            rw [← hM.out]
            unfold mayB
            rw [decide_eq_false_iff_not]
            rintro ⟨a0, a1, a2, a3, a4, a5, a6⟩
            exact a3 (by rw [← toL]; simpa using h3)
          replace hF := Lib.hid hF
          go_enter Try.func19, Try.ntmps19
          go_wp2_with fail
          go_ret
          exact ⟨by rw [hF.out]; rfl, rfl⟩
        | false =>
          by_cases h32 : s.size ≤ 32
          · cases b1 with
            | true =>
              have hF : M = false := by
                rw [← hM.out]
                unfold mayB
                rw [decide_eq_false_iff_not]
                rintro ⟨a0, a1, a2, a3, a4, a5, a6⟩
                exact a5 (H1.out.2 rfl)
              replace hF := Lib.hid hF
              go_enter Try.func19, Try.ntmps19
              go_wp2_with fail
              refine (C1.out _).mono ?_
              rintro e w1 ⟨rfl, rfl⟩
              go_wp2_with fail
              go_ret
              exact ⟨by rw [hF.out]; rfl, rfl⟩
            | false =>
              cases b2 with
              | true =>
                have hF : M = false := by
                  rw [← hM.out]
                  unfold mayB
                  rw [decide_eq_false_iff_not]
                  rintro ⟨a0, a1, a2, a3, a4, a5, a6⟩
                  exact a6 (H2.out.2 rfl)
                replace hF := Lib.hid hF
                go_enter Try.func19, Try.ntmps19
                go_wp2_with fail
                refine (C1.out _).mono ?_
                rintro e w1 ⟨rfl, rfl⟩
                go_wp2_with fail
                refine (C2.out _).mono ?_
                rintro e w1 ⟨rfl, rfl⟩
                go_wp2_with fail
                go_ret
                exact ⟨by rw [hF.out]; rfl, rfl⟩
              | false =>
                have hF : M = true := by
                  rw [← hM.out]
                  unfold mayB
                  rw [decide_eq_true_iff]
                  refine ⟨fun h => ?_, fun h => ?_, fun h => ?_, fun h => ?_, ?_, (fun h => by cases H1.out.1 h), (fun h => by cases H2.out.1 h)⟩
                  · rw [toL, h] at h0; cases h0
                  · rw [toL, h] at h1; cases h1
                  · rw [toL, h] at h2; cases h2
                  · rw [toL, h] at h3; cases h3
                  · rw [hsz.out]; exact h32
                replace hF := Lib.hid hF
                go_enter Try.func19, Try.ntmps19
                go_wp2_with fail
                refine (C1.out _).mono ?_
                rintro e w1 ⟨rfl, rfl⟩
                go_wp2_with fail
                refine (C2.out _).mono ?_
                rintro e w1 ⟨rfl, rfl⟩
                go_wp2_with fail
                go_ret
                exact ⟨by rw [hF.out]; rfl, rfl⟩
          · have h32' : 32 < s.size := by omega
            have hF : M = false := by
              rw [← hM.out]
              unfold mayB
              rw [decide_eq_false_iff_not]
              rintro ⟨a0, a1, a2, a3, a4, a5, a6⟩
              exact h32 (by rw [hsz.out] at a4; exact a4)
            replace hF := Lib.hid hF
            go_enter Try.func19, Try.ntmps19
            go_wp2_with fail
            go_ret
            exact ⟨by rw [hF.out]; rfl, rfl⟩
theorem getD_byte (s : ByteArray) (k : Nat) (h : k < s.size) : s.data.toList[k]? = some s[k] := by
  rw [List.getElem?_eq_getElem (show k < s.data.toList.length from h)]; rfl
theorem byte_ne {b c : UInt8} {m : Int} (hm : ((c.toNat : Nat) : Int) = m) (h : b ≠ c) : (((b.toNat : Nat) : Int) == m) = false := by
  subst hm
  rw [Bool.eq_false_iff]
  intro h2
  have h3 : ((b.toNat : Nat) : Int) = ((c.toNat : Nat) : Int) := by simpa using h2
  exact h (UInt8.toNat_inj.1 (by omega))
theorem byte_eq {b c : UInt8} {m : Int} (hm : ((c.toNat : Nat) : Int) = m) (h : b = c) : (((b.toNat : Nat) : Int) == m) = true := by
  subst hm h
  simp
set_option maxHeartbeats 2000000 in
theorem refmay_any (s : ByteArray) (w : World) (hs : s.size ≤ 1000000) : Calls Try.prog 20 #[.string s] w fun e w' => e = .returned (.bool (mayB s.data.toList)) ∧ w = w' := by
  have hsz : s.data.toList.length = s.size := rfl
  replace hsz := Lib.hid hsz
  obtain ⟨M, hM⟩ : ∃ M, mayB s.data.toList = M := ⟨_, rfl⟩
  rw [hM]
  replace hM := Lib.hid hM
  by_cases hz : s.size < 1
  · have hF : M = false := by
      rw [← hM.out]
      unfold mayB
      rw [decide_eq_false_iff_not]
      rintro ⟨a0, a1, a2, a3, a4, a5, a6⟩
      exact a0 (List.eq_nil_of_length_eq_zero (by rw [hsz.out]; omega))
    replace hF := Lib.hid hF
    go_enter Try.func20, Try.ntmps20
    go_wp2_with fail
    go_ret
    exact ⟨by rw [hF.out]; rfl, rfl⟩
  by_cases h32 : 32 < s.size
  · have hF : M = false := by
      rw [← hM.out]
      unfold mayB
      rw [decide_eq_false_iff_not]
      rintro ⟨a0, a1, a2, a3, a4, a5, a6⟩
      exact absurd a4 (by rw [hsz.out]; omega)
    replace hF := Lib.hid hF
    go_enter Try.func20, Try.ntmps20
    go_wp2_with fail
    go_ret
    exact ⟨by rw [hF.out]; rfl, rfl⟩
  cases h1 : (s.toList == [46]) with
  | true =>
    have hF : M = false := by
      rw [← hM.out]
      unfold mayB
      rw [decide_eq_false_iff_not]
      rintro ⟨a0, a1, a2, a3, a4, a5, a6⟩
      exact a1 (by rw [← toL]; simpa using h1)
    replace hF := Lib.hid hF
    go_enter Try.func20, Try.ntmps20
    go_wp2_with fail
    go_ret
    exact ⟨by rw [hF.out]; rfl, rfl⟩
  | false =>
      cases h2 : (s.toList == [46, 46]) with
      | true =>
        have hF : M = false := by
          rw [← hM.out]
          unfold mayB
          rw [decide_eq_false_iff_not]
          rintro ⟨a0, a1, a2, a3, a4, a5, a6⟩
          exact a2 (by rw [← toL]; simpa using h2)
        replace hF := Lib.hid hF
        go_enter Try.func20, Try.ntmps20
        go_wp2_with fail
        go_ret
        exact ⟨by rw [hF.out]; rfl, rfl⟩
      | false =>
          cases h3 : (s.toList == [46, 115, 110, 97, 112, 115, 104, 111, 116]) with
          | true =>
            have hF : M = false := by
              rw [← hM.out]
              unfold mayB
              rw [decide_eq_false_iff_not]
              rintro ⟨a0, a1, a2, a3, a4, a5, a6⟩
              exact a3 (by rw [← toL]; simpa using h3)
            replace hF := Lib.hid hF
            go_enter Try.func20, Try.ntmps20
            go_wp2_with fail
            go_ret
            exact ⟨by rw [hF.out]; rfl, rfl⟩
          | false =>
            have hb1 : ¬ s.size < 1 := hz
            go_enter Try.func20, Try.ntmps20
            go_wp2_with fail
            go_loop [3] (fun i => ∃ k : Nat, k ≤ s.size ∧ i = .int .i64 k ∧ (∀ b ∈ s.data.toList.take k, b ≠ (0 : UInt8) ∧ b ≠ (47 : UInt8))) (fun i => s.size - (intOf i).toNat)
            case atStart => exact ⟨0, Nat.zero_le _, rfl, fun b hb => by simp at hb⟩
            case round =>
              obtain ⟨k, hk, rfl, hall⟩ := hrel
              replace hall := Lib.hid hall
              by_cases hlt : k < s.size
              · have HK := Lib.hid (take_snoc s.data.toList k (by rw [hsz.out]; exact hlt))
                have hgb : s.data.toList[k]'(by rw [hsz.out]; exact hlt) = s[k] := rfl
                have hmem : s[k] ∈ s.data.toList := by rw [← hgb]; exact List.getElem_mem _
                rw [hgb] at HK
                clear hgb
                replace hmem := Lib.hid hmem
                generalize hq : s[k] = q at *
                by_cases hq0 : q = (0 : UInt8)
                · have t1 : (((q.toNat : Nat) : Int) == 0) = true := byte_eq (c := 0) rfl hq0
                  have hF : M = false := by
                    rw [← hM.out]
                    unfold mayB
                    rw [decide_eq_false_iff_not]
                    rintro ⟨a0, a1, a2, a3, a4, a5, a6⟩
                    exact a6 (by have := hmem.out; rw [hq0] at this; exact this)
                  replace hF := Lib.hid hF
                  replace hq0 := Lib.hid hq0
                  go_wp2_with fail
                  go_ret
                  exact ⟨by rw [hF.out]; rfl, rfl⟩
                · by_cases hq1 : q = (47 : UInt8)
                  · have t1 : (((q.toNat : Nat) : Int) == 0) = false := byte_ne (c := 0) rfl hq0
                    have t2 : (((q.toNat : Nat) : Int) == 47) = true := byte_eq (c := 47) rfl hq1
                    have hF : M = false := by
                      rw [← hM.out]
                      unfold mayB
                      rw [decide_eq_false_iff_not]
                      rintro ⟨a0, a1, a2, a3, a4, a5, a6⟩
                      exact a5 (by have := hmem.out; rw [hq1] at this; exact this)
                    replace hF := Lib.hid hF
                    replace hq0 := Lib.hid hq0
                    replace hq1 := Lib.hid hq1
                    go_wp2_with fail
                    go_ret
                    exact ⟨by rw [hF.out]; rfl, rfl⟩
                  · have t1 : (((q.toNat : Nat) : Int) == 0) = false := byte_ne (c := 0) rfl hq0
                    have t2 : (((q.toNat : Nat) : Int) == 47) = false := byte_ne (c := 47) rfl hq1
                    replace hq0 := Lib.hid hq0
                    replace hq1 := Lib.hid hq1
                    go_wp2_with fail
                    go_round
                    case rel =>
                      refine ⟨k + 1, by omega, by go_num, fun b hb => ?_⟩
                      rw [HK.out] at hb
                      rcases List.mem_append.1 hb with h | h
                      · exact hall.out b h
                      · simp at h
                        rw [h]
                        exact ⟨hq0.out, hq1.out⟩
                    case measure => simp [intOf]; omega
              · have hkl : k = s.size := by omega
                subst hkl
                have hF : M = true := by
                  have hall' : ∀ b ∈ s.data.toList, b ≠ (0 : UInt8) ∧ b ≠ (47 : UInt8) := fun b hb => hall.out b (by rw [List.take_of_length_le (by rw [hsz.out]; omega)]; exact hb)
                  rw [← hM.out]
                  unfold mayB
                  rw [decide_eq_true_iff]
                  refine ⟨fun h => ?_, fun h => ?_, fun h => ?_, fun h => ?_, by rw [hsz.out]; omega, fun h => (hall' _ h).2 rfl, fun h => (hall' _ h).1 rfl⟩
                  · have := hsz.out; rw [h] at this; simp at this; omega
                  · rw [toL, h] at h1; cases h1
                  · rw [toL, h] at h2; cases h2
                  · rw [toL, h] at h3; cases h3
                replace hF := Lib.hid hF
                clear hall
                go_wp2_with fail
                go_ret
                exact ⟨by rw [hF.out]; rfl, rfl⟩
end Go.Proofs.Ytajopaljiondlaa
