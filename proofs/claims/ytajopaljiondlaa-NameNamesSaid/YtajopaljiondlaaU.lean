/- WALKS of layer 24: ContainsFunc; both Joins. -/
import Derived.Test.YtajopaljiondlaaT
set_option linter.unusedVariables false
namespace Go.Proofs.Ytajopaljiondlaa
open Go.RowKit Go.ChangeShapes Go.WideShapes Go.ChangeAt

def badB (s : ByteArray) : Bool := !mayB s.data.toList
/-- The path of names, and the code. -/
def joinL (l : List ByteArray) : List UInt8 := Lib.join (l.map (·.data.toList)) [47]
def joinU (l : List ByteArray) : ByteArray × Int := if l.any badB then (⟨#[]⟩, 56) else if 4096 < (joinL l).length then (⟨#[]⟩, 40) else (str (joinL l), 0)
theorem notmay_any (s : ByteArray) (w : World) (hs : s.size ≤ 1000000) : Calls Try.prog 26 #[.string s] w fun e w' => e = .returned (.bool (badB s)) ∧ w = w' := by
  have MY := Lib.hid (may_any s w hs)
  obtain ⟨b, hb⟩ : ∃ b, mayB s.data.toList = b := ⟨_, rfl⟩
  have hbad : badB s = !b := by unfold badB; rw [hb]
  rw [hb] at MY
  rw [hbad]
  clear hb hbad
  go_enter Try.func26, Try.ntmps26
  go_wp2_with fail
  refine MY.out.mono ?_
  rintro e w1 ⟨rfl, rfl⟩
  go_wp2_with fail
  go_ret
  exact ⟨rfl, rfl⟩
/-- What IndexFunc tells: is there one? -/
def IdxPost (l : List ByteArray) (w : World) (e : Ending) (w' : World) : Prop := ∃ i : Int, e = .returned (.int .i64 i) ∧ (decide (0 ≤ i) = l.any badB) ∧ w = w'
set_option maxHeartbeats 1000000 in
theorem index_any (A : Option Addr) (c : Nat) (l : List ByteArray) (w : World) (hR : RdT w A l) (hlm : l.length ≤ 1000000) (hok : ∀ o ∈ l, o.size ≤ 1000000) :
    Calls Try.prog 33 #[.slice A l.length c, .func (.func 26) #[] #[]] w (IdxPost l w) := by
  have HR := Lib.hid hR
  have HO := Lib.hid hok
  clear hR hok
  go_enter Try.func33, Try.ntmps33
  go_wp2_with fail
  go_loop [8] (fun i => ∃ k : Nat, k ≤ l.length ∧ i = .int .i64 k ∧ (∀ o ∈ l.take k, badB o = false)) (fun i => l.length - (intOf i).toNat)
  case atStart => exact ⟨0, Nat.zero_le _, rfl, fun o ho => by simp at ho⟩
  case round =>
    obtain ⟨k, hk, rfl, hall⟩ := hrel
    have HA := Lib.hid hall
    clear hall
    by_cases hlt : k < l.length
    · obtain ⟨b, off, rfl, hcs⟩ := HR.out (by intro h; subst h; simp at hlt)
      have d3 := hcs k hlt
      have HK := Lib.hid (take_snoc l k hlt)
      have hmem := Lib.hid (List.getElem_mem hlt)
      have NM := Lib.hid (notmay_any l[k] w (HO.out l[k] (List.getElem_mem hlt)))
      clear hcs
      generalize ht : l[k] = t at *
      replace ht := Lib.hid ht
      cases hbad : badB t with
      | true =>
        rw [hbad] at NM
        have hany : l.any badB = true := List.any_eq_true.2 ⟨t, hmem.out, hbad⟩
        replace hany := Lib.hid hany
        clear hbad
        go_wp2_with fail
        refine NM.out.mono ?_
        rintro e w1 ⟨rfl, rfl⟩
        go_wp2_with fail
        go_ret
        exact ⟨_, rfl, by rw [hany.out]; simp, rfl⟩
      | false =>
        rw [hbad] at NM
        replace hbad := Lib.hid hbad
        go_wp2_with fail
        refine NM.out.mono ?_
        rintro e w1 ⟨rfl, rfl⟩
        go_wp2_with fail
        go_round
        case rel =>
          refine ⟨k + 1, by omega, by go_num, fun o ho => ?_⟩
          rw [HK.out] at ho
          rcases List.mem_append.1 ho with h | h
          · exact HA.out o h
          · simp at h
            rw [h]; exact hbad.out
        case measure => simp [intOf]; omega
    · have hkl : k = l.length := by omega
      subst hkl
      have hany : l.any badB = false := by
        rw [List.any_eq_false]
        intro o ho
        rw [HA.out o (by simpa using ho)]
        simp
      replace hany := Lib.hid hany
      go_wp2_with fail
      go_ret
      exact ⟨_, rfl, by rw [hany.out]; decide, rfl⟩
theorem contains_any (A : Option Addr) (c : Nat) (l : List ByteArray) (w : World) (hR : RdT w A l) (hlm : l.length ≤ 1000000) (hok : ∀ o ∈ l, o.size ≤ 1000000) :
    Calls Try.prog 25 #[.slice A l.length c, .func (.func 26) #[] #[]] w fun e w' => e = .returned (.bool (l.any badB)) ∧ w = w' := by
  have IX := Lib.hid (index_any A c l w hR hlm hok)
  clear hR hok
  obtain ⟨b, hb⟩ : ∃ b, l.any badB = b := ⟨_, rfl⟩
  rw [hb]
  replace hb := Lib.hid hb
  go_enter Try.func25, Try.ntmps25
  go_wp2_with fail
  refine IX.out.mono ?_
  rintro e w1 ⟨i, rfl, hi, rfl⟩
  rw [hb.out] at hi
  replace hi := Lib.hid hi
  go_wp2_with fail
  go_ret
  exact ⟨ret_bool hi.out, rfl⟩
end Go.Proofs.Ytajopaljiondlaa
