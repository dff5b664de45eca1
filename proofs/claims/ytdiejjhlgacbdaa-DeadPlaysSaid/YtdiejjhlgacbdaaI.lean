/- LAYER 16's statements: Same, needed, awake. -/
import Derived.Test.YtdiejjhlgacbdaaH
import Derived.BigQuiet
set_option linter.unusedVariables false
namespace Go.Proofs.Ytdiejjhlgacbdaa
open Go.RowKit Go.ChangeShapes Go.WideShapes Go.ChangeAt Go.Sort

theorem take_snocI (l : List Int) (k : Nat) (h : k < l.length) : l.take (k + 1) = l.take k ++ [l[k]] := by
  rw [List.take_add_one, List.getElem?_eq_getElem h]; rfl
theorem take_neI {a b : List Int} {k : Nat} (h : k < a.length) (h2 : k < b.length) (hn : a[k] ≠ b[k]) : a ≠ b := fun e => by subst e; exact hn rfl
theorem RdI.below {w w' : World} {A : Option Addr} {l : List Int} (h : RdI w A l) (hb : Below w.heap.size w w') : RdI w' A l := fun hne => by
  obtain ⟨b, off, hA, hc⟩ := h hne
  exact ⟨b, off, hA, fun k hk => keep1 hb (hc k hk)⟩
set_option maxHeartbeats 2000000 in
theorem same_any (A B : Option Addr) (c d : Nat) (a b : List Int) (w : World) (hA : RdI w A a) (hB : RdI w B b) (ha : a.length ≤ 1000000) (hb : b.length ≤ 1000000) :
    Calls Try.prog 20 #[.slice A a.length c, .slice B b.length d] w fun e w' => e = .returned (.bool (decide (a = b))) ∧ Below w.heap.size w w' := by
  have HA := Lib.hid hA
  have HB := Lib.hid hB
  clear hA hB
  obtain ⟨R, hR⟩ : ∃ R, decide (a = b) = R := ⟨_, rfl⟩
  rw [hR]
  replace hR := Lib.hid hR
  by_cases hl : a.length = b.length
  · have hl1 : a.length ≤ b.length := by omega
    have hl2 : b.length ≤ a.length := by omega
    have hlB : ((a.length : Int) != (b.length : Int)) = false := by rw [hl]; simp
    replace hl := Lib.hid hl
    go_enter Try.func20, Try.ntmps20
    go_wp2_with fail
    go_loopw [5] (fun i wr => ∃ k : Nat, k ≤ a.length ∧ i = .int .i64 k ∧ a.take k = b.take k ∧ Below w.heap.size w wr) (fun i _ => a.length - (intOf i).toNat)
    case atStart => exact ⟨0, Nat.zero_le _, rfl, rfl, Below.refl _ _⟩
    case round =>
      obtain ⟨k, hk, rfl, hall, hbw⟩ := hrel
      replace hall := Lib.hid hall
      have HW := Lib.hid hbw
      by_cases hlt : k < a.length
      · have hlt2 : k < b.length := by omega
        obtain ⟨p, o, rfl, hcs⟩ := HA.out (by intro h; subst h; simp at hlt)
        obtain ⟨p2, o2, rfl, hcs2⟩ := HB.out (by intro h; subst h; simp at hlt2)
        have d0 := keep1 hbw (hcs k hlt)
        have d1 := keep1 hbw (hcs2 k hlt2)
        have K1 := Lib.hid (take_snocI a k hlt)
        have K2 := Lib.hid (take_snocI b k hlt2)
        have hne := Lib.hid (take_neI hlt hlt2)
        clear hcs hcs2 hbw
        have hi1 : (k : Int) < (a.length : Int) := by omega
        have hi2 : (k : Int) < (b.length : Int) := by omega
        by_cases hq : a[k] = b[k]
        · rw [← hq] at d1 K2
          generalize ha' : a[k] = x at *
          replace ha' := Lib.hid ha'
          replace hq := Lib.hid hq
          go_wp2_with fail
          go_quiet (fail)
          go_wp2_with fail
          go_roundw
          case rel => exact ⟨k + 1, by omega, by go_num, by rw [K1.out, K2.out, hall.out], ⟨HW.out.os, HW.out.tape, HW.out.output, HW.out.size, HW.out.block⟩⟩
          case measure => simp [intOf]; omega
        · have hF : R = false := by rw [← hR.out]; exact decide_eq_false (hne.out hq)
          have hqN : (a[k] != b[k]) = true := by simpa using hq
          have hqN' : decide (a[k] = b[k]) = false := by simpa using hq
          replace hF := Lib.hid hF
          generalize ha' : a[k] = x at *
          generalize hb' : b[k] = y at *
          replace ha' := Lib.hid ha'
          replace hb' := Lib.hid hb'
          go_wp2_with fail
          go_quiet (fail)
          go_wp2_with fail
          go_ret
          exact ⟨by rw [hF.out]; rfl, ⟨HW.out.os, HW.out.tape, HW.out.output, HW.out.size, HW.out.block⟩⟩
      · have hkl : k = a.length := by omega
        subst hkl
        have hT : R = true := by
          rw [← hR.out, decide_eq_true_iff]
          have := hall.out
          rw [List.take_length, hl.out, List.take_length] at this
          exact this
        replace hT := Lib.hid hT
        clear hbw
        go_wp2_with fail
        go_ret
        exact ⟨by rw [hT.out]; rfl, HW.out⟩
  · have hF : R = false := by rw [← hR.out]; exact decide_eq_false (fun e => hl (by rw [e]))
    replace hF := Lib.hid hF
    have hlB : ((a.length : Int) != (b.length : Int)) = true := by simp; omega
    go_enter Try.func20, Try.ntmps20
    go_wp2_with fail
    go_ret
    exact ⟨by rw [hF.out]; rfl, Below.refl _ _⟩
set_option maxHeartbeats 2000000 in
theorem needed_any (A : Option Addr) (c : Nat) (l : List Int) (n : Int) (w : World) (hA : RdI w A l) (hl : l.length ≤ 1000000) : Calls Try.prog 14 #[.slice A l.length c, .int .i64 n] w fun e w' => e = .returned (.bool (decide (n ∈ l))) ∧ w' = w := by
  have HA := Lib.hid hA
  clear hA
  obtain ⟨R, hR⟩ : ∃ R, decide (n ∈ l) = R := ⟨_, rfl⟩
  rw [hR]
  replace hR := Lib.hid hR
  go_enter Try.func14, Try.ntmps14
  go_wp2_with fail
  go_loop [5] (fun i => ∃ k : Nat, k ≤ l.length ∧ i = .int .i64 k ∧ n ∉ l.take k) (fun i => l.length - (intOf i).toNat)
  case atStart => exact ⟨0, Nat.zero_le _, rfl, by simp⟩
  case round =>
    obtain ⟨k, hk, rfl, hall⟩ := hrel
    replace hall := Lib.hid hall
    by_cases hlt : k < l.length
    · obtain ⟨b, off, rfl, hcs⟩ := HA.out (by intro h; subst h; simp at hlt)
      have d0 := hcs k hlt
      have K1 := Lib.hid (take_snocI l k hlt)
      have hmem := Lib.hid (List.getElem_mem hlt)
      clear hcs
      generalize l[k] = x at *
      by_cases hx : x = n
      · subst hx
        have hT : R = true := by rw [← hR.out]; simpa using hmem.out
        replace hT := Lib.hid hT
        go_wp2_with fail
        go_ret
        exact ⟨by rw [hT.out]; rfl, rfl⟩
      · have hx' : (x == n) = false := by simpa using hx
        go_wp2_with fail
        go_round
        case rel =>
          refine ⟨k + 1, by omega, by go_num, ?_⟩
          rw [K1.out]
          simp only [List.mem_append, List.mem_singleton, not_or]
          exact ⟨hall.out, fun e => hx e.symm⟩
        case measure => simp [intOf]; omega
    · have hkl : k = l.length := by omega
      subst hkl
      have hF : R = false := by
        rw [← hR.out]
        have := hall.out
        rw [List.take_length] at this
        simpa using this
      replace hF := Lib.hid hF
      go_wp2_with fail
      go_ret
      exact ⟨by rw [hF.out]; rfl, rfl⟩
end Go.Proofs.Ytdiejjhlgacbdaa
