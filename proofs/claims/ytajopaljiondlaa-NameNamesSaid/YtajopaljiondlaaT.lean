/- WALKS of layer 24: long, Same, ContainsFunc, both Joins. -/
import Derived.Test.YtajopaljiondlaaN
import Derived.BigQuiet
import Derived.Lib.Join
set_option linter.unusedVariables false
namespace Go.Proofs.Ytajopaljiondlaa
open Go.RowKit Go.ChangeShapes Go.WideShapes Go.ChangeAt

/-- The texts that lie in a row. -/
def RdT (w : World) (A : Option Addr) (l : List ByteArray) : Prop := l ≠ [] → ∃ b off, A = some ⟨b, off, none⟩ ∧ ∀ k, (h : k < l.length) → w.cell? ⟨b, off + k, none⟩ = some (.string l[k])
theorem RdT.below {w w' : World} {A : Option Addr} {l : List ByteArray} (h : RdT w A l) (hb : Below w.heap.size w w') : RdT w' A l := fun hne => by
  obtain ⟨b, off, hA, hc⟩ := h hne
  exact ⟨b, off, hA, fun k hk => keep1 hb (hc k hk)⟩
theorem OwnS.rd {base : Nat} {w : World} {A : Option Addr} {n c : Nat} {l : List ByteArray} (h : OwnS base w (.slice A n c) l) : RdT w A l := by
  obtain ⟨A', c', e, _, hc⟩ := h.form
  simp only [Value.slice.injEq] at e
  obtain ⟨rfl, _, rfl⟩ := e
  intro hne
  obtain ⟨g, rfl, hcl⟩ := hc hne
  exact ⟨g, 0, rfl, fun k hk => by rw [Nat.zero_add]; exact (hcl k hk).1⟩
def LongPost (l : List ByteArray) (w : World) (e : Ending) (w' : World) : Prop := ∃ b : Bool, e = .returned (.bool b) ∧ (b = false → l.length ≤ 200 ∧ ∀ o ∈ l, o.size ≤ 100) ∧ w = w'
set_option maxHeartbeats 1000000 in
theorem long_any (A : Option Addr) (c : Nat) (l : List ByteArray) (w : World) (hR : RdT w A l) (hlm : l.length ≤ maxLen) (hok : ∀ o ∈ l, o.size ≤ maxLen) :
    Calls Try.prog 14 #[.slice A l.length c] w (LongPost l w) := by
  have HR := Lib.hid hR
  have HO := Lib.hid hok
  clear hR hok
  unfold maxLen at hlm
  by_cases h40 : 200 < l.length
  · go_enter Try.func14, Try.ntmps14
    go_wp2_with fail
    go_ret
    exact ⟨true, rfl, (fun h => by cases h), rfl⟩
  · go_enter Try.func14, Try.ntmps14
    go_wp2_with fail
    go_loop [3] (fun i => ∃ k : Nat, k ≤ l.length ∧ i = .int .i64 k ∧ (∀ o ∈ l.take k, o.size ≤ 100)) (fun i => l.length - (intOf i).toNat)
    case atStart => exact ⟨0, Nat.zero_le _, rfl, fun o ho => by simp at ho⟩
    case round =>
      obtain ⟨k, hk, rfl, hall⟩ := hrel
      have HA := Lib.hid hall
      clear hall
      by_cases hlt : k < l.length
      · obtain ⟨b, off, rfl, hcs⟩ := HR.out (by intro h; subst h; simp at hlt)
        have d3 := hcs k hlt
        have HK := Lib.hid (take_snoc l k hlt)
        clear hcs
        have hts := HO.out l[k] (List.getElem_mem hlt)
        generalize ht : l[k] = t at *
        replace ht := Lib.hid ht
        by_cases hbig : 100 < t.size
        · unfold maxLen at hts
          go_wp2_with fail
          go_ret
          exact ⟨true, rfl, (fun h => by cases h), rfl⟩
        · go_wp2_with fail
          go_round
          case rel =>
            refine ⟨k + 1, by omega, by go_num, fun o ho => ?_⟩
            rw [HK.out] at ho
            rcases List.mem_append.1 ho with h | h
            · exact HA.out o h
            · simp at h
              rw [h]; omega
          case measure => simp [intOf]; omega
      · have hkl : k = l.length := by omega
        subst hkl
        go_wp2_with fail
        go_ret
        exact ⟨_, rfl, fun _ => ⟨by omega, fun o ho => HA.out o (by simpa using ho)⟩, rfl⟩
theorem take_ne {α : Type} {a b : List α} {k : Nat} (h : k < a.length) (h2 : k < b.length) (hn : a[k] ≠ b[k]) : a ≠ b := fun e => by subst e; exact hn rfl
set_option maxHeartbeats 1000000 in
theorem same_any (A B : Option Addr) (c d : Nat) (a b : List ByteArray) (w : World) (hA : RdT w A a) (hB : RdT w B b) (ha : a.length ≤ 1000000) (hb : b.length ≤ 9223372036854775807) :
    Calls Try.prog 21 #[.slice A a.length c, .slice B b.length d] w fun e w' => e = .returned (.bool (decide (a = b))) ∧ Below w.heap.size w w' := by
  have HA := Lib.hid hA
  have HB := Lib.hid hB
  clear hA hB
  obtain ⟨R, hR⟩ : ∃ R, decide (a = b) = R := ⟨_, rfl⟩
  rw [hR]
  replace hR := Lib.hid hR
  by_cases hl : a.length = b.length
  · have hl1 : a.length ≤ b.length := by omega
    have hl2 : b.length ≤ a.length := by omega
    have hlB : ((a.length : Int) != (b.length : Int)) = false := by rw [hl]; simp
    replace hl := Lib.hid hl
    go_enter Try.func21, Try.ntmps21
    go_wp2_with fail
    go_loopw [5] (fun i wr => ∃ k : Nat, k ≤ a.length ∧ i = .int .i64 k ∧ a.take k = b.take k ∧ Below w.heap.size w wr) (fun i _ => a.length - (intOf i).toNat)
    case atStart => exact ⟨0, Nat.zero_le _, rfl, rfl, Below.refl _ _⟩
    case round =>
      obtain ⟨k, hk, rfl, hall, hbw⟩ := hrel
      replace hall := Lib.hid hall
      have HW := Lib.hid hbw
      by_cases hlt : k < a.length
      · have hlt2 : k < b.length := by omega
        obtain ⟨p, o, rfl, hcs⟩ := HA.out (by intro h; subst h; simp at hlt)
        obtain ⟨p2, o2, rfl, hcs2⟩ := HB.out (by intro h; subst h; simp at hlt2)
        have d0 := keep1 hbw (hcs k hlt)
        have d1 := keep1 hbw (hcs2 k hlt2)
        have K1 := Lib.hid (take_snoc a k hlt)
        have K2 := Lib.hid (take_snoc b k hlt2)
        have hne := Lib.hid (take_ne hlt hlt2)
        clear hcs hcs2 hbw
        have hi1 : (k : Int) < (a.length : Int) := by omega
        have hi2 : (k : Int) < (b.length : Int) := by omega
        by_cases hq : a[k] = b[k]
        · rw [← hq] at d1 K2
          generalize ha' : a[k] = x at *
          replace ha' := Lib.hid ha'
          replace hq := Lib.hid hq
          go_wp2_with fail
          go_quiet (fail)
          go_wp2_with fail
          go_roundw
          case rel => exact ⟨k + 1, by omega, by go_num, by rw [K1.out, K2.out, hall.out], ⟨HW.out.os, HW.out.tape, HW.out.output, HW.out.size, HW.out.block⟩⟩
          case measure => simp [intOf]; omega
        · have hF : R = false := by rw [← hR.out]; exact decide_eq_false (hne.out hq)
          have hqL : (a[k].toList == b[k].toList) = false := by
            rw [Bool.eq_false_iff]
            intro h
            exact hq (bytes_inj (by rw [← toL, ← toL]; simpa using h))
          have hqN : (a[k].toList != b[k].toList) = true := by simp [bne, hqL]
          replace hF := Lib.hid hF
          replace hq := Lib.hid hq
          generalize ha' : a[k] = x at *
          generalize hb' : b[k] = y at *
          replace ha' := Lib.hid ha'
          replace hb' := Lib.hid hb'
          go_wp2_with fail
          go_quiet (fail)
          go_wp2_with fail
          go_ret
          exact ⟨by rw [hF.out]; rfl, ⟨HW.out.os, HW.out.tape, HW.out.output, HW.out.size, HW.out.block⟩⟩
      · have hkl : k = a.length := by omega
        subst hkl
        have hT : R = true := by
          rw [← hR.out, decide_eq_true_iff]
          have := hall.out
          rw [List.take_length, hl.out, List.take_length] at this
          exact this
        replace hT := Lib.hid hT
        clear hall hbw
        go_wp2_with fail
        go_ret
        exact ⟨by rw [hT.out]; rfl, HW.out⟩
  · have hlB : ((a.length : Int) != (b.length : Int)) = true := by
      rw [bne_iff_ne]
      omega
    have hF : R = false := by rw [← hR.out]; exact decide_eq_false (fun e => hl (by rw [e]))
    replace hF := Lib.hid hF
    replace hl := Lib.hid hl
    go_enter Try.func21, Try.ntmps21
    go_wp2_with fail
    go_ret
    exact ⟨by rw [hF.out]; rfl, Below.refl _ _⟩
end Go.Proofs.Ytajopaljiondlaa
