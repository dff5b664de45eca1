/- WALK of DirtyParts. -/
import Derived.Test.YtpkapichblpdfaaDoorM
import Derived.Test.YtpkapichblpdfaaDoorO
set_option linter.unusedVariables false
namespace Go.Proofs.YtpkapichblpdfaaDoor
open Go.RowKit Go.ChangeShapes Go.WideShapes Go.ChangeAt
theorem st2_over {w w1 : World} {ino : Int} {r n : Nat} {l : List Pt} {h : Int} {r2 n2 : Nat} {l2 : List Pt} {h2 : Int} (s : St2 w w1 ino r n l h r2 n2 l2 h2) (file : ByteArray) (h0 : -9223372036854775808 ≤ ino) (h1 : ino ≤ 9223372036854775807) (hg : Good l) (hl : l.length ≤ 1000000) (hf : file.size ≤ 100000) :
    Calls Tryd.prog 12 #[.pointer (some ⟨r, 0, none⟩), .int .i64 ino, .string file] w1 fun e w' => e = .returned (.string ⟨(overL l file.data.toList).toArray⟩) ∧ St2 w w' ino r n l h r2 n2 l2 h2 := by
  have s' := s
  obtain ⟨O, L, O2, L2, hB, hB2, hd, hO, hO2, rfl, hl2, hw⟩ := s
  exact (over_any O r n L h ino file w1 hB h0 h1 hg hl hf).mono fun e w' ⟨he, hb⟩ => ⟨he, s'.below hb⟩
theorem st2_size {w w1 : World} {ino : Int} {r n : Nat} {l : List Pt} {h : Int} {r2 n2 : Nat} {l2 : List Pt} {h2 : Int} (s : St2 w w1 ino r n l h r2 n2 l2 h2) (size : Int) (h0 : -9223372036854775808 ≤ ino) (h1 : ino ≤ 9223372036854775807) (hg : Good l) (hl : l.length ≤ 1000000) :
    Calls Tryd.prog 14 #[.pointer (some ⟨r, 0, none⟩), .int .i64 ino, .int .i64 size] w1 fun e w' => e = .returned (.int .i64 (sizeL l size)) ∧ St2 w w' ino r n l h r2 n2 l2 h2 := by
  have s' := s
  obtain ⟨O, L, O2, L2, hB, hB2, hd, hO, hO2, rfl, hl2, hw⟩ := s
  exact (size_any O r n L h ino size w1 hB h0 h1 hg hl).mono fun e w' ⟨he, hb⟩ => ⟨he, s'.below hb⟩
set_option maxHeartbeats 1000000 in
theorem parts_walk (at_ cut : Int) (text file : ByteArray) (a0 : -9223372036854775808 ≤ at_) (a1 : at_ ≤ 9223372036854775807) (c0 : -9223372036854775808 ≤ cut) (c1 : cut ≤ 9223372036854775807) (ht : text.size ≤ 9223372036854775807) (hf : file.size ≤ 9223372036854775807) (w : World) (hT : Tabs w) :
    Calls Tryd.prog 5 #[.int .i64 at_, .string text, .int .i64 cut, .string file] w fun e w' => e = .returned (.bool true) ∧ Below w.heap.size w w' := by
  obtain ⟨m, hme, hm⟩ : ∃ m : Nat, (IntKind.u64.wrap cut).tmod ((text.size : Int) + 1) = (m : Int) ∧ m ≤ text.size := by
    have hw : 0 ≤ IntKind.u64.wrap cut := by simp [IntKind.wrap, IntKind.bits, IntKind.signed]; omega
    have h2 := Int.tmod_nonneg ((text.size : Int) + 1) hw
    have h3 := Int.tmod_lt_of_pos (IntKind.u64.wrap cut) (show (0 : Int) < (text.size : Int) + 1 by omega)
    exact ⟨((IntKind.u64.wrap cut).tmod ((text.size : Int) + 1)).toNat, by omega, by omega⟩
  have HT := Lib.hid hT
  clear hT
  go_enter Tryd.func5, Tryd.ntmps5
  go_wp2_with fail
  case isTrue =>
    refine (awake_any w HT.out).mono ?_
    rintro e w1 ⟨rfl, hb⟩
    replace hb := Lib.hid hb
    go_wp2_with fail
    refine (st_new w1 1).mono ?_
    rintro e w2 ⟨rfl, s1⟩
    generalize w1.heap.size + 1 = r at *
    replace s1 := Lib.hid s1
    go_wp2_with fail
    refine (st2_new s1.out).mono ?_
    rintro e w3 ⟨rfl, s2⟩
    generalize w2.heap.size + 1 = r2 at *
    replace s2 := Lib.hid s2
    go_wp2_with fail
    refine (st2_write s2.out at_ text (by decide) (by decide) a0 a1 (by decide) (by decide) (by decide) (by decide) (by omega)).mono ?_
    rintro e w4 ⟨rfl, s3⟩
    replace s3 := Lib.hid s3
    clear s1 s2
    go_wp2_with fail
    have hs1 : (text.extract 0 m).size = m := by simp [ByteArray.size_extract]; omega
    refine (st2_write s3.out.swap at_ (text.extract 0 m) (by decide) (by decide) a0 a1 (by decide) (by decide) (by decide) (by decide) (by omega)).mono ?_
    rintro e w5 ⟨rfl, s4⟩
    rw [hs1] at s4 ⊢
    replace s4 := Lib.hid s4.swap
    clear s3
    by_cases hw : wCode 0 1 at_ text.size = 0
    · have hb2 : 0 ≤ at_ ∧ at_ + text.size ≤ 32768 := by
        unfold wCode at hw
        split at hw
        · omega
        · split at hw
          · omega
          · omega
      have hw1 : wCode 0 1 at_ m = 0 := by unfold wCode; rw [if_neg (by omega), if_neg (by omega), if_neg (by omega)]
      have s5 := s4.out
      rw [hw, hw1] at s5
      rw [hw, hw1]
      replace s4 := Lib.hid (show St2 w1 w5 1 r 1 (if text ≠ ⟨#[]⟩ then [(at_, text)] else []) text.size r2 1 (if text.extract 0 m ≠ ⟨#[]⟩ then [(at_, text.extract 0 m)] else []) m from by simpa using s5)
      clear s5
      go_wp2_with fail
      have hs2 : (text.extract m text.size).size = text.size - m := by simp [ByteArray.size_extract]
      have hw2 : wCode m 1 (at_ + m) (text.size - m : Nat) = 0 := by unfold wCode; rw [if_neg (by omega), if_neg (by omega), if_neg (by omega)]
      refine (st2_write s4.out.swap (at_ + m) (text.extract m text.size) (by decide) (by decide) (by omega) (by omega) (by split <;> simp) (by decide) (by omega) (by omega) (by omega)).mono ?_
      rintro e w6 ⟨rfl, s6⟩
      rw [hs2, hw2] at s6
      rw [hs2, hw2]
      have hQ1 := fun f => (parts_law at_ text m f (by omega) hm).1
      have hQ2 := fun f => (parts_law at_ text m f (by omega) hm).2
      have gA : Good (oneL at_ text) := fun p hp => by
        unfold oneL at hp
        split at hp
        · rename_i hne
          simp at hp
          subst hp
          exact ⟨hb2.1, hb2.2, Nat.pos_of_ne_zero (fun h => hne ((empty_iff _).2 h))⟩
        · simp at hp
      have gB : Good (twoL at_ text m) := fun p hp => by
        unfold twoL at hp
        split at hp
        · rename_i hne
          rcases List.mem_append.1 hp with hp | hp
          · split at hp
            · rename_i hne2
              simp at hp
              subst hp
              exact ⟨hb2.1, by simp only [hs1]; omega, Nat.pos_of_ne_zero (fun h => hne2 ((empty_iff _).2 h))⟩
            · simp at hp
          · simp at hp
            subst hp
            exact ⟨by simp only []; omega, by simp only [hs2]; omega, Nat.pos_of_ne_zero (fun h => hne.2 ((empty_iff _).2 h))⟩
        · split at hp
          · rename_i hne2
            simp at hp
            subst hp
            exact ⟨hb2.1, by simp only [hs1]; omega, Nat.pos_of_ne_zero (fun h => hne2 ((empty_iff _).2 h))⟩
          · simp at hp
      have lA : (oneL at_ text).length ≤ 1 := by unfold oneL; split <;> simp
      have lB : (twoL at_ text m).length ≤ 2 := by unfold twoL; split <;> split <;> simp
      replace s6 := Lib.hid (show St2 w1 w6 1 r 1 (oneL at_ text) text.size r2 2 (twoL at_ text m) text.size from by
        have := s6.swap
        rw [if_pos (rfl : (0 : Int) = 0), show (m : Int) + ((text.size - m : Nat) : Int) = text.size from by omega] at this
        exact this)
      clear s4
      generalize oneL at_ text = la at *
      generalize twoL at_ text m = lb at *
      replace gA := Lib.hid gA
      replace gB := Lib.hid gB
      replace hQ1 := Lib.hid hQ1
      replace hQ2 := Lib.hid hQ2
      go_wp2_with fail
      have hlen := hQ2.out file.data.toList
      have hfz : (file.data.toList.length : Int) = file.size := rfl
      rw [hfz] at hlen
      have HQ2 := Lib.hid hlen
      clear hlen hfz
      refine (st2_over s6.out file (by decide) (by decide) gA.out (by omega) (by omega)).mono ?_
      rintro e w7 ⟨rfl, s7⟩
      replace s7 := Lib.hid s7.swap
      clear s6
      go_wp2_with fail
      refine (st2_over s7.out file (by decide) (by decide) gB.out (by omega) (by omega)).mono ?_
      rw [hQ1.out]
      rintro e w8 ⟨rfl, s8⟩
      replace s8 := Lib.hid s8.swap
      clear s7
      generalize overL la file.data.toList = ov at *
      go_wp2_with fail
      refine (st_held s8.out.fst).mono ?_
      rintro e w9 ⟨rfl, rfl⟩
      go_wp2_with fail
      refine (st_held s8.out.swap.fst).mono ?_
      rintro e w9 ⟨rfl, rfl⟩
      go_wp2_with fail
      refine (st2_size s8.out file.size (by decide) (by decide) gA.out (by omega)).mono ?_
      rintro e w9 ⟨rfl, s9⟩
      replace s9 := Lib.hid s9.swap
      clear s8
      go_wp2_with fail
      refine (st2_size s9.out file.size (by decide) (by decide) gB.out (by omega)).mono ?_
      rw [HQ2.out]
      rintro e w10 ⟨rfl, s10⟩
      replace s10 := Lib.hid s10
      clear s9
      go_wp2_with fail
      go_ret
      exact ⟨rfl, hb.out.trans (s10.out.frame.mono hb.out.size)⟩
    · rw [if_neg (fun h => hw h.1), if_neg hw] at s4
      go_wp2_with fail
      all_goals try (exfalso; rename_i hx; simp at hx; exact hw hx)
      refine (st_held s4.out.fst).mono ?_
      rintro e w6 ⟨rfl, rfl⟩
      go_wp2_with fail
      go_ret
      exact ⟨rfl, hb.out.trans (s4.out.frame.mono hb.out.size)⟩
  all_goals (
    refine (awake_any w HT.out).mono ?_
    rintro e w1 ⟨rfl, hb⟩
    replace hb := Lib.hid hb
    go_wp2_with fail
    go_ret
    exact ⟨rfl, hb.out⟩)
end Go.Proofs.YtpkapichblpdfaaDoor
