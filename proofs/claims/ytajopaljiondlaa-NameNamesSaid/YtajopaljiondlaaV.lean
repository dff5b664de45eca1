/- WALKS of layer 24: both Joins. -/
import Derived.Test.YtajopaljiondlaaU
set_option linter.unusedVariables false
namespace Go.Proofs.Ytajopaljiondlaa
open Go.RowKit Go.ChangeShapes Go.WideShapes Go.ChangeAt

theorem joinL_snoc (l : List ByteArray) (s : ByteArray) : joinL (l ++ [s]) = if l = [] then s.data.toList else joinL l ++ [47] ++ s.data.toList := by
  unfold joinL
  cases l with
  | nil => rw [if_pos rfl]; exact Lib.join_one _ _
  | cons x r =>
    rw [if_neg (by simp)]
    simp only [List.cons_append, List.map_cons, List.map_append, List.map_nil, Lib.join_cons]
    simp [Lib.joinTail, List.append_assoc]
theorem joinL_len (l : List ByteArray) (n : Nat) : ∀ k, k ≤ l.length → (∀ s ∈ l.take k, s.size ≤ n) → (joinL (l.take k)).length ≤ (n + 1) * k
  | 0, _, _ => by simp [joinL, Lib.join_nil]
  | k + 1, hk, h => by
    have hs := take_snoc l k (by omega)
    have ih := joinL_len l n k (by omega) (fun s hs' => h s (by rw [hs]; exact List.mem_append_left _ hs'))
    have h1 := h l[k] (by rw [hs]; exact List.mem_append_right _ (List.mem_singleton.2 rfl))
    have h2 : l[k].data.toList.length = l[k].size := rfl
    rw [hs, joinL_snoc]
    have h3 : (n + 1) * (k + 1) = (n + 1) * k + (n + 1) := Nat.mul_succ _ _
    split
    · omega
    · simp only [List.length_append, List.length_cons, List.length_nil]
      omega
theorem may_len {s : ByteArray} (h : badB s = false) : s.size ≤ 32 := by
  unfold badB mayB at h
  simp only [Bool.not_eq_false', decide_eq_true_iff] at h
  exact h.2.2.2.2.1
set_option maxHeartbeats 1000000 in
theorem join_any (A : Option Addr) (c : Nat) (l : List ByteArray) (w : World) (hR : RdT w A l) (hbk : ∀ b off, A = some ⟨b, off, none⟩ → l ≠ [] → b < w.heap.size) (hlm : l.length ≤ 10000) (hlc : l.length ≤ c) (hok : ∀ o ∈ l, o.size ≤ 1000000) :
    Calls Try.prog 17 #[.slice A l.length c] w fun e w' => e = .returned (.tuple #[.string (joinU l).1, .int .i64 (joinU l).2]) ∧ Below w.heap.size w w' := by
  have CF := Lib.hid (contains_any A c l w hR (by omega) hok)
  have hJ : joinU l = if l.any badB then (⟨#[]⟩, 56) else if 4096 < (joinL l).length then (⟨#[]⟩, 40) else (str (joinL l), 0) := rfl
  generalize joinU l = U at *
  cases hb : l.any badB with
  | true =>
    rw [hb] at CF hJ
    rw [if_pos rfl] at hJ
    subst hJ
    clear hb hR
    go_enter Try.func17, Try.ntmps17
    go_wp2_with fail
    refine CF.out.mono ?_
    rintro e w1 ⟨rfl, rfl⟩
    go_wp2_with fail
    go_ret2
    exact ⟨rfl, Below.refl _ _⟩
  | false =>
    rw [hb] at CF hJ
    rw [if_neg (by simp)] at hJ
    have hsz : ∀ s ∈ l, s.size ≤ 32 := fun s hs => may_len (by
      have := List.any_eq_false.1 hb s hs
      simpa using this)
    have hjl : (joinL l).length ≤ 33 * l.length := by
      have := joinL_len l 32 l.length (Nat.le_refl _) (fun s hs => hsz s (by rwa [List.take_length] at hs))
      rwa [List.take_length] at this
    have hjn : (joinL l).length ≤ 330000 := by omega
    have SJ : Calls Try.prog 27 #[.slice A l.length c, .string ⟨#[47]⟩] w fun e w' => e = .returned (.string (str (joinL l))) ∧ Below w.heap.size w w' := by
      by_cases hne : l = []
      · subst hne
        refine (Try.strings_Join_none A c ⟨#[47]⟩ w).mono fun e w' ⟨he, hw⟩ => ⟨he, by rw [hw]; exact Below.refl _ _⟩
      · obtain ⟨b, off, rfl, hc⟩ := hR hne
        exact (Try.strings_Join b off c l ⟨#[47]⟩ w (fun j x hx => by
          obtain ⟨hj, he⟩ := List.getElem?_eq_some_iff.1 hx
          rw [hc j hj, he]) (hbk b off rfl hne) (by omega) hlc (by
          show (joinL l).length ≤ _
          omega)).mono fun e w' ⟨he, hw⟩ => ⟨he, hw⟩
    replace SJ := Lib.hid SJ
    have hss := str_size (joinL l)
    generalize joinL l = J at *
    replace hss := Lib.hid hss
    have hJs : (str J).size ≤ 330000 := by rw [hss.out]; exact hjn
    by_cases h4 : 4096 < J.length
    · rw [if_pos h4] at hJ
      subst hJ
      have h4' : 4096 < (str J).size := by rw [hss.out]; exact h4
      clear hb hR hsz hjl hjn h4
      go_enter Try.func17, Try.ntmps17
      go_wp2_with fail
      refine CF.out.mono ?_
      rintro e w1 ⟨rfl, rfl⟩
      go_wp2_with fail
      refine SJ.out.mono ?_
      rintro e w1 ⟨rfl, hb1⟩
      replace hb1 := Lib.hid hb1
      go_wp2_with fail
      go_ret2
      exact ⟨rfl, hb1.out⟩
    · rw [if_neg h4] at hJ
      subst hJ
      have h4' : (str J).size ≤ 4096 := by rw [hss.out]; omega
      clear hb hR hsz hjl hjn h4
      go_enter Try.func17, Try.ntmps17
      go_wp2_with fail
      refine CF.out.mono ?_
      rintro e w1 ⟨rfl, rfl⟩
      go_wp2_with fail
      refine SJ.out.mono ?_
      rintro e w1 ⟨rfl, hb1⟩
      replace hb1 := Lib.hid hb1
      go_wp2_with fail
      go_ret2
      exact ⟨rfl, hb1.out⟩
set_option maxHeartbeats 2000000 in
theorem refjoin_any (A : Option Addr) (c : Nat) (l : List ByteArray) (w : World) (hR : RdT w A l) (hlm : l.length ≤ 10000) (hok : ∀ o ∈ l, o.size ≤ 1000000) :
    Calls Try.prog 18 #[.slice A l.length c] w fun e w' => e = .returned (.tuple #[.string (joinU l).1, .int .i64 (joinU l).2]) ∧ w = w' := by
  have hJ := Lib.hid (show joinU l = if l.any badB then (⟨#[]⟩, 56) else if 4096 < (joinL l).length then (⟨#[]⟩, 40) else (str (joinL l), 0) from rfl)
  generalize joinU l = U at *
  have HR := Lib.hid hR
  have HO := Lib.hid hok
  clear hR hok
  go_enter Try.func18, Try.ntmps18
  go_wp2_with fail
  go_loop [4, 5] (fun s i => ∃ k : Nat, k ≤ l.length ∧ i = .int .i64 k ∧ s = .string (str (joinL (l.take k))) ∧ (∀ o ∈ l.take k, badB o = false)) (fun _ i => l.length - (intOf i).toNat)
  case atStart => exact ⟨0, Nat.zero_le _, rfl, rfl, fun o ho => by simp at ho⟩
  case round =>
    obtain ⟨k, hk, rfl, rfl, hall⟩ := hrel
    have hjl := joinL_len l 32 k hk (fun s hs => may_len (hall s hs))
    have hss := str_size (joinL (l.take k))
    have hjn : (str (joinL (l.take k))).size ≤ 330000 := by rw [hss]; omega
    have HA := Lib.hid hall
    clear hall
    by_cases hlt : k < l.length
    · obtain ⟨b, off, rfl, hcs⟩ := HR.out (by intro h; subst h; simp at hlt)
      have d3 := hcs k hlt
      have HK := Lib.hid (take_snoc l k hlt)
      have HS := Lib.hid (joinL_snoc (l.take k) l[k])
      have hmem := Lib.hid (List.getElem_mem hlt)
      have hsz1 := HO.out l[k] (List.getElem_mem hlt)
      have MY := Lib.hid (refmay_any l[k] w hsz1)
      have h0k : (l.take k = []) ↔ k = 0 := by
        rw [List.take_eq_nil_iff]
        constructor
        · rintro (h | h)
          · exact h
          · subst h; simp at hlt
        · exact .inl
      clear hcs
      generalize ht : l[k] = t at *
      replace ht := Lib.hid ht
      have hbad : badB t = !mayB t.data.toList := rfl
      cases hm : mayB t.data.toList with
      | false =>
        rw [hm] at MY hbad
        have hany : l.any badB = true := List.any_eq_true.2 ⟨t, hmem.out, hbad⟩
        have hJ2 := hJ.out
        rw [hany, if_pos rfl] at hJ2
        replace hJ2 := Lib.hid hJ2
        clear hm hbad hany
        replace h0k := Lib.hid h0k
        replace hss := Lib.hid hss
        go_wp2_with fail
        refine MY.out.mono ?_
        rintro e w1 ⟨rfl, rfl⟩
        go_wp2_with fail
        go_ret2
        exact ⟨by rw [hJ2.out]; rfl, rfl⟩
      | true =>
        rw [hm] at MY hbad
        replace hbad := Lib.hid hbad
        clear hm
        replace hss := Lib.hid hss
        have rel_ : ∀ o ∈ l.take (k + 1), badB o = false := fun o ho => by
          rw [HK.out] at ho
          rcases List.mem_append.1 ho with h | h
          · exact HA.out o h
          · simp at h
            rw [h]; exact hbad.out
        replace rel_ := Lib.hid rel_
        by_cases hk0 : k = 0
        · have hnext : joinL (l.take (k + 1)) = t.data.toList := by rw [HK.out, HS.out, if_pos (h0k.2 hk0)]
          have hcur : str (joinL (l.take k)) = ⟨#[]⟩ := by rw [h0k.2 hk0]; rfl
          replace hnext := Lib.hid hnext
          replace h0k := Lib.hid h0k
          rw [hcur] at hjn ⊢
          subst hk0
          have hadd : (⟨#[]⟩ : ByteArray) ++ t = t := bytes_inj (by rw [ByteArray.data_append]; simp)
          replace hadd := Lib.hid hadd
          clear hcur
          rw [Nat.add_zero] at d3
          go_wp2_with fail
          refine MY.out.mono ?_
          rintro e w1 ⟨rfl, rfl⟩
          go_wp2_with fail
          go_round
          case rel => exact ⟨1, by omega, by go_num, by rw [hnext.out, str_eta]; exact congrArg Value.string hadd.out, rel_.out⟩
          case measure => simp [intOf]; omega
        · have hk1 : 0 < k := by omega
          have hnext : (str (joinL (l.take k)) ++ ⟨#[47]⟩) ++ t = str (joinL (l.take (k + 1))) := by
            rw [HK.out, HS.out, if_neg (fun h => hk0 (h0k.1 h))]
            apply bytes_inj
            simp only [app_data, str_data]
          replace hnext := Lib.hid hnext
          replace h0k := Lib.hid h0k
          replace hk0 := Lib.hid hk0
          generalize str (joinL (l.take k)) = cur at *
          go_wp2_with fail
          refine MY.out.mono ?_
          rintro e w1 ⟨rfl, rfl⟩
          go_wp2_with fail
          go_round
          case rel => exact ⟨k + 1, by omega, by go_num, by rw [← hnext.out], rel_.out⟩
          case measure => simp [intOf]; omega
    · have hkl : k = l.length := by omega
      subst hkl
      have hany : l.any badB = false := by
        rw [List.any_eq_false]
        intro o ho
        rw [HA.out o (by simpa using ho)]
        simp
      have hJ2 := hJ.out
      rw [hany, if_neg (by simp)] at hJ2
      rw [List.take_length] at hss hjn ⊢
      have hjs : (str (joinL l)).size = (joinL l).length := hss
      by_cases h4 : 4096 < (joinL l).length
      · rw [if_pos h4] at hJ2
        have h4' : 4096 < (str (joinL l)).size := by rw [hss]; exact h4
        replace hJ2 := Lib.hid hJ2
        replace hjs := Lib.hid hjs
        clear h4 hss hany hjl
        generalize str (joinL l) = S at *
        go_wp2_with fail
        go_ret2
        exact ⟨by rw [hJ2.out]; rfl, rfl⟩
      · rw [if_neg h4] at hJ2
        have h4' : (str (joinL l)).size ≤ 4096 := by rw [hss]; omega
        replace hJ2 := Lib.hid hJ2
        replace hjs := Lib.hid hjs
        clear h4 hss hany hjl
        generalize str (joinL l) = S at *
        go_wp2_with fail
        go_ret2
        exact ⟨by rw [hJ2.out]; rfl, rfl⟩
end Go.Proofs.Ytajopaljiondlaa
