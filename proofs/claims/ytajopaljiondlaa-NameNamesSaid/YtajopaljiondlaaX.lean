/- WALK of NameBack. -/
import Derived.Test.YtajopaljiondlaaW
set_option linter.unusedVariables false
namespace Go.Proofs.Ytajopaljiondlaa
open Go.RowKit Go.ChangeShapes Go.WideShapes Go.ChangeAt

theorem join_len (l : List ByteArray) : (joinU l).1.size ≤ 4096 := by
  unfold joinU
  split
  · simp [ByteArray.size]
  · split
    · simp [ByteArray.size]
    · rename_i h
      rw [str_size]
      omega
theorem own_bk {base : Nat} {w : World} {A : Option Addr} {n c : Nat} {l : List ByteArray} (h : OwnS base w (.slice A n c) l) : (∀ b off, A = some ⟨b, off, none⟩ → l ≠ [] → b < w.heap.size) ∧ l.length ≤ c := by
  rcases h.2 with ⟨e, h0⟩ | ⟨g, cap, cur, e, hb, hg, hc, _⟩
  · simp only [Value.slice.injEq] at e
    obtain ⟨rfl, _, rfl⟩ := e
    exact ⟨(fun b off h => by cases h), by omega⟩
  · simp only [Value.slice.injEq] at e
    obtain ⟨rfl, rfl, rfl⟩ := e
    refine ⟨fun b off h _ => ?_, hc⟩
    simp only [Option.some.injEq, Addr.mk.injEq, and_true] at h
    obtain ⟨rfl, _⟩ := h
    exact (Array.getElem?_eq_some_iff.1 hg).1
set_option maxRecDepth 100000 in
set_option maxHeartbeats 4000000 in
theorem back_walk (s : ByteArray) (A : Option Addr) (c : Nat) (l : List ByteArray) (w : World) (hs : s.size ≤ maxLen) (hR : RdT w A l) (hlm : l.length ≤ maxLen) (hlc : l.length ≤ c) (hok : ∀ o ∈ l, o.size ≤ maxLen) :
    Calls Try.prog 7 #[.string s, .slice A l.length c] w fun e w' => e = .returned (.bool true) ∧ Below w.heap.size w w' := by
  have HL := Lib.hid (long_any A c l w hR hlm hok)
  have HR := Lib.hid hR
  have HBK := Lib.hid (show ∀ b off, A = some ⟨b, off, none⟩ → l ≠ [] → b < w.heap.size from fun b off hA hne => by
    obtain ⟨b', off', e, hc⟩ := hR hne
    rw [hA] at e
    simp only [Option.some.injEq, Addr.mk.injEq, and_true] at e
    obtain ⟨rfl, rfl⟩ := e
    exact World.block_lt_of_cell? w _ (hc 0 (List.length_pos_iff.2 hne)))
  clear hR hok
  unfold maxLen at hs hlm
  by_cases h6 : 6000 < s.size
  · go_enter Try.func7, Try.ntmps7
    go_wp2_with fail
    refine (awake_any w).mono ?_
    rintro e w1 ⟨rfl, hb⟩
    replace hb := Lib.hid hb
    go_wp2_with fail
    go_ret
    exact ⟨rfl, hb.out⟩
  go_enter Try.func7, Try.ntmps7
  go_wp2_with fail
  refine HL.out.mono ?_
  rintro e w1 ⟨b, rfl, hb, rfl⟩
  cases b with
  | true =>
    clear hb
    go_wp2_with fail
    refine (awake_any w).mono ?_
    rintro e w1 ⟨rfl, hb⟩
    replace hb := Lib.hid hb
    go_wp2_with fail
    go_ret
    exact ⟨rfl, hb.out⟩
  | false =>
    have HS := Lib.hid (hb rfl)
    clear hb
    have hl2 : l.length ≤ 200 := HS.out.1
    go_wp2_with fail
    refine (awake_any w).mono ?_
    rintro e w1 ⟨rfl, hb⟩
    have R1 := Lib.hid (HR.out.below hb)
    have B1 := Lib.hid hb
    have JN := Lib.hid (join_any A c l w1 R1.out (fun b off hA hne => by have := HBK.out b off hA hne; have := B1.out.size; omega) (by omega) hlc (fun o ho => by have := HS.out.2 o ho; omega))
    have SL := Lib.hid (back_split l)
    have hjl := join_len l
    clear hb
    generalize joinU l = U at *
    obtain ⟨u, cu⟩ := U
    replace hjl : u.size ≤ 4096 := hjl
    go_wp2_with fail
    refine JN.out.mono ?_
    rintro e w2 ⟨rfl, hb⟩
    have R2 := Lib.hid (R1.out.below hb)
    have B2 := Lib.hid (B1.out.trans (hb.mono B1.out.size))
    clear hb R1 B1 JN
    have SP := Lib.hid (fun W => split_any s W (by omega))
    have LN := Lib.hid (split_len s.data.toList)
    have JB := Lib.hid (back_join s.data.toList)
    have ER := Lib.hid (split_err s.data.toList)
    generalize splitU s.data.toList = V at *
    obtain ⟨vl, cv⟩ := V
    by_cases hcu : cu = 0
    · subst hcu
      have hu := SL.out rfl
      have S2 := Lib.hid (split_any u w2 (by omega))
      rw [show splitU u.data.toList = (l, 0) from hu] at S2
      clear hu
      go_wp2_with fail
      refine S2.out.mono ?_
      rintro e w3 ⟨A3, c3, rfl, ho, hb⟩
      have R3 := Lib.hid (R2.out.below hb)
      have B3 := Lib.hid (B2.out.trans (hb.mono B2.out.size))
      have SM := Lib.hid (same_any A3 A c3 c l l w3 ho.rd R3.out (by omega) (by omega))
      rw [decide_eq_true (rfl : l = l)] at SM
      clear ho hb S2 R2 B2
      simp only []
      go_wp2_with fail
      refine SM.out.mono ?_
      rintro e w4 ⟨rfl, hb⟩
      have B4 := Lib.hid (B3.out.trans (hb.mono B3.out.size))
      clear hb SM B3 R3
      go_wp2_with fail
      refine (SP.out w4).mono ?_
      rintro e w5 ⟨A5, c5, rfl, ho, hb⟩
      have B5 := Lib.hid (B4.out.trans (hb.mono B4.out.size))
      have hvl := LN.out.1
      replace hvl : vl.length ≤ 4097 := hvl
      by_cases hcv : cv = 0
      · subst hcv
        have hj := JB.out rfl
        have J5 := Lib.hid (join_any A5 c5 vl w5 ho.rd (own_bk ho).1 (by omega) (own_bk ho).2 (fun o hx => by have : o.size ≤ 32 := LN.out.2 o hx; omega))
        rw [show joinU vl = (s, 0) from by rw [show joinU vl = (str s.data.toList, 0) from hj, str_eta]] at J5
        clear hj ho hb
        go_wp2_with fail
        refine J5.out.mono ?_
        rintro e w6 ⟨rfl, hb⟩
        have B6 := Lib.hid (B5.out.trans (hb.mono B5.out.size))
        clear hb B5
        go_wp2_with fail
        go_ret
        exact ⟨rfl, B6.out⟩
      · have hcvB : (cv != 0) = true := by simpa using hcv
        have hnil : vl = [] := ER.out hcv
        subst hnil
        replace hcv := Lib.hid hcv
        clear ho hb
        go_wp2_with fail
        go_ret
        exact ⟨rfl, B5.out⟩
    · have hcuB : (cu == 0) = false := by simpa using hcu
      replace hcu := Lib.hid hcu
      go_wp2_with fail
      refine (SP.out w2).mono ?_
      rintro e w5 ⟨A5, c5, rfl, ho, hb⟩
      have B5 := Lib.hid (B2.out.trans (hb.mono B2.out.size))
      have hvl := LN.out.1
      replace hvl : vl.length ≤ 4097 := hvl
      by_cases hcv : cv = 0
      · subst hcv
        have hj := JB.out rfl
        have J5 := Lib.hid (join_any A5 c5 vl w5 ho.rd (own_bk ho).1 (by omega) (own_bk ho).2 (fun o hx => by have : o.size ≤ 32 := LN.out.2 o hx; omega))
        rw [show joinU vl = (s, 0) from by rw [show joinU vl = (str s.data.toList, 0) from hj, str_eta]] at J5
        clear hj ho hb
        go_wp2_with fail
        refine J5.out.mono ?_
        rintro e w6 ⟨rfl, hb⟩
        have B6 := Lib.hid (B5.out.trans (hb.mono B5.out.size))
        clear hb B5
        go_wp2_with fail
        go_ret
        exact ⟨rfl, B6.out⟩
      · have hcvB : (cv != 0) = true := by simpa using hcv
        have hnil : vl = [] := ER.out hcv
        subst hnil
        replace hcv := Lib.hid hcv
        clear ho hb
        go_wp2_with fail
        go_ret
        exact ⟨rfl, B5.out⟩
end Go.Proofs.Ytajopaljiondlaa
