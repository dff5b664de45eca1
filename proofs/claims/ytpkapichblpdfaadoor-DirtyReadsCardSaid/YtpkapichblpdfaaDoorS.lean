/- WALK of DirtyReads. -/
import Derived.Test.YtpkapichblpdfaaDoorSd
set_option linter.unusedVariables false
namespace Go.Proofs.YtpkapichblpdfaaDoor
open Go.RowKit Go.ChangeShapes Go.WideShapes Go.ChangeAt Go.Deep
/-- What holds at the head of the loop. -/
def RHead (w wr : World) (r : Nat) (ino apart : Int) (f : List UInt8) (len : Nat) (v6 v9 v10 : Value) : Prop :=
  ∃ k bo Li La g cap, k ≤ len ∧ v10 = .int .i64 (k : Nat) ∧ RS w wr r bo ino apart k Li La g cap (overL Li f) ∧ v6 = .slice (some ⟨g, 0, none⟩) (overL Li f).length cap ∧ v9 = .string ⟨(overL La f).toArray⟩
theorem over_bd {l : List Pt} {f : List UInt8} (hg : Good l) (hf : f.length ≤ 3000) : (overL l f).length ≤ 32768 := by
  have h1 := overL_len l f hg
  have h2 := sizeL_bd l f.length hg
  omega
/-- A conversion, by another name: the region's tactic is to take it where it stands. -/
def hiddenConvert := Op.convert
set_option maxRecDepth 100000 in
set_option maxHeartbeats 4000000 in
theorem reads_walk (A : Option Addr) (c : Nat) (l : List OpD) (file : ByteArray) (w : World) (hT : Tabs w) (hR : RdO w A l) (hlm : l.length ≤ maxLen) (hok : ∀ o ∈ l, OkOp o) (hfm : file.size ≤ maxLen) :
    Calls Tryd.prog 4 #[.slice A l.length c, .string file] w fun e w' => e = .returned (.bool true) ∧ Below w.heap.size w w' := by
  have HT := Lib.hid hT
  have HR := Lib.hid hR
  have HO := Lib.hid hok
  have HL := Lib.hid (long_any A c l w hR hlm hok)
  clear hT hR hok
  unfold maxLen at hlm hfm
  by_cases hf3 : 3000 < file.size
  · go_enter Tryd.func4, Tryd.ntmps4
    go_wp2_with fail
    refine HL.out.mono ?_
    rintro e w1 ⟨b, rfl, hb, rfl⟩
    clear hb
    cases b
    all_goals (
      go_wp2_with fail
      refine (awake_any w HT.out).mono ?_
      rintro e w1 ⟨rfl, hb⟩
      replace hb := Lib.hid hb
      go_wp2_with fail
      go_ret
      exact ⟨rfl, hb.out⟩)
  go_enter Tryd.func4, Tryd.ntmps4
  go_wp2_with fail
  refine HL.out.mono ?_
  rintro e w1 ⟨b, rfl, hb, rfl⟩
  cases b
  rotate_left
  · clear hb
    go_wp2_with fail
    refine (awake_any w HT.out).mono ?_
    rintro e w1 ⟨rfl, hb⟩
    replace hb := Lib.hid hb
    go_wp2_with fail
    go_ret
    exact ⟨rfl, hb.out⟩
  have HS := Lib.hid (hb rfl)
  clear hb
  have hl40 : l.length ≤ 40 := HS.out.1
  go_wp2_with fail
  refine (awake_any w HT.out).mono ?_
  rintro e w1 ⟨rfl, hb1⟩
  replace hb1 := Lib.hid hb1
  go_wp2_with fail
  refine (new_any w1).mono ?_
  rintro e w2 ⟨rfl, hB2, hb2⟩
  have hz12 := hb2.size
  have hz01 := hb1.out.size
  have HB2 := Lib.hid hB2
  have HF2 := Lib.hid (hb1.out.trans (hb2.mono hz01))
  clear hB2 hb2
  obtain ⟨r, hr⟩ : ∃ r, r = w1.heap.size + 1 := ⟨_, rfl⟩
  rw [← hr] at HB2 ⊢
  replace hr := Lib.hid hr
  obtain ⟨cap0, w3, hcv, hM0, hb3⟩ := mb_of file w2 (by omega)
  replace hM0 := Lib.hid hM0
  have HF3 := Lib.hid (HF2.out.trans (hb3.mono HF2.out.size))
  have HB3 := Lib.hid (HB2.out.below hb3)
  have hz3 := hM0.out.2.2.1
  clear hb3
  go_upto_if 30 with fail
  go_cut [7] (fun s7 wx => ∃ ino : Int, s7 = .int .i64 ino ∧ (-9223372036854775808 ≤ ino ∧ ino ≤ 9223372036854775807) ∧ w3 = wx)
  case first =>
    by_cases h0 : 0 < l.length
    · obtain ⟨b, off, rfl, hbl, hcs⟩ := HR.out (by intro h; subst h; simp at h0)
      have d1 := keep1 HF3.out (hcs 0 h0).2.1
      have hi := (HO.out l[0] (List.getElem_mem h0)).2.1
      generalize l[0].ino = i0 at *
      clear hcs
      rw [show off + 0 * 4 + 1 = off + 1 from by omega] at d1
      go_wp2_with fail
      go_meet
      exact ⟨_, rfl, hi, rfl⟩
    · go_wp2_with fail
      go_meet
      exact ⟨_, rfl, by decide, rfl⟩
  case rest =>
    obtain ⟨ino, rfl, hino, rfl⟩ := hcut
    obtain ⟨hi0, hi1⟩ := hino
    go_upto_if 36 with fail
    go_cut [8] (fun s8 wx => ∃ apart : Int, s8 = .int .i64 apart ∧ (apart ≠ ino ∧ -9223372036854775808 ≤ apart ∧ apart ≤ 9223372036854775807) ∧ w3 = wx)
    case first =>
      by_cases h7 : ino = 7
      · subst h7
        go_wp2_with fail
        go_meet
        exact ⟨_, rfl, by decide, rfl⟩
      · go_wp2_with fail
        go_meet
        exact ⟨_, rfl, ⟨fun h => h7 h.symm, by decide, by decide⟩, rfl⟩
    case rest =>
      obtain ⟨apart, rfl, ⟨hai, ha0, ha1⟩, rfl⟩ := hcut
      replace hai := Lib.hid hai
      have hr2 : r < w2.heap.size := by
        obtain ⟨bm, D, F, h1, _⟩ := HB2.out
        exact (Array.getElem?_eq_some_iff.1 h1).1
      have hr1 : r = w1.heap.size + 1 := hr.out
      have S3 := Lib.hid (show RS w w3 r w3.heap.size ino apart 0 [] [] w2.heap.size cap0 file.data.toList from
        ⟨_, _, _, _, HB3.out, Nat.le_refl _, fun i => ⟨Nat.le_refl _, fun p hp => by simp at hp⟩, by decide, by decide, fun b hb => by rcases hb with rfl | rfl <;> (refine ⟨by omega, by omega, by omega⟩), by omega, by omega, hM0.out, rfl, rfl, HF3.out⟩)
      clear hr1 hr2 hr hM0 hcv
      go_wp2_with fail
      refine (rs_over_apart S3.out file ha0 ha1 (by decide) (by omega)).mono ?_
      rw [overL_nil]
      rintro e w4 ⟨rfl, hb4⟩
      have S4 := Lib.hid (S3.out.below hb4)
      clear hb4 S3 HB3 HF3 HB2 HF2 hb1 hz12 hz01 hz3
      go_wp2_with fail
      have hfl : file.data.toList.length = file.size := rfl
      generalize hff : file.data.toList = f at *
      replace hff := Lib.hid hff
      rw [← hfl]
      have hf3' : f.length ≤ 3000 := by omega
      replace hfl := Lib.hid hfl
      go_loopw [6, 9, 10] (fun v6 v9 v10 wr => RHead w wr r ino apart f l.length v6 v9 v10) (fun _ _ v10 _ => l.length - (intOf v10).toNat)
      case atStart => exact ⟨0, _, [], [], _, _, Nat.zero_le _, rfl, by rw [overL_nil]; exact S4.out, by rw [overL_nil], by rw [overL_nil, ← hff.out]⟩
      case round =>
        obtain ⟨k, bo, Li, La, g, cap, hk, rfl, hs, rfl, rfl⟩ := hrel
        have HS0 := Lib.hid hs
        have HG := Lib.hid hs.goodI.1
        have hMb := over_bd HG.out hf3'
        by_cases hlt : k < l.length
        · obtain ⟨b, off, rfl, hbl, hcs⟩ := HR.out (by intro h; subst h; simp at hlt)
          obtain ⟨e0, e1, e2, e3⟩ := hcs k hlt
          have d0 := keep1 hs.frame e0
          have d1 := keep1 hs.frame e1
          have d2 := keep1 hs.frame e2
          have d3 := keep1 hs.frame e3
          clear e0 e1 e2 e3 hcs hs
          obtain ⟨⟨o0, o1⟩, ⟨o2, o3⟩, ⟨o4, o5⟩, _⟩ := HO.out l[k] (List.getElem_mem hlt)
          have ht4 := HS.out.2 l[k] (List.getElem_mem hlt)
          generalize l[k].kind = κ at *
          generalize l[k].ino = i at *
          generalize l[k].at_ = a at *
          generalize l[k].text = tx at *
          obtain ⟨M, hM⟩ : ∃ M, overL Li f = M := ⟨_, rfl⟩
          rw [hM] at HS0 hMb ⊢
          replace hM := Lib.hid hM
          obtain ⟨X, hX⟩ : ∃ X : ByteArray, (⟨(overL La f).toArray⟩ : ByteArray) = X := ⟨_, rfl⟩
          rw [hX]
          replace hX := Lib.hid hX
          by_cases hk0 : κ = 0
          · subst hk0
            go_wp2_with fail
            have S5 := Lib.hid (HS0.out.box (.cells #[.int .u8 0, .int .i64 i, .int .i64 a, .string tx] 32))
            have b1 : (wr.alloc (.cells #[.int .u8 0, .int .i64 i, .int .i64 a, .string tx] 32)).cell? ⟨wr.heap.size, 1, none⟩ = some (.int .i64 i) := by rw [World.cell?_alloc_new]; rfl
            have b2 : (wr.alloc (.cells #[.int .u8 0, .int .i64 i, .int .i64 a, .string tx] 32)).cell? ⟨wr.heap.size, 2, none⟩ = some (.int .i64 a) := by rw [World.cell?_alloc_new]; rfl
            have b3 : (wr.alloc (.cells #[.int .u8 0, .int .i64 i, .int .i64 a, .string tx] 32)).cell? ⟨wr.heap.size, 3, none⟩ = some (.string tx) := by rw [World.cell?_alloc_new]; rfl
            have hz5 : wr.heap.size < (wr.alloc (.cells #[.int .u8 0, .int .i64 i, .int .i64 a, .string tx] 32)).heap.size := by simp
            generalize wr.alloc (.cells #[.int .u8 0, .int .i64 i, .int .i64 a, .string tx] 32) = w5 at *
            generalize wr.heap.size = bx at *
            clear HS0 d0 d1 d2 d3
            refine (rs_write S5.out i a tx o2 o3 o4 o5 (by omega) (by omega) hz5).mono ?_
            rintro e w6 ⟨cd, rfl, hc0, hs6, hbx⟩
            have c1 := hbx ⟨bx, 1, none⟩ _ rfl b1
            have c2 := hbx ⟨bx, 2, none⟩ _ rfl b2
            have c3 := hbx ⟨bx, 3, none⟩ _ rfl b3
            clear hbx b1 b2 b3 S5
            replace hs6 := Lib.hid hs6
            by_cases hcd : cd = 0
            · subst hcd
              have hc0' := hc0 rfl
              clear hc0
              by_cases hia : i = apart
              · subst hia
                have hine := hai.out
                obtain ⟨La', hLa⟩ : ∃ La', (if (0 : Int) = 0 ∧ tx ≠ ⟨#[]⟩ ∧ i = i then La ++ [(a, tx)] else La) = La' := ⟨_, rfl⟩
                have S6 := hs6.out
                rw [if_neg (fun h => hine h.2.2), hLa] at S6
                replace S6 := Lib.hid S6
                clear hs6 hLa
                go_wp2_with fail
                refine (rs_over_apart S6.out file o2 o3 (by omega) (by omega)).mono ?_
                rw [hff.out]
                rintro e w7 ⟨rfl, hb7⟩
                have q1 := keep1 hb7 c1
                have q3 := keep1 hb7 c3
                have S7 := Lib.hid (S6.out.below hb7)
                clear hb7 S6 c1 c2 c3
                go_wp2_with fail
                go_roundw
                case rel => exact ⟨k + 1, bx, Li, La', g, cap, by omega, by go_num, by rw [hM.out]; exact S7.out, by rw [hM.out], rfl⟩
                case measure => simp [intOf]; omega
              · have hiaB : (i == apart) = false := by simpa using hia
                by_cases hii : i = ino
                · subst hii
                  by_cases he : tx = ⟨#[]⟩
                  · have S6 := hs6.out
                    rw [if_neg (fun h => h.2.1 he), if_neg (fun h => h.2.1 he)] at S6
                    subst he
                    replace S6 := Lib.hid S6
                    clear hs6
                    go_wp2_with fail
                    go_roundw
                    case rel => exact ⟨k + 1, bx, Li, La, g, cap, by omega, by go_num, by rw [hM.out]; exact S6.out, by rw [hM.out], by rw [hX.out]⟩
                    case measure => simp [intOf]; omega
                  · have he1 : tx.toList.isEmpty = false := by
                      rw [Bool.eq_false_iff]
                      intro h
                      exact he (empty_of (by rw [h]; rfl))
                    have S6 := hs6.out
                    rw [if_pos ⟨rfl, he, rfl⟩, if_neg (fun h => hia h.2.2)] at S6
                    have hgood := S6.goodI.1
                    have hov := over_snoc Li (a, tx) f hgood
                    rw [hM.out] at hov
                    obtain ⟨n, rfl⟩ : ∃ n : Nat, a = (n : Int) := ⟨a.toNat, by omega⟩
                    have hnt : n + tx.size ≤ 32768 := by omega
                    have htl : tx.data.toList.length = tx.size := rfl
                    simp only [Int.toNat_natCast, ← Int.natCast_add] at hov
                    replace hov := Lib.hid hov
                    replace S6 := Lib.hid S6
                    replace he := Lib.hid he
                    replace htl := Lib.hid htl
                    clear hs6 hgood
                    have hbz6 : bx < w6.heap.size := World.block_lt_of_cell? w6 _ c1
                    go_wp2_with fail
                    go_loopw [6] (fun v6 wx => RL1 w wx r bx i apart (k + 1) (Li ++ [((n : Int), tx)]) La M (n : Int) tx (max M.length (n + tx.size)) v6) (fun v6 _ => max M.length (n + tx.size) - lenOf v6)
                    case atStart => exact ⟨0, g, cap, by omega, by simp, by simpa using S6.out, c1, c2, c3⟩
                    case round =>
                      clear c1 c2 c3 S6 hbz6
                      obtain ⟨j, g1, cap1, hjE, rfl, hsx, c1, c2, c3⟩ := hrel
                      have hbzx : bx < wr.heap.size := World.block_lt_of_cell? wr _ c1
                      replace hsx := Lib.hid hsx
                      by_cases hgr : M.length + j < n + tx.size
                      · have hbw : Below wr.heap.size wr (wr.alloc (.cells #[.int .u8 0] 5)) := (Below.refl _ _).alloc (Nat.le_refl _) _
                        obtain ⟨g2, cap2, w7, hap, hm2, ho2, hg2⟩ := (hsx.out.below hbw).mb.append ⟨wr.heap.size, 0, none⟩ 1 0 (World.cell?_alloc_new wr _ _ 0) (by simp; omega)
                        have S7 := Lib.hid ((hsx.out.below hbw).mine ho2 hm2 hg2 (by simp; omega))
                        have hfar : ¬ bx = g1 := fun h => hsx.out.far.1 h.symm
                        have p1 := ho2.cell (keep1 hbw c1) hfar
                        have p2 := ho2.cell (keep1 hbw c2) hfar
                        have p3 := ho2.cell (keep1 hbw c3) hfar
                        rw [List.length_append, List.length_replicate] at hap
                        clear hfar hbw hm2 ho2 hg2
                        go_wp2_with (at_builtin; refine Go.Lib.wpList_append_run_sl _ rfl _ _ _ rfl _ _ rfl rfl hap ?_)
                        go_roundw
                        case rel => exact ⟨j + 1, g2, cap2, by omega, rfl, by rw [List.replicate_succ', ← List.append_assoc]; exact S7.out, p1, p2, p3⟩
                        case measure => simp [lenOf]; omega
                      · have hjj : j = n + tx.size - M.length := by omega
                        have hMl : (M ++ List.replicate j 0).length = M.length + j := by simp
                        have hfit : n + tx.data.toList.length ≤ (M ++ List.replicate j 0).length := by rw [hMl, htl.out]; omega
                        have hPL := Lib.hid (fun q => (show (poke (M ++ List.replicate j 0) n (tx.data.toList.take q)).length = M.length + j from by rw [poke_len _ _ _ (by have := List.length_take_le' q tx.data.toList; omega), hMl]))
                        have HOV := Lib.hid (show overL (Li ++ [((n : Int), tx)]) f = poke (M ++ List.replicate j 0) n tx.data.toList from by rw [hov.out, hjj])
                        replace hMl := Lib.hid hMl
                        replace hfit := Lib.hid hfit
                        clear hov hjj
                        generalize M ++ List.replicate j 0 = M2 at *
                        obtain ⟨N, hN⟩ : ∃ N, M.length + j = N := ⟨_, rfl⟩
                        have hN1 : n + tx.size ≤ N := by omega
                        have hN2 : N ≤ 32768 := by omega
                        rw [hN] at hPL hgr ⊢
                        clear hgr hjE
                        replace hN := Lib.hid hN
                        go_wp2_with fail
                        go_loopw [12] (fun v12 wx => RL2 w wx r bx i apart (k + 1) (Li ++ [((n : Int), tx)]) La M2 n tx g1 cap1 v12) (fun v12 _ => tx.size - (intOf v12).toNat)
                        case atStart => exact ⟨0, Nat.zero_le _, rfl, by rw [List.take_zero, poke_zero]; exact hsx.out, c1, c2, c3⟩
                        case round =>
                          clear c1 c2 c3 hsx hbzx
                          obtain ⟨q, hq, rfl, hsq, c1, c2, c3⟩ := hrel
                          replace hsq := Lib.hid hsq
                          by_cases hql : q < tx.size
                          · obtain ⟨m1, m2, m3, m4, m5⟩ := hsq.out.mb
                            have hin : n + q < (poke M2 n (tx.data.toList.take q)).length := by rw [hPL.out]; omega
                            have f1 := m4 (n + q) hin
                            have f2 := (m5 (n + q) (by omega)).2
                            generalize (((poke M2 n (tx.data.toList.take q))[n + q].toNat : Nat) : Int) = old at *
                            clear m1 m2 m3 m4 m5 hin
                            have hwr : IntKind.i64.wrap ((n : Int) + (q : Int)) = (n : Int) + (q : Int) := by rw [IntKind.wrap_i64]; omega
                            have hnq : ((n : Int) + (q : Int)).toNat = n + q := by omega
                            have hnq0 : (0 : Int) ≤ (n : Int) + (q : Int) := by omega
                            have hnq1 : (n : Int) + (q : Int) < (N : Int) := by omega
                            go_wp2_with fail
                            go_region
                            all_goals (
                              have hm5 := hsq.out.mb.set (n + q) (tx.data.toList[q]'(by rw [htl.out]; exact hql)) (by rw [hPL.out]; omega)
                              rw [poke_step M2 tx.data.toList n q (by rw [htl.out]; exact hql) hfit.out] at hm5
                              have hfar : ¬ bx = g1 := fun h => hsq.out.far.1 h.symm
                              have ho5 := setCell_off wr g1 (n + q) (.int .u8 ((tx[q].toNat : Nat) : Int))
                              have hbz5 := World.block_lt_of_cell? wr _ c1
                              have S9 := Lib.hid (((hsq.out.mine ho5 hm5 (.inl rfl) hbz5)).below ((Below.refl _ _).drew))
                              have p1 := ho5.cell c1 hfar
                              have p2 := ho5.cell c2 hfar
                              have p3 := ho5.cell c3 hfar
                              clear hm5 ho5 f1 f2
                              go_wp2_with fail
                              go_roundw
                              case rel => exact ⟨q + 1, by omega, by go_num, S9.out, p1, p2, p3⟩
                              case measure => simp [intOf]; omega)
                          · have hqe : q = tx.size := by omega
                            subst hqe
                            have S9 := hsq.out
                            have htk : tx.data.toList.take tx.size = tx.data.toList := List.take_of_length_le (by rw [htl.out]; omega)
                            rw [htk, ← HOV.out] at S9
                            have hlen9 := hPL.out tx.size
                            rw [htk, ← HOV.out] at hlen9
                            clear htk hsq
                            replace S9 := Lib.hid S9
                            replace hlen9 := Lib.hid hlen9
                            go_wp2_with fail
                            refine (rs_over_apart S9.out file ha0 ha1 (by omega) (by omega)).mono ?_
                            rw [hff.out, hX.out]
                            rintro e w9 ⟨rfl, hb9⟩
                            have S10 := Lib.hid (S9.out.below hb9)
                            clear hb9 S9 c1 c2 c3
                            go_wp2_with fail
                            go_roundw
                            case rel => exact ⟨k + 1, bx, _, La, g1, cap1, by omega, by go_num, S10.out, by rw [hlen9.out], by rw [hX.out]⟩
                            case measure => simp [intOf]; omega
                · have S6 := hs6.out
                  rw [if_neg (fun h => hii h.2.2), if_neg (fun h => hia h.2.2)] at S6
                  replace S6 := Lib.hid S6
                  clear hs6
                  go_wp2_with fail
                  go_roundw
                  case rel => exact ⟨k + 1, bx, Li, La, g, cap, by omega, by go_num, by rw [hM.out]; exact S6.out, by rw [hM.out], by rw [hX.out]⟩
                  case measure => simp [intOf]; omega
            · have hcd' : (cd != 0) = true := by simpa using hcd
              have S6 := hs6.out
              rw [if_neg (fun h => hcd h.1), if_neg (fun h => hcd h.1)] at S6
              replace S6 := Lib.hid S6
              clear hs6
              go_wp2_with fail
              go_roundw
              case rel => exact ⟨k + 1, bx, Li, La, g, cap, by omega, by go_num, by rw [hM.out]; exact S6.out, by rw [hM.out], by rw [hX.out]⟩
              case measure => simp [intOf]; omega
          · have hk1 : 1 ≤ κ := by omega
            go_wp2_with fail
            all_goals (
              go_roundw
              case rel => exact ⟨k + 1, wr.heap.size, Li, La, g, cap, by omega, by go_num, by rw [hM.out]; exact (HS0.out.box _).later (by omega), by rw [hM.out], by rw [hX.out]⟩
              case measure => simp [intOf]; omega)
        · have hkl : k = l.length := by omega
          subst hkl
          clear hs
          obtain ⟨M, hM⟩ : ∃ M, overL Li f = M := ⟨_, rfl⟩
          rw [hM] at HS0 hMb ⊢
          have hsz : sizeL Li (file.size : Int) = (M.length : Int) := by
            rw [← hM, overL_len Li f HG.out, hfl.out]
          replace hsz := Lib.hid hsz
          replace hM := Lib.hid hM
          have hOV := fun W (h : RS w W r bo ino apart l.length Li La g cap M) => rs_over_ino h file hi0 hi1 (by omega) (by omega)
          have hSZ := fun W (h : RS w W r bo ino apart l.length Li La g cap M) => rs_size h (file.size : Int) hi0 hi1 (by omega)
          rw [hff.out, hM.out] at hOV
          rw [hsz.out] at hSZ
          replace hOV := Lib.hid hOV
          replace hSZ := Lib.hid hSZ
          have hCV := fun W (h : RS w W r bo ino apart l.length Li La g cap M) => h.mb.conv
          go_wp2_with fail
          have e1 : ∀ c, Op.convert 30 9 c = hiddenConvert 30 9 c := fun _ => rfl
          simp only [e1]
          clear e1
          have e2 : ∀ c, hiddenConvert 30 9 c = Op.convert 30 9 c := fun _ => rfl
          have s0 := HS0.out
          go_region_held3 (fun W => RS w W r bo ino apart l.length Li La g cap M)
            (first | exact s0.below ((Below.refl _ _).drew) | exact RS.below (by assumption) (by assumption) | assumption)
            (first | (go_at_call 12; refine (hOV.out _ (by assumption)).mono ?_; rintro e w' ⟨rfl, hb'⟩) | (go_at_call 14; refine (hSZ.out _ (by assumption)).mono ?_; rintro e w' ⟨rfl, hb'⟩))
          all_goals (
            have FR := Lib.hid (RS.frame (by assumption))
            clear hCV e2
            go_wp2_with fail
            go_ret
            exact ⟨rfl, FR.out⟩)
end Go.Proofs.YtpkapichblpdfaaDoor
