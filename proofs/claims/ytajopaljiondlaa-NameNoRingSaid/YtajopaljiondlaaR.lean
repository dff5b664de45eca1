/- WALK of NameNoRing. -/
import Derived.Test.YtajopaljiondlaaN
import Derived.Test.YtajopaljiondlaaQ
set_option linter.unusedVariables false
namespace Go.Proofs.Ytajopaljiondlaa
open Go.RowKit Go.ChangeShapes Go.WideShapes Go.ChangeAt

theorem OwnU.off {O : Nat → Prop} {base : Nat} {w w' : World} {v : Value} {l : List (Int × Int)} (h : OwnU base w v l) (ho : Off O w w') (hn : ∀ g, v.ownBlock = some g → ¬ O g) : OwnU base w' v l := by
  refine ⟨h.1, ?_⟩
  rcases h.2 with h1 | ⟨g, cap, cur, rfl, h2, h3, h4⟩
  · exact .inl h1
  · exact .inr ⟨g, cap, cur, rfl, h2, ho.obj h3 (hn g rfl), h4⟩
theorem OwnU.below {base : Nat} {w w' : World} {v : Value} {l : List (Int × Int)} (h : OwnU base w v l) (hb : Below w.heap.size w w') : OwnU base w' v l := h.off (Off.of_below (fun _ => False) hb) (fun _ _ h => h)
/-- At the head of the loop that makes 'now'. -/
def NHead (w1 wr : World) (ino to_ : Int) (l : List (Int × Int)) (v8 v9 : Value) : Prop := ∃ (k : Nat) (now : List (Int × Int)) (A : Option Addr) (c : Nat), k ≤ l.length ∧ v9 = .int .i64 (k : Nat) ∧ now = nowL ino to_ (l.take k) ∧ v8 = .slice A now.length c ∧ OwnU w1.heap.size wr (.slice A now.length c) now ∧ Below w1.heap.size w1 wr
theorem nowL_len (ino to_ : Int) (l : List (Int × Int)) : (nowL ino to_ l).length ≤ l.length + 1 := by
  unfold nowL
  have := List.length_filter_le (fun q : Int × Int => q.1 != ino) l
  simp
  omega
theorem nowL_snoc (ino to_ : Int) (l : List (Int × Int)) (q : Int × Int) : nowL ino to_ (l ++ [q]) = if q.1 = ino then nowL ino to_ l else nowL ino to_ l ++ [q] := by
  unfold nowL
  rw [List.filter_append]
  by_cases h : q.1 = ino
  · rw [if_pos h, List.filter_cons_of_neg (by simp [h])]
    simp
  · rw [if_neg h, List.filter_cons_of_pos (by simp [h])]
    simp
theorem nowL_in {ino to_ : Int} {l : List (Int × Int)} (hi : In64 ino) (ht : In64 to_) (hc : ∀ q ∈ l, In64 q.1 ∧ In64 q.2) : ∀ q ∈ nowL ino to_ l, In64 q.1 ∧ In64 q.2 := fun q hq => by
  unfold nowL at hq
  rcases List.mem_cons.1 hq with rfl | h
  · exact ⟨hi, ht⟩
  · exact hc q (List.mem_filter.1 h).1
set_option maxRecDepth 100000 in
set_option maxHeartbeats 4000000 in
theorem noring_walk (A : Option Addr) (c : Nat) (l : List (Int × Int)) (ino to_ : Int) (w : World) (hlm : l.length ≤ maxLen) (hc : ∀ q ∈ l, In64 q.1 ∧ In64 q.2) (hi : In64 ino) (ht : In64 to_) (hR : RdU w A l) :
    Calls Try.prog 4 #[.slice A l.length c, .int .i64 ino, .int .i64 to_] w fun e w' => e = .returned (.bool true) ∧ Below w.heap.size w w' := by
  unfold maxLen at hlm
  by_cases hl : 60 < l.length
  · go_enter Try.func4, Try.ntmps4
    go_wp2_with fail
    refine (awake_any w).mono ?_
    rintro e w1 ⟨rfl, hb⟩
    replace hb := Lib.hid hb
    go_wp2_with fail
    go_ret
    exact ⟨rfl, hb.out⟩
  · have HR := Lib.hid hR
    have HC := Lib.hid hc
    have Hi := Lib.hid hi
    have Ht := Lib.hid ht
    clear hR hc
    unfold In64 at hi ht
    go_enter Try.func4, Try.ntmps4
    go_wp2_with fail
    refine (awake_any w).mono ?_
    rintro e w0 ⟨rfl, hb⟩
    have R0 := Lib.hid (HR.out.below hb)
    have B0 := Lib.hid hb
    clear hb
    go_wp2_with fail
    refine (given_any A c l w0 (by omega) R0.out).mono ?_
    rintro e w1 ⟨A1, c1, rfl, ho, hb⟩
    obtain ⟨A', c', e', hr1, ha1⟩ := ho.form
    simp only [Value.slice.injEq, true_and] at e'
    obtain ⟨rfl, rfl⟩ := e'
    have B1 := Lib.hid (B0.out.trans (hb.mono B0.out.size))
    have O1 := Lib.hid ho
    have MM := Lib.hid (moves_any A1 c1 l ino to_ w1 (by omega) HC.out Ht.out hr1 (fun a ha => (ha1 a ha).2))
    clear ho hr1 ha1 hb
    go_wp2_with fail
    by_cases hM : movesU ino (goUp l to_) 0 = 0
    · have HL := Lib.hid (noring_law ino to_ l hM)
      rw [hM] at MM
      replace hM := Lib.hid hM
      refine MM.out.mono ?_
      rintro e w2 ⟨rfl, hb⟩
      have O2 := Lib.hid (O1.out.below hb)
      have B2 := Lib.hid (B1.out.trans (hb.mono B1.out.size))
      clear hb MM
      go_wp2_with fail
      obtain ⟨w2', hw2⟩ : ∃ w2', w2.alloc (.cells #[.int .i64 ino, .int .i64 to_] 34) = w2' := ⟨_, rfl⟩
      have bA : Below w2.heap.size w2 (w2.alloc (.cells #[.int .i64 ino, .int .i64 to_] 34)) := (Below.refl _ _).alloc (Nat.le_refl _) _
      have O3 := Lib.hid (O2.out.below bA)
      have B3 := Lib.hid (B2.out.trans (bA.mono B2.out.size))
      have N3 := Lib.hid (show OwnU w2.heap.size (w2.alloc (.cells #[.int .i64 ino, .int .i64 to_] 34)) (.slice (some ⟨w2.heap.size, 0, none⟩) 1 1) [(ino, to_)] from ⟨rfl, .inr ⟨w2.heap.size, 1, _, rfl, Nat.le_refl _, heap_alloc_new w2 _, Nat.le_refl _, by unfold maxLen; omega, rfl, rfl⟩⟩)
      have BB3 := Lib.hid bA
      clear bA
      rw [hw2] at O3 B3 N3 BB3 ⊢
      replace hw2 := Lib.hid hw2
      go_loopw [8, 9] (fun v8 v9 wr => NHead w2 wr ino to_ l v8 v9) (fun _ v9 _ => l.length - (intOf v9).toNat)
      case atStart => exact ⟨0, [(ino, to_)], _, 1, Nat.zero_le _, rfl, rfl, rfl, N3.out, BB3.out⟩
      case round =>
        obtain ⟨k, now, A2, c2, hk, rfl, hnow, rfl, hown, hB⟩ := hrel
        have hnl := nowL_len ino to_ (l.take k)
        rw [← hnow] at hnl
        have hlk := List.length_take_le k l
        have HN := Lib.hid hown
        have HB := Lib.hid hB
        have hbz := hB.size
        have OL := Lib.hid (O2.out.below hB)
        obtain ⟨A', c', e', hr1, ha1⟩ := OL.out.form
        simp only [Value.slice.injEq, true_and] at e'
        obtain ⟨rfl, rfl⟩ := e'
        replace hr1 := Lib.hid hr1
        replace ha1 := Lib.hid ha1
        replace hnow := Lib.hid hnow
        clear hown hB
        by_cases hlt : k < l.length
        · obtain ⟨b, off, rfl, hcc⟩ := hr1.out (by intro h; rw [h] at hlt; simp at hlt)
          obtain ⟨d0, d1⟩ := hcc k hlt
          have HK := Lib.hid (take_snoc l k hlt)
          have HS := Lib.hid (nowL_snoc ino to_ (l.take k) l[k])
          clear hcc
          by_cases hq : l[k].1 = ino
          · have hS := HS.out
            rw [if_pos hq] at hS
            replace hS := Lib.hid hS
            rw [hq] at d0
            generalize l[k].2 = p at *
            clear hq
            go_wp2_with fail
            go_roundw
            case rel => exact ⟨k + 1, now, A2, c2, by omega, by go_num, by rw [HK.out, hS.out]; exact hnow.out, rfl, HN.out, HB.out⟩
            case measure => simp [intOf]; omega
          · have hqB : (l[k].1 != ino) = true := by simpa using hq
            have hS := HS.out
            rw [if_neg hq, ← hnow.out] at hS
            replace hS := Lib.hid hS
            have hpair : (l[k].1, l[k].2) = l[k] := rfl
            replace hpair := Lib.hid hpair
            replace hq := Lib.hid hq
            generalize l[k].1 = a at *
            generalize l[k].2 = p at *
            have bD : Below wr.heap.size wr (wr.alloc (.cells #[.int .i64 a, .int .i64 p] 34)) := (Below.refl _ _).alloc (Nat.le_refl _) _
            obtain ⟨v', w', hap, hown', hb'⟩ := own_app (w := wr.alloc (.cells #[.int .i64 a, .int .i64 p] 34)) (HN.out.below bD) (a, p) wr.heap.size (by omega) (by simp; omega) (heap_alloc_new wr _)
            obtain ⟨A3, c3, rfl, _, _⟩ := hown'.form
            have e1 : (now ++ [(a, p)]).length = now.length + 1 := by simp
            have HB2 := Lib.hid ((HB.out.trans (bD.mono hbz)).trans hb')
            have HO2 := Lib.hid hown'
            replace e1 := Lib.hid e1
            clear hown' hb' bD
            go_wp2_with (at_builtin; refine Go.Lib.wpList_append_run_sl _ rfl _ _ _ rfl _ _ rfl rfl hap ?_)
            go_roundw
            case rel => exact ⟨k + 1, now ++ [(a, p)], A3, c3, by omega, by go_num, by rw [HK.out, hS.out, hpair.out], by rw [e1.out], HO2.out, HB2.out⟩
            case measure => simp [intOf]; omega
        · have hkl : k = l.length := by omega
          subst hkl
          have hnw := hnow.out
          rw [List.take_length] at hnw
          have HCn := Lib.hid (nowL_in (l := l) Hi.out Ht.out HC.out)
          rw [← hnw] at HL HCn
          have HB9 := Lib.hid (B2.out.trans (HB.out.mono B2.out.size))
          have hbz9 := HB9.out.size
          obtain ⟨A', c', e', hrN, haN⟩ := HN.out.form
          simp only [Value.slice.injEq, true_and] at e'
          obtain ⟨rfl, rfl⟩ := e'
          replace hrN := Lib.hid hrN
          replace haN := Lib.hid haN
          have hnl3 : now.length ≤ l.length + 1 := by omega
          clear hnow hnl hlk N3 BB3 O3 B3 hw2 O2 O1 hnw
          go_wp2_with fail
          obtain ⟨wo, rfl⟩ : ∃ wo : World, wo = wr := ⟨_, rfl⟩
          go_loopw [10] (fun v10 wx => ∃ k : Nat, k ≤ l.length ∧ v10 = .int .i64 (k : Nat) ∧ Below w.heap.size w wx ∧ Below wo.heap.size wo wx) (fun v10 _ => l.length - (intOf v10).toNat)
          case atStart => exact ⟨0, Nat.zero_le _, rfl, HB9.out, Below.refl _ _⟩
          case round =>
            obtain ⟨k, hk2, rfl, hb1, hb2⟩ := hrel
            have C1 := Lib.hid hb1
            have C2 := Lib.hid hb2
            have hzz := hb2.size
            have RA := Lib.hid (hr1.out.below hb2)
            have RN := Lib.hid (hrN.out.below hb2)
            clear hb1 hb2
            by_cases hlt2 : k < l.length
            · obtain ⟨b, off, rfl, hcc⟩ := RA.out (by intro h; rw [h] at hlt2; simp at hlt2)
              obtain ⟨d0, d1⟩ := hcc k hlt2
              have hx64 := Lib.hid (HC.out l[k] (List.getElem_mem hlt2)).1
              clear hcc d1
              generalize l[k].1 = x at *
              have hgo := HL.out.1 x
              have DA := Lib.hid (depth_any _ c1 l x wr (by omega) HC.out hx64.out RA.out (fun a ha => by have := ha1.out a ha; omega))
              have DN := Lib.hid (fun W (hw : Below wr.heap.size wr W) => depth_any A2 c2 now x W (by omega) HCn.out hx64.out (RN.out.below hw) (fun a ha => by have := haN.out a ha; have := hw.size; omega))
              generalize depthU (goUp l x) (-1) = P1 at *
              generalize depthU (goUp now x) (-1) = P2 at *
              obtain ⟨p1, q1⟩ := P1
              obtain ⟨p2, q2⟩ := P2
              replace hgo : q1 = 0 → q2 = 0 := hgo
              replace hgo := Lib.hid hgo
              go_wp2_with fail
              refine DA.out.mono ?_
              rintro e w5 ⟨rfl, hb⟩
              have d0' := keep1 hb d0
              have C3 := Lib.hid (C1.out.trans (hb.mono C1.out.size))
              have C4 := Lib.hid (C2.out.trans (hb.mono hzz))
              have C5 := Lib.hid hb
              clear hb DA d0
              go_wp2_with fail
              refine (DN.out w5 C5.out).mono ?_
              rintro e w6 ⟨rfl, hb⟩
              have C6 := Lib.hid (C3.out.trans (hb.mono C3.out.size))
              have C7 := Lib.hid (C4.out.trans (hb.mono C4.out.size))
              clear hb DN C3 C4 C5 d0'
              by_cases hq1 : q1 = 0
              · have hq2 := hgo.out hq1
                subst hq1 hq2
                go_wp2_with fail
                go_roundw
                case rel => exact ⟨k + 1, by omega, by go_num, C6.out, C7.out⟩
                case measure => simp [intOf]; omega
              · have hq1B : (q1 == 0) = false := by simpa using hq1
                replace hq1 := Lib.hid hq1
                go_wp2_with fail
                go_roundw
                case rel => exact ⟨k + 1, by omega, by go_num, C6.out, C7.out⟩
                case measure => simp [intOf]; omega
            · have hkl2 : k = l.length := by omega
              subst hkl2
              have DI := Lib.hid (depth_any A2 c2 now ino wr (by omega) HCn.out Hi.out RN.out (fun a ha => by have := haN.out a ha; omega))
              have hlast := HL.out.2
              generalize depthU (goUp now ino) (-1) = P at *
              obtain ⟨p1, q1⟩ := P
              replace hlast : q1 = 0 := hlast
              subst hlast
              go_wp2_with fail
              refine DI.out.mono ?_
              rintro e w5 ⟨rfl, hb⟩
              have C3 := Lib.hid (C1.out.trans (hb.mono C1.out.size))
              clear hb DI
              go_wp2_with fail
              go_ret
              exact ⟨rfl, C3.out⟩
    · have hMB : (movesU ino (goUp l to_) 0 != 0) = true := by simpa using hM
      generalize movesU ino (goUp l to_) 0 = M at *
      replace hM := Lib.hid hM
      refine MM.out.mono ?_
      rintro e w2 ⟨rfl, hb⟩
      have B2 := Lib.hid (B1.out.trans (hb.mono B1.out.size))
      clear hb MM
      go_wp2_with fail
      go_ret
      exact ⟨rfl, B2.out⟩
end Go.Proofs.Ytajopaljiondlaa
