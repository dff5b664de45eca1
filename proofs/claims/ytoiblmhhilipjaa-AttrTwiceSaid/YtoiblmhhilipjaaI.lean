/- WALK of layer 26: the law AttrTwice. -/
import Derived.Test.YtoiblmhhilipjaaG
import Derived.Test.YtoiblmhhilipjaaTw
set_option linter.unusedVariables false
namespace Go.Proofs.Ytoiblmhhilipjaa
open Go.RowKit Go.ChangeShapes Go.WideShapes Go.ChangeAt

set_option maxHeartbeats 2000000 in
theorem twice_walk (k mo li sz mt ct ino gen mode size now thn : Int) (w : World) :
    Calls Try.prog 6 #[.agg #[.int .u8 k, .int .i64 mo, .int .i64 li, .int .i64 sz, .int .i64 mt, .int .i64 ct, .int .i64 ino, .int .i64 gen], .int .i64 mode, .int .i64 size, .int .i64 now, .int .i64 thn] w fun e w' => e = .returned (.bool true) ∧ Below w.heap.size w w' := by
  go_enter Try.func6, Try.ntmps6
  go_wp2_with fail
  refine (awake_any _).mono ?_
  rintro e w1 ⟨rfl, hb⟩
  have HA := Lib.hid ((Held8.new w [.int .u8 k, .int .i64 mo, .int .i64 li, .int .i64 sz, .int .i64 mt, .int .i64 ct, .int .i64 ino, .int .i64 gen] 23).below hb (by simp))
  have B1 := Lib.hid (((Below.refl _ _).alloc (Nat.le_refl _) _).trans (hb.mono (by simp)))
  have hz1 : w.heap.size + 1 ≤ w1.heap.size := by simpa using hb.size
  clear hb
  obtain ⟨a0, a1, a2, a3, a4, a5, a6, a7⟩ := cells8 HA.out
  by_cases hv : 0 ≤ now ∧ now ≤ 2147483647 ∧ 0 ≤ ct
  · obtain ⟨v1, v2, v3⟩ := hv
    have HN := Lib.hid (planR_nothing k mo li sz mt ct ino gen now v1 v2 v3)
    go_wp2_with fail
    refine (plan_v _ _ _ _ _ _ _ _ _ _ _ _ _ _ HN.out).mono ?_
    rintro e w2 ⟨rfl, hb⟩
    have hA2 := HA.out.below hb (by omega)
    have hz2 : w.heap.size < w2.heap.size := by have := hb.size; omega
    have Bm := Lib.hid ((B1.out.trans (hb.mono (by omega))).alloc (by have := hb.size; omega) (.cells #[.int .u8 k, .int .i64 mo, .int .i64 li, .int .i64 sz, .int .i64 mt, .int .i64 ct, .int .i64 ino, .int .i64 gen] 23))
    have hzm : w.heap.size ≤ (w2.alloc (.cells #[.int .u8 k, .int .i64 mo, .int .i64 li, .int .i64 sz, .int .i64 mt, .int .i64 ct, .int .i64 ino, .int .i64 gen] 23)).heap.size := by have := hb.size; simp; omega
    clear hb a0 a1 a2 a3 a4 a5 a6 a7
    obtain ⟨a0, a1, a2, a3, a4, a5, a6, a7⟩ := cells8 hA2
    clear hA2
    go_wp2_with fail
    clear a0 a1 a2 a3 a4 a5 a6 a7
    generalize w2.alloc (.cells #[.int .u8 k, .int .i64 mo, .int .i64 li, .int .i64 sz, .int .i64 mt, .int .i64 ct, .int .i64 ino, .int .i64 gen] 23) = wm at *
    rcases planR_twice k mo li sz mt ct ino gen mode size now with ⟨er, h, he⟩ | ⟨mo', sz', mt', ct', h, h2⟩
    · have HP := Lib.hid h
      clear h
      refine (plan_v _ _ _ _ _ _ _ _ _ _ _ _ _ _ HP.out).mono ?_
      rintro e w3 ⟨rfl, hb⟩
      have B3 := Lib.hid (Bm.out.trans (hb.mono hzm))
      have hz3 : w.heap.size ≤ w3.heap.size := by have := hb.size; omega
      clear hb
      go_wp2_with fail
      go_ret
      exact ⟨rfl, by have := B3.out; exact this.alloc (by omega) _⟩
    · have HP := Lib.hid h
      have H2 := Lib.hid (h2 thn)
      clear h h2
      refine (plan_v _ _ _ _ _ _ _ _ _ _ _ _ _ _ HP.out).mono ?_
      rintro e w3 ⟨rfl, hb⟩
      have B3 := Lib.hid ((Bm.out.trans (hb.mono hzm)).alloc (by have := hb.size; omega) (.cells #[.int .u8 k, .int .i64 mo', .int .i64 li, .int .i64 sz', .int .i64 mt', .int .i64 ct', .int .i64 ino, .int .i64 gen] 23))
      have HB3 := Lib.hid (Held8.new w3 [.int .u8 k, .int .i64 mo', .int .i64 li, .int .i64 sz', .int .i64 mt', .int .i64 ct', .int .i64 ino, .int .i64 gen] 23)
      have hz3 : w.heap.size ≤ w3.heap.size := by have := hb.size; omega
      have hs3 : w3.heap.size + 1 ≤ (w3.alloc (.cells #[.int .u8 k, .int .i64 mo', .int .i64 li, .int .i64 sz', .int .i64 mt', .int .i64 ct', .int .i64 ino, .int .i64 gen] 23)).heap.size := by simp
      clear hb
      by_cases ht : thn < 0 ∨ 2147483647 < thn
      · have HQ := Lib.hid (H2.out.1 ht)
        go_wp2_with fail
        refine (plan_v _ _ _ _ _ _ _ _ _ _ _ _ _ _ HQ.out).mono ?_
        rintro e w4 ⟨rfl, hb⟩
        have B4 := Lib.hid (B3.out.trans (hb.mono (by omega)))
        have hz4 : w.heap.size ≤ w4.heap.size := by have := hb.size; omega
        clear hb
        go_wp2_with fail
        all_goals first | (exfalso; omega) | skip
        all_goals go_ret
        all_goals exact ⟨rfl, by have := B4.out; exact this.alloc (by omega) _⟩
      · obtain ⟨mt2, ct2, hq⟩ := H2.out.2 ht
        have HQ := Lib.hid hq
        clear hq
        go_wp2_with fail
        refine (plan_v _ _ _ _ _ _ _ _ _ _ _ _ _ _ HQ.out).mono ?_
        rintro e w4 ⟨rfl, hb⟩
        have B4 := Lib.hid ((B3.out.trans (hb.mono (by omega))).alloc (by have := hb.size; omega) (.cells #[.int .u8 k, .int .i64 mo', .int .i64 li, .int .i64 sz', .int .i64 mt2, .int .i64 ct2, .int .i64 ino, .int .i64 gen] 23))
        have hz4 : w3.heap.size + 1 ≤ w4.heap.size := by have := hb.size; omega
        have hz5 : w3.heap.size < w4.heap.size := by omega
        have hB4 := HB3.out.below hb (by omega)
        obtain ⟨b0, b1, b2, b3, b4, b5, b6, b7⟩ := cells8 hB4
        clear hb hB4
        have t1 : ¬ thn < 0 := by omega
        have t2 : ¬ 2147483647 < thn := by omega
        clear ht
        go_wp2_with fail
        refine (same_any _ _ _ _ _ _ _ _ _ _ _ _ _ _ _ _ _).mono ?_
        rintro e w6 ⟨rfl, hb⟩
        have B6 := Lib.hid (B4.out.trans (hb.mono (by simp; omega)))
        clear hb b0 b1 b2 b3 b4 b5 b6 b7
        go_wp2_with fail
        go_ret
        exact ⟨ret_bool (by simp [sameB]), B6.out⟩
  · have hd : (decide (0 ≤ now) && decide (now ≤ 2147483647) && decide (0 ≤ ct)) = false := by
      rw [Bool.eq_false_iff]; intro h; apply hv; simpa [and_assoc] using h
    have hzm : w.heap.size ≤ w1.heap.size := by omega
    have Bm := B1
    go_wp2_with fail
    all_goals
      clear a0 a1 a2 a3 a4 a5 a6 a7 hd
      rcases planR_twice k mo li sz mt ct ino gen mode size now with ⟨er, h, he⟩ | ⟨mo', sz', mt', ct', h, h2⟩
      · have HP := Lib.hid h
        clear h
        refine (plan_v _ _ _ _ _ _ _ _ _ _ _ _ _ _ HP.out).mono ?_
        rintro e w3 ⟨rfl, hb⟩
        have B3 := Lib.hid (Bm.out.trans (hb.mono hzm))
        have hz3 : w.heap.size ≤ w3.heap.size := by have := hb.size; omega
        clear hb
        go_wp2_with fail
        go_ret
        exact ⟨rfl, by have := B3.out; exact this.alloc (by omega) _⟩
      · have HP := Lib.hid h
        have H2 := Lib.hid (h2 thn)
        clear h h2
        refine (plan_v _ _ _ _ _ _ _ _ _ _ _ _ _ _ HP.out).mono ?_
        rintro e w3 ⟨rfl, hb⟩
        have B3 := Lib.hid ((Bm.out.trans (hb.mono hzm)).alloc (by have := hb.size; omega) (.cells #[.int .u8 k, .int .i64 mo', .int .i64 li, .int .i64 sz', .int .i64 mt', .int .i64 ct', .int .i64 ino, .int .i64 gen] 23))
        have HB3 := Lib.hid (Held8.new w3 [.int .u8 k, .int .i64 mo', .int .i64 li, .int .i64 sz', .int .i64 mt', .int .i64 ct', .int .i64 ino, .int .i64 gen] 23)
        have hz3 : w.heap.size ≤ w3.heap.size := by have := hb.size; omega
        have hs3 : w3.heap.size + 1 ≤ (w3.alloc (.cells #[.int .u8 k, .int .i64 mo', .int .i64 li, .int .i64 sz', .int .i64 mt', .int .i64 ct', .int .i64 ino, .int .i64 gen] 23)).heap.size := by simp
        clear hb
        by_cases ht : thn < 0 ∨ 2147483647 < thn
        · have HQ := Lib.hid (H2.out.1 ht)
          go_wp2_with fail
          refine (plan_v _ _ _ _ _ _ _ _ _ _ _ _ _ _ HQ.out).mono ?_
          rintro e w4 ⟨rfl, hb⟩
          have B4 := Lib.hid (B3.out.trans (hb.mono (by omega)))
          have hz4 : w.heap.size ≤ w4.heap.size := by have := hb.size; omega
          clear hb
          go_wp2_with fail
          all_goals first | (exfalso; omega) | skip
          all_goals go_ret
          all_goals exact ⟨rfl, by have := B4.out; exact this.alloc (by omega) _⟩
        · obtain ⟨mt2, ct2, hq⟩ := H2.out.2 ht
          have HQ := Lib.hid hq
          clear hq
          go_wp2_with fail
          refine (plan_v _ _ _ _ _ _ _ _ _ _ _ _ _ _ HQ.out).mono ?_
          rintro e w4 ⟨rfl, hb⟩
          have B4 := Lib.hid ((B3.out.trans (hb.mono (by omega))).alloc (by have := hb.size; omega) (.cells #[.int .u8 k, .int .i64 mo', .int .i64 li, .int .i64 sz', .int .i64 mt2, .int .i64 ct2, .int .i64 ino, .int .i64 gen] 23))
          have hz4 : w3.heap.size + 1 ≤ w4.heap.size := by have := hb.size; omega
          have hz5 : w3.heap.size < w4.heap.size := by omega
          have hB4 := HB3.out.below hb (by omega)
          obtain ⟨b0, b1, b2, b3, b4, b5, b6, b7⟩ := cells8 hB4
          clear hb hB4
          have t1 : ¬ thn < 0 := by omega
          have t2 : ¬ 2147483647 < thn := by omega
          clear ht
          go_wp2_with fail
          refine (same_any _ _ _ _ _ _ _ _ _ _ _ _ _ _ _ _ _).mono ?_
          rintro e w6 ⟨rfl, hb⟩
          have B6 := Lib.hid (B4.out.trans (hb.mono (by simp; omega)))
          clear hb b0 b1 b2 b3 b4 b5 b6 b7
          go_wp2_with fail
          go_ret
          exact ⟨ret_bool (by simp [sameB]), B6.out⟩
end Go.Proofs.Ytoiblmhhilipjaa
