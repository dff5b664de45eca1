/- WALKS of layer 20: New. -/
import Derived.Test.YtlkjgnnnamkfeaaA
set_option linter.unusedVariables false
namespace Go.Proofs.Ytlkjgnnnamkfeaa
open Go.RowKit Go.ChangeShapes Go.WideShapes Go.ChangeAt

set_option maxHeartbeats 1000000 in
theorem new_any (k mo ino gen now : Int) (w : World) :
    Calls Try.prog 31 #[.int .u8 k, .int .i64 mo, .int .i64 ino, .int .i64 gen, .int .i64 now] w fun e w' => e = .returned (newR k mo ino gen now) ∧ Below w.heap.size w w' := by
  by_cases hk : k = 2
  · have hb : (k == 2) = true := by simpa using hk
    have hk' : newR k mo ino gen now = if mayB k mo 2 0 now now ino gen = true then .tuple #[ag k mo 2 0 now now ino gen, .int .i64 0] else er 1 := by unfold newR; rw [if_pos hk]
    clear hk
    cases hm : mayB k mo 2 0 now now ino gen with
    | true =>
      have H := Lib.hid (show newR k mo ino gen now = .tuple #[.agg #[.int .u8 k, .int .i64 mo, .int .i64 2, .int .i64 0, .int .i64 now, .int .i64 now, .int .i64 ino, .int .i64 gen], .int .i64 0] from by rw [hk', hm]; rfl)
      have hm' := Lib.hid hm
      clear hm hk'
      go_enter Try.func31, Try.ntmps31
      go_wp2_with fail
      refine (may_any _ _ _ _ _ _ _ _ _).mono ?_
      rintro e w1 ⟨rfl, hb1⟩
      have hR := ((Held8.new w [.int .u8 0, .int .i64 0, .int .i64 0, .int .i64 0, .int .i64 0, .int .i64 0, .int .i64 0, .int .i64 0] 37).alloc (by simp) (.cells #[.int .u8 k, .int .i64 mo, .int .i64 2, .int .i64 0, .int .i64 now, .int .i64 now, .int .i64 ino, .int .i64 gen] 37)).below hb1 (by simp; omega)
      have hA := (Held8.new (w.alloc (.cells #[.int .u8 0, .int .i64 0, .int .i64 0, .int .i64 0, .int .i64 0, .int .i64 0, .int .i64 0, .int .i64 0] 37)) [.int .u8 k, .int .i64 mo, .int .i64 2, .int .i64 0, .int .i64 now, .int .i64 now, .int .i64 ino, .int .i64 gen] 37).below hb1 (by simp)
      rw [World.size_alloc] at hA
      have HB := Lib.hid (((((Below.refl w.heap.size w).alloc (Nat.le_refl _) _).alloc (by simp) _)).trans (hb1.mono (by simp; omega)))
      have hz : w.heap.size + 2 ≤ w1.heap.size := by have := hb1.size; simp at this; omega
      obtain ⟨r0, r1, r2, r3, r4, r5, r6, r7⟩ := cells8 hR
      obtain ⟨a0, a1, a2, a3, a4, a5, a6, a7⟩ := cells8 hA
      have rf := hR.2
      clear hb1 hR hA
      rw [hm'.out]
      go_wp2_with fail
      refine bodyPost_ret (by simp [results, Try.results31, go_sem, r0, r1, r2, r3, r4, r5, r6, r7]; try rfl) rfl ?_
      exact ⟨congrArg Ending.returned H.out.symm, by have := HB.out; go_grown⟩
    | false =>
      have H := Lib.hid (show newR k mo ino gen now = .tuple #[.agg #[.int .u8 0, .int .i64 0, .int .i64 0, .int .i64 0, .int .i64 0, .int .i64 0, .int .i64 0, .int .i64 0], .int .i64 1] from by rw [hk', hm]; rfl)
      have hm' := Lib.hid hm
      clear hm hk'
      go_enter Try.func31, Try.ntmps31
      go_wp2_with fail
      refine (may_any _ _ _ _ _ _ _ _ _).mono ?_
      rintro e w1 ⟨rfl, hb1⟩
      have hR := ((Held8.new w [.int .u8 0, .int .i64 0, .int .i64 0, .int .i64 0, .int .i64 0, .int .i64 0, .int .i64 0, .int .i64 0] 37).alloc (by simp) (.cells #[.int .u8 k, .int .i64 mo, .int .i64 2, .int .i64 0, .int .i64 now, .int .i64 now, .int .i64 ino, .int .i64 gen] 37)).below hb1 (by simp; omega)
      have hA := (Held8.new (w.alloc (.cells #[.int .u8 0, .int .i64 0, .int .i64 0, .int .i64 0, .int .i64 0, .int .i64 0, .int .i64 0, .int .i64 0] 37)) [.int .u8 k, .int .i64 mo, .int .i64 2, .int .i64 0, .int .i64 now, .int .i64 now, .int .i64 ino, .int .i64 gen] 37).below hb1 (by simp)
      rw [World.size_alloc] at hA
      have HB := Lib.hid (((((Below.refl w.heap.size w).alloc (Nat.le_refl _) _).alloc (by simp) _)).trans (hb1.mono (by simp; omega)))
      have hz : w.heap.size + 2 ≤ w1.heap.size := by have := hb1.size; simp at this; omega
      obtain ⟨r0, r1, r2, r3, r4, r5, r6, r7⟩ := cells8 hR
      obtain ⟨a0, a1, a2, a3, a4, a5, a6, a7⟩ := cells8 hA
      have rf := hR.2
      clear hb1 hR hA
      rw [hm'.out]
      go_wp2_with fail
      refine bodyPost_ret (by simp [results, Try.results31, go_sem, r0, r1, r2, r3, r4, r5, r6, r7]; try rfl) rfl ?_
      exact ⟨congrArg Ending.returned H.out.symm, by have := HB.out; go_grown⟩
  · have hb : (k == 2) = false := by simpa using hk
    have hk' : newR k mo ino gen now = if mayB k mo 1 0 now now ino gen = true then .tuple #[ag k mo 1 0 now now ino gen, .int .i64 0] else er 1 := by unfold newR; rw [if_neg hk]
    clear hk
    cases hm : mayB k mo 1 0 now now ino gen with
    | true =>
      have H := Lib.hid (show newR k mo ino gen now = .tuple #[.agg #[.int .u8 k, .int .i64 mo, .int .i64 1, .int .i64 0, .int .i64 now, .int .i64 now, .int .i64 ino, .int .i64 gen], .int .i64 0] from by rw [hk', hm]; rfl)
      have hm' := Lib.hid hm
      clear hm hk'
      go_enter Try.func31, Try.ntmps31
      go_wp2_with fail
      refine (may_any _ _ _ _ _ _ _ _ _).mono ?_
      rintro e w1 ⟨rfl, hb1⟩
      have hR := ((Held8.new w [.int .u8 0, .int .i64 0, .int .i64 0, .int .i64 0, .int .i64 0, .int .i64 0, .int .i64 0, .int .i64 0] 37).alloc (by simp) (.cells #[.int .u8 k, .int .i64 mo, .int .i64 1, .int .i64 0, .int .i64 now, .int .i64 now, .int .i64 ino, .int .i64 gen] 37)).below hb1 (by simp; omega)
      have hA := (Held8.new (w.alloc (.cells #[.int .u8 0, .int .i64 0, .int .i64 0, .int .i64 0, .int .i64 0, .int .i64 0, .int .i64 0, .int .i64 0] 37)) [.int .u8 k, .int .i64 mo, .int .i64 1, .int .i64 0, .int .i64 now, .int .i64 now, .int .i64 ino, .int .i64 gen] 37).below hb1 (by simp)
      rw [World.size_alloc] at hA
      have HB := Lib.hid (((((Below.refl w.heap.size w).alloc (Nat.le_refl _) _).alloc (by simp) _)).trans (hb1.mono (by simp; omega)))
      have hz : w.heap.size + 2 ≤ w1.heap.size := by have := hb1.size; simp at this; omega
      obtain ⟨r0, r1, r2, r3, r4, r5, r6, r7⟩ := cells8 hR
      obtain ⟨a0, a1, a2, a3, a4, a5, a6, a7⟩ := cells8 hA
      have rf := hR.2
      clear hb1 hR hA
      rw [hm'.out]
      go_wp2_with fail
      refine bodyPost_ret (by simp [results, Try.results31, go_sem, r0, r1, r2, r3, r4, r5, r6, r7]; try rfl) rfl ?_
      exact ⟨congrArg Ending.returned H.out.symm, by have := HB.out; go_grown⟩
    | false =>
      have H := Lib.hid (show newR k mo ino gen now = .tuple #[.agg #[.int .u8 0, .int .i64 0, .int .i64 0, .int .i64 0, .int .i64 0, .int .i64 0, .int .i64 0, .int .i64 0], .int .i64 1] from by rw [hk', hm]; rfl)
      have hm' := Lib.hid hm
      clear hm hk'
      go_enter Try.func31, Try.ntmps31
      go_wp2_with fail
      refine (may_any _ _ _ _ _ _ _ _ _).mono ?_
      rintro e w1 ⟨rfl, hb1⟩
      have hR := ((Held8.new w [.int .u8 0, .int .i64 0, .int .i64 0, .int .i64 0, .int .i64 0, .int .i64 0, .int .i64 0, .int .i64 0] 37).alloc (by simp) (.cells #[.int .u8 k, .int .i64 mo, .int .i64 1, .int .i64 0, .int .i64 now, .int .i64 now, .int .i64 ino, .int .i64 gen] 37)).below hb1 (by simp; omega)
      have hA := (Held8.new (w.alloc (.cells #[.int .u8 0, .int .i64 0, .int .i64 0, .int .i64 0, .int .i64 0, .int .i64 0, .int .i64 0, .int .i64 0] 37)) [.int .u8 k, .int .i64 mo, .int .i64 1, .int .i64 0, .int .i64 now, .int .i64 now, .int .i64 ino, .int .i64 gen] 37).below hb1 (by simp)
      rw [World.size_alloc] at hA
      have HB := Lib.hid (((((Below.refl w.heap.size w).alloc (Nat.le_refl _) _).alloc (by simp) _)).trans (hb1.mono (by simp; omega)))
      have hz : w.heap.size + 2 ≤ w1.heap.size := by have := hb1.size; simp at this; omega
      obtain ⟨r0, r1, r2, r3, r4, r5, r6, r7⟩ := cells8 hR
      obtain ⟨a0, a1, a2, a3, a4, a5, a6, a7⟩ := cells8 hA
      have rf := hR.2
      clear hb1 hR hA
      rw [hm'.out]
      go_wp2_with fail
      refine bodyPost_ret (by simp [results, Try.results31, go_sem, r0, r1, r2, r3, r4, r5, r6, r7]; try rfl) rfl ?_
      exact ⟨congrArg Ending.returned H.out.symm, by have := HB.out; go_grown⟩
end Go.Proofs.Ytlkjgnnnamkfeaa
