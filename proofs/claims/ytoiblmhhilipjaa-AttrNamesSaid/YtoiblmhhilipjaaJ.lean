/- WALK of layer 26: the closed law AttrNames. -/
import Derived.Test.YtoiblmhhilipjaaG
set_option linter.unusedVariables false
namespace Go.Proofs.Ytoiblmhhilipjaa
open Go.RowKit Go.ChangeShapes Go.WideShapes Go.ChangeAt

theorem nx0 : planR 1 5 0 9 4 6 2 0 (-1) (-1) 5 9 = .tuple #[.agg #[.int .u8 0, .int .i64 0, .int .i64 0, .int .i64 0, .int .i64 0, .int .i64 0, .int .i64 0, .int .i64 0], .int .i64 59] := by unfold planR er ag; simp
theorem nx1 : planR 1 5 0 9 4 6 2 0 (-1) (-1) 6 9 = .tuple #[.agg #[.int .u8 1, .int .i64 5, .int .i64 0, .int .i64 9, .int .i64 4, .int .i64 6, .int .i64 2, .int .i64 0], .int .i64 0] := by unfold planR er ag; simp
theorem nx2 : planR 1 5 0 9 4 6 2 0 7 (-1) (-1) 9 = .tuple #[.agg #[.int .u8 1, .int .i64 7, .int .i64 0, .int .i64 9, .int .i64 4, .int .i64 9, .int .i64 2, .int .i64 0], .int .i64 0] := by unfold planR er ag; simp
theorem nx3 : planR 1 5 0 9 4 6 2 0 (-1) 3 (-1) 9 = .tuple #[.agg #[.int .u8 1, .int .i64 5, .int .i64 0, .int .i64 3, .int .i64 9, .int .i64 9, .int .i64 2, .int .i64 0], .int .i64 0] := by unfold planR er ag; simp
theorem nx4 : planR 1 5 0 9 4 6 2 0 (-1) 32769 5 9 = .tuple #[.agg #[.int .u8 0, .int .i64 0, .int .i64 0, .int .i64 0, .int .i64 0, .int .i64 0, .int .i64 0, .int .i64 0], .int .i64 59] := by unfold planR er ag; simp
theorem nx5 : planR 1 5 0 9 4 6 2 0 (-1) 32769 (-1) 9 = .tuple #[.agg #[.int .u8 0, .int .i64 0, .int .i64 0, .int .i64 0, .int .i64 0, .int .i64 0, .int .i64 0, .int .i64 0], .int .i64 40] := by unfold planR er ag; simp
theorem nx6 : planR 2 0 0 0 0 0 0 0 (-1) 0 (-1) 9 = .tuple #[.agg #[.int .u8 0, .int .i64 0, .int .i64 0, .int .i64 0, .int .i64 0, .int .i64 0, .int .i64 0, .int .i64 0], .int .i64 55] := by unfold planR er ag; simp
theorem nx7 : planR 1 5 0 9 4 6 2 0 (-2) (-1) (-1) 9 = .tuple #[.agg #[.int .u8 0, .int .i64 0, .int .i64 0, .int .i64 0, .int .i64 0, .int .i64 0, .int .i64 0, .int .i64 0], .int .i64 1] := by unfold planR er ag; simp
theorem nx8 : planR 1 5 0 9 4 6 2 0 4096 (-1) (-1) 9 = .tuple #[.agg #[.int .u8 0, .int .i64 0, .int .i64 0, .int .i64 0, .int .i64 0, .int .i64 0, .int .i64 0, .int .i64 0], .int .i64 1] := by unfold planR er ag; simp
theorem nx9 : planR 1 5 0 9 4 6 2 0 (-1) (-1) (-1) (-1) = .tuple #[.agg #[.int .u8 0, .int .i64 0, .int .i64 0, .int .i64 0, .int .i64 0, .int .i64 0, .int .i64 0, .int .i64 0], .int .i64 1] := by unfold planR er ag; simp
theorem ny1 : (partR 0 (-5) == 9223372036854775808) = true := by decide +kernel
theorem ny2 : (partR (-1) 0 == 18442240474082181120) = true := by decide +kernel
theorem ny3 : (meanR [] == 9221120237041090561) = true := by decide +kernel
theorem ny4 : lessB 9223372036854775808 0 = false := by decide +kernel
theorem ny5 : lessB 9221120237041090561 0 = false := by decide +kernel
theorem ny6 : lessB 0 9221120237041090561 = false := by decide +kernel
theorem ny7 : lessB 18442240474082181120 9223372036854775808 = true := by decide +kernel

set_option maxRecDepth 100000 in
set_option maxHeartbeats 4000000 in
theorem names_walk (w : World) : Calls Try.prog 5 #[] w fun e w' => e = .returned (.bool true) ∧ Below w.heap.size w w' := by
  have y1 := ny1
  have y2 := ny2
  have y3 := ny3
  have y4 := ny4
  have y5 := ny5
  have y6 := ny6
  have y7 := ny7
  go_enter Try.func5, Try.ntmps5

  have H0F := Lib.hid (Held8.new w [.int .u8 1, .int .i64 5, .int .i64 0, .int .i64 9, .int .i64 4, .int .i64 6, .int .i64 2, .int .i64 0] 23)
  have B0 : Below w.heap.size w (w.alloc (.cells #[.int .u8 1, .int .i64 5, .int .i64 0, .int .i64 9, .int .i64 4, .int .i64 6, .int .i64 2, .int .i64 0] 23)) := (Below.refl _ _).alloc (Nat.le_refl _) _
  have Z0F : w.heap.size < (w.alloc (.cells #[.int .u8 1, .int .i64 5, .int .i64 0, .int .i64 9, .int .i64 4, .int .i64 6, .int .i64 2, .int .i64 0] 23)).heap.size := by simp
  replace B0 := Lib.hid B0
  go_wp2_with fail
  refine (plan_v _ _ _ _ _ _ _ _ _ _ _ _ _ _ nx0).mono ?_
  rintro e u1 ⟨rfl, hb⟩
  have H1F := Lib.hid ((H0F.out.below hb Z0F).alloc (by have := hb.size; omega) (.cells #[.int .u8 0, .int .i64 0, .int .i64 0, .int .i64 0, .int .i64 0, .int .i64 0, .int .i64 0, .int .i64 0] 23))
  have Z1F : w.heap.size < (u1.alloc (.cells #[.int .u8 0, .int .i64 0, .int .i64 0, .int .i64 0, .int .i64 0, .int .i64 0, .int .i64 0, .int .i64 0] 23)).heap.size := by have := hb.size; have h := Z0F; rw [World.size_alloc]; omega
  have Y : w.heap.size < u1.heap.size := by have := hb.size; have h := Z0F; omega
  have f_ := H0F.out.below hb Z0F
  have B1 := Lib.hid ((B0.out.trans (hb.mono (by have h := Z0F; omega))).alloc (by have := hb.size; have h := Z0F; omega) (.cells #[.int .u8 0, .int .i64 0, .int .i64 0, .int .i64 0, .int .i64 0, .int .i64 0, .int .i64 0, .int .i64 0] 23))
  clear hb
  clear H0F Z0F
  clear B0
  obtain ⟨f0, f1, f2, f3, f4, f5, f6, f7⟩ := cells8 f_
  clear f_
  go_wp2_with fail
  refine (plan_v _ _ _ _ _ _ _ _ _ _ _ _ _ _ nx1).mono ?_
  clear f0 f1 f2 f3 f4 f5 f6 f7
  rintro e u2 ⟨rfl, hb⟩
  have H2F := Lib.hid ((H1F.out.below hb Z1F).alloc (by have := hb.size; omega) (.cells #[.int .u8 1, .int .i64 5, .int .i64 0, .int .i64 9, .int .i64 4, .int .i64 6, .int .i64 2, .int .i64 0] 23))
  have Z2F : w.heap.size < (u2.alloc (.cells #[.int .u8 1, .int .i64 5, .int .i64 0, .int .i64 9, .int .i64 4, .int .i64 6, .int .i64 2, .int .i64 0] 23)).heap.size := by have := hb.size; have h := Z1F; rw [World.size_alloc]; omega
  have Y : w.heap.size < u2.heap.size := by have := hb.size; have h := Z1F; omega
  have f_ := H1F.out.below hb Z1F
  have B2 := Lib.hid ((B1.out.trans (hb.mono (by have h := Z1F; omega))).alloc (by have := hb.size; have h := Z1F; omega) (.cells #[.int .u8 1, .int .i64 5, .int .i64 0, .int .i64 9, .int .i64 4, .int .i64 6, .int .i64 2, .int .i64 0] 23))
  have H2b := Lib.hid (Held8.new u2 [.int .u8 1, .int .i64 5, .int .i64 0, .int .i64 9, .int .i64 4, .int .i64 6, .int .i64 2, .int .i64 0] 23)
  have Z2b : u2.heap.size < (u2.alloc (.cells #[.int .u8 1, .int .i64 5, .int .i64 0, .int .i64 9, .int .i64 4, .int .i64 6, .int .i64 2, .int .i64 0] 23)).heap.size := by simp
  clear hb
  clear H1F Z1F
  clear B1
  obtain ⟨f0, f1, f2, f3, f4, f5, f6, f7⟩ := cells8 f_
  clear f_
  go_wp2_with fail
  refine (plan_v _ _ _ _ _ _ _ _ _ _ _ _ _ _ nx2).mono ?_
  clear f0 f1 f2 f3 f4 f5 f6 f7
  rintro e u3 ⟨rfl, hb⟩
  have H3F := Lib.hid ((H2F.out.below hb Z2F).alloc (by have := hb.size; omega) (.cells #[.int .u8 1, .int .i64 7, .int .i64 0, .int .i64 9, .int .i64 4, .int .i64 9, .int .i64 2, .int .i64 0] 23))
  have Z3F : w.heap.size < (u3.alloc (.cells #[.int .u8 1, .int .i64 7, .int .i64 0, .int .i64 9, .int .i64 4, .int .i64 9, .int .i64 2, .int .i64 0] 23)).heap.size := by have := hb.size; have h := Z2F; rw [World.size_alloc]; omega
  have H3b := Lib.hid ((H2b.out.below hb Z2b).alloc (by have := hb.size; omega) (.cells #[.int .u8 1, .int .i64 7, .int .i64 0, .int .i64 9, .int .i64 4, .int .i64 9, .int .i64 2, .int .i64 0] 23))
  have Z3b : u2.heap.size < (u3.alloc (.cells #[.int .u8 1, .int .i64 7, .int .i64 0, .int .i64 9, .int .i64 4, .int .i64 9, .int .i64 2, .int .i64 0] 23)).heap.size := by have := hb.size; have h := Z2b; rw [World.size_alloc]; omega
  have Y : w.heap.size < u3.heap.size := by have := hb.size; have h := Z2F; omega
  have f_ := H2F.out.below hb Z2F
  have B3 := Lib.hid ((B2.out.trans (hb.mono (by have h := Z2F; omega))).alloc (by have := hb.size; have h := Z2F; omega) (.cells #[.int .u8 1, .int .i64 7, .int .i64 0, .int .i64 9, .int .i64 4, .int .i64 9, .int .i64 2, .int .i64 0] 23))
  have H3d := Lib.hid (Held8.new u3 [.int .u8 1, .int .i64 7, .int .i64 0, .int .i64 9, .int .i64 4, .int .i64 9, .int .i64 2, .int .i64 0] 23)
  have Z3d : u3.heap.size < (u3.alloc (.cells #[.int .u8 1, .int .i64 7, .int .i64 0, .int .i64 9, .int .i64 4, .int .i64 9, .int .i64 2, .int .i64 0] 23)).heap.size := by simp
  clear hb
  clear H2F Z2F
  clear H2b Z2b
  clear B2
  obtain ⟨f0, f1, f2, f3, f4, f5, f6, f7⟩ := cells8 f_
  clear f_
  go_wp2_with fail
  refine (plan_v _ _ _ _ _ _ _ _ _ _ _ _ _ _ nx3).mono ?_
  clear f0 f1 f2 f3 f4 f5 f6 f7
  rintro e u4 ⟨rfl, hb⟩
  have H4F := Lib.hid ((H3F.out.below hb Z3F).alloc (by have := hb.size; omega) (.cells #[.int .u8 1, .int .i64 5, .int .i64 0, .int .i64 3, .int .i64 9, .int .i64 9, .int .i64 2, .int .i64 0] 23))
  have Z4F : w.heap.size < (u4.alloc (.cells #[.int .u8 1, .int .i64 5, .int .i64 0, .int .i64 3, .int .i64 9, .int .i64 9, .int .i64 2, .int .i64 0] 23)).heap.size := by have := hb.size; have h := Z3F; rw [World.size_alloc]; omega
  have H4b := Lib.hid ((H3b.out.below hb Z3b).alloc (by have := hb.size; omega) (.cells #[.int .u8 1, .int .i64 5, .int .i64 0, .int .i64 3, .int .i64 9, .int .i64 9, .int .i64 2, .int .i64 0] 23))
  have Z4b : u2.heap.size < (u4.alloc (.cells #[.int .u8 1, .int .i64 5, .int .i64 0, .int .i64 3, .int .i64 9, .int .i64 9, .int .i64 2, .int .i64 0] 23)).heap.size := by have := hb.size; have h := Z3b; rw [World.size_alloc]; omega
  have H4d := Lib.hid ((H3d.out.below hb Z3d).alloc (by have := hb.size; omega) (.cells #[.int .u8 1, .int .i64 5, .int .i64 0, .int .i64 3, .int .i64 9, .int .i64 9, .int .i64 2, .int .i64 0] 23))
  have Z4d : u3.heap.size < (u4.alloc (.cells #[.int .u8 1, .int .i64 5, .int .i64 0, .int .i64 3, .int .i64 9, .int .i64 9, .int .i64 2, .int .i64 0] 23)).heap.size := by have := hb.size; have h := Z3d; rw [World.size_alloc]; omega
  have Y : w.heap.size < u4.heap.size := by have := hb.size; have h := Z3F; omega
  have f_ := H3F.out.below hb Z3F
  have B4 := Lib.hid ((B3.out.trans (hb.mono (by have h := Z3F; omega))).alloc (by have := hb.size; have h := Z3F; omega) (.cells #[.int .u8 1, .int .i64 5, .int .i64 0, .int .i64 3, .int .i64 9, .int .i64 9, .int .i64 2, .int .i64 0] 23))
  have H4g := Lib.hid (Held8.new u4 [.int .u8 1, .int .i64 5, .int .i64 0, .int .i64 3, .int .i64 9, .int .i64 9, .int .i64 2, .int .i64 0] 23)
  have Z4g : u4.heap.size < (u4.alloc (.cells #[.int .u8 1, .int .i64 5, .int .i64 0, .int .i64 3, .int .i64 9, .int .i64 9, .int .i64 2, .int .i64 0] 23)).heap.size := by simp
  clear hb
  clear H3F Z3F
  clear H3b Z3b
  clear H3d Z3d
  clear B3
  obtain ⟨f0, f1, f2, f3, f4, f5, f6, f7⟩ := cells8 f_
  clear f_
  go_wp2_with fail
  refine (plan_v _ _ _ _ _ _ _ _ _ _ _ _ _ _ nx4).mono ?_
  clear f0 f1 f2 f3 f4 f5 f6 f7
  rintro e u5 ⟨rfl, hb⟩
  have H5F := Lib.hid ((H4F.out.below hb Z4F).alloc (by have := hb.size; omega) (.cells #[.int .u8 0, .int .i64 0, .int .i64 0, .int .i64 0, .int .i64 0, .int .i64 0, .int .i64 0, .int .i64 0] 23))
  have Z5F : w.heap.size < (u5.alloc (.cells #[.int .u8 0, .int .i64 0, .int .i64 0, .int .i64 0, .int .i64 0, .int .i64 0, .int .i64 0, .int .i64 0] 23)).heap.size := by have := hb.size; have h := Z4F; rw [World.size_alloc]; omega
  have H5b := Lib.hid ((H4b.out.below hb Z4b).alloc (by have := hb.size; omega) (.cells #[.int .u8 0, .int .i64 0, .int .i64 0, .int .i64 0, .int .i64 0, .int .i64 0, .int .i64 0, .int .i64 0] 23))
  have Z5b : u2.heap.size < (u5.alloc (.cells #[.int .u8 0, .int .i64 0, .int .i64 0, .int .i64 0, .int .i64 0, .int .i64 0, .int .i64 0, .int .i64 0] 23)).heap.size := by have := hb.size; have h := Z4b; rw [World.size_alloc]; omega
  have H5d := Lib.hid ((H4d.out.below hb Z4d).alloc (by have := hb.size; omega) (.cells #[.int .u8 0, .int .i64 0, .int .i64 0, .int .i64 0, .int .i64 0, .int .i64 0, .int .i64 0, .int .i64 0] 23))
  have Z5d : u3.heap.size < (u5.alloc (.cells #[.int .u8 0, .int .i64 0, .int .i64 0, .int .i64 0, .int .i64 0, .int .i64 0, .int .i64 0, .int .i64 0] 23)).heap.size := by have := hb.size; have h := Z4d; rw [World.size_alloc]; omega
  have H5g := Lib.hid ((H4g.out.below hb Z4g).alloc (by have := hb.size; omega) (.cells #[.int .u8 0, .int .i64 0, .int .i64 0, .int .i64 0, .int .i64 0, .int .i64 0, .int .i64 0, .int .i64 0] 23))
  have Z5g : u4.heap.size < (u5.alloc (.cells #[.int .u8 0, .int .i64 0, .int .i64 0, .int .i64 0, .int .i64 0, .int .i64 0, .int .i64 0, .int .i64 0] 23)).heap.size := by have := hb.size; have h := Z4g; rw [World.size_alloc]; omega
  have Y : w.heap.size < u5.heap.size := by have := hb.size; have h := Z4F; omega
  have f_ := H4F.out.below hb Z4F
  have B5 := Lib.hid ((B4.out.trans (hb.mono (by have h := Z4F; omega))).alloc (by have := hb.size; have h := Z4F; omega) (.cells #[.int .u8 0, .int .i64 0, .int .i64 0, .int .i64 0, .int .i64 0, .int .i64 0, .int .i64 0, .int .i64 0] 23))
  clear hb
  clear H4F Z4F
  clear H4b Z4b
  clear H4d Z4d
  clear H4g Z4g
  clear B4
  obtain ⟨f0, f1, f2, f3, f4, f5, f6, f7⟩ := cells8 f_
  clear f_
  go_wp2_with fail
  refine (plan_v _ _ _ _ _ _ _ _ _ _ _ _ _ _ nx5).mono ?_
  clear f0 f1 f2 f3 f4 f5 f6 f7
  rintro e u6 ⟨rfl, hb⟩
  have H6F := Lib.hid ((H5F.out.below hb Z5F).alloc (by have := hb.size; omega) (.cells #[.int .u8 0, .int .i64 0, .int .i64 0, .int .i64 0, .int .i64 0, .int .i64 0, .int .i64 0, .int .i64 0] 23))
  have Z6F : w.heap.size < (u6.alloc (.cells #[.int .u8 0, .int .i64 0, .int .i64 0, .int .i64 0, .int .i64 0, .int .i64 0, .int .i64 0, .int .i64 0] 23)).heap.size := by have := hb.size; have h := Z5F; rw [World.size_alloc]; omega
  have H6b := Lib.hid ((H5b.out.below hb Z5b).alloc (by have := hb.size; omega) (.cells #[.int .u8 0, .int .i64 0, .int .i64 0, .int .i64 0, .int .i64 0, .int .i64 0, .int .i64 0, .int .i64 0] 23))
  have Z6b : u2.heap.size < (u6.alloc (.cells #[.int .u8 0, .int .i64 0, .int .i64 0, .int .i64 0, .int .i64 0, .int .i64 0, .int .i64 0, .int .i64 0] 23)).heap.size := by have := hb.size; have h := Z5b; rw [World.size_alloc]; omega
  have H6d := Lib.hid ((H5d.out.below hb Z5d).alloc (by have := hb.size; omega) (.cells #[.int .u8 0, .int .i64 0, .int .i64 0, .int .i64 0, .int .i64 0, .int .i64 0, .int .i64 0, .int .i64 0] 23))
  have Z6d : u3.heap.size < (u6.alloc (.cells #[.int .u8 0, .int .i64 0, .int .i64 0, .int .i64 0, .int .i64 0, .int .i64 0, .int .i64 0, .int .i64 0] 23)).heap.size := by have := hb.size; have h := Z5d; rw [World.size_alloc]; omega
  have H6g := Lib.hid ((H5g.out.below hb Z5g).alloc (by have := hb.size; omega) (.cells #[.int .u8 0, .int .i64 0, .int .i64 0, .int .i64 0, .int .i64 0, .int .i64 0, .int .i64 0, .int .i64 0] 23))
  have Z6g : u4.heap.size < (u6.alloc (.cells #[.int .u8 0, .int .i64 0, .int .i64 0, .int .i64 0, .int .i64 0, .int .i64 0, .int .i64 0, .int .i64 0] 23)).heap.size := by have := hb.size; have h := Z5g; rw [World.size_alloc]; omega
  have Y : w.heap.size < u6.heap.size := by have := hb.size; have h := Z5F; omega
  have f_ := H5F.out.below hb Z5F
  have B6 := Lib.hid ((B5.out.trans (hb.mono (by have h := Z5F; omega))).alloc (by have := hb.size; have h := Z5F; omega) (.cells #[.int .u8 0, .int .i64 0, .int .i64 0, .int .i64 0, .int .i64 0, .int .i64 0, .int .i64 0, .int .i64 0] 23))
  clear hb
  clear H5F Z5F
  clear H5b Z5b
  clear H5d Z5d
  clear H5g Z5g
  clear B5
  obtain ⟨f0, f1, f2, f3, f4, f5, f6, f7⟩ := cells8 f_
  clear f_
  go_wp2_with fail
  refine (plan_v _ _ _ _ _ _ _ _ _ _ _ _ _ _ nx6).mono ?_
  clear f0 f1 f2 f3 f4 f5 f6 f7
  rintro e u7 ⟨rfl, hb⟩
  have H7F := Lib.hid ((H6F.out.below hb Z6F).alloc (by have := hb.size; omega) (.cells #[.int .u8 0, .int .i64 0, .int .i64 0, .int .i64 0, .int .i64 0, .int .i64 0, .int .i64 0, .int .i64 0] 23))
  have Z7F : w.heap.size < (u7.alloc (.cells #[.int .u8 0, .int .i64 0, .int .i64 0, .int .i64 0, .int .i64 0, .int .i64 0, .int .i64 0, .int .i64 0] 23)).heap.size := by have := hb.size; have h := Z6F; rw [World.size_alloc]; omega
  have H7b := Lib.hid ((H6b.out.below hb Z6b).alloc (by have := hb.size; omega) (.cells #[.int .u8 0, .int .i64 0, .int .i64 0, .int .i64 0, .int .i64 0, .int .i64 0, .int .i64 0, .int .i64 0] 23))
  have Z7b : u2.heap.size < (u7.alloc (.cells #[.int .u8 0, .int .i64 0, .int .i64 0, .int .i64 0, .int .i64 0, .int .i64 0, .int .i64 0, .int .i64 0] 23)).heap.size := by have := hb.size; have h := Z6b; rw [World.size_alloc]; omega
  have H7d := Lib.hid ((H6d.out.below hb Z6d).alloc (by have := hb.size; omega) (.cells #[.int .u8 0, .int .i64 0, .int .i64 0, .int .i64 0, .int .i64 0, .int .i64 0, .int .i64 0, .int .i64 0] 23))
  have Z7d : u3.heap.size < (u7.alloc (.cells #[.int .u8 0, .int .i64 0, .int .i64 0, .int .i64 0, .int .i64 0, .int .i64 0, .int .i64 0, .int .i64 0] 23)).heap.size := by have := hb.size; have h := Z6d; rw [World.size_alloc]; omega
  have H7g := Lib.hid ((H6g.out.below hb Z6g).alloc (by have := hb.size; omega) (.cells #[.int .u8 0, .int .i64 0, .int .i64 0, .int .i64 0, .int .i64 0, .int .i64 0, .int .i64 0, .int .i64 0] 23))
  have Z7g : u4.heap.size < (u7.alloc (.cells #[.int .u8 0, .int .i64 0, .int .i64 0, .int .i64 0, .int .i64 0, .int .i64 0, .int .i64 0, .int .i64 0] 23)).heap.size := by have := hb.size; have h := Z6g; rw [World.size_alloc]; omega
  have Y : w.heap.size < u7.heap.size := by have := hb.size; have h := Z6F; omega
  have f_ := H6F.out.below hb Z6F
  have B7 := Lib.hid ((B6.out.trans (hb.mono (by have h := Z6F; omega))).alloc (by have := hb.size; have h := Z6F; omega) (.cells #[.int .u8 0, .int .i64 0, .int .i64 0, .int .i64 0, .int .i64 0, .int .i64 0, .int .i64 0, .int .i64 0] 23))
  clear hb
  clear H6F Z6F
  clear H6b Z6b
  clear H6d Z6d
  clear H6g Z6g
  clear B6
  obtain ⟨f0, f1, f2, f3, f4, f5, f6, f7⟩ := cells8 f_
  clear f_
  go_wp2_with fail
  refine (plan_v _ _ _ _ _ _ _ _ _ _ _ _ _ _ nx7).mono ?_
  clear f0 f1 f2 f3 f4 f5 f6 f7
  rintro e u8 ⟨rfl, hb⟩
  have H8F := Lib.hid ((H7F.out.below hb Z7F).alloc (by have := hb.size; omega) (.cells #[.int .u8 0, .int .i64 0, .int .i64 0, .int .i64 0, .int .i64 0, .int .i64 0, .int .i64 0, .int .i64 0] 23))
  have Z8F : w.heap.size < (u8.alloc (.cells #[.int .u8 0, .int .i64 0, .int .i64 0, .int .i64 0, .int .i64 0, .int .i64 0, .int .i64 0, .int .i64 0] 23)).heap.size := by have := hb.size; have h := Z7F; rw [World.size_alloc]; omega
  have H8b := Lib.hid ((H7b.out.below hb Z7b).alloc (by have := hb.size; omega) (.cells #[.int .u8 0, .int .i64 0, .int .i64 0, .int .i64 0, .int .i64 0, .int .i64 0, .int .i64 0, .int .i64 0] 23))
  have Z8b : u2.heap.size < (u8.alloc (.cells #[.int .u8 0, .int .i64 0, .int .i64 0, .int .i64 0, .int .i64 0, .int .i64 0, .int .i64 0, .int .i64 0] 23)).heap.size := by have := hb.size; have h := Z7b; rw [World.size_alloc]; omega
  have H8d := Lib.hid ((H7d.out.below hb Z7d).alloc (by have := hb.size; omega) (.cells #[.int .u8 0, .int .i64 0, .int .i64 0, .int .i64 0, .int .i64 0, .int .i64 0, .int .i64 0, .int .i64 0] 23))
  have Z8d : u3.heap.size < (u8.alloc (.cells #[.int .u8 0, .int .i64 0, .int .i64 0, .int .i64 0, .int .i64 0, .int .i64 0, .int .i64 0, .int .i64 0] 23)).heap.size := by have := hb.size; have h := Z7d; rw [World.size_alloc]; omega
  have H8g := Lib.hid ((H7g.out.below hb Z7g).alloc (by have := hb.size; omega) (.cells #[.int .u8 0, .int .i64 0, .int .i64 0, .int .i64 0, .int .i64 0, .int .i64 0, .int .i64 0, .int .i64 0] 23))
  have Z8g : u4.heap.size < (u8.alloc (.cells #[.int .u8 0, .int .i64 0, .int .i64 0, .int .i64 0, .int .i64 0, .int .i64 0, .int .i64 0, .int .i64 0] 23)).heap.size := by have := hb.size; have h := Z7g; rw [World.size_alloc]; omega
  have Y : w.heap.size < u8.heap.size := by have := hb.size; have h := Z7F; omega
  have f_ := H7F.out.below hb Z7F
  have B8 := Lib.hid ((B7.out.trans (hb.mono (by have h := Z7F; omega))).alloc (by have := hb.size; have h := Z7F; omega) (.cells #[.int .u8 0, .int .i64 0, .int .i64 0, .int .i64 0, .int .i64 0, .int .i64 0, .int .i64 0, .int .i64 0] 23))
  clear hb
  clear H7F Z7F
  clear H7b Z7b
  clear H7d Z7d
  clear H7g Z7g
  clear B7
  obtain ⟨f0, f1, f2, f3, f4, f5, f6, f7⟩ := cells8 f_
  clear f_
  go_wp2_with fail
  refine (plan_v _ _ _ _ _ _ _ _ _ _ _ _ _ _ nx8).mono ?_
  clear f0 f1 f2 f3 f4 f5 f6 f7
  rintro e u9 ⟨rfl, hb⟩
  have H9F := Lib.hid ((H8F.out.below hb Z8F).alloc (by have := hb.size; omega) (.cells #[.int .u8 0, .int .i64 0, .int .i64 0, .int .i64 0, .int .i64 0, .int .i64 0, .int .i64 0, .int .i64 0] 23))
  have Z9F : w.heap.size < (u9.alloc (.cells #[.int .u8 0, .int .i64 0, .int .i64 0, .int .i64 0, .int .i64 0, .int .i64 0, .int .i64 0, .int .i64 0] 23)).heap.size := by have := hb.size; have h := Z8F; rw [World.size_alloc]; omega
  have H9b := Lib.hid ((H8b.out.below hb Z8b).alloc (by have := hb.size; omega) (.cells #[.int .u8 0, .int .i64 0, .int .i64 0, .int .i64 0, .int .i64 0, .int .i64 0, .int .i64 0, .int .i64 0] 23))
  have Z9b : u2.heap.size < (u9.alloc (.cells #[.int .u8 0, .int .i64 0, .int .i64 0, .int .i64 0, .int .i64 0, .int .i64 0, .int .i64 0, .int .i64 0] 23)).heap.size := by have := hb.size; have h := Z8b; rw [World.size_alloc]; omega
  have H9d := Lib.hid ((H8d.out.below hb Z8d).alloc (by have := hb.size; omega) (.cells #[.int .u8 0, .int .i64 0, .int .i64 0, .int .i64 0, .int .i64 0, .int .i64 0, .int .i64 0, .int .i64 0] 23))
  have Z9d : u3.heap.size < (u9.alloc (.cells #[.int .u8 0, .int .i64 0, .int .i64 0, .int .i64 0, .int .i64 0, .int .i64 0, .int .i64 0, .int .i64 0] 23)).heap.size := by have := hb.size; have h := Z8d; rw [World.size_alloc]; omega
  have H9g := Lib.hid ((H8g.out.below hb Z8g).alloc (by have := hb.size; omega) (.cells #[.int .u8 0, .int .i64 0, .int .i64 0, .int .i64 0, .int .i64 0, .int .i64 0, .int .i64 0, .int .i64 0] 23))
  have Z9g : u4.heap.size < (u9.alloc (.cells #[.int .u8 0, .int .i64 0, .int .i64 0, .int .i64 0, .int .i64 0, .int .i64 0, .int .i64 0, .int .i64 0] 23)).heap.size := by have := hb.size; have h := Z8g; rw [World.size_alloc]; omega
  have Y : w.heap.size < u9.heap.size := by have := hb.size; have h := Z8F; omega
  have f_ := H8F.out.below hb Z8F
  have B9 := Lib.hid ((B8.out.trans (hb.mono (by have h := Z8F; omega))).alloc (by have := hb.size; have h := Z8F; omega) (.cells #[.int .u8 0, .int .i64 0, .int .i64 0, .int .i64 0, .int .i64 0, .int .i64 0, .int .i64 0, .int .i64 0] 23))
  clear hb
  clear H8F Z8F
  clear H8b Z8b
  clear H8d Z8d
  clear H8g Z8g
  clear B8
  obtain ⟨f0, f1, f2, f3, f4, f5, f6, f7⟩ := cells8 f_
  clear f_
  go_wp2_with fail
  refine (plan_v _ _ _ _ _ _ _ _ _ _ _ _ _ _ nx9).mono ?_
  clear f0 f1 f2 f3 f4 f5 f6 f7
  rintro e u10 ⟨rfl, hb⟩
  have H10F := Lib.hid ((H9F.out.below hb Z9F).alloc (by have := hb.size; omega) (.cells #[.int .u8 0, .int .i64 0, .int .i64 0, .int .i64 0, .int .i64 0, .int .i64 0, .int .i64 0, .int .i64 0] 23))
  have Z10F : w.heap.size < (u10.alloc (.cells #[.int .u8 0, .int .i64 0, .int .i64 0, .int .i64 0, .int .i64 0, .int .i64 0, .int .i64 0, .int .i64 0] 23)).heap.size := by have := hb.size; have h := Z9F; rw [World.size_alloc]; omega
  have H10b := Lib.hid ((H9b.out.below hb Z9b).alloc (by have := hb.size; omega) (.cells #[.int .u8 0, .int .i64 0, .int .i64 0, .int .i64 0, .int .i64 0, .int .i64 0, .int .i64 0, .int .i64 0] 23))
  have Z10b : u2.heap.size < (u10.alloc (.cells #[.int .u8 0, .int .i64 0, .int .i64 0, .int .i64 0, .int .i64 0, .int .i64 0, .int .i64 0, .int .i64 0] 23)).heap.size := by have := hb.size; have h := Z9b; rw [World.size_alloc]; omega
  have H10d := Lib.hid ((H9d.out.below hb Z9d).alloc (by have := hb.size; omega) (.cells #[.int .u8 0, .int .i64 0, .int .i64 0, .int .i64 0, .int .i64 0, .int .i64 0, .int .i64 0, .int .i64 0] 23))
  have Z10d : u3.heap.size < (u10.alloc (.cells #[.int .u8 0, .int .i64 0, .int .i64 0, .int .i64 0, .int .i64 0, .int .i64 0, .int .i64 0, .int .i64 0] 23)).heap.size := by have := hb.size; have h := Z9d; rw [World.size_alloc]; omega
  have H10g := Lib.hid ((H9g.out.below hb Z9g).alloc (by have := hb.size; omega) (.cells #[.int .u8 0, .int .i64 0, .int .i64 0, .int .i64 0, .int .i64 0, .int .i64 0, .int .i64 0, .int .i64 0] 23))
  have Z10g : u4.heap.size < (u10.alloc (.cells #[.int .u8 0, .int .i64 0, .int .i64 0, .int .i64 0, .int .i64 0, .int .i64 0, .int .i64 0, .int .i64 0] 23)).heap.size := by have := hb.size; have h := Z9g; rw [World.size_alloc]; omega
  have Y : w.heap.size < u10.heap.size := by have := hb.size; have h := Z9F; omega
  have f_ := H9F.out.below hb Z9F
  have b_ := H9b.out.below hb Z9b
  have Yb : u2.heap.size < u10.heap.size := by have := hb.size; have h := Z9b; omega
  have d_ := H9d.out.below hb Z9d
  have Yd : u3.heap.size < u10.heap.size := by have := hb.size; have h := Z9d; omega
  have g_ := H9g.out.below hb Z9g
  have Yg : u4.heap.size < u10.heap.size := by have := hb.size; have h := Z9g; omega
  have B10 := Lib.hid ((B9.out.trans (hb.mono (by have h := Z9F; omega))).alloc (by have := hb.size; have h := Z9F; omega) (.cells #[.int .u8 0, .int .i64 0, .int .i64 0, .int .i64 0, .int .i64 0, .int .i64 0, .int .i64 0, .int .i64 0] 23))
  clear hb
  clear H9F Z9F
  clear H9b Z9b
  clear H9d Z9d
  clear H9g Z9g
  clear B9
  obtain ⟨f0, f1, f2, f3, f4, f5, f6, f7⟩ := cells8 f_
  clear f_
  obtain ⟨bx0, bx1, bx2, bx3, bx4, bx5, bx6, bx7⟩ := cells8 b_
  clear b_
  obtain ⟨dx0, dx1, dx2, dx3, dx4, dx5, dx6, dx7⟩ := cells8 d_
  clear d_
  obtain ⟨gx0, gx1, gx2, gx3, gx4, gx5, gx6, gx7⟩ := cells8 g_
  clear g_
  go_wp2_with fail
  refine (part_any _ _ _).mono ?_
  clear f0 f1 f2 f3 f4 f5 f6 f7 bx0 bx1 bx2 bx3 bx4 bx5 bx6 bx7 dx0 dx1 dx2 dx3 dx4 dx5 dx6 dx7 gx0 gx1 gx2 gx3 gx4 gx5 gx6 gx7
  rintro e v1 ⟨rfl, hb⟩
  have zz1 : w.heap.size ≤ v1.heap.size := by have := hb.size; have h := Z10F; omega
  have BB1 := Lib.hid (B10.out.trans (hb.mono (by have h := Z10F; omega)))
  clear hb
  go_wp2_with fail
  refine (part_any _ _ _).mono ?_
  rintro e v2 ⟨rfl, hb⟩
  have zz2 : w.heap.size ≤ v2.heap.size := by have := hb.size; omega
  have BB2 := Lib.hid (BB1.out.trans (hb.mono zz1))
  clear hb
  go_wp2_with fail
  refine (mean_any none 0 [] _ (by simp) (by simp) (fun h => absurd rfl h)).mono ?_
  rintro e v3 ⟨rfl, hb⟩
  have zz3 : w.heap.size ≤ v3.heap.size := by have := hb.size; omega
  have BB3 := Lib.hid (BB2.out.trans (hb.mono zz2))
  clear hb
  go_wp2_with fail
  refine (less_any _ _ _).mono ?_
  rintro e vl ⟨rfl, rfl⟩
  go_wp2_with fail
  refine (less_any _ _ _).mono ?_
  rintro e vl ⟨rfl, rfl⟩
  go_wp2_with fail
  refine (less_any _ _ _).mono ?_
  rintro e vl ⟨rfl, rfl⟩
  go_wp2_with fail
  refine (less_any _ _ _).mono ?_
  rintro e vl ⟨rfl, rfl⟩
  go_wp2_with fail
  refine (awake_any _).mono ?_
  rintro e v4 ⟨rfl, hb⟩
  have zz4 : w.heap.size ≤ v4.heap.size := by have := hb.size; omega
  have BB4 := Lib.hid (BB3.out.trans (hb.mono zz3))
  clear hb
  go_wp2_with fail
  go_ret
  exact ⟨rfl, BB4.out⟩
end Go.Proofs.Ytoiblmhhilipjaa
