/- WALK of layer 24: awake. -/
import Derived.Test.YtajopaljiondlaaM
set_option linter.unusedVariables false
namespace Go.Proofs.Ytajopaljiondlaa
open Go.RowKit Go.ChangeShapes Go.WideShapes Go.ChangeAt

abbrev exL : List (Int × Int) := [(1, 1), (2, 1), (3, 2)]
theorem ex_in : ∀ q ∈ exL, In64 q.1 ∧ In64 q.2 := by
  intro q hq
  simp [exL] at hq
  rcases hq with rfl | rfl | rfl <;> (unfold In64; omega)
theorem ex_rd (w : World) : RdU (w.alloc (.cells #[.int .i64 1, .int .i64 1, .int .i64 2, .int .i64 1, .int .i64 3, .int .i64 2] 34)) (some ⟨w.heap.size, 0, none⟩) exL := fun _ => ⟨w.heap.size, 0, rfl, fun k hk => by
  match k, hk with
  | 0, _ => exact ⟨by rw [World.cell?_alloc_new]; rfl, by rw [World.cell?_alloc_new]; rfl⟩
  | 1, _ => exact ⟨by rw [World.cell?_alloc_new]; rfl, by rw [World.cell?_alloc_new]; rfl⟩
  | 2, _ => exact ⟨by rw [World.cell?_alloc_new]; rfl, by rw [World.cell?_alloc_new]; rfl⟩⟩
set_option maxRecDepth 100000 in
set_option maxHeartbeats 2000000 in
theorem awake_any (w : World) : Calls Try.prog 8 #[] w fun e w' => e = .returned (.bool true) ∧ Below w.heap.size w w' := by
  have D1 := fun W (h : RdU W (some ⟨w.heap.size, 0, none⟩) exL) (hb : w.heap.size < W.heap.size) => depth_any (some ⟨w.heap.size, 0, none⟩) 3 exL 3 W (by decide) ex_in (by unfold In64; omega) h (fun a ha => by cases ha; exact hb)
  have D2 := fun W (h : RdU W (some ⟨w.heap.size, 0, none⟩) exL) (hb : w.heap.size < W.heap.size) => depth_any (some ⟨w.heap.size, 0, none⟩) 3 exL 9 W (by decide) ex_in (by unfold In64; omega) h (fun a ha => by cases ha; exact hb)
  have M1 := fun W (h : RdU W (some ⟨w.heap.size, 0, none⟩) exL) (hb : w.heap.size < W.heap.size) => moves_any (some ⟨w.heap.size, 0, none⟩) 3 exL 2 3 W (by decide) ex_in (by unfold In64; omega) h (fun a ha => by cases ha; exact hb)
  have M2 := fun W (h : RdU W (some ⟨w.heap.size, 0, none⟩) exL) (hb : w.heap.size < W.heap.size) => moves_any (some ⟨w.heap.size, 0, none⟩) 3 exL 2 2 W (by decide) ex_in (by unfold In64; omega) h (fun a ha => by cases ha; exact hb)
  have M3 := fun W (h : RdU W (some ⟨w.heap.size, 0, none⟩) exL) (hb : w.heap.size < W.heap.size) => moves_any (some ⟨w.heap.size, 0, none⟩) 3 exL 3 1 W (by decide) ex_in (by unfold In64; omega) h (fun a ha => by cases ha; exact hb)
  rw [show depthU (goUp exL 3) (-1) = (2, 0) from by decide] at D1
  rw [show depthU (goUp exL 9) (-1) = (0, 5) from by decide] at D2
  rw [show movesU 2 (goUp exL 3) 0 = 58 from by decide] at M1
  rw [show movesU 2 (goUp exL 2) 0 = 58 from by decide] at M2
  rw [show movesU 3 (goUp exL 1) 0 = 0 from by decide] at M3
  have S1 := fun W => split_any ⟨#[97, 47, 98]⟩ W (by decide)
  rw [show splitU (⟨#[97, 47, 98]⟩ : ByteArray).data.toList = ([⟨#[97]⟩, ⟨#[98]⟩], 0) from by decide] at S1
  have Y1 := fun W => may_any ⟨#[97]⟩ W (by decide)
  rw [show mayB (⟨#[97]⟩ : ByteArray).data.toList = true from by decide] at Y1
  replace D1 := Lib.hid D1
  replace D2 := Lib.hid D2
  replace M1 := Lib.hid M1
  replace M2 := Lib.hid M2
  replace M3 := Lib.hid M3
  replace S1 := Lib.hid S1
  replace Y1 := Lib.hid Y1
  go_enter Try.func8, Try.ntmps8
  go_wp2_with fail
  have r1 := Lib.hid (ex_rd w)
  have B1 := Lib.hid (show Below w.heap.size w (w.alloc (.cells #[.int .i64 1, .int .i64 1, .int .i64 2, .int .i64 1, .int .i64 3, .int .i64 2] 34)) from (Below.refl _ _).alloc (Nat.le_refl _) _)
  have z1 : w.heap.size < (w.alloc (.cells #[.int .i64 1, .int .i64 1, .int .i64 2, .int .i64 1, .int .i64 3, .int .i64 2] 34)).heap.size := by simp
  generalize (w.alloc (.cells #[.int .i64 1, .int .i64 1, .int .i64 2, .int .i64 1, .int .i64 3, .int .i64 2] 34)) = w1 at *
  refine (D1.out w1 r1.out z1).mono ?_
  rintro e w2 ⟨rfl, hb⟩
  have r2 := Lib.hid (r1.out.below hb)
  have z2 := Nat.lt_of_lt_of_le z1 hb.size
  have B2 := Lib.hid (B1.out.trans (hb.mono B1.out.size))
  clear hb
  go_wp2_with fail
  refine (D2.out w2 r2.out z2).mono ?_
  rintro e w3 ⟨rfl, hb⟩
  have r3 := Lib.hid (r2.out.below hb)
  have z3 := Nat.lt_of_lt_of_le z2 hb.size
  have B3 := Lib.hid (B2.out.trans (hb.mono B2.out.size))
  clear hb
  go_wp2_with fail
  refine (S1.out w3).mono ?_
  rintro e w4 ⟨A, c, rfl, ho, hb⟩
  have r4 := Lib.hid (r3.out.below hb)
  have z4 := Nat.lt_of_lt_of_le z3 hb.size
  have B4 := Lib.hid (B3.out.trans (hb.mono B3.out.size))
  obtain ⟨A', c', e', _, hcell⟩ := ho.form
  simp only [Value.slice.injEq, true_and] at e'
  obtain ⟨rfl, rfl⟩ := e'
  obtain ⟨g, rfl, hcl⟩ := hcell (by simp)
  have q4 := (hcl 1 (by decide)).1
  clear hb ho hcell hcl
  go_wp2_with fail
  refine (Y1.out w4).mono ?_
  rintro e w5 ⟨rfl, rfl⟩
  go_wp2_with fail
  refine (M1.out w4 r4.out z4).mono ?_
  rintro e w5 ⟨rfl, hb⟩
  have r5 := Lib.hid (r4.out.below hb)
  have z5 := Nat.lt_of_lt_of_le z4 hb.size
  have B5 := Lib.hid (B4.out.trans (hb.mono B4.out.size))
  have q5 := keep1 hb q4
  clear hb q4
  go_wp2_with fail
  refine (M2.out w5 r5.out z5).mono ?_
  rintro e w6 ⟨rfl, hb⟩
  have r6 := Lib.hid (r5.out.below hb)
  have z6 := Nat.lt_of_lt_of_le z5 hb.size
  have B6 := Lib.hid (B5.out.trans (hb.mono B5.out.size))
  have q6 := keep1 hb q5
  clear hb q5
  go_wp2_with fail
  refine (M3.out w6 r6.out z6).mono ?_
  rintro e w7 ⟨rfl, hb⟩
  have B7 := Lib.hid (B6.out.trans (hb.mono B6.out.size))
  have q7 := keep1 hb q6
  clear hb q6
  have q7' : w7.cell? ⟨g, 1, none⟩ = some (.string ⟨#[98]⟩) := q7
  clear q7
  go_wp2_with fail
  go_ret
  exact ⟨rfl, B7.out⟩
end Go.Proofs.Ytajopaljiondlaa
