/- WALKS of layer 26: the examples. -/
import Derived.Test.YtoiblmhhilipjaaC
import Derived.Test.YtoiblmhhilipjaaE
set_option linter.unusedVariables false
namespace Go.Proofs.Ytoiblmhhilipjaa
open Go.RowKit Go.ChangeShapes Go.WideShapes Go.ChangeAt

theorem plan_v (k mo li sz mt ct ino gen mode size guard now : Int) (w : World) (v : Value) (h : planR k mo li sz mt ct ino gen mode size guard now = v) :
    Calls Try.prog 8 #[.agg #[.int .u8 k, .int .i64 mo, .int .i64 li, .int .i64 sz, .int .i64 mt, .int .i64 ct, .int .i64 ino, .int .i64 gen], .int .i64 mode, .int .i64 size, .int .i64 guard, .int .i64 now] w
      fun e w' => e = .returned v ∧ Below w.heap.size w w' := by rw [← h]; exact plan_any k mo li sz mt ct ino gen mode size guard now w
theorem refplan_v (k mo li sz mt ct ino gen mode size guard now : Int) (w : World) (v : Value) (h : planR k mo li sz mt ct ino gen mode size guard now = v) :
    Calls Try.prog 9 #[.agg #[.int .u8 k, .int .i64 mo, .int .i64 li, .int .i64 sz, .int .i64 mt, .int .i64 ct, .int .i64 ino, .int .i64 gen], .int .i64 mode, .int .i64 size, .int .i64 guard, .int .i64 now] w
      fun e w' => e = .returned v ∧ Below w.heap.size w w' := by rw [← h]; exact refplan_any k mo li sz mt ct ino gen mode size guard now w

theorem ex_plan : planR 1 0 0 0 0 6 0 0 7 3 6 9 = .tuple #[.agg #[.int .u8 1, .int .i64 7, .int .i64 0, .int .i64 3, .int .i64 9, .int .i64 9, .int .i64 0, .int .i64 0], .int .i64 0] := by unfold planR ag; simp
theorem ex_p1 : (partR 1 4 == 4598175219545276416) = true := by decide +kernel
theorem ex_p2 : (partR 0 0 == 9221120237041090561) = true := by decide +kernel
theorem ex_p3 : (partR 1 0 == 9218868437227405312) = true := by decide +kernel
theorem ex_m : (meanR [1, 2] == 4609434218613702656) = true := by decide +kernel
theorem ex_l : lessB (partR 1 4) (partR 1 2) = true := by decide +kernel
theorem ex_s : sameB 1 7 0 3 0 0 0 0 0 0 0 0 = false := by decide +kernel

theorem Held8.below {W W' : World} {g : Nat} {z : List Value} (h : Held8 W g z) (hb : Below W.heap.size W W') (hg : g < W.heap.size) : Held8 W' g z :=
  ⟨fun i hi => ((bcell hb).1 g i hg).trans (h.1 i hi), fun i => ((bcell hb).2 g i hg).trans (h.2 i)⟩
theorem Held8.alloc {W : World} {g : Nat} {z : List Value} (h : Held8 W g z) (hg : g < W.heap.size) (o : Obj) : Held8 (W.alloc o) g z :=
  ⟨fun i hi => (World.cell?_alloc_lt W o _ hg).trans (h.1 i hi), fun i => (World.frozen?_alloc_old W o _ (Nat.ne_of_lt hg)).trans (h.2 i)⟩
theorem Held8.new (w : World) (z : List Value) (t : TypeId) : Held8 (w.alloc (.cells z.toArray t)) w.heap.size z :=
  ⟨fun i _ => by rw [World.cell?_alloc_new]; simp, fun i => World.frozen?_alloc_new w _ _ _⟩

set_option maxHeartbeats 1000000 in
theorem awake_any (w : World) : Calls Try.prog 12 #[] w fun e w' => e = .returned (.bool true) ∧ Below w.heap.size w w' := by
  have HP := Lib.hid ex_plan
  have h1 := ex_p1
  have h2 := ex_p2
  have h3 := ex_p3
  have h4 := ex_m
  have h5 := ex_l
  have h6 := ex_s
  go_enter Try.func12, Try.ntmps12
  go_wp2_with fail
  refine (plan_v _ _ _ _ _ _ _ _ _ _ _ _ _ _ HP.out).mono ?_
  rintro e w1 ⟨rfl, hb1⟩
  have hz1 := hb1.size
  have H1 := Lib.hid (Held8.new w1 [.int .u8 1, .int .i64 7, .int .i64 0, .int .i64 3, .int .i64 9, .int .i64 9, .int .i64 0, .int .i64 0] 23)
  have B1 := Lib.hid hb1
  clear hb1
  go_wp2_with fail
  refine (part_any _ _ _).mono ?_
  rintro e w2 ⟨rfl, hb⟩
  have hz2 : w1.heap.size + 1 ≤ w2.heap.size := by simpa using hb.size
  have H2 := Lib.hid (H1.out.below hb (by simp))
  have B2 := Lib.hid (B1.out.trans (((Below.refl _ _).alloc (by omega) _).trans (hb.mono (by simp; omega))))
  clear hb
  go_wp2_with fail
  refine (part_any _ _ _).mono ?_
  rintro e w3 ⟨rfl, hb⟩
  have hz3 : w1.heap.size + 1 ≤ w3.heap.size := by have := hb.size; omega
  have H3 := Lib.hid (H2.out.below hb (by omega))
  have B3 := Lib.hid (B2.out.trans (hb.mono (by omega)))
  clear hb
  go_wp2_with fail
  refine (part_any _ _ _).mono ?_
  rintro e w4 ⟨rfl, hb⟩
  have hz4 : w1.heap.size + 1 ≤ w4.heap.size := by have := hb.size; omega
  have H4 := Lib.hid (H3.out.below hb (by omega))
  have B4 := Lib.hid (B3.out.trans (hb.mono (by omega)))
  clear hb
  go_wp2_with fail
  refine (mean_any _ _ [1, 2] _ (by decide) (by decide) (fun _ => ⟨_, 0, rfl, ?_⟩)).mono ?_
  · intro k hk
    have : k = 0 ∨ k = 1 := by simp at hk; omega
    rcases this with rfl | rfl <;> simp
  rintro e w5 ⟨rfl, hb⟩
  have hz5 : w1.heap.size + 1 ≤ w5.heap.size := by have := hb.size; simp at this; omega
  have H5 := Lib.hid ((H4.out.alloc (by omega) _).below hb (by simp; omega))
  have B5 := Lib.hid (B4.out.trans (((Below.refl _ _).alloc (by omega) _).trans (hb.mono (by simp; omega))))
  clear hb
  go_wp2_with fail
  refine (part_any _ _ _).mono ?_
  rintro e w6 ⟨rfl, hb⟩
  have hz6 : w1.heap.size + 1 ≤ w6.heap.size := by have := hb.size; omega
  have H6 := Lib.hid (H5.out.below hb (by omega))
  have B6 := Lib.hid (B5.out.trans (hb.mono (by omega)))
  clear hb
  go_wp2_with fail
  refine (part_any _ _ _).mono ?_
  rintro e w7 ⟨rfl, hb⟩
  have hz7 : w1.heap.size + 1 ≤ w7.heap.size := by have := hb.size; omega
  have H7 := Lib.hid (H6.out.below hb (by omega))
  have B7 := Lib.hid (B6.out.trans (hb.mono (by omega)))
  clear hb
  go_wp2_with fail
  refine (less_any _ _ _).mono ?_
  rintro e w8 ⟨rfl, rfl⟩
  obtain ⟨hr, hrf⟩ := H7.out
  have r0 := hr 0 (by omega)
  have r1 := hr 1 (by omega)
  have r2 := hr 2 (by omega)
  have r3 := hr 3 (by omega)
  have r4 := hr 4 (by omega)
  have r5 := hr 5 (by omega)
  have r6 := hr 6 (by omega)
  have r7 := hr 7 (by omega)
  simp only [List.getElem?_cons_zero, List.getElem?_cons_succ] at r0 r1 r2 r3 r4 r5 r6 r7
  clear hr
  go_wp2_with fail
  refine (same_any _ _ _ _ _ _ _ _ _ _ _ _ _ _ _ _ _).mono ?_
  rintro e w9 ⟨rfl, hb⟩
  have B9 := Lib.hid (B7.out.trans (hb.mono (by omega)))
  clear hb
  go_wp2_with fail
  go_ret
  exact ⟨rfl, B9.out⟩
end Go.Proofs.Ytoiblmhhilipjaa
