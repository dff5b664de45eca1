/- WALKS of layer 26: Plan, case by case. -/
import Derived.Test.YtoiblmhhilipjaaB
import Derived.RegionTactic
set_option linter.unusedVariables false
namespace Go.Proofs.Ytoiblmhhilipjaa
open Go.RowKit Go.ChangeShapes Go.WideShapes Go.ChangeAt

set_option maxHeartbeats 1000000 in
theorem plan_bad (k mo li sz mt ct ino gen mode size guard now : Int) (w : World) (h : mode < -1 ∨ 4095 < mode ∨ size < -1 ∨ guard < -1 ∨ now < 0 ∨ 2147483647 < now) :
    Calls Try.prog 8 #[.agg #[.int .u8 k, .int .i64 mo, .int .i64 li, .int .i64 sz, .int .i64 mt, .int .i64 ct, .int .i64 ino, .int .i64 gen], .int .i64 mode, .int .i64 size, .int .i64 guard, .int .i64 now] w
      fun e w' => e = .returned (planR k mo li sz mt ct ino gen mode size guard now) ∧ Below w.heap.size w w' := by
  have H := Lib.hid (planR_arg (k := k) (mo := mo) (li := li) (sz := sz) (mt := mt) (ct := ct) (ino := ino) (gen := gen) h)
  go_enter Try.func8, Try.ntmps8
  go_wp2_with fail
  all_goals go_returns
  all_goals exact ⟨congrArg Ending.returned H.out, by go_grown⟩

set_option maxHeartbeats 1000000 in
theorem plan_guard (k mo li sz mt ct ino gen mode size guard now : Int) (w : World) (g1 : -1 ≤ mode) (g2 : mode ≤ 4095) (g3 : -1 ≤ size) (g4 : -1 ≤ guard) (g5 : 0 ≤ now) (g6 : now ≤ 2147483647) (h1 : ¬ guard = -1) (h2 : ¬ guard = ct) :
    Calls Try.prog 8 #[.agg #[.int .u8 k, .int .i64 mo, .int .i64 li, .int .i64 sz, .int .i64 mt, .int .i64 ct, .int .i64 ino, .int .i64 gen], .int .i64 mode, .int .i64 size, .int .i64 guard, .int .i64 now] w
      fun e w' => e = .returned (planR k mo li sz mt ct ino gen mode size guard now) ∧ Below w.heap.size w w' := by
  have H := Lib.hid (planR_guard (k := k) (mo := mo) (li := li) (sz := sz) (mt := mt) (ct := ct) (ino := ino) (gen := gen) (mode := mode) (size := size) (guard := guard) (now := now) (by omega) (by omega))
  have b1 : (guard != -1) = true := by simpa using h1
  have b2 : (guard != ct) = true := by simpa using h2
  go_enter Try.func8, Try.ntmps8
  go_wp2_with fail
  all_goals go_returns
  all_goals exact ⟨congrArg Ending.returned H.out, by go_grown⟩

/-- The world at the first change: the object, the time, the result's place, the error. -/
theorem has_start (w : World) (k mo li sz mt ct ino gen now : Int) (z : Array Value) (t0 t1 t2 t3 : TypeId) :
    Has ((((w.alloc (.cells #[.int .u8 k, .int .i64 mo, .int .i64 li, .int .i64 sz, .int .i64 mt, .int .i64 ct, .int .i64 ino, .int .i64 gen] t0)).alloc (.cells #[.int .i64 now] t1)).alloc (.cells z t2)).alloc (.cells #[.int .i64 0] t3))
      w.heap.size (w.heap.size + 1 + 1 + 1) (w.heap.size + 1) k mo li sz mt ct ino gen 0 now := by
  have e1 : ∀ (w : World) (o : Obj) (b p : Nat), b < w.heap.size → (w.alloc o).cell? ⟨b, p, none⟩ = w.cell? ⟨b, p, none⟩ := fun w o b p h => World.cell?_alloc_lt w o _ h
  have e2 : ∀ (w : World) (o : Obj) (b p : Nat), b < w.heap.size → (w.alloc o).frozen? ⟨b, p, none⟩ = w.frozen? ⟨b, p, none⟩ := fun w o b p h => World.frozen?_alloc_old w o _ (Nat.ne_of_lt h)
  constructor
  iterate 8 (rw [e1 _ _ _ _ (by simp; omega), e1 _ _ _ _ (by simp; omega), e1 _ _ _ _ (by simp), World.cell?_alloc_new]; rfl)
  · have h := World.cell?_alloc_new (((w.alloc (.cells #[.int .u8 k, .int .i64 mo, .int .i64 li, .int .i64 sz, .int .i64 mt, .int .i64 ct, .int .i64 ino, .int .i64 gen] t0)).alloc (.cells #[.int .i64 now] t1)).alloc (.cells z t2)) #[.int .i64 0] t3 0
    rw [World.size_alloc, World.size_alloc, World.size_alloc] at h
    exact h
  · rw [e1 _ _ _ _ (by simp), e1 _ _ _ _ (by simp)]
    simp
  · intro o
    rw [e2 _ _ _ _ (by simp; omega), e2 _ _ _ _ (by simp; omega), e2 _ _ _ _ (by simp), World.frozen?_alloc_new]
  · intro o
    have h := World.frozen?_alloc_new (((w.alloc (.cells #[.int .u8 k, .int .i64 mo, .int .i64 li, .int .i64 sz, .int .i64 mt, .int .i64 ct, .int .i64 ino, .int .i64 gen] t0)).alloc (.cells #[.int .i64 now] t1)).alloc (.cells z t2)) #[.int .i64 0] t3 o
    rw [World.size_alloc, World.size_alloc, World.size_alloc] at h
    exact h
  · intro o
    rw [e2 _ _ _ _ (by simp), e2 _ _ _ _ (by simp)]
    simp

def zs : List Value := [.int .u8 0, .int .i64 0, .int .i64 0, .int .i64 0, .int .i64 0, .int .i64 0, .int .i64 0, .int .i64 0]
theorem held_start (w : World) (x0 x1 x3 : Obj) (t2 : TypeId) :
    Held8 ((((w.alloc x0).alloc x1).alloc (.cells zs.toArray t2)).alloc x3) (w.heap.size + 1 + 1) zs := by
  have e1 : ∀ (w : World) (o : Obj) (b p : Nat), b < w.heap.size → (w.alloc o).cell? ⟨b, p, none⟩ = w.cell? ⟨b, p, none⟩ := fun w o b p h => World.cell?_alloc_lt w o _ h
  have e2 : ∀ (w : World) (o : Obj) (b p : Nat), b < w.heap.size → (w.alloc o).frozen? ⟨b, p, none⟩ = w.frozen? ⟨b, p, none⟩ := fun w o b p h => World.frozen?_alloc_old w o _ (Nat.ne_of_lt h)
  refine ⟨fun i _ => ?_, fun i => ?_⟩
  · rw [e1 _ _ _ _ (by simp)]
    have h := World.cell?_alloc_new ((w.alloc x0).alloc x1) zs.toArray t2 i
    simpa using h
  · rw [e2 _ _ _ _ (by simp)]
    have h := World.frozen?_alloc_new ((w.alloc x0).alloc x1) zs.toArray t2 i
    simpa using h

set_option maxHeartbeats 1000000 in
theorem plan_kind (k mo li sz mt ct ino gen mode size guard now : Int) (w : World) (g1 : -1 ≤ mode) (g2 : mode ≤ 4095) (g3 : -1 ≤ size) (g4 : -1 ≤ guard) (g5 : 0 ≤ now) (g6 : now ≤ 2147483647) (h1 : guard = -1 ∨ guard = ct) (h2 : ¬ size = -1) (h3 : ¬ k = 1) :
    Calls Try.prog 8 #[.agg #[.int .u8 k, .int .i64 mo, .int .i64 li, .int .i64 sz, .int .i64 mt, .int .i64 ct, .int .i64 ino, .int .i64 gen], .int .i64 mode, .int .i64 size, .int .i64 guard, .int .i64 now] w
      fun e w' => e = .returned (planR k mo li sz mt ct ino gen mode size guard now) ∧ Below w.heap.size w w' := by
  have H := Lib.hid (planR_kind (k := k) (mo := mo) (li := li) (sz := sz) (mt := mt) (ct := ct) (ino := ino) (gen := gen) (mode := mode) (size := size) (guard := guard) (now := now) (by omega) (by omega) (by omega))
  have hcn : cnt now = true := cnt_true.2 ⟨g5, g6⟩
  have HS := Lib.hid (show sizedR k mo li sz mt ct ino gen size now = .tuple #[.agg #[.int .u8 0, .int .i64 0, .int .i64 0, .int .i64 0, .int .i64 0, .int .i64 0, .int .i64 0, .int .i64 0], .int .i64 55] from by unfold sizedR; rw [if_pos h3]; rfl)
  have b2 : (size != -1) = true := by simpa using h2
  clear h2 h3
  have hg : ((guard != -1) && (guard != ct)) = false := by rcases h1 with h | h <;> simp [h]
  clear h1 hcn
  go_enter Try.func8, Try.ntmps8
  go_wp2_with fail
  all_goals
    refine (clos_sized _ _ _ _ _ _ _ _ _ _ _ _ _ _ _ _ _ _ _ _ _ _ _ (has_start _ _ _ _ _ _ _ _ _ _ _ _ _ _ _) (by simp <;> omega) (by simp <;> omega) (by simp <;> omega) (by omega) (by omega) (by omega) HS.out).mono ?_
    rintro e w1 ⟨rfl, HH, hs, hB, hR⟩
    have HBw1 := Lib.hid (show Below w.heap.size w w1 from Below.trans (by go_grown) (hB w.heap.size (Nat.le_refl _) (by omega)))
    have hszw1 : w.heap.size + 1 + 1 + 1 + 1 ≤ w1.heap.size := by first | simpa using hs | omega
    obtain ⟨hr, hrf⟩ := hR _ _ (held_start _ _ _ _ _) (by simp) (by omega) (by omega)
    have HRw1 := Lib.hid (show Held8 w1 (w.heap.size + 1 + 1) zs from ⟨hr, hrf⟩)
    have r0 := hr 0 (by omega)
    have r1 := hr 1 (by omega)
    have r2 := hr 2 (by omega)
    have r3 := hr 3 (by omega)
    have r4 := hr 4 (by omega)
    have r5 := hr 5 (by omega)
    have r6 := hr 6 (by omega)
    have r7 := hr 7 (by omega)
    simp only [zs] at r0 r1 r2 r3 r4 r5 r6 r7
    have HHw1 := Lib.hid HH
    obtain ⟨c0, c1, c2, c3, c4, c5, c6, c7, ce, cn, fa, fe, fn⟩ := HH
    clear hB hs hR hr
    go_wp2_with fail
    refine (clos_skip _ _ _ _ _ _ _ _ ce (.inr (by omega))).mono ?_
    rintro e w3 ⟨rfl, rfl⟩
    go_wp2_with fail
    go_region
    all_goals go_wp2_with fail
  all_goals refine bodyPost_ret (by simp [results, Try.results8, go_sem, r0, r1, r2, r3, r4, r5, r6, r7]; try rfl) rfl ?_
  all_goals exact ⟨congrArg Ending.returned H.out, by have := HBw1.out; go_grown⟩

set_option maxHeartbeats 1000000 in
theorem plan_large (k mo li sz mt ct ino gen mode size guard now : Int) (w : World) (g1 : -1 ≤ mode) (g2 : mode ≤ 4095) (g3 : -1 ≤ size) (g4 : -1 ≤ guard) (g5 : 0 ≤ now) (g6 : now ≤ 2147483647) (h1 : guard = -1 ∨ guard = ct) (h2 : ¬ size = -1) (h3 : k = 1) (h4 : 32768 < size) :
    Calls Try.prog 8 #[.agg #[.int .u8 k, .int .i64 mo, .int .i64 li, .int .i64 sz, .int .i64 mt, .int .i64 ct, .int .i64 ino, .int .i64 gen], .int .i64 mode, .int .i64 size, .int .i64 guard, .int .i64 now] w
      fun e w' => e = .returned (planR k mo li sz mt ct ino gen mode size guard now) ∧ Below w.heap.size w w' := by
  have H := Lib.hid (planR_large (k := k) (mo := mo) (li := li) (sz := sz) (mt := mt) (ct := ct) (ino := ino) (gen := gen) (mode := mode) (size := size) (guard := guard) (now := now) (by omega) (by omega) (by omega) h4)
  have hcn : cnt now = true := cnt_true.2 ⟨g5, g6⟩
  have HS := Lib.hid (show sizedR k mo li sz mt ct ino gen size now = .tuple #[.agg #[.int .u8 0, .int .i64 0, .int .i64 0, .int .i64 0, .int .i64 0, .int .i64 0, .int .i64 0, .int .i64 0], .int .i64 40] from by unfold sizedR; rw [if_neg (by omega), if_neg (by omega), if_neg (by simp [hcn]), if_pos h4]; rfl)
  have b2 : (size != -1) = true := by simpa using h2
  clear h2 h3 h4
  have hg : ((guard != -1) && (guard != ct)) = false := by rcases h1 with h | h <;> simp [h]
  clear h1 hcn
  go_enter Try.func8, Try.ntmps8
  go_wp2_with fail
  all_goals
    refine (clos_sized _ _ _ _ _ _ _ _ _ _ _ _ _ _ _ _ _ _ _ _ _ _ _ (has_start _ _ _ _ _ _ _ _ _ _ _ _ _ _ _) (by simp <;> omega) (by simp <;> omega) (by simp <;> omega) (by omega) (by omega) (by omega) HS.out).mono ?_
    rintro e w1 ⟨rfl, HH, hs, hB, hR⟩
    have HBw1 := Lib.hid (show Below w.heap.size w w1 from Below.trans (by go_grown) (hB w.heap.size (Nat.le_refl _) (by omega)))
    have hszw1 : w.heap.size + 1 + 1 + 1 + 1 ≤ w1.heap.size := by first | simpa using hs | omega
    obtain ⟨hr, hrf⟩ := hR _ _ (held_start _ _ _ _ _) (by simp) (by omega) (by omega)
    have HRw1 := Lib.hid (show Held8 w1 (w.heap.size + 1 + 1) zs from ⟨hr, hrf⟩)
    have r0 := hr 0 (by omega)
    have r1 := hr 1 (by omega)
    have r2 := hr 2 (by omega)
    have r3 := hr 3 (by omega)
    have r4 := hr 4 (by omega)
    have r5 := hr 5 (by omega)
    have r6 := hr 6 (by omega)
    have r7 := hr 7 (by omega)
    simp only [zs] at r0 r1 r2 r3 r4 r5 r6 r7
    have HHw1 := Lib.hid HH
    obtain ⟨c0, c1, c2, c3, c4, c5, c6, c7, ce, cn, fa, fe, fn⟩ := HH
    clear hB hs hR hr
    go_wp2_with fail
    refine (clos_skip _ _ _ _ _ _ _ _ ce (.inr (by omega))).mono ?_
    rintro e w3 ⟨rfl, rfl⟩
    go_wp2_with fail
    go_region
    all_goals go_wp2_with fail
  all_goals refine bodyPost_ret (by simp [results, Try.results8, go_sem, r0, r1, r2, r3, r4, r5, r6, r7]; try rfl) rfl ?_
  all_goals exact ⟨congrArg Ending.returned H.out, by have := HBw1.out; go_grown⟩

set_option maxHeartbeats 1000000 in
theorem plan_none (k mo li sz mt ct ino gen mode size guard now : Int) (w : World) (g1 : -1 ≤ mode) (g2 : mode ≤ 4095) (g3 : -1 ≤ size) (g4 : -1 ≤ guard) (g5 : 0 ≤ now) (g6 : now ≤ 2147483647) (h1 : guard = -1 ∨ guard = ct) (h2 : size = -1) (h5 : mode = -1) :
    Calls Try.prog 8 #[.agg #[.int .u8 k, .int .i64 mo, .int .i64 li, .int .i64 sz, .int .i64 mt, .int .i64 ct, .int .i64 ino, .int .i64 gen], .int .i64 mode, .int .i64 size, .int .i64 guard, .int .i64 now] w
      fun e w' => e = .returned (planR k mo li sz mt ct ino gen mode size guard now) ∧ Below w.heap.size w w' := by
  have H := Lib.hid (planR_1 (k := k) (mo := mo) (li := li) (sz := sz) (mt := mt) (ct := ct) (ino := ino) (gen := gen) (mode := mode) (size := size) (guard := guard) (now := now) (by omega) (by omega) (by omega) (by omega) h2 h5)
  have hcn : cnt now = true := cnt_true.2 ⟨g5, g6⟩
  have b2 : (size != -1) = false := by simpa using h2
  have b3 : (mode != -1) = false := by simpa using h5
  clear h2 h5
  have hg : ((guard != -1) && (guard != ct)) = false := by rcases h1 with h | h <;> simp [h]
  clear h1 hcn
  go_enter Try.func8, Try.ntmps8
  go_wp2_with fail
  all_goals
    refine (clos_skip _ _ _ _ _ _ _ _ (has_start _ _ _ _ _ _ _ _ _ _ _ _ _ _ _).ce (.inl rfl)).mono ?_
    rintro e w3 ⟨rfl, rfl⟩
    go_wp2_with fail
    refine (clos_skip _ _ _ _ _ _ _ _ (has_start _ _ _ _ _ _ _ _ _ _ _ _ _ _ _).ce (.inl rfl)).mono ?_
    rintro e w4 ⟨rfl, rfl⟩
    go_wp2_with fail
  all_goals go_returns
  all_goals exact ⟨congrArg Ending.returned H.out, by go_grown⟩

set_option maxHeartbeats 1000000 in
theorem plan_size (k mo li sz mt ct ino gen mode size guard now : Int) (w : World) (g1 : -1 ≤ mode) (g2 : mode ≤ 4095) (g3 : -1 ≤ size) (g4 : -1 ≤ guard) (g5 : 0 ≤ now) (g6 : now ≤ 2147483647) (h1 : guard = -1 ∨ guard = ct) (h2 : ¬ size = -1) (h3 : k = 1) (h4 : ¬ 32768 < size) (h5 : mode = -1) :
    Calls Try.prog 8 #[.agg #[.int .u8 k, .int .i64 mo, .int .i64 li, .int .i64 sz, .int .i64 mt, .int .i64 ct, .int .i64 ino, .int .i64 gen], .int .i64 mode, .int .i64 size, .int .i64 guard, .int .i64 now] w
      fun e w' => e = .returned (planR k mo li sz mt ct ino gen mode size guard now) ∧ Below w.heap.size w w' := by
  have H := Lib.hid (planR_3 (k := k) (mo := mo) (li := li) (sz := sz) (mt := mt) (ct := ct) (ino := ino) (gen := gen) (mode := mode) (size := size) (guard := guard) (now := now) (by omega) (by omega) (by omega) h4 h2 h5)
  have hcn : cnt now = true := cnt_true.2 ⟨g5, g6⟩
  have HS := Lib.hid (show sizedR k mo li sz mt ct ino gen size now = .tuple #[.agg #[.int .u8 k, .int .i64 mo, .int .i64 li, .int .i64 size, .int .i64 now, .int .i64 now, .int .i64 ino, .int .i64 gen], .int .i64 0] from by unfold sizedR; rw [if_neg (by omega), if_neg (by omega), if_neg (by simp [hcn]), if_neg (by omega)]; rfl)
  have b2 : (size != -1) = true := by simpa using h2
  have b3 : (mode != -1) = false := by simpa using h5
  clear h2 h3 h4 h5
  have hg : ((guard != -1) && (guard != ct)) = false := by rcases h1 with h | h <;> simp [h]
  clear h1 hcn
  go_enter Try.func8, Try.ntmps8
  go_wp2_with fail
  all_goals
    refine (clos_sized _ _ _ _ _ _ _ _ _ _ _ _ _ _ _ _ _ _ _ _ _ _ _ (has_start _ _ _ _ _ _ _ _ _ _ _ _ _ _ _) (by simp <;> omega) (by simp <;> omega) (by simp <;> omega) (by omega) (by omega) (by omega) HS.out).mono ?_
    rintro e w1 ⟨rfl, HH, hs, hB, hR⟩
    have HBw1 := Lib.hid (show Below w.heap.size w w1 from Below.trans (by go_grown) (hB w.heap.size (Nat.le_refl _) (by omega)))
    have hszw1 : w.heap.size + 1 + 1 + 1 + 1 ≤ w1.heap.size := by first | simpa using hs | omega
    obtain ⟨hr, hrf⟩ := hR _ _ (held_start _ _ _ _ _) (by simp) (by omega) (by omega)
    have HRw1 := Lib.hid (show Held8 w1 (w.heap.size + 1 + 1) zs from ⟨hr, hrf⟩)
    have r0 := hr 0 (by omega)
    have r1 := hr 1 (by omega)
    have r2 := hr 2 (by omega)
    have r3 := hr 3 (by omega)
    have r4 := hr 4 (by omega)
    have r5 := hr 5 (by omega)
    have r6 := hr 6 (by omega)
    have r7 := hr 7 (by omega)
    simp only [zs] at r0 r1 r2 r3 r4 r5 r6 r7
    have HHw1 := Lib.hid HH
    obtain ⟨c0, c1, c2, c3, c4, c5, c6, c7, ce, cn, fa, fe, fn⟩ := HH
    clear hB hs hR hr
    go_wp2_with fail
    refine (clos_skip _ _ _ _ _ _ _ _ ce (.inl rfl)).mono ?_
    rintro e w3 ⟨rfl, rfl⟩
    go_wp2_with fail
  all_goals refine bodyPost_ret (by simp [results, Try.results8, go_sem, r0, r1, r2, r3, r4, r5, r6, r7]; try rfl) rfl ?_
  all_goals exact ⟨congrArg Ending.returned H.out, by have := HBw1.out; go_grown⟩

set_option maxHeartbeats 1000000 in
theorem plan_mode (k mo li sz mt ct ino gen mode size guard now : Int) (w : World) (g1 : -1 ≤ mode) (g2 : mode ≤ 4095) (g3 : -1 ≤ size) (g4 : -1 ≤ guard) (g5 : 0 ≤ now) (g6 : now ≤ 2147483647) (h1 : guard = -1 ∨ guard = ct) (h2 : size = -1) (h5 : ¬ mode = -1) :
    Calls Try.prog 8 #[.agg #[.int .u8 k, .int .i64 mo, .int .i64 li, .int .i64 sz, .int .i64 mt, .int .i64 ct, .int .i64 ino, .int .i64 gen], .int .i64 mode, .int .i64 size, .int .i64 guard, .int .i64 now] w
      fun e w' => e = .returned (planR k mo li sz mt ct ino gen mode size guard now) ∧ Below w.heap.size w w' := by
  have H := Lib.hid (planR_2 (k := k) (mo := mo) (li := li) (sz := sz) (mt := mt) (ct := ct) (ino := ino) (gen := gen) (mode := mode) (size := size) (guard := guard) (now := now) (by omega) (by omega) (by omega) (by omega) h2 h5)
  have hcn : cnt now = true := cnt_true.2 ⟨g5, g6⟩
  have HM := Lib.hid (show modedR k mo li sz mt ct ino gen mode now = .tuple #[.agg #[.int .u8 k, .int .i64 mode, .int .i64 li, .int .i64 sz, .int .i64 mt, .int .i64 now, .int .i64 ino, .int .i64 gen], .int .i64 0] from by unfold modedR; rw [if_neg (by omega), if_neg (by omega), if_neg (by simp [hcn])]; rfl)
  have b2 : (size != -1) = false := by simpa using h2
  have b3 : (mode != -1) = true := by simpa using h5
  clear h2 h5
  have hg : ((guard != -1) && (guard != ct)) = false := by rcases h1 with h | h <;> simp [h]
  clear h1 hcn
  go_enter Try.func8, Try.ntmps8
  go_wp2_with fail
  all_goals
    refine (clos_skip _ _ _ _ _ _ _ _ (has_start _ _ _ _ _ _ _ _ _ _ _ _ _ _ _).ce (.inl rfl)).mono ?_
    rintro e w3 ⟨rfl, rfl⟩
    go_wp2_with fail
    refine (clos_moded _ _ _ _ _ _ _ _ _ _ _ _ _ _ _ _ _ _ _ _ _ _ _ (has_start _ _ _ _ _ _ _ _ _ _ _ _ _ _ _) (by simp <;> omega) (by simp <;> omega) (by simp <;> omega) (by omega) (by omega) (by omega) HM.out).mono ?_
    rintro e w1 ⟨rfl, HH, hs, hB, hR⟩
    have HBw1 := Lib.hid (show Below w.heap.size w w1 from Below.trans (by go_grown) (hB w.heap.size (Nat.le_refl _) (by omega)))
    have hszw1 : w.heap.size + 1 + 1 + 1 + 1 ≤ w1.heap.size := by first | simpa using hs | omega
    obtain ⟨hr, hrf⟩ := hR _ _ (held_start _ _ _ _ _) (by simp) (by omega) (by omega)
    have HRw1 := Lib.hid (show Held8 w1 (w.heap.size + 1 + 1) zs from ⟨hr, hrf⟩)
    have r0 := hr 0 (by omega)
    have r1 := hr 1 (by omega)
    have r2 := hr 2 (by omega)
    have r3 := hr 3 (by omega)
    have r4 := hr 4 (by omega)
    have r5 := hr 5 (by omega)
    have r6 := hr 6 (by omega)
    have r7 := hr 7 (by omega)
    simp only [zs] at r0 r1 r2 r3 r4 r5 r6 r7
    have HHw1 := Lib.hid HH
    obtain ⟨c0, c1, c2, c3, c4, c5, c6, c7, ce, cn, fa, fe, fn⟩ := HH
    clear hB hs hR hr
    go_wp2_with fail
  all_goals refine bodyPost_ret (by simp [results, Try.results8, go_sem, r0, r1, r2, r3, r4, r5, r6, r7]; try rfl) rfl ?_
  all_goals exact ⟨congrArg Ending.returned H.out, by have := HBw1.out; go_grown⟩

set_option maxHeartbeats 1000000 in
theorem plan_both (k mo li sz mt ct ino gen mode size guard now : Int) (w : World) (g1 : -1 ≤ mode) (g2 : mode ≤ 4095) (g3 : -1 ≤ size) (g4 : -1 ≤ guard) (g5 : 0 ≤ now) (g6 : now ≤ 2147483647) (h1 : guard = -1 ∨ guard = ct) (h2 : ¬ size = -1) (h3 : k = 1) (h4 : ¬ 32768 < size) (h5 : ¬ mode = -1) :
    Calls Try.prog 8 #[.agg #[.int .u8 k, .int .i64 mo, .int .i64 li, .int .i64 sz, .int .i64 mt, .int .i64 ct, .int .i64 ino, .int .i64 gen], .int .i64 mode, .int .i64 size, .int .i64 guard, .int .i64 now] w
      fun e w' => e = .returned (planR k mo li sz mt ct ino gen mode size guard now) ∧ Below w.heap.size w w' := by
  have H := Lib.hid (planR_4 (k := k) (mo := mo) (li := li) (sz := sz) (mt := mt) (ct := ct) (ino := ino) (gen := gen) (mode := mode) (size := size) (guard := guard) (now := now) (by omega) (by omega) (by omega) h4 h2 h5)
  have hcn : cnt now = true := cnt_true.2 ⟨g5, g6⟩
  have HS := Lib.hid (show sizedR k mo li sz mt ct ino gen size now = .tuple #[.agg #[.int .u8 k, .int .i64 mo, .int .i64 li, .int .i64 size, .int .i64 now, .int .i64 now, .int .i64 ino, .int .i64 gen], .int .i64 0] from by unfold sizedR; rw [if_neg (by omega), if_neg (by omega), if_neg (by simp [hcn]), if_neg (by omega)]; rfl)
  have HM := Lib.hid (show modedR k mo li size now now ino gen mode now = .tuple #[.agg #[.int .u8 k, .int .i64 mode, .int .i64 li, .int .i64 size, .int .i64 now, .int .i64 now, .int .i64 ino, .int .i64 gen], .int .i64 0] from by unfold modedR; rw [if_neg (by omega), if_neg (by omega), if_neg (by simp [hcn])]; rfl)
  have b2 : (size != -1) = true := by simpa using h2
  have b3 : (mode != -1) = true := by simpa using h5
  clear h2 h3 h4 h5
  have hg : ((guard != -1) && (guard != ct)) = false := by rcases h1 with h | h <;> simp [h]
  clear h1 hcn
  go_enter Try.func8, Try.ntmps8
  go_wp2_with fail
  all_goals
    refine (clos_sized _ _ _ _ _ _ _ _ _ _ _ _ _ _ _ _ _ _ _ _ _ _ _ (has_start _ _ _ _ _ _ _ _ _ _ _ _ _ _ _) (by simp <;> omega) (by simp <;> omega) (by simp <;> omega) (by omega) (by omega) (by omega) HS.out).mono ?_
    rintro e w1 ⟨rfl, HH, hs, hB, hR⟩
    have HBw1 := Lib.hid (show Below w.heap.size w w1 from Below.trans (by go_grown) (hB w.heap.size (Nat.le_refl _) (by omega)))
    have hszw1 : w.heap.size + 1 + 1 + 1 + 1 ≤ w1.heap.size := by first | simpa using hs | omega
    obtain ⟨hr, hrf⟩ := hR _ _ (held_start _ _ _ _ _) (by simp) (by omega) (by omega)
    have HRw1 := Lib.hid (show Held8 w1 (w.heap.size + 1 + 1) zs from ⟨hr, hrf⟩)
    have r0 := hr 0 (by omega)
    have r1 := hr 1 (by omega)
    have r2 := hr 2 (by omega)
    have r3 := hr 3 (by omega)
    have r4 := hr 4 (by omega)
    have r5 := hr 5 (by omega)
    have r6 := hr 6 (by omega)
    have r7 := hr 7 (by omega)
    simp only [zs] at r0 r1 r2 r3 r4 r5 r6 r7
    have HHw1 := Lib.hid HH
    obtain ⟨c0, c1, c2, c3, c4, c5, c6, c7, ce, cn, fa, fe, fn⟩ := HH
    clear hB hs hR hr
    go_wp2_with fail
    refine (clos_moded _ _ _ _ _ _ _ _ _ _ _ _ _ _ _ _ _ _ _ _ _ _ _ HHw1.out (by omega) (by omega) (by omega) (by omega) (by omega) (by omega) HM.out).mono ?_
    clear r0 r1 r2 r3 r4 r5 r6 r7 c0 c1 c2 c3 c4 c5 c6 c7 ce cn fa fe fn hrf
    rintro e w2 ⟨rfl, HH, hs, hB, hR⟩
    have HBw2 := Lib.hid (show Below w.heap.size w w2 from Below.trans HBw1.out (hB w.heap.size (Nat.le_refl _) (by omega)))
    have hszw2 : w.heap.size + 1 + 1 + 1 + 1 ≤ w2.heap.size := by first | simpa using hs | omega
    obtain ⟨hr, hrf⟩ := hR _ _ HRw1.out (by omega) (by omega) (by omega)
    have HRw2 := Lib.hid (show Held8 w2 (w.heap.size + 1 + 1) zs from ⟨hr, hrf⟩)
    have r0 := hr 0 (by omega)
    have r1 := hr 1 (by omega)
    have r2 := hr 2 (by omega)
    have r3 := hr 3 (by omega)
    have r4 := hr 4 (by omega)
    have r5 := hr 5 (by omega)
    have r6 := hr 6 (by omega)
    have r7 := hr 7 (by omega)
    simp only [zs] at r0 r1 r2 r3 r4 r5 r6 r7
    have HHw2 := Lib.hid HH
    obtain ⟨c0, c1, c2, c3, c4, c5, c6, c7, ce, cn, fa, fe, fn⟩ := HH
    clear hB hs hR hr
    go_wp2_with fail
  all_goals refine bodyPost_ret (by simp [results, Try.results8, go_sem, r0, r1, r2, r3, r4, r5, r6, r7]; try rfl) rfl ?_
  all_goals exact ⟨congrArg Ending.returned H.out, by have := HBw2.out; go_grown⟩

theorem plan_any (k mo li sz mt ct ino gen mode size guard now : Int) (w : World) :
    Calls Try.prog 8 #[.agg #[.int .u8 k, .int .i64 mo, .int .i64 li, .int .i64 sz, .int .i64 mt, .int .i64 ct, .int .i64 ino, .int .i64 gen], .int .i64 mode, .int .i64 size, .int .i64 guard, .int .i64 now] w
      fun e w' => e = .returned (planR k mo li sz mt ct ino gen mode size guard now) ∧ Below w.heap.size w w' := by
  by_cases h : mode < -1 ∨ 4095 < mode ∨ size < -1 ∨ guard < -1 ∨ now < 0 ∨ 2147483647 < now
  · exact plan_bad _ _ _ _ _ _ _ _ _ _ _ _ _ h
  · by_cases hg : guard = -1 ∨ guard = ct
    · by_cases h2 : size = -1
      · by_cases h5 : mode = -1
        · exact plan_none _ _ _ _ _ _ _ _ _ _ _ _ _ (by omega) (by omega) (by omega) (by omega) (by omega) (by omega) hg h2 h5
        · exact plan_mode _ _ _ _ _ _ _ _ _ _ _ _ _ (by omega) (by omega) (by omega) (by omega) (by omega) (by omega) hg h2 h5
      · by_cases h3 : k = 1
        · by_cases h4 : 32768 < size
          · exact plan_large _ _ _ _ _ _ _ _ _ _ _ _ _ (by omega) (by omega) (by omega) (by omega) (by omega) (by omega) hg h2 h3 h4
          · by_cases h5 : mode = -1
            · exact plan_size _ _ _ _ _ _ _ _ _ _ _ _ _ (by omega) (by omega) (by omega) (by omega) (by omega) (by omega) hg h2 h3 h4 h5
            · exact plan_both _ _ _ _ _ _ _ _ _ _ _ _ _ (by omega) (by omega) (by omega) (by omega) (by omega) (by omega) hg h2 h3 h4 h5
        · exact plan_kind _ _ _ _ _ _ _ _ _ _ _ _ _ (by omega) (by omega) (by omega) (by omega) (by omega) (by omega) hg h2 h3
    · exact plan_guard _ _ _ _ _ _ _ _ _ _ _ _ _ (by omega) (by omega) (by omega) (by omega) (by omega) (by omega) (by omega) (by omega)
end Go.Proofs.Ytoiblmhhilipjaa
