/- LAYER 16's statements: awake. -/
import Derived.Test.YtdiejjhlgacbdaaI
set_option linter.unusedVariables false
namespace Go.Proofs.Ytdiejjhlgacbdaa
open Go.RowKit Go.ChangeShapes Go.WideShapes Go.ChangeAt Go.Sort

theorem rd_one (w : World) (x : Int) : RdI (w.alloc (.cells #[.int .i64 x] 3)) (some ⟨w.heap.size, 0, none⟩) [x] := fun _ => ⟨w.heap.size, 0, rfl, fun k hk => by
  have : k = 0 := by simp at hk; omega
  subst this
  exact (World.cell?_alloc_new w _ _ 0).trans rfl⟩
def ex0 : Int → Nat := fun _ => 0
def ex1 : Int → Nat := needS ex0 0 5
def ex2 : Int → Nat := needS ex1 0 6
def ex3 : Int → Nat := likeS ex2 0 1
def ex4 : Int → Nat := giveS ex3 0 5
def ex5 : Int → Nat := needS ex4 0 7
def ex6 : Int → Nat := (dropU ex5 1).1
def ex7 : Int → Nat := giveS ex6 0 6
theorem dropR_good {t : Int} : ∀ (l : List Int) {S : Int → Nat} (out : List Int), Good S → Good (dropR t l S out).1
  | [], S, out, h => h
  | x :: l, S, out, h => dropR_good l _ (giveS_good h t x)
theorem dropU_good {S : Int → Nat} (h : Good S) (t : Int) : Good (dropU S t).1 := by
  unfold dropU
  split
  · exact dropR_good _ _ h
  · exact h
theorem likeR_good {t : Nat} (ht : t < 7) : ∀ (l : List Int) {S : Int → Nat}, (∀ x ∈ l, 2 ≤ x ∧ x < 8192) → Good S → Good (likeR t l S)
  | [], S, _, h => h
  | x :: l, S, hl, h => likeR_good ht l (fun y hy => hl y (by simp [hy])) (h.upd (hl x (by simp)) (with_lt (h x).1 ht))
theorem likeS_good {S : Int → Nat} (h : Good S) (a b : Int) : Good (likeS S a b) := by
  unfold likeS
  split
  · rename_i he
    have hb : mayB b 2 = true := by
      cases hb : mayB b 2
      · unfold likeE at he
        rw [if_pos (.inr (.inr hb))] at he
        cases he
      · rfl
    have := mayB_iff.1 hb
    exact likeR_good (by omega) _ (fun x hx => ⟨(mem_ofL h hx).2.2.1, (mem_ofL h hx).2.2.2.1⟩) h
  · exact h
theorem exg1 : Good ex1 := needS_good good_none _ _
theorem exg2 : Good ex2 := needS_good exg1 _ _
theorem exg3 : Good ex3 := likeS_good exg2 _ _
theorem exg4 : Good ex4 := giveS_good exg3 _ _
theorem exg5 : Good ex5 := needS_good exg4 _ _
theorem exg6 : Good ex6 := dropU_good exg5 _
theorem exg7 : Good ex7 := giveS_good exg6 _ _
theorem ev1 : needE ex0 0 5 = 0 := by decide +kernel
theorem ev2 : needE ex1 0 6 = 0 := by decide +kernel
theorem ev3 : likeE ex2 0 1 = 0 := by decide +kernel
theorem ev4 : giveE ex3 0 5 = 0 ∧ giveB ex3 0 5 = false := by decide +kernel
theorem ev5 : needE ex4 0 7 = 0 := by decide +kernel
theorem ev6 : (dropU ex5 1).2 = [5] := by decide +kernel
theorem ev7 : giveE ex6 0 6 = 0 ∧ giveB ex6 0 6 = true := by decide +kernel
theorem ev8 : blks prAll ex7 = [7] := by decide +kernel
set_option maxRecDepth 100000 in
set_option maxHeartbeats 4000000 in
theorem awake_any (w : World) : Calls Try.prog 6 #[] w fun e w' => e = .returned (.bool true) ∧ Below w.heap.size w w' := by
  have C1 := Lib.hid (fun (r bm n : Nat) (W : World) (h : Tab W r bm n ex0) (hn : n ≤ 10000000) => need_any r bm n ex0 0 5 W h good_none hn)
  have C2 := Lib.hid (fun (r bm n : Nat) (W : World) (h : Tab W r bm n ex1) (hn : n ≤ 10000000) => need_any r bm n ex1 0 6 W h exg1 hn)
  have C3 := Lib.hid (fun (r bm n : Nat) (W : World) (h : Tab W r bm n ex2) (hn : n ≤ 9000000) => like_any r bm n ex2 0 1 W h exg2 hn)
  have C4 := Lib.hid (fun (r bm n : Nat) (W : World) (h : Tab W r bm n ex3) (hn : n ≤ 10000000) => give_any r bm n ex3 0 5 W h exg3 hn)
  have C5 := Lib.hid (fun (r bm n : Nat) (W : World) (h : Tab W r bm n ex4) (hn : n ≤ 10000000) => need_any r bm n ex4 0 7 W h exg4 hn)
  have C6 := Lib.hid (fun (r bm n : Nat) (W : World) (h : Tab W r bm n ex5) (hn : n ≤ 9000000) => drop_any r bm n ex5 1 W h exg5 hn (by unfold In64; omega))
  have C7 := Lib.hid (fun (r bm n : Nat) (W : World) (h : Tab W r bm n ex6) (hn : n ≤ 10000000) => give_any r bm n ex6 0 6 W h exg6 hn)
  have C8 := Lib.hid (fun (r bm n : Nat) (W : World) (h : Tab W r bm n ex7) (hn : n ≤ 10000000) => all_any r bm n ex7 W h exg7 hn)
  go_enter Try.func6, Try.ntmps6
  go_wp2_with fail
  refine (new_any w).mono ?_
  rintro e w1 ⟨r, bm, rfl, hT1, hr, hb, hB1⟩
  have T1 := Lib.hid hT1
  have B1 := Lib.hid hB1
  clear hT1 hB1
  go_wp2_with fail
  refine (C1.out r bm _ w1 T1.out (by omega)).mono ?_
  rintro e w2 ⟨rfl, hT, hO⟩
  rw [ev1]
  have T2 := Lib.hid (show Tab w2 r bm _ ex1 from hT)
  have B2 := Lib.hid (B1.out.trans ((hO.below (B := w.heap.size) B1.out.size (fun x hx => by omega))))
  clear hT hO T1 B1
  go_wp2_with fail
  refine (C2.out r bm _ w2 T2.out (by omega)).mono ?_
  rintro e w3 ⟨rfl, hT, hO⟩
  rw [ev2]
  have T3 := Lib.hid (show Tab w3 r bm _ ex2 from hT)
  have B3 := Lib.hid (B2.out.trans ((hO.below (B := w.heap.size) B2.out.size (fun x hx => by omega))))
  clear hT hO T2 B2
  go_wp2_with fail
  refine (C3.out r bm _ w3 T3.out (by omega)).mono ?_
  rintro e w4 ⟨rfl, hT, _, hO⟩
  rw [ev3]
  have T4 := Lib.hid (show Tab w4 r bm _ ex3 from hT)
  have B4 := Lib.hid (B3.out.trans ((hO.below (B := w.heap.size) B3.out.size (fun x hx => by omega))))
  clear hT hO T3 B3
  go_wp2_with fail
  refine (C4.out r bm _ w4 T4.out (by omega)).mono ?_
  rintro e w5 ⟨rfl, hT, hO⟩
  rw [ev4.1, ev4.2]
  have T5 := Lib.hid (show Tab w5 r bm _ ex4 from hT)
  have B5 := Lib.hid (B4.out.trans ((hO.below (B := w.heap.size) B4.out.size (fun x hx => by omega))))
  clear hT hO T4 B4
  go_wp2_with fail
  refine (C5.out r bm _ w5 T5.out (by omega)).mono ?_
  rintro e w6 ⟨rfl, hT, hO⟩
  rw [ev5]
  have T6 := Lib.hid (show Tab w6 r bm _ ex5 from hT)
  have B6 := Lib.hid (B5.out.trans ((hO.below (B := w.heap.size) B5.out.size (fun x hx => by omega))))
  clear hT hO T5 B5
  go_wp2_with fail
  refine (C6.out r bm _ w6 T6.out (by omega)).mono ?_
  rintro e w7 ⟨A, c, rfl, hown, hT, _, hO⟩
  rw [show dropE 1 = 0 from by decide +kernel]
  rw [ev6] at hown
  rw [ev6]
  have T7 := Lib.hid (show Tab w7 r bm _ ex6 from hT)
  have B7 := Lib.hid (B6.out.trans ((hO.below (B := w.heap.size) B6.out.size (fun x hx => by omega))))
  have R7 := Lib.hid hown.rd
  have hAb : ∀ a, A = some a → w6.heap.size ≤ a.block := fun a ha => by
    obtain ⟨A1, c1, e1, h1⟩ := hown.form
    cases e1
    exact (h1 a ha).1
  replace hAb := Lib.hid hAb
  have hbm6 : bm < w6.heap.size := T6.out.lt.2
  clear hT hO T6 B6 hown
  go_wp2_with fail
  refine (C7.out r bm _ w7 T7.out (by omega)).mono ?_
  rintro e w8 ⟨rfl, hT, hO⟩
  rw [ev7.1, ev7.2]
  have T8 := Lib.hid (show Tab w8 r bm _ ex7 from hT)
  have B8 := Lib.hid (B7.out.trans ((hO.below (B := w.heap.size) B7.out.size (fun x hx => by omega))))
  have R8 := Lib.hid (R7.out.off hO (fun a ha => by have := hAb.out a ha; omega))
  clear hT hO T7 B7 R7
  go_wp2_with fail
  have hb9 : Below w8.heap.size w8 (w8.alloc (.cells #[.int .i64 5] 3)) := (Below.refl _ _).alloc (Nat.le_refl _) _
  have SM := same_any A (some ⟨w8.heap.size, 0, none⟩) c 1 [5] [5] (w8.alloc (.cells #[.int .i64 5] 3)) (R8.out.below hb9) (rd_one _ _) (by decide) (by decide)
  rw [show decide (([5] : List Int) = [5]) = true from rfl] at SM
  refine SM.mono ?_
  rintro e w9 ⟨rfl, hb10⟩
  have hb11 := hb9.trans (hb10.mono hb9.size)
  have T9 := Lib.hid (T8.out.below hb11)
  have B9 := Lib.hid (B8.out.trans (hb11.mono B8.out.size))
  clear SM hb9 hb10 hb11 T8 B8 R8
  go_wp2_with fail
  refine (C8.out r bm _ w9 T9.out (by omega)).mono ?_
  rintro e w10 ⟨A2, c2, rfl, hown, hB⟩
  rw [ev8] at hown
  rw [ev8]
  have B10 := Lib.hid (B9.out.trans (hB.mono B9.out.size))
  have R10 := Lib.hid hown.rd
  clear hown hB B9
  go_wp2_with fail
  have hb9 : Below w10.heap.size w10 (w10.alloc (.cells #[.int .i64 7] 3)) := (Below.refl _ _).alloc (Nat.le_refl _) _
  have SM := same_any A2 (some ⟨w10.heap.size, 0, none⟩) c2 1 [7] [7] (w10.alloc (.cells #[.int .i64 7] 3)) (R10.out.below hb9) (rd_one _ _) (by decide) (by decide)
  rw [show decide (([7] : List Int) = [7]) = true from rfl] at SM
  refine SM.mono ?_
  rintro e w11 ⟨rfl, hb10⟩
  have B11 := Lib.hid (B10.out.trans ((hb9.trans (hb10.mono hb9.size)).mono B10.out.size))
  clear SM hb9 hb10 B10 R10
  go_wp2_with fail
  go_ret
  exact ⟨rfl, B11.out⟩
end Go.Proofs.Ytdiejjhlgacbdaa
