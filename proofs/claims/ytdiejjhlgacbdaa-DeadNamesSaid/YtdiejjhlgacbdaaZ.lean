/- LAYER 16: DeadNames: the examples; the limits; nobody's table. -/
import Derived.Test.YtdiejjhlgacbdaaR
set_option linter.unusedVariables false
namespace Go.Proofs.Ytdiejjhlgacbdaa
open Go.RowKit Go.ChangeShapes Go.WideShapes Go.ChangeAt Go.Sort
def nm1 : Int → Nat := needS ex0 6 8191
def nm2 : Int → Nat := needS nm1 0 2
def nm3 : Int → Nat := likeS nm2 6 1
theorem nmg1 : Good nm1 := needS_good good_none _ _
theorem nmg2 : Good nm2 := needS_good nmg1 _ _
theorem nmg3 : Good nm3 := likeS_good nmg2 _ _
theorem ex0_good : Good ex0 := good_none
theorem need_no {S : Int → Nat} {a b : Int} (h : mayB a b = false) : needS S a b = S := by unfold needS; rw [h]; rfl
theorem need_has {S : Int → Nat} {a b : Int} (h : needE S a b = 6) : needS S a b = S := by
  unfold needE at h
  unfold needS
  split
  · rename_i hm
    rw [if_pos hm] at h
    split
    · rfl
    · rename_i hb
      rw [if_neg hb] at h
      cases h
  · rfl
theorem give_no {S : Int → Nat} {a b : Int} (h : giveE S a b ≠ 0) : giveS S a b = S := by
  unfold giveE at h
  unfold giveS
  split
  · rename_i hm
    rw [if_pos hm] at h
    split
    · rename_i hb
      rw [if_pos hb] at h
      exact absurd rfl h
    · rfl
  · rfl
theorem like_no {S : Int → Nat} {a b : Int} (h : likeE S a b ≠ 0) : likeS S a b = S := by unfold likeS; rw [if_neg h]
theorem drop_no {S : Int → Nat} {a : Int} (h : mayB a 2 = false) : dropU S a = (S, []) := by unfold dropU; rw [h]; rfl
theorem nv5 : needE nm1 6 8191 = 6 := by decide +kernel
theorem nv8 : giveE nm2 1 2 = 5 := by decide +kernel
theorem nb8 : giveB nm2 1 2 = false := by decide +kernel
theorem nv9 : likeE nm2 0 0 = 1 := by decide +kernel
theorem nv10 : likeE nm2 0 6 = 50 := by decide +kernel
theorem nv11 : likeE nm2 0 7 = 1 := by decide +kernel
theorem nv12 : likeE nm2 6 1 = 0 := by decide +kernel
theorem nw : whoU (nm3 8191) 7 = [1, 6] := by decide +kernel
theorem rd_two (w : World) (x y : Int) : RdI (w.alloc (.cells #[.int .i64 x, .int .i64 y] 3)) (some ⟨w.heap.size, 0, none⟩) [x, y] := fun _ => ⟨w.heap.size, 0, rfl, fun k hk => by
  match k, hk with
  | 0, _ => exact (World.cell?_alloc_new w _ _ 0).trans rfl
  | 1, _ => exact (World.cell?_alloc_new w _ _ 1).trans rfl⟩
def C1Post (r bm n : Nat) (w : World) (e : Ending) (w' : World) : Prop := e = .returned (.int .i64 1) ∧ Tab w' r bm (n + 1) ex0 ∧ Off (fun k => k = bm) w w'
set_option maxRecDepth 20000 in
theorem C1_any (r bm n : Nat) (w : World) (h : Tab w r bm n ex0) (hn : n ≤ 10000000) : Calls Try.prog 9 #[.pointer (some ⟨r, 0, none⟩), .int .i64 (-1), .int .i64 5] w (C1Post r bm n w) := by
  have h0 := need_any r bm n ex0 (-1) 5 w h ex0_good hn
  refine h0.mono fun e w' h => ?_
  · rw [need_no (by decide), show needE ex0 (-1) 5 = 1 from by decide] at h
    obtain ⟨h1, h2, h3⟩ := h
    exact ⟨h1, h2, h3⟩
def C2Post (r bm n : Nat) (w : World) (e : Ending) (w' : World) : Prop := e = .returned (.int .i64 1) ∧ Tab w' r bm (n + 1) ex0 ∧ Off (fun k => k = bm) w w'
set_option maxRecDepth 20000 in
theorem C2_any (r bm n : Nat) (w : World) (h : Tab w r bm n ex0) (hn : n ≤ 10000000) : Calls Try.prog 9 #[.pointer (some ⟨r, 0, none⟩), .int .i64 7, .int .i64 5] w (C2Post r bm n w) := by
  have h0 := need_any r bm n ex0 7 5 w h ex0_good hn
  refine h0.mono fun e w' h => ?_
  · rw [need_no (by decide), show needE ex0 7 5 = 1 from by decide] at h
    obtain ⟨h1, h2, h3⟩ := h
    exact ⟨h1, h2, h3⟩
def C3Post (r bm n : Nat) (w : World) (e : Ending) (w' : World) : Prop := e = .returned (.int .i64 1) ∧ Tab w' r bm (n + 1) ex0 ∧ Off (fun k => k = bm) w w'
set_option maxRecDepth 20000 in
theorem C3_any (r bm n : Nat) (w : World) (h : Tab w r bm n ex0) (hn : n ≤ 10000000) : Calls Try.prog 9 #[.pointer (some ⟨r, 0, none⟩), .int .i64 0, .int .i64 1] w (C3Post r bm n w) := by
  have h0 := need_any r bm n ex0 0 1 w h ex0_good hn
  refine h0.mono fun e w' h => ?_
  · rw [need_no (by decide), show needE ex0 0 1 = 1 from by decide] at h
    obtain ⟨h1, h2, h3⟩ := h
    exact ⟨h1, h2, h3⟩
def C4Post (r bm n : Nat) (w : World) (e : Ending) (w' : World) : Prop := e = .returned (.int .i64 1) ∧ Tab w' r bm (n + 1) ex0 ∧ Off (fun k => k = bm) w w'
set_option maxRecDepth 20000 in
theorem C4_any (r bm n : Nat) (w : World) (h : Tab w r bm n ex0) (hn : n ≤ 10000000) : Calls Try.prog 9 #[.pointer (some ⟨r, 0, none⟩), .int .i64 0, .int .i64 8192] w (C4Post r bm n w) := by
  have h0 := need_any r bm n ex0 0 8192 w h ex0_good hn
  refine h0.mono fun e w' h => ?_
  · rw [need_no (by decide), show needE ex0 0 8192 = 1 from by decide] at h
    obtain ⟨h1, h2, h3⟩ := h
    exact ⟨h1, h2, h3⟩
def C5Post (r bm n : Nat) (w : World) (e : Ending) (w' : World) : Prop := e = .returned (.int .i64 0) ∧ Tab w' r bm (n + 1) nm1 ∧ Off (fun k => k = bm) w w'
set_option maxRecDepth 20000 in
theorem C5_any (r bm n : Nat) (w : World) (h : Tab w r bm n ex0) (hn : n ≤ 10000000) : Calls Try.prog 9 #[.pointer (some ⟨r, 0, none⟩), .int .i64 6, .int .i64 8191] w (C5Post r bm n w) := by
  have h0 := need_any r bm n ex0 6 8191 w h ex0_good hn
  refine h0.mono fun e w' h => ?_
  · rw [show needE ex0 6 8191 = 0 from by decide +kernel] at h
    obtain ⟨h1, h2, h3⟩ := h
    exact ⟨h1, h2, h3⟩
def C6Post (r bm n : Nat) (w : World) (e : Ending) (w' : World) : Prop := e = .returned (.int .i64 6) ∧ Tab w' r bm (n + 1) nm1 ∧ Off (fun k => k = bm) w w'
set_option maxRecDepth 20000 in
theorem C6_any (r bm n : Nat) (w : World) (h : Tab w r bm n nm1) (hn : n ≤ 10000000) : Calls Try.prog 9 #[.pointer (some ⟨r, 0, none⟩), .int .i64 6, .int .i64 8191] w (C6Post r bm n w) := by
  have h0 := need_any r bm n nm1 6 8191 w h nmg1 hn
  refine h0.mono fun e w' h => ?_
  · rw [need_has nv5, nv5] at h
    obtain ⟨h1, h2, h3⟩ := h
    exact ⟨h1, h2, h3⟩
def C7Post (r bm n : Nat) (w : World) (e : Ending) (w' : World) : Prop := e = .returned (.int .i64 0) ∧ Tab w' r bm (n + 1) nm2 ∧ Off (fun k => k = bm) w w'
set_option maxRecDepth 20000 in
theorem C7_any (r bm n : Nat) (w : World) (h : Tab w r bm n nm1) (hn : n ≤ 10000000) : Calls Try.prog 9 #[.pointer (some ⟨r, 0, none⟩), .int .i64 0, .int .i64 2] w (C7Post r bm n w) := by
  have h0 := need_any r bm n nm1 0 2 w h nmg1 hn
  refine h0.mono fun e w' h => ?_
  · rw [show needE nm1 0 2 = 0 from by decide +kernel] at h
    obtain ⟨h1, h2, h3⟩ := h
    exact ⟨h1, h2, h3⟩
def C8Post (r bm n : Nat) (w : World) (e : Ending) (w' : World) : Prop := e = .returned (.tuple #[.bool false, .int .i64 5]) ∧ Tab w' r bm (n + 1) nm2 ∧ Off (fun k => k = bm) w w'
set_option maxRecDepth 20000 in
theorem C8_any (r bm n : Nat) (w : World) (h : Tab w r bm n nm2) (hn : n ≤ 10000000) : Calls Try.prog 10 #[.pointer (some ⟨r, 0, none⟩), .int .i64 1, .int .i64 2] w (C8Post r bm n w) := by
  have h0 := give_any r bm n nm2 1 2 w h nmg2 hn
  refine h0.mono fun e w' h => ?_
  · rw [give_no (by rw [nv8]; decide), nv8, nb8] at h
    obtain ⟨h1, h2, h3⟩ := h
    exact ⟨h1, h2, h3⟩
def C9Post (r bm n : Nat) (w : World) (e : Ending) (w' : World) : Prop := e = .returned (.int .i64 1) ∧ Tab w' r bm (n + 8192) nm2 ∧ Off (fun k => k = bm) w w'
set_option maxRecDepth 20000 in
theorem C9_any (r bm n : Nat) (w : World) (h : Tab w r bm n nm2) (hn : n ≤ 9000000) : Calls Try.prog 11 #[.pointer (some ⟨r, 0, none⟩), .int .i64 0, .int .i64 0] w (C9Post r bm n w) := by
  have h0 := like_any r bm n nm2 0 0 w h nmg2 hn
  refine h0.mono fun e w' h => ?_
  · unfold LikePost at h
    rw [like_no (by rw [nv9]; decide), nv9] at h
    obtain ⟨h1, h2, _, h3⟩ := h
    exact ⟨h1, h2, h3⟩
def C10Post (r bm n : Nat) (w : World) (e : Ending) (w' : World) : Prop := e = .returned (.int .i64 50) ∧ Tab w' r bm (n + 8192) nm2 ∧ Off (fun k => k = bm) w w'
set_option maxRecDepth 20000 in
theorem C10_any (r bm n : Nat) (w : World) (h : Tab w r bm n nm2) (hn : n ≤ 9000000) : Calls Try.prog 11 #[.pointer (some ⟨r, 0, none⟩), .int .i64 0, .int .i64 6] w (C10Post r bm n w) := by
  have h0 := like_any r bm n nm2 0 6 w h nmg2 hn
  refine h0.mono fun e w' h => ?_
  · unfold LikePost at h
    rw [like_no (by rw [nv10]; decide), nv10] at h
    obtain ⟨h1, h2, _, h3⟩ := h
    exact ⟨h1, h2, h3⟩
def C11Post (r bm n : Nat) (w : World) (e : Ending) (w' : World) : Prop := e = .returned (.int .i64 1) ∧ Tab w' r bm (n + 8192) nm2 ∧ Off (fun k => k = bm) w w'
set_option maxRecDepth 20000 in
theorem C11_any (r bm n : Nat) (w : World) (h : Tab w r bm n nm2) (hn : n ≤ 9000000) : Calls Try.prog 11 #[.pointer (some ⟨r, 0, none⟩), .int .i64 0, .int .i64 7] w (C11Post r bm n w) := by
  have h0 := like_any r bm n nm2 0 7 w h nmg2 hn
  refine h0.mono fun e w' h => ?_
  · unfold LikePost at h
    rw [like_no (by rw [nv11]; decide), nv11] at h
    obtain ⟨h1, h2, _, h3⟩ := h
    exact ⟨h1, h2, h3⟩
def C12Post (r bm n : Nat) (w : World) (e : Ending) (w' : World) : Prop := e = .returned (.int .i64 0) ∧ Tab w' r bm (n + 8192) nm3 ∧ Off (fun k => k = bm) w w'
set_option maxRecDepth 20000 in
theorem C12_any (r bm n : Nat) (w : World) (h : Tab w r bm n nm2) (hn : n ≤ 9000000) : Calls Try.prog 11 #[.pointer (some ⟨r, 0, none⟩), .int .i64 6, .int .i64 1] w (C12Post r bm n w) := by
  have h0 := like_any r bm n nm2 6 1 w h nmg2 hn
  refine h0.mono fun e w' h => ?_
  · unfold LikePost at h
    rw [nv12] at h
    obtain ⟨h1, h2, _, h3⟩ := h
    exact ⟨h1, h2, h3⟩
def C13Post (r bm n : Nat) (w : World) (e : Ending) (w' : World) : Prop := e = .returned (.tuple #[.bool false, .int .i64 1]) ∧ Tab w' r bm (n + 1) nm3 ∧ Off (fun k => k = bm) w w'
set_option maxRecDepth 20000 in
theorem C13_any (r bm n : Nat) (w : World) (h : Tab w r bm n nm3) (hn : n ≤ 10000000) : Calls Try.prog 10 #[.pointer (some ⟨r, 0, none⟩), .int .i64 7, .int .i64 2] w (C13Post r bm n w) := by
  have h0 := give_any r bm n nm3 7 2 w h nmg3 hn
  refine h0.mono fun e w' h => ?_
  · have h7 : mayB 7 2 = false := by decide
    unfold giveE giveB giveS at h
    rw [h7] at h
    obtain ⟨h1, h2, h3⟩ := h
    exact ⟨h1, h2, h3⟩
def C14Post (r bm n : Nat) (w : World) (e : Ending) (w' : World) : Prop := (∃ A c, e = .returned (.tuple #[.slice A 0 c, .int .i64 1])) ∧ Tab w' r bm (n + 8192) nm3 ∧ Off (fun k => k = bm) w w'
set_option maxRecDepth 20000 in
theorem C14_any (r bm n : Nat) (w : World) (h : Tab w r bm n nm3) (hn : n ≤ 9000000) : Calls Try.prog 13 #[.pointer (some ⟨r, 0, none⟩), .int .i64 (-1)] w (C14Post r bm n w) := by
  have h0 := drop_any r bm n nm3 (-1) w h nmg3 hn (by unfold In64; omega)
  refine h0.mono fun e w' h => ?_
  · unfold DropPost at h
    rw [drop_no (by decide), show dropE (-1) = 1 from by decide] at h
    obtain ⟨A, c, h1, _, h2, _, h3⟩ := h
    exact ⟨⟨A, c, h1⟩, h2, h3⟩
set_option maxRecDepth 100000 in
set_option maxHeartbeats 4000000 in
theorem names_walk (w : World) : Calls Try.prog 5 #[] w fun e w' => e = .returned (.bool true) ∧ Below w.heap.size w w' := by
  go_enter Try.func5, Try.ntmps5
  go_wp2_with fail
  refine (give_nil 0 5 w).mono ?_
  rintro e w0 ⟨rfl, rfl⟩
  go_wp2_with fail
  refine (drop_nil 0 _).mono ?_
  rintro e w ⟨rfl, rfl⟩
  go_wp2_with fail
  refine (new_any w).mono ?_
  rintro e w1 ⟨r, bm, rfl, hT, hr, hb, hB⟩
  have T := Lib.hid hT
  have B := Lib.hid hB
  clear hT hB
  go_wp2_with fail
  refine (C1_any r bm 0 w1 T.out (by omega)).mono ?_
  rintro e w2 ⟨rfl, hT, hO⟩
  replace T := Lib.hid (show Tab w2 r bm 1 ex0 from hT)
  replace B := Lib.hid (B.out.trans (hO.below (B := w.heap.size) B.out.size (fun x hx => by omega)))
  clear hT hO
  go_wp2_with fail
  refine (C2_any r bm 1 w2 T.out (by omega)).mono ?_
  rintro e w3 ⟨rfl, hT, hO⟩
  replace T := Lib.hid (show Tab w3 r bm 2 ex0 from hT)
  replace B := Lib.hid (B.out.trans (hO.below (B := w.heap.size) B.out.size (fun x hx => by omega)))
  clear hT hO
  go_wp2_with fail
  refine (C3_any r bm 2 w3 T.out (by omega)).mono ?_
  rintro e w4 ⟨rfl, hT, hO⟩
  replace T := Lib.hid (show Tab w4 r bm 3 ex0 from hT)
  replace B := Lib.hid (B.out.trans (hO.below (B := w.heap.size) B.out.size (fun x hx => by omega)))
  clear hT hO
  go_wp2_with fail
  refine (C4_any r bm 3 w4 T.out (by omega)).mono ?_
  rintro e w5 ⟨rfl, hT, hO⟩
  replace T := Lib.hid (show Tab w5 r bm 4 ex0 from hT)
  replace B := Lib.hid (B.out.trans (hO.below (B := w.heap.size) B.out.size (fun x hx => by omega)))
  clear hT hO
  go_wp2_with fail
  refine (C5_any r bm 4 w5 T.out (by omega)).mono ?_
  rintro e w6 ⟨rfl, hT, hO⟩
  replace T := Lib.hid (show Tab w6 r bm 5 nm1 from hT)
  replace B := Lib.hid (B.out.trans (hO.below (B := w.heap.size) B.out.size (fun x hx => by omega)))
  clear hT hO
  go_wp2_with fail
  refine (C6_any r bm 5 w6 T.out (by omega)).mono ?_
  rintro e w7 ⟨rfl, hT, hO⟩
  replace T := Lib.hid (show Tab w7 r bm 6 nm1 from hT)
  replace B := Lib.hid (B.out.trans (hO.below (B := w.heap.size) B.out.size (fun x hx => by omega)))
  clear hT hO
  go_wp2_with fail
  refine (C7_any r bm 6 w7 T.out (by omega)).mono ?_
  rintro e w8 ⟨rfl, hT, hO⟩
  replace T := Lib.hid (show Tab w8 r bm 7 nm2 from hT)
  replace B := Lib.hid (B.out.trans (hO.below (B := w.heap.size) B.out.size (fun x hx => by omega)))
  clear hT hO
  go_wp2_with fail
  refine (C8_any r bm 7 w8 T.out (by omega)).mono ?_
  rintro e w9 ⟨rfl, hT, hO⟩
  replace T := Lib.hid (show Tab w9 r bm 8 nm2 from hT)
  replace B := Lib.hid (B.out.trans (hO.below (B := w.heap.size) B.out.size (fun x hx => by omega)))
  clear hT hO
  go_wp2_with fail
  refine (C9_any r bm 8 w9 T.out (by omega)).mono ?_
  rintro e w10 ⟨rfl, hT, hO⟩
  replace T := Lib.hid (show Tab w10 r bm 8200 nm2 from hT)
  replace B := Lib.hid (B.out.trans (hO.below (B := w.heap.size) B.out.size (fun x hx => by omega)))
  clear hT hO
  go_wp2_with fail
  refine (C10_any r bm 8200 w10 T.out (by omega)).mono ?_
  rintro e w11 ⟨rfl, hT, hO⟩
  replace T := Lib.hid (show Tab w11 r bm 16392 nm2 from hT)
  replace B := Lib.hid (B.out.trans (hO.below (B := w.heap.size) B.out.size (fun x hx => by omega)))
  clear hT hO
  go_wp2_with fail
  refine (C11_any r bm 16392 w11 T.out (by omega)).mono ?_
  rintro e w12 ⟨rfl, hT, hO⟩
  replace T := Lib.hid (show Tab w12 r bm 24584 nm2 from hT)
  replace B := Lib.hid (B.out.trans (hO.below (B := w.heap.size) B.out.size (fun x hx => by omega)))
  clear hT hO
  go_wp2_with fail
  refine (C12_any r bm 24584 w12 T.out (by omega)).mono ?_
  rintro e w13 ⟨rfl, hT, hO⟩
  replace T := Lib.hid (show Tab w13 r bm 32776 nm3 from hT)
  replace B := Lib.hid (B.out.trans (hO.below (B := w.heap.size) B.out.size (fun x hx => by omega)))
  clear hT hO
  go_wp2_with fail
  refine (C13_any r bm 32776 w13 T.out (by omega)).mono ?_
  rintro e w14 ⟨rfl, hT, hO⟩
  replace T := Lib.hid (show Tab w14 r bm 32777 nm3 from hT)
  replace B := Lib.hid (B.out.trans (hO.below (B := w.heap.size) B.out.size (fun x hx => by omega)))
  clear hT hO
  go_wp2_with fail
  refine (C14_any r bm 32777 w14 T.out (by omega)).mono ?_
  rintro e w15 ⟨⟨A0, c0, rfl⟩, hT, hO⟩
  replace T := Lib.hid (show Tab w15 r bm 40969 nm3 from hT)
  replace B := Lib.hid (B.out.trans (hO.below (B := w.heap.size) B.out.size (fun x hx => by omega)))
  clear hT hO
  go_wp2_with fail
  refine (need_nil 0 5 w15).mono ?_
  rintro e wa ⟨rfl, rfl⟩
  go_wp2_with fail
  refine (like_nil 0 1 _).mono ?_
  rintro e wa ⟨rfl, rfl⟩
  go_wp2_with fail
  refine (of_nil _).mono ?_
  rintro e wb ⟨rfl, hb1⟩
  replace T := Lib.hid (T.out.below hb1)
  replace B := Lib.hid (B.out.trans (hb1.mono B.out.size))
  clear hb1
  go_wp2_with fail
  refine (who_nil0 5 _).mono ?_
  rintro e wc ⟨rfl, rfl⟩
  go_wp2_with fail
  refine (all_nil _).mono ?_
  rintro e wd ⟨rfl, rfl⟩
  go_wp2_with fail
  refine (copy_nil _).mono ?_
  rintro e we ⟨rfl, rfl⟩
  have hW := who_any r bm 40969 nm3 8191 _ T.out nmg3 (by unfold In64; omega)
  rw [nw] at hW
  go_wp2_with fail
  refine hW.mono ?_
  rintro e wf ⟨A, c, rfl, hown, hb1⟩
  have B2 := Lib.hid (B.out.trans (hb1.mono B.out.size))
  have R := Lib.hid hown.rd
  clear T B hb1 hown
  go_wp2_with fail
  have hb9 : Below wf.heap.size wf (wf.alloc (.cells #[.int .i64 1, .int .i64 6] 3)) := (Below.refl _ _).alloc (Nat.le_refl _) _
  have SM := same_any A (some ⟨wf.heap.size, 0, none⟩) c 2 [1, 6] [1, 6] (wf.alloc (.cells #[.int .i64 1, .int .i64 6] 3)) (R.out.below hb9) (rd_two _ _ _) (by decide) (by decide)
  rw [show decide (([1, 6] : List Int) = [1, 6]) = true from rfl] at SM
  refine SM.mono ?_
  rintro e wg ⟨rfl, hb10⟩
  have B3 := Lib.hid (B2.out.trans ((hb9.trans (hb10.mono hb9.size)).mono B2.out.size))
  clear hb9 hb10 R B2 SM
  go_wp2_with fail
  refine (awake_any wg).mono ?_
  rintro e wh ⟨rfl, hb11⟩
  have B4 := Lib.hid (B3.out.trans (hb11.mono B3.out.size))
  clear B3 hb11
  go_wp2_with fail
  go_ret
  exact ⟨rfl, B4.out⟩
end Go.Proofs.Ytdiejjhlgacbdaa
