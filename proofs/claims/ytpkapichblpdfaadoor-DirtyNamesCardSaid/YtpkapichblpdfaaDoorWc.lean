/- WALK of DirtyNames: the examples; the limits; nobody's buffer. -/
import Derived.Test.YtpkapichblpdfaaDoorWb
set_option linter.unusedVariables false
namespace Go.Proofs.YtpkapichblpdfaaDoor
open Go.RowKit Go.ChangeShapes Go.WideShapes Go.ChangeAt Go.Sort

/-- Bytes of 00: as cells, as a text. -/
def zrow (n : Nat) : Array Value := (bcells (List.replicate n 0)).toArray
def zs (n : Nat) : ByteArray := ⟨(List.replicate n (0 : UInt8)).toArray⟩
theorem zs_size (n : Nat) : (zs n).size = n := by
  show (List.replicate n (0 : UInt8)).toArray.size = n
  simp
theorem zs_ne (n : Nat) (h : 0 < n) : zs n ≠ ⟨#[]⟩ := fun e => by
  have := zs_size n
  rw [e] at this
  have h0 : (⟨#[]⟩ : ByteArray).size = 0 := rfl
  omega
theorem zmake (n : Nat) (h : n ≤ 1000000) (w : World) : (Instr.makeSlice 30 (.int .i64 (n : Int)) (.int .i64 (n : Int))).run Tryd.prog w = .ok (.slice (some ⟨w.heap.size, 0, none⟩) n n) (w.alloc (.cells (zrow n) 5)) := make_u8 n h w
theorem zconv (n : Nat) (w : World) : (convert 30 9 (.slice (some ⟨w.heap.size, 0, none⟩) n n)).run Tryd.prog (w.alloc (.cells (zrow n) 5)) = .ok (.string (zs n)) (w.alloc (.cells (zrow n) 5)) :=
  row_conv _ w.heap.size n n (List.replicate n 0) (heap_alloc_new _ _) (by simp)
/-- A buffer made since; ks: the objects that have writes. -/
def StB (w w' : World) (r n : Nat) (ks : List Int) (h : Int) : Prop := ∃ O L, Buf O w' r n L h ∧ (∀ k, O k → w.heap.size ≤ k) ∧ Below w.heap.size w w' ∧ (∀ x, x ∈ ks ↔ L x ≠ []) ∧ ∀ i, (L i).length ≤ n
theorem StB.below {w w1 w2 : World} {r n : Nat} {ks : List Int} {h : Int} (s : StB w w1 r n ks h) (hb : Below w1.heap.size w1 w2) : StB w w2 r n ks h := by
  obtain ⟨O, L, hB, hO, hw, hk, hl⟩ := s
  exact ⟨O, L, hB.below hb, hO, hw.trans (hb.mono hw.size), hk, hl⟩
theorem StB.frame {w w' : World} {r n : Nat} {ks : List Int} {h : Int} (s : StB w w' r n ks h) : Below w.heap.size w w' := by
  obtain ⟨O, L, hB, hO, hw, hk, hl⟩ := s
  exact hw
theorem stb_new (w : World) : Calls Tryd.prog 11 #[] w fun e w' => e = .returned (.pointer (some ⟨w.heap.size + 1, 0, none⟩)) ∧ StB w w' (w.heap.size + 1) 0 [] 0 :=
  (new_any w).mono fun e w' ⟨he, hB, hb⟩ => ⟨he, _, _, hB, fun k hk => by omega, hb, fun x => by simp, fun i => Nat.zero_le _⟩
theorem stb_no {w w1 : World} {r n : Nat} {ks : List Int} {h : Int} (s : StB w w1 r n ks h) (ino a : Int) (text : ByteArray) (h0 : -9223372036854775808 ≤ ino) (h1 : ino ≤ 9223372036854775807) (a0 : -9223372036854775808 ≤ a) (a1 : a ≤ 9223372036854775807)
    (hn : n ≤ 1000000) (hh0 : 0 ≤ h) (hh1 : h ≤ 65536) (ht : text.size ≤ 1000000) (E : Int) (hE : wCode h ino a text.size = E) (hne : E ≠ 0 ∨ text = ⟨#[]⟩) :
    Calls Tryd.prog 13 #[.pointer (some ⟨r, 0, none⟩), .int .i64 ino, .int .i64 a, .string text] w1 fun e w' => e = .returned (.int .i64 E) ∧ StB w w' r (n + 1) ks h := by
  obtain ⟨O, L, hB, hO, hw, hk, hl⟩ := s
  refine (write_any O r n L h ino a text w1 hB h0 h1 a0 a1 (Nat.le_trans (hl ino) hn) hn hh0 hh1 ht).mono fun e w' ⟨he, hB', ho⟩ => ?_
  rw [hE] at he hB'
  have hL : (if E = 0 ∧ text ≠ ⟨#[]⟩ then updL L ino (L ino ++ [(a, text)]) else L) = L := if_neg (fun h => hne.elim (fun k => k h.1) (fun k => h.2 k))
  have hh : (if E = 0 then h + (text.size : Int) else h) = h := by
    rcases hne with k | k
    · exact if_neg k
    · have h0 : text.size = 0 := by rw [k]; rfl
      rw [h0]
      split <;> simp
  rw [hL, hh] at hB'
  exact ⟨he, _, _, hB', fun k hk => hk.elim (hO k) (fun hk => Nat.le_trans hw.size hk.1), hw.trans (ho.below hw.size hO), hk, fun i => Nat.le_succ_of_le (hl i)⟩
theorem stb_ok {w w1 : World} {r n : Nat} {ks : List Int} {h : Int} (s : StB w w1 r n ks h) (ino a : Int) (text : ByteArray) (h0 : -9223372036854775808 ≤ ino) (h1 : ino ≤ 9223372036854775807) (a0 : -9223372036854775808 ≤ a) (a1 : a ≤ 9223372036854775807)
    (hn : n ≤ 1000000) (hh0 : 0 ≤ h) (hh1 : h ≤ 65536) (ht : text.size ≤ 1000000) (hE : wCode h ino a text.size = 0) (hne : text ≠ ⟨#[]⟩) (ks' : List Int) (hks : ∀ x, x ∈ ks' ↔ x ∈ ks ∨ x = ino) :
    Calls Tryd.prog 13 #[.pointer (some ⟨r, 0, none⟩), .int .i64 ino, .int .i64 a, .string text] w1 fun e w' => e = .returned (.int .i64 0) ∧ StB w w' r (n + 1) ks' (h + text.size) := by
  obtain ⟨O, L, hB, hO, hw, hk, hl⟩ := s
  refine (write_any O r n L h ino a text w1 hB h0 h1 a0 a1 (Nat.le_trans (hl ino) hn) hn hh0 hh1 ht).mono fun e w' ⟨he, hB', ho⟩ => ?_
  rw [hE] at he hB'
  rw [if_pos ⟨rfl, hne⟩, if_pos rfl] at hB'
  refine ⟨he, _, _, hB', fun k hk => hk.elim (hO k) (fun hk => Nat.le_trans hw.size hk.1), hw.trans (ho.below hw.size hO), fun x => ?_, fun i => ?_⟩
  · rw [hks, hk]
    unfold updL
    by_cases hx : x = ino
    · subst hx
      simp
    · rw [if_neg hx]
      simp [hx]
  · unfold updL
    split
    · rename_i hi
      rw [List.length_append]
      have := hl ino
      simp
      exact this
    · exact Nat.le_succ_of_le (hl i)
theorem stb_held {w w1 : World} {r n : Nat} {ks : List Int} {h : Int} (s : StB w w1 r n ks h) : Calls Tryd.prog 15 #[.pointer (some ⟨r, 0, none⟩)] w1 fun e w' => e = .returned (.int .i64 h) ∧ w1 = w' := by
  obtain ⟨O, L, hB, _⟩ := s
  exact held_any O r n L h w1 hB
theorem stb_who {w w1 : World} {r n : Nat} {ks : List Int} {h : Int} (s : StB w w1 r n ks h) (hn : n ≤ 1000000) (hp : ks.Pairwise (· < ·)) : Calls Tryd.prog 18 #[.pointer (some ⟨r, 0, none⟩)] w1 (Dd.ListPost ks w1) := by
  obtain ⟨O, L, hB, hO, hw, hk, hl⟩ := s
  exact who_any O r n L h w1 hB hn ks hp hk
theorem rd_three (w : World) (x y z : Int) : Dd.RdI (w.alloc (.cells #[.int .i64 x, .int .i64 y, .int .i64 z] 3)) (some ⟨w.heap.size, 0, none⟩) [x, y, z] := fun _ => ⟨w.heap.size, 0, rfl, fun k hk => by
  match k, hk with
  | 0, _ => exact (World.cell?_alloc_new w _ _ 0).trans rfl
  | 1, _ => exact (World.cell?_alloc_new w _ _ 1).trans rfl
  | 2, _ => exact (World.cell?_alloc_new w _ _ 2).trans rfl⟩
set_option maxRecDepth 100000 in
set_option maxHeartbeats 4000000 in
theorem names_walk (w : World) (ht : Tabs w) : Calls Tryd.prog 6 #[] w fun e w' => e = .returned (.bool true) ∧ Below w.heap.size w w' := by
  have HT := Lib.hid ht
  clear ht
  have s1a : (⟨#[97]⟩ : ByteArray).size = 1 := rfl
  have z1 := zs_size 32768
  have z2 := zs_size 32767
  have n1 := zs_ne 32768 (by decide)
  have n2 := zs_ne 32767 (by decide)
  replace z1 := Lib.hid z1
  replace z2 := Lib.hid z2
  replace n1 := Lib.hid n1
  replace n2 := Lib.hid n2
  have m1 : ∀ W : World, (Instr.makeSlice 30 (.int .i64 32768) (.int .i64 32768)).run Tryd.prog W = .ok (.slice (some ⟨W.heap.size, 0, none⟩) 32768 32768) (W.alloc (.cells (zrow 32768) 5)) := fun W => zmake 32768 (by decide) W
  have m2 : ∀ W : World, (Instr.makeSlice 30 (.int .i64 32767) (.int .i64 32767)).run Tryd.prog W = .ok (.slice (some ⟨W.heap.size, 0, none⟩) 32767 32767) (W.alloc (.cells (zrow 32767) 5)) := fun W => zmake 32767 (by decide) W
  have c1 := zconv 32768
  have c2 := zconv 32767
  have bA := Lib.hid (fun W : World => (show Below W.heap.size W (W.alloc (.cells (zrow 32768) 5)) from (Below.refl _ _).alloc (Nat.le_refl _) _))
  have bB := Lib.hid (fun W : World => (show Below W.heap.size W (W.alloc (.cells (zrow 32767) 5)) from (Below.refl _ _).alloc (Nat.le_refl _) _))
  generalize zs 32768 = Z1 at *
  generalize zs 32767 = Z2 at *
  generalize zrow 32768 = R1 at *
  generalize zrow 32767 = R2 at *
  go_enter Tryd.func6, Tryd.ntmps6
  go_wp2_with fail
  refine (stb_new w).mono ?_
  rintro e w1 ⟨rfl, s⟩
  generalize w.heap.size + 1 = r at *
  replace s := Lib.hid s
  go_wp2_with fail
  refine (stb_no s.out 0 0 ⟨#[97]⟩ (by decide) (by decide) (by decide) (by decide) (by decide) (by decide) (by decide) (by decide) 1 (by decide) (.inl (by decide))).mono ?_
  rintro e w2 ⟨rfl, s2⟩
  replace s := Lib.hid s2
  clear s2
  go_wp2_with fail
  refine (stb_no s.out 1 (-1) ⟨#[97]⟩ (by decide) (by decide) (by decide) (by decide) (by decide) (by decide) (by decide) (by decide) 1 (by decide) (.inl (by decide))).mono ?_
  rintro e w3 ⟨rfl, s2⟩
  replace s := Lib.hid s2
  clear s2
  go_wp2_with fail
  refine (stb_no s.out 1 32768 ⟨#[97]⟩ (by decide) (by decide) (by decide) (by decide) (by decide) (by decide) (by decide) (by decide) 40 (by decide) (.inl (by decide))).mono ?_
  rintro e w4 ⟨rfl, s2⟩
  replace s := Lib.hid s2
  clear s2
  go_wp2_with fail
  refine (stb_ok s.out 1 32767 ⟨#[97]⟩ (by decide) (by decide) (by decide) (by decide) (by decide) (by decide) (by decide) (by decide) (by decide) (by decide) [1] (fun x => by simp <;> omega)).mono ?_
  rintro e w5 ⟨rfl, s2⟩
  rw [s1a] at s2
  replace s := Lib.hid (show StB w w5 r 4 [1] 1 from s2)
  clear s2
  go_wp2_with fail
  refine (stb_no s.out 1 9223372036854775807 ⟨#[97]⟩ (by decide) (by decide) (by decide) (by decide) (by decide) (by decide) (by decide) (by decide) 40 (by decide) (.inl (by decide))).mono ?_
  rintro e w6 ⟨rfl, s2⟩
  replace s := Lib.hid s2
  clear s2
  go_wp2_with fail
  refine (cut_neg r 1 (-1) w6 (by decide)).mono ?_
  rintro e w7 ⟨rfl, rfl⟩
  go_wp2_with fail
  have s' := Lib.hid (s.out.below (bA.out w7))
  refine (stb_ok s'.out 2 0 Z1 (by decide) (by decide) (by decide) (by decide) (by decide) (by decide) (by decide) (by rw [z1.out]; decide) (by rw [z1.out]; decide) n1.out [1, 2] (fun x => by simp <;> omega)).mono ?_
  rintro e w8 ⟨rfl, s2⟩
  rw [z1.out] at s2
  replace s := Lib.hid (show StB w w8 r 6 [1, 2] 32769 from s2)
  clear s2 s'
  go_wp2_with fail
  have s' := Lib.hid (s.out.below (bA.out w8))
  refine (stb_no s'.out 3 0 Z1 (by decide) (by decide) (by decide) (by decide) (by decide) (by decide) (by decide) (by rw [z1.out]; decide) 3 (by rw [z1.out]; decide) (.inl (by decide))).mono ?_
  rintro e w9 ⟨rfl, s2⟩
  replace s := Lib.hid s2
  clear s2 s'
  go_wp2_with fail
  have s' := Lib.hid (s.out.below (bB.out w9))
  refine (stb_ok s'.out 3 0 Z2 (by decide) (by decide) (by decide) (by decide) (by decide) (by decide) (by decide) (by rw [z2.out]; decide) (by rw [z2.out]; decide) n2.out [1, 2, 3] (fun x => by simp <;> omega)).mono ?_
  rintro e w10 ⟨rfl, s2⟩
  rw [z2.out] at s2
  replace s := Lib.hid (show StB w w10 r 8 [1, 2, 3] 65536 from s2)
  clear s2 s'
  go_wp2_with fail
  refine (stb_no s.out 4 0 ⟨#[97]⟩ (by decide) (by decide) (by decide) (by decide) (by decide) (by decide) (by decide) (by decide) 3 (by decide) (.inl (by decide))).mono ?_
  rintro e w11 ⟨rfl, s2⟩
  replace s := Lib.hid s2
  clear s2
  go_wp2_with fail
  refine (stb_no s.out 4 32768 ⟨#[]⟩ (by decide) (by decide) (by decide) (by decide) (by decide) (by decide) (by decide) (by decide) 0 (by decide) (.inr rfl)).mono ?_
  rintro e w12 ⟨rfl, s2⟩
  replace s := Lib.hid s2
  clear s2
  clear m1 m2 c1 c2 bA bB z1 z2 n1 n2
  go_wp2_with fail
  refine (write_nil 1 0 ⟨#[97]⟩ w12).mono ?_
  rintro e w13 ⟨rfl, rfl⟩
  go_wp2_with fail
  refine (cut_nil 1 0 w13).mono ?_
  rintro e w14 ⟨rfl, rfl⟩
  go_wp2_with fail
  refine (take_nil 1 w14).mono ?_
  rintro e w15 ⟨rfl, rfl⟩
  go_wp2_with fail
  refine (over_nil 1 ⟨#[97, 98]⟩ w15).mono ?_
  rintro e w16 ⟨rfl, rfl⟩
  go_wp2_with fail
  refine (size_nil 1 9 w16).mono ?_
  rintro e w17 ⟨rfl, rfl⟩
  go_wp2_with fail
  refine (held_nil w17).mono ?_
  rintro e w18 ⟨rfl, rfl⟩
  go_wp2_with fail
  refine (who_nil w18).mono ?_
  rintro e w19 ⟨rfl, rfl⟩
  go_wp2_with fail
  refine (copy_nil w19).mono ?_
  rintro e w20 ⟨rfl, rfl⟩
  go_wp2_with fail
  refine (stb_held s.out).mono ?_
  rintro e w21 ⟨rfl, rfl⟩
  go_wp2_with fail
  refine (stb_who s.out (by decide) (by decide)).mono ?_
  rintro e wf ⟨A, c, rfl, hown, hb1⟩
  have B2 := Lib.hid (s.out.frame.trans (hb1.mono s.out.frame.size))
  have R := Lib.hid hown.rd
  clear s hb1 hown
  go_wp2_with fail
  have hb9 : Below wf.heap.size wf (wf.alloc (.cells #[.int .i64 1, .int .i64 2, .int .i64 3] 3)) := (Below.refl _ _).alloc (Nat.le_refl _) _
  have SM := Dd.same_any A (some ⟨wf.heap.size, 0, none⟩) c 3 [1, 2, 3] [1, 2, 3] (wf.alloc (.cells #[.int .i64 1, .int .i64 2, .int .i64 3] 3)) (R.out.below hb9) (rd_three _ _ _ _) (by decide) (by decide)
  rw [show decide (([1, 2, 3] : List Int) = [1, 2, 3]) = true from rfl] at SM
  refine SM.mono ?_
  rintro e wg ⟨rfl, hb10⟩
  have B3 := Lib.hid (B2.out.trans ((hb9.trans (hb10.mono hb9.size)).mono B2.out.size))
  clear hb9 hb10 R B2 SM
  go_wp2_with fail
  refine (awake_any wg (HT.out.below (B3.out))).mono ?_
  rintro e wh ⟨rfl, hb11⟩
  have B4 := Lib.hid (B3.out.trans (hb11.mono B3.out.size))
  clear B3 hb11
  go_wp2_with fail
  go_ret
  exact ⟨rfl, B4.out⟩
end Go.Proofs.YtpkapichblpdfaaDoor
