/- WALK of layer 26: the law AttrParts. -/
import Derived.Test.YtoiblmhhilipjaaF
import Derived.Test.YtoiblmhhilipjaaM
import Derived.Maps.AppendAt
import Derived.Deep.AppendLies
set_option linter.unusedVariables false
namespace Go.Proofs.Ytoiblmhhilipjaa
open Go.RowKit Go.ChangeShapes Go.WideShapes Go.ChangeAt

theorem keep1' {W W' : World} (hb : Below W.heap.size W W') {p : Addr} {v : Value} (h : W.cell? p = some v) : W'.cell? p = some v := (hb.cell (World.block_lt_of_cell? W _ h)).trans h

/-- A slice of int32 that reads as numbers. -/
def RdJ (w : World) (A : Option Addr) (l : List Int) : Prop := l ≠ [] → ∃ b off, A = some ⟨b, off, none⟩ ∧ ∀ k, k < l.length → w.cell? ⟨b, off + k, none⟩ = some (.int .i32 (l.getD k 0))
theorem RdJ.below {W W' : World} {A : Option Addr} {l : List Int} (h : RdJ W A l) (hb : Below W.heap.size W W') : RdJ W' A l := by
  intro hl
  obtain ⟨b, off, e, hc⟩ := h hl
  exact ⟨b, off, e, fun k hk => (hb.cell (p := ⟨b, off + k, none⟩) (World.block_lt_of_cell? W _ (hc k hk))).trans (hc k hk)⟩

def shr2 (n : Int) : Int := n / 4
def xsL (l : List Int) (k : Nat) : List Int := (l.take k).map shr2
def minL (l : List Int) (k : Nat) : Int := (xsL l k).foldl min 2147483648
def maxL (l : List Int) (k : Nat) : Int := (xsL l k).foldl max (-2147483648)

theorem xsL_succ (l : List Int) (k : Nat) (h : k < l.length) : xsL l (k + 1) = xsL l k ++ [l.getD k 0 / 4] := by unfold xsL; rw [take_snoc l k h, List.map_append]; rfl
theorem minL_succ (l : List Int) (k : Nat) (h : k < l.length) : minL l (k + 1) = if l.getD k 0 / 4 < minL l k then l.getD k 0 / 4 else minL l k := by
  unfold minL; rw [xsL_succ l k h, List.foldl_append]
  generalize (xsL l k).foldl min 2147483648 = a
  show min a (l.getD k 0 / 4) = _
  split <;> omega
theorem maxL_succ (l : List Int) (k : Nat) (h : k < l.length) : maxL l (k + 1) = if maxL l k < l.getD k 0 / 4 then l.getD k 0 / 4 else maxL l k := by
  unfold maxL; rw [xsL_succ l k h, List.foldl_append]
  generalize (xsL l k).foldl max (-2147483648) = a
  show max a (l.getD k 0 / 4) = _
  split <;> omega
theorem xsL_bnd (l : List Int) (k : Nat) (hw : ∀ n ∈ l, -2147483648 ≤ n ∧ n ≤ 2147483647) : ∀ x ∈ xsL l k, -536870912 ≤ x ∧ x ≤ 536870912 := by
  intro x hx
  unfold xsL at hx
  obtain ⟨y, hy, rfl⟩ := List.mem_map.1 hx
  have := hw y (List.mem_of_mem_take hy)
  unfold shr2; omega
theorem foldl_min (W : List Int) : ∀ a : Int, W.foldl min a ≤ a ∧ (∀ x ∈ W, W.foldl min a ≤ x) ∧ ∀ b, b ≤ a → (∀ x ∈ W, b ≤ x) → b ≤ W.foldl min a := by
  induction W with
  | nil => intro a; exact ⟨Int.le_refl _, by simp, fun b h _ => h⟩
  | cons y r ih =>
    intro a
    obtain ⟨h1, h2, h3⟩ := ih (min a y)
    rw [List.foldl_cons]
    refine ⟨by omega, fun x hx => ?_, fun b hb hx => h3 b (by have := hx y (by simp); omega) (fun x hx' => hx x (by simp [hx']))⟩
    rcases List.mem_cons.1 hx with rfl | hx
    · omega
    · exact h2 x hx
theorem foldl_max (W : List Int) : ∀ a : Int, a ≤ W.foldl max a ∧ (∀ x ∈ W, x ≤ W.foldl max a) ∧ ∀ b, a ≤ b → (∀ x ∈ W, x ≤ b) → W.foldl max a ≤ b := by
  induction W with
  | nil => intro a; exact ⟨Int.le_refl _, by simp, fun b h _ => h⟩
  | cons y r ih =>
    intro a
    obtain ⟨h1, h2, h3⟩ := ih (max a y)
    rw [List.foldl_cons]
    refine ⟨by omega, fun x hx => ?_, fun b hb hx => h3 b (by have := hx y (by simp); omega) (fun x hx' => hx x (by simp [hx']))⟩
    rcases List.mem_cons.1 hx with rfl | hx
    · omega
    · exact h2 x hx
theorem parts_end (l : List Int) (hw : ∀ n ∈ l, -2147483648 ≤ n ∧ n ≤ 2147483647) (h3 : l.length ≤ 1000) (hne : l ≠ []) :
    lessB (meanR (xsL l l.length)) (partR (minL l l.length) 1) = false ∧ lessB (partR (maxL l l.length) 1) (meanR (xsL l l.length)) = false ∧ (minL l l.length = maxL l l.length → meanR (xsL l l.length) = partR (minL l l.length) 1) := by
  have hb := xsL_bnd l l.length hw
  have hl : (xsL l l.length).length = l.length := by simp [xsL]
  have hn : xsL l l.length ≠ [] := by
    intro h; rw [h] at hl; simp at hl; exact hne (List.eq_nil_of_length_eq_zero hl.symm)
  obtain ⟨x, hx⟩ := List.exists_mem_of_ne_nil _ hn
  obtain ⟨a1, a2, a3⟩ := foldl_min (xsL l l.length) 2147483648
  obtain ⟨b1, b2, b3⟩ := foldl_max (xsL l l.length) (-2147483648)
  have k1 := a2 x hx
  have k2 := b2 x hx
  have k3 := hb x hx
  have k4 := a3 (-536870912) (by omega) (fun y hy => (hb y hy).1)
  have k5 := b3 536870912 (by omega) (fun y hy => (hb y hy).2)
  exact mean_bounds _ (by omega) hn hb _ _ (by unfold minL; omega) (by unfold maxL; omega) (fun y hy => a2 y hy) (fun y hy => b2 y hy)
theorem mean_len (A : Option Addr) (c : Nat) (l : List Int) (L : Nat) (w : World) (hL : l.length = L) (hw : ∀ n ∈ l, n.natAbs < 2 ^ 64) (hl : l.length ≤ 9223372036854775807) (h : RdI w A l) :
    Calls Try.prog 15 #[.slice A L c] w fun e w' => e = .returned (.int .u64 (meanR l)) ∧ Below w.heap.size w w' := by
  rw [← hL]; exact mean_any A c l w hw hl h

theorem tself {n : Int} (hn : n.natAbs < 2 ^ 64) (h : n ≠ 0) : (partR n n != 4607182418800017408) = false := by rw [part_self n hn h]; rfl
theorem info_int : (Try.prog.info? 3).map (fun i => (i.zero, i.size, i.bytes)) = some (some (.int .i64 0), 1, 8) := by kernel_rfl

set_option maxHeartbeats 2000000 in
theorem parts_walk_long (n m all : Int) (A : Option Addr) (c : Nat) (l : List Int) (w : World) (bn : n.natAbs < 2 ^ 64) (bm : m.natAbs < 2 ^ 64) (ba : all.natAbs < 2 ^ 64) (hw : ∀ n ∈ l, -2147483648 ≤ n ∧ n ≤ 2147483647)
    (hl : l.length ≤ 9223372036854775807) (h : RdJ w A l) (h3 : 1000 < l.length) :
    Calls Try.prog 7 #[.int .i64 n, .int .i64 m, .int .i64 all, .slice A l.length c] w fun e w' => e = .returned (.bool true) ∧ Below w.heap.size w w' := by
  go_enter Try.func7, Try.ntmps7
  go_wp2_with (go_at_call 12; refine (awake_any _).mono ?_; rintro e w1 ⟨rfl, hb⟩; have B1 := Lib.hid hb; clear hb)
  go_ret
  exact ⟨rfl, B1.out⟩

set_option maxHeartbeats 2000000 in
theorem parts_walk_a0 (n m all : Int) (A : Option Addr) (c : Nat) (l : List Int) (w : World) (bn : n.natAbs < 2 ^ 64) (bm : m.natAbs < 2 ^ 64) (ba : all.natAbs < 2 ^ 64) (hw : ∀ n ∈ l, -2147483648 ≤ n ∧ n ≤ 2147483647)
    (hl : l.length ≤ 9223372036854775807) (h : RdJ w A l) (h3 : l.length ≤ 1000) (h4 : n = 0) (g1 : ¬ 0 < all) (hne : l = []) :
    Calls Try.prog 7 #[.int .i64 n, .int .i64 m, .int .i64 all, .slice A l.length c] w fun e w' => e = .returned (.bool true) ∧ Below w.heap.size w w' := by
  have hb0 : ((l.length : Int) == 0) = true := by simp [hne]
  have R0 := Lib.hid h
  have HW := Lib.hid hw
  have B0 := Lib.hid (Below.refl w.heap.size w)
  have z0 : w.heap.size ≤ w.heap.size := Nat.le_refl _
  clear h hw
  have hn0 : (n != 0) = false := by simp [h4]
  clear h4
  go_enter Try.func7, Try.ntmps7
  go_wp2_with fail
  refine (awake_any _).mono ?_
  rintro e w1 ⟨rfl, hb⟩
  have R1 := Lib.hid (R0.out.below hb)
  have B1 := Lib.hid (B0.out.trans (hb.mono z0))
  have z1 : w.heap.size ≤ w1.heap.size := by have := hb.size; omega
  clear hb
  go_wp2_with fail
  go_ret
  exact ⟨rfl, B1.out⟩

set_option maxHeartbeats 2000000 in
theorem parts_walk_b0 (n m all : Int) (A : Option Addr) (c : Nat) (l : List Int) (w : World) (bn : n.natAbs < 2 ^ 64) (bm : m.natAbs < 2 ^ 64) (ba : all.natAbs < 2 ^ 64) (hw : ∀ n ∈ l, -2147483648 ≤ n ∧ n ≤ 2147483647)
    (hl : l.length ≤ 9223372036854775807) (h : RdJ w A l) (h3 : l.length ≤ 1000) (h4 : n = 0) (g1 : 0 < all) (g2 : ¬ n ≤ m) (hne : l = []) :
    Calls Try.prog 7 #[.int .i64 n, .int .i64 m, .int .i64 all, .slice A l.length c] w fun e w' => e = .returned (.bool true) ∧ Below w.heap.size w w' := by
  have hb0 : ((l.length : Int) == 0) = true := by simp [hne]
  have R0 := Lib.hid h
  have HW := Lib.hid hw
  have B0 := Lib.hid (Below.refl w.heap.size w)
  have z0 : w.heap.size ≤ w.heap.size := Nat.le_refl _
  clear h hw
  have hn0 : (n != 0) = false := by simp [h4]
  clear h4
  go_enter Try.func7, Try.ntmps7
  go_wp2_with fail
  refine (awake_any _).mono ?_
  rintro e w1 ⟨rfl, hb⟩
  have R1 := Lib.hid (R0.out.below hb)
  have B1 := Lib.hid (B0.out.trans (hb.mono z0))
  have z1 : w.heap.size ≤ w1.heap.size := by have := hb.size; omega
  clear hb
  go_wp2_with fail
  go_ret
  exact ⟨rfl, B1.out⟩

set_option maxHeartbeats 2000000 in
theorem parts_walk_c0 (n m all : Int) (A : Option Addr) (c : Nat) (l : List Int) (w : World) (bn : n.natAbs < 2 ^ 64) (bm : m.natAbs < 2 ^ 64) (ba : all.natAbs < 2 ^ 64) (hw : ∀ n ∈ l, -2147483648 ≤ n ∧ n ≤ 2147483647)
    (hl : l.length ≤ 9223372036854775807) (h : RdJ w A l) (h3 : l.length ≤ 1000) (h4 : n = 0) (g1 : 0 < all) (g2 : n ≤ m) (hne : l = []) :
    Calls Try.prog 7 #[.int .i64 n, .int .i64 m, .int .i64 all, .slice A l.length c] w fun e w' => e = .returned (.bool true) ∧ Below w.heap.size w w' := by
  have hb0 : ((l.length : Int) == 0) = true := by simp [hne]
  have R0 := Lib.hid h
  have HW := Lib.hid hw
  have B0 := Lib.hid (Below.refl w.heap.size w)
  have z0 : w.heap.size ≤ w.heap.size := Nat.le_refl _
  clear h hw
  have hn0 : (n != 0) = false := by simp [h4]
  have hm := part_mono n m all bn bm ba g1 g2
  clear h4
  go_enter Try.func7, Try.ntmps7
  go_wp2_with fail
  refine (awake_any _).mono ?_
  rintro e w1 ⟨rfl, hb⟩
  have R1 := Lib.hid (R0.out.below hb)
  have B1 := Lib.hid (B0.out.trans (hb.mono z0))
  have z1 : w.heap.size ≤ w1.heap.size := by have := hb.size; omega
  clear hb
  go_wp2_with fail
  refine (part_any _ _ _).mono ?_
  rintro e w2 ⟨rfl, hb⟩
  have R2 := Lib.hid (R1.out.below hb)
  have B2 := Lib.hid (B1.out.trans (hb.mono z1))
  have z2 : w.heap.size ≤ w2.heap.size := by have := hb.size; omega
  clear hb
  go_wp2_with fail
  refine (part_any _ _ _).mono ?_
  rintro e w3 ⟨rfl, hb⟩
  have R3 := Lib.hid (R2.out.below hb)
  have B3 := Lib.hid (B2.out.trans (hb.mono z2))
  have z3 : w.heap.size ≤ w3.heap.size := by have := hb.size; omega
  clear hb
  go_wp2_with fail
  refine (less_any _ _ _).mono ?_
  rintro e wl ⟨rfl, rfl⟩
  go_wp2_with fail
  go_ret
  exact ⟨rfl, B3.out⟩

set_option maxHeartbeats 2000000 in
theorem parts_walk_d0 (n m all : Int) (A : Option Addr) (c : Nat) (l : List Int) (w : World) (bn : n.natAbs < 2 ^ 64) (bm : m.natAbs < 2 ^ 64) (ba : all.natAbs < 2 ^ 64) (hw : ∀ n ∈ l, -2147483648 ≤ n ∧ n ≤ 2147483647)
    (hl : l.length ≤ 9223372036854775807) (h : RdJ w A l) (h3 : l.length ≤ 1000) (h4 : n ≠ 0) (g1 : ¬ 0 < all) (hne : l = []) :
    Calls Try.prog 7 #[.int .i64 n, .int .i64 m, .int .i64 all, .slice A l.length c] w fun e w' => e = .returned (.bool true) ∧ Below w.heap.size w w' := by
  have hb0 : ((l.length : Int) == 0) = true := by simp [hne]
  have R0 := Lib.hid h
  have HW := Lib.hid hw
  have B0 := Lib.hid (Below.refl w.heap.size w)
  have z0 : w.heap.size ≤ w.heap.size := Nat.le_refl _
  clear h hw
  have hn0 : (n != 0) = true := by simp [h4]
  have hs := tself bn h4
  clear h4
  go_enter Try.func7, Try.ntmps7
  go_wp2_with fail
  refine (awake_any _).mono ?_
  rintro e w1 ⟨rfl, hb⟩
  have R1 := Lib.hid (R0.out.below hb)
  have B1 := Lib.hid (B0.out.trans (hb.mono z0))
  have z1 : w.heap.size ≤ w1.heap.size := by have := hb.size; omega
  clear hb
  go_wp2_with fail
  refine (part_any _ _ _).mono ?_
  rintro e w2 ⟨rfl, hb⟩
  have R2 := Lib.hid (R1.out.below hb)
  have B2 := Lib.hid (B1.out.trans (hb.mono z1))
  have z2 : w.heap.size ≤ w2.heap.size := by have := hb.size; omega
  clear hb
  go_wp2_with fail
  go_ret
  exact ⟨rfl, B2.out⟩

set_option maxHeartbeats 2000000 in
theorem parts_walk_e0 (n m all : Int) (A : Option Addr) (c : Nat) (l : List Int) (w : World) (bn : n.natAbs < 2 ^ 64) (bm : m.natAbs < 2 ^ 64) (ba : all.natAbs < 2 ^ 64) (hw : ∀ n ∈ l, -2147483648 ≤ n ∧ n ≤ 2147483647)
    (hl : l.length ≤ 9223372036854775807) (h : RdJ w A l) (h3 : l.length ≤ 1000) (h4 : n ≠ 0) (g1 : 0 < all) (g2 : ¬ n ≤ m) (hne : l = []) :
    Calls Try.prog 7 #[.int .i64 n, .int .i64 m, .int .i64 all, .slice A l.length c] w fun e w' => e = .returned (.bool true) ∧ Below w.heap.size w w' := by
  have hb0 : ((l.length : Int) == 0) = true := by simp [hne]
  have R0 := Lib.hid h
  have HW := Lib.hid hw
  have B0 := Lib.hid (Below.refl w.heap.size w)
  have z0 : w.heap.size ≤ w.heap.size := Nat.le_refl _
  clear h hw
  have hn0 : (n != 0) = true := by simp [h4]
  have hs := tself bn h4
  clear h4
  go_enter Try.func7, Try.ntmps7
  go_wp2_with fail
  refine (awake_any _).mono ?_
  rintro e w1 ⟨rfl, hb⟩
  have R1 := Lib.hid (R0.out.below hb)
  have B1 := Lib.hid (B0.out.trans (hb.mono z0))
  have z1 : w.heap.size ≤ w1.heap.size := by have := hb.size; omega
  clear hb
  go_wp2_with fail
  refine (part_any _ _ _).mono ?_
  rintro e w2 ⟨rfl, hb⟩
  have R2 := Lib.hid (R1.out.below hb)
  have B2 := Lib.hid (B1.out.trans (hb.mono z1))
  have z2 : w.heap.size ≤ w2.heap.size := by have := hb.size; omega
  clear hb
  go_wp2_with fail
  go_ret
  exact ⟨rfl, B2.out⟩

set_option maxHeartbeats 2000000 in
theorem parts_walk_f0 (n m all : Int) (A : Option Addr) (c : Nat) (l : List Int) (w : World) (bn : n.natAbs < 2 ^ 64) (bm : m.natAbs < 2 ^ 64) (ba : all.natAbs < 2 ^ 64) (hw : ∀ n ∈ l, -2147483648 ≤ n ∧ n ≤ 2147483647)
    (hl : l.length ≤ 9223372036854775807) (h : RdJ w A l) (h3 : l.length ≤ 1000) (h4 : n ≠ 0) (g1 : 0 < all) (g2 : n ≤ m) (hne : l = []) :
    Calls Try.prog 7 #[.int .i64 n, .int .i64 m, .int .i64 all, .slice A l.length c] w fun e w' => e = .returned (.bool true) ∧ Below w.heap.size w w' := by
  have hb0 : ((l.length : Int) == 0) = true := by simp [hne]
  have R0 := Lib.hid h
  have HW := Lib.hid hw
  have B0 := Lib.hid (Below.refl w.heap.size w)
  have z0 : w.heap.size ≤ w.heap.size := Nat.le_refl _
  clear h hw
  have hn0 : (n != 0) = true := by simp [h4]
  have hs := tself bn h4
  have hm := part_mono n m all bn bm ba g1 g2
  clear h4
  go_enter Try.func7, Try.ntmps7
  go_wp2_with fail
  refine (awake_any _).mono ?_
  rintro e w1 ⟨rfl, hb⟩
  have R1 := Lib.hid (R0.out.below hb)
  have B1 := Lib.hid (B0.out.trans (hb.mono z0))
  have z1 : w.heap.size ≤ w1.heap.size := by have := hb.size; omega
  clear hb
  go_wp2_with fail
  refine (part_any _ _ _).mono ?_
  rintro e w2 ⟨rfl, hb⟩
  have R2 := Lib.hid (R1.out.below hb)
  have B2 := Lib.hid (B1.out.trans (hb.mono z1))
  have z2 : w.heap.size ≤ w2.heap.size := by have := hb.size; omega
  clear hb
  go_wp2_with fail
  refine (part_any _ _ _).mono ?_
  rintro e w3 ⟨rfl, hb⟩
  have R3 := Lib.hid (R2.out.below hb)
  have B3 := Lib.hid (B2.out.trans (hb.mono z2))
  have z3 : w.heap.size ≤ w3.heap.size := by have := hb.size; omega
  clear hb
  go_wp2_with fail
  refine (part_any _ _ _).mono ?_
  rintro e w4 ⟨rfl, hb⟩
  have R4 := Lib.hid (R3.out.below hb)
  have B4 := Lib.hid (B3.out.trans (hb.mono z3))
  have z4 : w.heap.size ≤ w4.heap.size := by have := hb.size; omega
  clear hb
  go_wp2_with fail
  refine (less_any _ _ _).mono ?_
  rintro e wl ⟨rfl, rfl⟩
  go_wp2_with fail
  go_ret
  exact ⟨rfl, B4.out⟩

set_option maxHeartbeats 2000000 in
theorem parts_walk_a (n m all : Int) (A : Option Addr) (c : Nat) (l : List Int) (w : World) (bn : n.natAbs < 2 ^ 64) (bm : m.natAbs < 2 ^ 64) (ba : all.natAbs < 2 ^ 64) (hw : ∀ n ∈ l, -2147483648 ≤ n ∧ n ≤ 2147483647)
    (hl : l.length ≤ 9223372036854775807) (h : RdJ w A l) (h3 : l.length ≤ 1000) (h4 : n = 0) (g1 : ¬ 0 < all) (hne : l ≠ []) :
    Calls Try.prog 7 #[.int .i64 n, .int .i64 m, .int .i64 all, .slice A l.length c] w fun e w' => e = .returned (.bool true) ∧ Below w.heap.size w w' := by
  have hb0 : ((l.length : Int) == 0) = false := by simp [hne]
  have R0 := Lib.hid h
  have HW := Lib.hid hw
  have B0 := Lib.hid (Below.refl w.heap.size w)
  have z0 : w.heap.size ≤ w.heap.size := Nat.le_refl _
  clear h hw
  have hn0 : (n != 0) = false := by simp [h4]
  clear h4
  go_enter Try.func7, Try.ntmps7
  go_wp2_with fail
  refine (awake_any _).mono ?_
  rintro e w1 ⟨rfl, hb⟩
  have R1 := Lib.hid (R0.out.below hb)
  have B1 := Lib.hid (B0.out.trans (hb.mono z0))
  have z1 : w.heap.size ≤ w1.heap.size := by have := hb.size; omega
  clear hb
  go_wp2_with fail
  clear bn bm ba
  obtain ⟨b, off, rfl, hc⟩ := R1.out hne
  have HC := Lib.hid hc
  have hpos : 0 < l.length := List.length_pos_iff.2 hne
  clear hc hne hb0
  obtain ⟨i0, hi, hz0, hz1, hz2⟩ := info_parts info_int
  go_loopw [9, 10, 11, 12] (fun v p q i wr => ∃ k : Nat, k ≤ l.length ∧ i = .int .i64 k ∧ p = .int .i64 (minL l k) ∧ q = .int .i64 (maxL l k) ∧ wr.ownsRow w1.heap.size 3 1 v k ((xsL l k).map (Value.int .i64)) ∧ Below w1.heap.size w1 wr) (fun _ _ _ i _ => l.length - (intOf i).toNat)
  case atStart => exact ⟨0, Nat.zero_le _, rfl, rfl, rfl, World.ownsRow_nil _ _ _ _, Below.refl _ _⟩
  case round =>
    obtain ⟨k, hk, rfl, rfl, rfl, hown, hbl⟩ := hrel
    by_cases hlt : k < l.length
    · have hcell := keep1' hbl (HC.out k hlt)
      have bx := HW.out (l.getD k 0) (by simp [List.getD, hlt])
      obtain ⟨x, hx⟩ : ∃ x, x = l.getD k 0 := ⟨_, rfl⟩
      rw [← hx] at hcell bx
      obtain ⟨bx1, bx2⟩ := bx
      have HX := Lib.hid hx
      clear hx
      go_wp2_with (at_builtin; refine wpList_append_own _ rfl _ _ 30 rfl w1.heap.size 3 i0 (.int .i64 0) 1 8 Try.underlying30 hi hz0 hz1 hz2 rfl (by decide) _ _ _ rfl (hown.alloc _) ⟨wr.heap.size, 0, none⟩ 1 1 [.int .i64 (x / 4)] rfl rfl ?c1 ?c2 ?c3 ?c4 ?c5 ?_)
      case c1 => exact cell_one_new _ _ _
      case c2 => simp [Value.oneCell']
      case c3 => unfold maxLen; omega
      case c4 => omega
      case c5 => have := hbl.size; simp; omega
      intro v' w2 hown2 hgrow _
      have hb2 := (hbl.alloc hbl.size (.cells #[.int .i64 (x / 4)] 3)).grown hgrow (by have := hbl.size; simp; omega) (fun j hj => (hown.lt j hj).1)
      have HO := Lib.hid hown2
      have HB := Lib.hid hb2
      clear hown2 hgrow hb2 hown hbl
      have HN := Lib.hid (minL_succ l k hlt)
      have HM := Lib.hid (maxL_succ l k hlt)
      have HK := Lib.hid (xsL_succ l k hlt)
      go_wp2_with fail
      refine ⟨⟨k + 1, by omega, by go_num, ?_, ?_, ?_, HB.out⟩, by simp [intOf]; omega⟩
      · rw [HN.out, ← HX.out]
      · rw [HM.out, ← HX.out]
      · rw [HK.out, ← HX.out, List.map_append]; exact HO.out
    · have hkl : k = l.length := by omega
      subst hkl
      obtain ⟨g, cap, rfl, hg1, hg2⟩ := hown.form hpos
      have hcs := hown.cells (g := g) rfl
      have hrd : RdI wr (some ⟨g, 0, none⟩) (xsL l l.length) := fun _ => ⟨g, 0, rfl, fun j hj => by
        have := hcs j (.int .i64 ((xsL l l.length).getD j 0)) (by simp [List.getD, hj])
        rw [Go.WideShapes.add_plain] at this
        exact this⟩
      have HR := Lib.hid hrd
      have HB := Lib.hid hbl
      have hzr : w.heap.size ≤ wr.heap.size := by have := hbl.size; omega
      obtain ⟨q1, q2, q3⟩ := parts_end l HW.out h3 (by intro h; subst h; simp at hpos)
      have Q3 := Lib.hid q3
      have hlen : (xsL l l.length).length = l.length := by simp [xsL]
      have HQ := Lib.hid (xsL_bnd l l.length HW.out)
      clear hown hcs hrd hbl q3
      have HL := Lib.hid hlen
      clear hlen
      go_wp2_with fail
      refine (mean_len _ _ (xsL l l.length) l.length _ HL.out (fun n hn => by have := HQ.out n hn; omega) (by have := HL.out; omega) HR.out).mono ?_
      rintro e y1 ⟨rfl, hb⟩
      have Y1 := Lib.hid (((B1.out.trans (HB.out.mono z1))).trans (hb.mono hzr))
      have hy1 : w.heap.size ≤ y1.heap.size := by have := hb.size; omega
      clear hb
      go_wp2_with fail
      refine (part_any _ _ _).mono ?_
      rintro e y2 ⟨rfl, hb⟩
      have Y2 := Lib.hid (Y1.out.trans (hb.mono hy1))
      have hy2 : w.heap.size ≤ y2.heap.size := by have := hb.size; omega
      clear hb
      go_wp2_with fail
      refine (less_any _ _ _).mono ?_
      rintro e yl ⟨rfl, rfl⟩
      go_wp2_with fail
      refine (part_any _ _ _).mono ?_
      rintro e y3 ⟨rfl, hb⟩
      have Y3 := Lib.hid (Y2.out.trans (hb.mono hy2))
      have hy3 : w.heap.size ≤ y3.heap.size := by have := hb.size; omega
      clear hb
      go_wp2_with fail
      refine (less_any _ _ _).mono ?_
      rintro e yl ⟨rfl, rfl⟩
      by_cases hmm : minL l l.length = maxL l l.length
      · have hm1 : (minL l l.length != maxL l l.length) = false := by simp [hmm]
        have hq := Q3.out hmm
        have hq2 : (meanR (xsL l l.length) == partR (minL l l.length) 1) = true := by simp [hq]
        clear hq hmm
        go_wp2_with fail
        refine (part_any _ _ _).mono ?_
        rintro e y4 ⟨rfl, hb⟩
        have Y4 := Lib.hid (Y3.out.trans (hb.mono hy3))
        clear hb
        go_wp2_with fail
        go_ret
        exact ⟨rfl, Y4.out⟩
      · have hm1 : (minL l l.length != maxL l l.length) = true := by simp [hmm]
        clear hmm
        go_wp2_with fail
        go_ret
        exact ⟨rfl, Y3.out⟩

set_option maxHeartbeats 2000000 in
theorem parts_walk_b (n m all : Int) (A : Option Addr) (c : Nat) (l : List Int) (w : World) (bn : n.natAbs < 2 ^ 64) (bm : m.natAbs < 2 ^ 64) (ba : all.natAbs < 2 ^ 64) (hw : ∀ n ∈ l, -2147483648 ≤ n ∧ n ≤ 2147483647)
    (hl : l.length ≤ 9223372036854775807) (h : RdJ w A l) (h3 : l.length ≤ 1000) (h4 : n = 0) (g1 : 0 < all) (g2 : ¬ n ≤ m) (hne : l ≠ []) :
    Calls Try.prog 7 #[.int .i64 n, .int .i64 m, .int .i64 all, .slice A l.length c] w fun e w' => e = .returned (.bool true) ∧ Below w.heap.size w w' := by
  have hb0 : ((l.length : Int) == 0) = false := by simp [hne]
  have R0 := Lib.hid h
  have HW := Lib.hid hw
  have B0 := Lib.hid (Below.refl w.heap.size w)
  have z0 : w.heap.size ≤ w.heap.size := Nat.le_refl _
  clear h hw
  have hn0 : (n != 0) = false := by simp [h4]
  clear h4
  go_enter Try.func7, Try.ntmps7
  go_wp2_with fail
  refine (awake_any _).mono ?_
  rintro e w1 ⟨rfl, hb⟩
  have R1 := Lib.hid (R0.out.below hb)
  have B1 := Lib.hid (B0.out.trans (hb.mono z0))
  have z1 : w.heap.size ≤ w1.heap.size := by have := hb.size; omega
  clear hb
  go_wp2_with fail
  clear bn bm ba
  obtain ⟨b, off, rfl, hc⟩ := R1.out hne
  have HC := Lib.hid hc
  have hpos : 0 < l.length := List.length_pos_iff.2 hne
  clear hc hne hb0
  obtain ⟨i0, hi, hz0, hz1, hz2⟩ := info_parts info_int
  go_loopw [9, 10, 11, 12] (fun v p q i wr => ∃ k : Nat, k ≤ l.length ∧ i = .int .i64 k ∧ p = .int .i64 (minL l k) ∧ q = .int .i64 (maxL l k) ∧ wr.ownsRow w1.heap.size 3 1 v k ((xsL l k).map (Value.int .i64)) ∧ Below w1.heap.size w1 wr) (fun _ _ _ i _ => l.length - (intOf i).toNat)
  case atStart => exact ⟨0, Nat.zero_le _, rfl, rfl, rfl, World.ownsRow_nil _ _ _ _, Below.refl _ _⟩
  case round =>
    obtain ⟨k, hk, rfl, rfl, rfl, hown, hbl⟩ := hrel
    by_cases hlt : k < l.length
    · have hcell := keep1' hbl (HC.out k hlt)
      have bx := HW.out (l.getD k 0) (by simp [List.getD, hlt])
      obtain ⟨x, hx⟩ : ∃ x, x = l.getD k 0 := ⟨_, rfl⟩
      rw [← hx] at hcell bx
      obtain ⟨bx1, bx2⟩ := bx
      have HX := Lib.hid hx
      clear hx
      go_wp2_with (at_builtin; refine wpList_append_own _ rfl _ _ 30 rfl w1.heap.size 3 i0 (.int .i64 0) 1 8 Try.underlying30 hi hz0 hz1 hz2 rfl (by decide) _ _ _ rfl (hown.alloc _) ⟨wr.heap.size, 0, none⟩ 1 1 [.int .i64 (x / 4)] rfl rfl ?c1 ?c2 ?c3 ?c4 ?c5 ?_)
      case c1 => exact cell_one_new _ _ _
      case c2 => simp [Value.oneCell']
      case c3 => unfold maxLen; omega
      case c4 => omega
      case c5 => have := hbl.size; simp; omega
      intro v' w2 hown2 hgrow _
      have hb2 := (hbl.alloc hbl.size (.cells #[.int .i64 (x / 4)] 3)).grown hgrow (by have := hbl.size; simp; omega) (fun j hj => (hown.lt j hj).1)
      have HO := Lib.hid hown2
      have HB := Lib.hid hb2
      clear hown2 hgrow hb2 hown hbl
      have HN := Lib.hid (minL_succ l k hlt)
      have HM := Lib.hid (maxL_succ l k hlt)
      have HK := Lib.hid (xsL_succ l k hlt)
      go_wp2_with fail
      refine ⟨⟨k + 1, by omega, by go_num, ?_, ?_, ?_, HB.out⟩, by simp [intOf]; omega⟩
      · rw [HN.out, ← HX.out]
      · rw [HM.out, ← HX.out]
      · rw [HK.out, ← HX.out, List.map_append]; exact HO.out
    · have hkl : k = l.length := by omega
      subst hkl
      obtain ⟨g, cap, rfl, hg1, hg2⟩ := hown.form hpos
      have hcs := hown.cells (g := g) rfl
      have hrd : RdI wr (some ⟨g, 0, none⟩) (xsL l l.length) := fun _ => ⟨g, 0, rfl, fun j hj => by
        have := hcs j (.int .i64 ((xsL l l.length).getD j 0)) (by simp [List.getD, hj])
        rw [Go.WideShapes.add_plain] at this
        exact this⟩
      have HR := Lib.hid hrd
      have HB := Lib.hid hbl
      have hzr : w.heap.size ≤ wr.heap.size := by have := hbl.size; omega
      obtain ⟨q1, q2, q3⟩ := parts_end l HW.out h3 (by intro h; subst h; simp at hpos)
      have Q3 := Lib.hid q3
      have hlen : (xsL l l.length).length = l.length := by simp [xsL]
      have HQ := Lib.hid (xsL_bnd l l.length HW.out)
      clear hown hcs hrd hbl q3
      have HL := Lib.hid hlen
      clear hlen
      go_wp2_with fail
      refine (mean_len _ _ (xsL l l.length) l.length _ HL.out (fun n hn => by have := HQ.out n hn; omega) (by have := HL.out; omega) HR.out).mono ?_
      rintro e y1 ⟨rfl, hb⟩
      have Y1 := Lib.hid (((B1.out.trans (HB.out.mono z1))).trans (hb.mono hzr))
      have hy1 : w.heap.size ≤ y1.heap.size := by have := hb.size; omega
      clear hb
      go_wp2_with fail
      refine (part_any _ _ _).mono ?_
      rintro e y2 ⟨rfl, hb⟩
      have Y2 := Lib.hid (Y1.out.trans (hb.mono hy1))
      have hy2 : w.heap.size ≤ y2.heap.size := by have := hb.size; omega
      clear hb
      go_wp2_with fail
      refine (less_any _ _ _).mono ?_
      rintro e yl ⟨rfl, rfl⟩
      go_wp2_with fail
      refine (part_any _ _ _).mono ?_
      rintro e y3 ⟨rfl, hb⟩
      have Y3 := Lib.hid (Y2.out.trans (hb.mono hy2))
      have hy3 : w.heap.size ≤ y3.heap.size := by have := hb.size; omega
      clear hb
      go_wp2_with fail
      refine (less_any _ _ _).mono ?_
      rintro e yl ⟨rfl, rfl⟩
      by_cases hmm : minL l l.length = maxL l l.length
      · have hm1 : (minL l l.length != maxL l l.length) = false := by simp [hmm]
        have hq := Q3.out hmm
        have hq2 : (meanR (xsL l l.length) == partR (minL l l.length) 1) = true := by simp [hq]
        clear hq hmm
        go_wp2_with fail
        refine (part_any _ _ _).mono ?_
        rintro e y4 ⟨rfl, hb⟩
        have Y4 := Lib.hid (Y3.out.trans (hb.mono hy3))
        clear hb
        go_wp2_with fail
        go_ret
        exact ⟨rfl, Y4.out⟩
      · have hm1 : (minL l l.length != maxL l l.length) = true := by simp [hmm]
        clear hmm
        go_wp2_with fail
        go_ret
        exact ⟨rfl, Y3.out⟩

set_option maxHeartbeats 2000000 in
theorem parts_walk_c (n m all : Int) (A : Option Addr) (c : Nat) (l : List Int) (w : World) (bn : n.natAbs < 2 ^ 64) (bm : m.natAbs < 2 ^ 64) (ba : all.natAbs < 2 ^ 64) (hw : ∀ n ∈ l, -2147483648 ≤ n ∧ n ≤ 2147483647)
    (hl : l.length ≤ 9223372036854775807) (h : RdJ w A l) (h3 : l.length ≤ 1000) (h4 : n = 0) (g1 : 0 < all) (g2 : n ≤ m) (hne : l ≠ []) :
    Calls Try.prog 7 #[.int .i64 n, .int .i64 m, .int .i64 all, .slice A l.length c] w fun e w' => e = .returned (.bool true) ∧ Below w.heap.size w w' := by
  have hb0 : ((l.length : Int) == 0) = false := by simp [hne]
  have R0 := Lib.hid h
  have HW := Lib.hid hw
  have B0 := Lib.hid (Below.refl w.heap.size w)
  have z0 : w.heap.size ≤ w.heap.size := Nat.le_refl _
  clear h hw
  have hn0 : (n != 0) = false := by simp [h4]
  have hm := part_mono n m all bn bm ba g1 g2
  clear h4
  go_enter Try.func7, Try.ntmps7
  go_wp2_with fail
  refine (awake_any _).mono ?_
  rintro e w1 ⟨rfl, hb⟩
  have R1 := Lib.hid (R0.out.below hb)
  have B1 := Lib.hid (B0.out.trans (hb.mono z0))
  have z1 : w.heap.size ≤ w1.heap.size := by have := hb.size; omega
  clear hb
  go_wp2_with fail
  refine (part_any _ _ _).mono ?_
  rintro e w2 ⟨rfl, hb⟩
  have R2 := Lib.hid (R1.out.below hb)
  have B2 := Lib.hid (B1.out.trans (hb.mono z1))
  have z2 : w.heap.size ≤ w2.heap.size := by have := hb.size; omega
  clear hb
  go_wp2_with fail
  refine (part_any _ _ _).mono ?_
  rintro e w3 ⟨rfl, hb⟩
  have R3 := Lib.hid (R2.out.below hb)
  have B3 := Lib.hid (B2.out.trans (hb.mono z2))
  have z3 : w.heap.size ≤ w3.heap.size := by have := hb.size; omega
  clear hb
  go_wp2_with fail
  refine (less_any _ _ _).mono ?_
  rintro e wl ⟨rfl, rfl⟩
  go_wp2_with fail
  clear bn bm ba
  obtain ⟨b, off, rfl, hc⟩ := R3.out hne
  have HC := Lib.hid hc
  have hpos : 0 < l.length := List.length_pos_iff.2 hne
  clear hc hne hb0
  obtain ⟨i0, hi, hz0, hz1, hz2⟩ := info_parts info_int
  go_loopw [9, 10, 11, 12] (fun v p q i wr => ∃ k : Nat, k ≤ l.length ∧ i = .int .i64 k ∧ p = .int .i64 (minL l k) ∧ q = .int .i64 (maxL l k) ∧ wr.ownsRow w3.heap.size 3 1 v k ((xsL l k).map (Value.int .i64)) ∧ Below w3.heap.size w3 wr) (fun _ _ _ i _ => l.length - (intOf i).toNat)
  case atStart => exact ⟨0, Nat.zero_le _, rfl, rfl, rfl, World.ownsRow_nil _ _ _ _, Below.refl _ _⟩
  case round =>
    obtain ⟨k, hk, rfl, rfl, rfl, hown, hbl⟩ := hrel
    by_cases hlt : k < l.length
    · have hcell := keep1' hbl (HC.out k hlt)
      have bx := HW.out (l.getD k 0) (by simp [List.getD, hlt])
      obtain ⟨x, hx⟩ : ∃ x, x = l.getD k 0 := ⟨_, rfl⟩
      rw [← hx] at hcell bx
      obtain ⟨bx1, bx2⟩ := bx
      have HX := Lib.hid hx
      clear hx
      go_wp2_with (at_builtin; refine wpList_append_own _ rfl _ _ 30 rfl w3.heap.size 3 i0 (.int .i64 0) 1 8 Try.underlying30 hi hz0 hz1 hz2 rfl (by decide) _ _ _ rfl (hown.alloc _) ⟨wr.heap.size, 0, none⟩ 1 1 [.int .i64 (x / 4)] rfl rfl ?c1 ?c2 ?c3 ?c4 ?c5 ?_)
      case c1 => exact cell_one_new _ _ _
      case c2 => simp [Value.oneCell']
      case c3 => unfold maxLen; omega
      case c4 => omega
      case c5 => have := hbl.size; simp; omega
      intro v' w2 hown2 hgrow _
      have hb2 := (hbl.alloc hbl.size (.cells #[.int .i64 (x / 4)] 3)).grown hgrow (by have := hbl.size; simp; omega) (fun j hj => (hown.lt j hj).1)
      have HO := Lib.hid hown2
      have HB := Lib.hid hb2
      clear hown2 hgrow hb2 hown hbl
      have HN := Lib.hid (minL_succ l k hlt)
      have HM := Lib.hid (maxL_succ l k hlt)
      have HK := Lib.hid (xsL_succ l k hlt)
      go_wp2_with fail
      refine ⟨⟨k + 1, by omega, by go_num, ?_, ?_, ?_, HB.out⟩, by simp [intOf]; omega⟩
      · rw [HN.out, ← HX.out]
      · rw [HM.out, ← HX.out]
      · rw [HK.out, ← HX.out, List.map_append]; exact HO.out
    · have hkl : k = l.length := by omega
      subst hkl
      obtain ⟨g, cap, rfl, hg1, hg2⟩ := hown.form hpos
      have hcs := hown.cells (g := g) rfl
      have hrd : RdI wr (some ⟨g, 0, none⟩) (xsL l l.length) := fun _ => ⟨g, 0, rfl, fun j hj => by
        have := hcs j (.int .i64 ((xsL l l.length).getD j 0)) (by simp [List.getD, hj])
        rw [Go.WideShapes.add_plain] at this
        exact this⟩
      have HR := Lib.hid hrd
      have HB := Lib.hid hbl
      have hzr : w.heap.size ≤ wr.heap.size := by have := hbl.size; omega
      obtain ⟨q1, q2, q3⟩ := parts_end l HW.out h3 (by intro h; subst h; simp at hpos)
      have Q3 := Lib.hid q3
      have hlen : (xsL l l.length).length = l.length := by simp [xsL]
      have HQ := Lib.hid (xsL_bnd l l.length HW.out)
      clear hown hcs hrd hbl q3
      have HL := Lib.hid hlen
      clear hlen
      go_wp2_with fail
      refine (mean_len _ _ (xsL l l.length) l.length _ HL.out (fun n hn => by have := HQ.out n hn; omega) (by have := HL.out; omega) HR.out).mono ?_
      rintro e y1 ⟨rfl, hb⟩
      have Y1 := Lib.hid (((B3.out.trans (HB.out.mono z3))).trans (hb.mono hzr))
      have hy1 : w.heap.size ≤ y1.heap.size := by have := hb.size; omega
      clear hb
      go_wp2_with fail
      refine (part_any _ _ _).mono ?_
      rintro e y2 ⟨rfl, hb⟩
      have Y2 := Lib.hid (Y1.out.trans (hb.mono hy1))
      have hy2 : w.heap.size ≤ y2.heap.size := by have := hb.size; omega
      clear hb
      go_wp2_with fail
      refine (less_any _ _ _).mono ?_
      rintro e yl ⟨rfl, rfl⟩
      go_wp2_with fail
      refine (part_any _ _ _).mono ?_
      rintro e y3 ⟨rfl, hb⟩
      have Y3 := Lib.hid (Y2.out.trans (hb.mono hy2))
      have hy3 : w.heap.size ≤ y3.heap.size := by have := hb.size; omega
      clear hb
      go_wp2_with fail
      refine (less_any _ _ _).mono ?_
      rintro e yl ⟨rfl, rfl⟩
      by_cases hmm : minL l l.length = maxL l l.length
      · have hm1 : (minL l l.length != maxL l l.length) = false := by simp [hmm]
        have hq := Q3.out hmm
        have hq2 : (meanR (xsL l l.length) == partR (minL l l.length) 1) = true := by simp [hq]
        clear hq hmm
        go_wp2_with fail
        refine (part_any _ _ _).mono ?_
        rintro e y4 ⟨rfl, hb⟩
        have Y4 := Lib.hid (Y3.out.trans (hb.mono hy3))
        clear hb
        go_wp2_with fail
        go_ret
        exact ⟨rfl, Y4.out⟩
      · have hm1 : (minL l l.length != maxL l l.length) = true := by simp [hmm]
        clear hmm
        go_wp2_with fail
        go_ret
        exact ⟨rfl, Y3.out⟩

set_option maxHeartbeats 2000000 in
theorem parts_walk_d (n m all : Int) (A : Option Addr) (c : Nat) (l : List Int) (w : World) (bn : n.natAbs < 2 ^ 64) (bm : m.natAbs < 2 ^ 64) (ba : all.natAbs < 2 ^ 64) (hw : ∀ n ∈ l, -2147483648 ≤ n ∧ n ≤ 2147483647)
    (hl : l.length ≤ 9223372036854775807) (h : RdJ w A l) (h3 : l.length ≤ 1000) (h4 : n ≠ 0) (g1 : ¬ 0 < all) (hne : l ≠ []) :
    Calls Try.prog 7 #[.int .i64 n, .int .i64 m, .int .i64 all, .slice A l.length c] w fun e w' => e = .returned (.bool true) ∧ Below w.heap.size w w' := by
  have hb0 : ((l.length : Int) == 0) = false := by simp [hne]
  have R0 := Lib.hid h
  have HW := Lib.hid hw
  have B0 := Lib.hid (Below.refl w.heap.size w)
  have z0 : w.heap.size ≤ w.heap.size := Nat.le_refl _
  clear h hw
  have hn0 : (n != 0) = true := by simp [h4]
  have hs := tself bn h4
  clear h4
  go_enter Try.func7, Try.ntmps7
  go_wp2_with fail
  refine (awake_any _).mono ?_
  rintro e w1 ⟨rfl, hb⟩
  have R1 := Lib.hid (R0.out.below hb)
  have B1 := Lib.hid (B0.out.trans (hb.mono z0))
  have z1 : w.heap.size ≤ w1.heap.size := by have := hb.size; omega
  clear hb
  go_wp2_with fail
  refine (part_any _ _ _).mono ?_
  rintro e w2 ⟨rfl, hb⟩
  have R2 := Lib.hid (R1.out.below hb)
  have B2 := Lib.hid (B1.out.trans (hb.mono z1))
  have z2 : w.heap.size ≤ w2.heap.size := by have := hb.size; omega
  clear hb
  go_wp2_with fail
  clear bn bm ba
  obtain ⟨b, off, rfl, hc⟩ := R2.out hne
  have HC := Lib.hid hc
  have hpos : 0 < l.length := List.length_pos_iff.2 hne
  clear hc hne hb0
  obtain ⟨i0, hi, hz0, hz1, hz2⟩ := info_parts info_int
  go_loopw [9, 10, 11, 12] (fun v p q i wr => ∃ k : Nat, k ≤ l.length ∧ i = .int .i64 k ∧ p = .int .i64 (minL l k) ∧ q = .int .i64 (maxL l k) ∧ wr.ownsRow w2.heap.size 3 1 v k ((xsL l k).map (Value.int .i64)) ∧ Below w2.heap.size w2 wr) (fun _ _ _ i _ => l.length - (intOf i).toNat)
  case atStart => exact ⟨0, Nat.zero_le _, rfl, rfl, rfl, World.ownsRow_nil _ _ _ _, Below.refl _ _⟩
  case round =>
    obtain ⟨k, hk, rfl, rfl, rfl, hown, hbl⟩ := hrel
    by_cases hlt : k < l.length
    · have hcell := keep1' hbl (HC.out k hlt)
      have bx := HW.out (l.getD k 0) (by simp [List.getD, hlt])
      obtain ⟨x, hx⟩ : ∃ x, x = l.getD k 0 := ⟨_, rfl⟩
      rw [← hx] at hcell bx
      obtain ⟨bx1, bx2⟩ := bx
      have HX := Lib.hid hx
      clear hx
      go_wp2_with (at_builtin; refine wpList_append_own _ rfl _ _ 30 rfl w2.heap.size 3 i0 (.int .i64 0) 1 8 Try.underlying30 hi hz0 hz1 hz2 rfl (by decide) _ _ _ rfl (hown.alloc _) ⟨wr.heap.size, 0, none⟩ 1 1 [.int .i64 (x / 4)] rfl rfl ?c1 ?c2 ?c3 ?c4 ?c5 ?_)
      case c1 => exact cell_one_new _ _ _
      case c2 => simp [Value.oneCell']
      case c3 => unfold maxLen; omega
      case c4 => omega
      case c5 => have := hbl.size; simp; omega
      intro v' w2 hown2 hgrow _
      have hb2 := (hbl.alloc hbl.size (.cells #[.int .i64 (x / 4)] 3)).grown hgrow (by have := hbl.size; simp; omega) (fun j hj => (hown.lt j hj).1)
      have HO := Lib.hid hown2
      have HB := Lib.hid hb2
      clear hown2 hgrow hb2 hown hbl
      have HN := Lib.hid (minL_succ l k hlt)
      have HM := Lib.hid (maxL_succ l k hlt)
      have HK := Lib.hid (xsL_succ l k hlt)
      go_wp2_with fail
      refine ⟨⟨k + 1, by omega, by go_num, ?_, ?_, ?_, HB.out⟩, by simp [intOf]; omega⟩
      · rw [HN.out, ← HX.out]
      · rw [HM.out, ← HX.out]
      · rw [HK.out, ← HX.out, List.map_append]; exact HO.out
    · have hkl : k = l.length := by omega
      subst hkl
      obtain ⟨g, cap, rfl, hg1, hg2⟩ := hown.form hpos
      have hcs := hown.cells (g := g) rfl
      have hrd : RdI wr (some ⟨g, 0, none⟩) (xsL l l.length) := fun _ => ⟨g, 0, rfl, fun j hj => by
        have := hcs j (.int .i64 ((xsL l l.length).getD j 0)) (by simp [List.getD, hj])
        rw [Go.WideShapes.add_plain] at this
        exact this⟩
      have HR := Lib.hid hrd
      have HB := Lib.hid hbl
      have hzr : w.heap.size ≤ wr.heap.size := by have := hbl.size; omega
      obtain ⟨q1, q2, q3⟩ := parts_end l HW.out h3 (by intro h; subst h; simp at hpos)
      have Q3 := Lib.hid q3
      have hlen : (xsL l l.length).length = l.length := by simp [xsL]
      have HQ := Lib.hid (xsL_bnd l l.length HW.out)
      clear hown hcs hrd hbl q3
      have HL := Lib.hid hlen
      clear hlen
      go_wp2_with fail
      refine (mean_len _ _ (xsL l l.length) l.length _ HL.out (fun n hn => by have := HQ.out n hn; omega) (by have := HL.out; omega) HR.out).mono ?_
      rintro e y1 ⟨rfl, hb⟩
      have Y1 := Lib.hid (((B2.out.trans (HB.out.mono z2))).trans (hb.mono hzr))
      have hy1 : w.heap.size ≤ y1.heap.size := by have := hb.size; omega
      clear hb
      go_wp2_with fail
      refine (part_any _ _ _).mono ?_
      rintro e y2 ⟨rfl, hb⟩
      have Y2 := Lib.hid (Y1.out.trans (hb.mono hy1))
      have hy2 : w.heap.size ≤ y2.heap.size := by have := hb.size; omega
      clear hb
      go_wp2_with fail
      refine (less_any _ _ _).mono ?_
      rintro e yl ⟨rfl, rfl⟩
      go_wp2_with fail
      refine (part_any _ _ _).mono ?_
      rintro e y3 ⟨rfl, hb⟩
      have Y3 := Lib.hid (Y2.out.trans (hb.mono hy2))
      have hy3 : w.heap.size ≤ y3.heap.size := by have := hb.size; omega
      clear hb
      go_wp2_with fail
      refine (less_any _ _ _).mono ?_
      rintro e yl ⟨rfl, rfl⟩
      by_cases hmm : minL l l.length = maxL l l.length
      · have hm1 : (minL l l.length != maxL l l.length) = false := by simp [hmm]
        have hq := Q3.out hmm
        have hq2 : (meanR (xsL l l.length) == partR (minL l l.length) 1) = true := by simp [hq]
        clear hq hmm
        go_wp2_with fail
        refine (part_any _ _ _).mono ?_
        rintro e y4 ⟨rfl, hb⟩
        have Y4 := Lib.hid (Y3.out.trans (hb.mono hy3))
        clear hb
        go_wp2_with fail
        go_ret
        exact ⟨rfl, Y4.out⟩
      · have hm1 : (minL l l.length != maxL l l.length) = true := by simp [hmm]
        clear hmm
        go_wp2_with fail
        go_ret
        exact ⟨rfl, Y3.out⟩

set_option maxHeartbeats 2000000 in
theorem parts_walk_e (n m all : Int) (A : Option Addr) (c : Nat) (l : List Int) (w : World) (bn : n.natAbs < 2 ^ 64) (bm : m.natAbs < 2 ^ 64) (ba : all.natAbs < 2 ^ 64) (hw : ∀ n ∈ l, -2147483648 ≤ n ∧ n ≤ 2147483647)
    (hl : l.length ≤ 9223372036854775807) (h : RdJ w A l) (h3 : l.length ≤ 1000) (h4 : n ≠ 0) (g1 : 0 < all) (g2 : ¬ n ≤ m) (hne : l ≠ []) :
    Calls Try.prog 7 #[.int .i64 n, .int .i64 m, .int .i64 all, .slice A l.length c] w fun e w' => e = .returned (.bool true) ∧ Below w.heap.size w w' := by
  have hb0 : ((l.length : Int) == 0) = false := by simp [hne]
  have R0 := Lib.hid h
  have HW := Lib.hid hw
  have B0 := Lib.hid (Below.refl w.heap.size w)
  have z0 : w.heap.size ≤ w.heap.size := Nat.le_refl _
  clear h hw
  have hn0 : (n != 0) = true := by simp [h4]
  have hs := tself bn h4
  clear h4
  go_enter Try.func7, Try.ntmps7
  go_wp2_with fail
  refine (awake_any _).mono ?_
  rintro e w1 ⟨rfl, hb⟩
  have R1 := Lib.hid (R0.out.below hb)
  have B1 := Lib.hid (B0.out.trans (hb.mono z0))
  have z1 : w.heap.size ≤ w1.heap.size := by have := hb.size; omega
  clear hb
  go_wp2_with fail
  refine (part_any _ _ _).mono ?_
  rintro e w2 ⟨rfl, hb⟩
  have R2 := Lib.hid (R1.out.below hb)
  have B2 := Lib.hid (B1.out.trans (hb.mono z1))
  have z2 : w.heap.size ≤ w2.heap.size := by have := hb.size; omega
  clear hb
  go_wp2_with fail
  clear bn bm ba
  obtain ⟨b, off, rfl, hc⟩ := R2.out hne
  have HC := Lib.hid hc
  have hpos : 0 < l.length := List.length_pos_iff.2 hne
  clear hc hne hb0
  obtain ⟨i0, hi, hz0, hz1, hz2⟩ := info_parts info_int
  go_loopw [9, 10, 11, 12] (fun v p q i wr => ∃ k : Nat, k ≤ l.length ∧ i = .int .i64 k ∧ p = .int .i64 (minL l k) ∧ q = .int .i64 (maxL l k) ∧ wr.ownsRow w2.heap.size 3 1 v k ((xsL l k).map (Value.int .i64)) ∧ Below w2.heap.size w2 wr) (fun _ _ _ i _ => l.length - (intOf i).toNat)
  case atStart => exact ⟨0, Nat.zero_le _, rfl, rfl, rfl, World.ownsRow_nil _ _ _ _, Below.refl _ _⟩
  case round =>
    obtain ⟨k, hk, rfl, rfl, rfl, hown, hbl⟩ := hrel
    by_cases hlt : k < l.length
    · have hcell := keep1' hbl (HC.out k hlt)
      have bx := HW.out (l.getD k 0) (by simp [List.getD, hlt])
      obtain ⟨x, hx⟩ : ∃ x, x = l.getD k 0 := ⟨_, rfl⟩
      rw [← hx] at hcell bx
      obtain ⟨bx1, bx2⟩ := bx
      have HX := Lib.hid hx
      clear hx
      go_wp2_with (at_builtin; refine wpList_append_own _ rfl _ _ 30 rfl w2.heap.size 3 i0 (.int .i64 0) 1 8 Try.underlying30 hi hz0 hz1 hz2 rfl (by decide) _ _ _ rfl (hown.alloc _) ⟨wr.heap.size, 0, none⟩ 1 1 [.int .i64 (x / 4)] rfl rfl ?c1 ?c2 ?c3 ?c4 ?c5 ?_)
      case c1 => exact cell_one_new _ _ _
      case c2 => simp [Value.oneCell']
      case c3 => unfold maxLen; omega
      case c4 => omega
      case c5 => have := hbl.size; simp; omega
      intro v' w2 hown2 hgrow _
      have hb2 := (hbl.alloc hbl.size (.cells #[.int .i64 (x / 4)] 3)).grown hgrow (by have := hbl.size; simp; omega) (fun j hj => (hown.lt j hj).1)
      have HO := Lib.hid hown2
      have HB := Lib.hid hb2
      clear hown2 hgrow hb2 hown hbl
      have HN := Lib.hid (minL_succ l k hlt)
      have HM := Lib.hid (maxL_succ l k hlt)
      have HK := Lib.hid (xsL_succ l k hlt)
      go_wp2_with fail
      refine ⟨⟨k + 1, by omega, by go_num, ?_, ?_, ?_, HB.out⟩, by simp [intOf]; omega⟩
      · rw [HN.out, ← HX.out]
      · rw [HM.out, ← HX.out]
      · rw [HK.out, ← HX.out, List.map_append]; exact HO.out
    · have hkl : k = l.length := by omega
      subst hkl
      obtain ⟨g, cap, rfl, hg1, hg2⟩ := hown.form hpos
      have hcs := hown.cells (g := g) rfl
      have hrd : RdI wr (some ⟨g, 0, none⟩) (xsL l l.length) := fun _ => ⟨g, 0, rfl, fun j hj => by
        have := hcs j (.int .i64 ((xsL l l.length).getD j 0)) (by simp [List.getD, hj])
        rw [Go.WideShapes.add_plain] at this
        exact this⟩
      have HR := Lib.hid hrd
      have HB := Lib.hid hbl
      have hzr : w.heap.size ≤ wr.heap.size := by have := hbl.size; omega
      obtain ⟨q1, q2, q3⟩ := parts_end l HW.out h3 (by intro h; subst h; simp at hpos)
      have Q3 := Lib.hid q3
      have hlen : (xsL l l.length).length = l.length := by simp [xsL]
      have HQ := Lib.hid (xsL_bnd l l.length HW.out)
      clear hown hcs hrd hbl q3
      have HL := Lib.hid hlen
      clear hlen
      go_wp2_with fail
      refine (mean_len _ _ (xsL l l.length) l.length _ HL.out (fun n hn => by have := HQ.out n hn; omega) (by have := HL.out; omega) HR.out).mono ?_
      rintro e y1 ⟨rfl, hb⟩
      have Y1 := Lib.hid (((B2.out.trans (HB.out.mono z2))).trans (hb.mono hzr))
      have hy1 : w.heap.size ≤ y1.heap.size := by have := hb.size; omega
      clear hb
      go_wp2_with fail
      refine (part_any _ _ _).mono ?_
      rintro e y2 ⟨rfl, hb⟩
      have Y2 := Lib.hid (Y1.out.trans (hb.mono hy1))
      have hy2 : w.heap.size ≤ y2.heap.size := by have := hb.size; omega
      clear hb
      go_wp2_with fail
      refine (less_any _ _ _).mono ?_
      rintro e yl ⟨rfl, rfl⟩
      go_wp2_with fail
      refine (part_any _ _ _).mono ?_
      rintro e y3 ⟨rfl, hb⟩
      have Y3 := Lib.hid (Y2.out.trans (hb.mono hy2))
      have hy3 : w.heap.size ≤ y3.heap.size := by have := hb.size; omega
      clear hb
      go_wp2_with fail
      refine (less_any _ _ _).mono ?_
      rintro e yl ⟨rfl, rfl⟩
      by_cases hmm : minL l l.length = maxL l l.length
      · have hm1 : (minL l l.length != maxL l l.length) = false := by simp [hmm]
        have hq := Q3.out hmm
        have hq2 : (meanR (xsL l l.length) == partR (minL l l.length) 1) = true := by simp [hq]
        clear hq hmm
        go_wp2_with fail
        refine (part_any _ _ _).mono ?_
        rintro e y4 ⟨rfl, hb⟩
        have Y4 := Lib.hid (Y3.out.trans (hb.mono hy3))
        clear hb
        go_wp2_with fail
        go_ret
        exact ⟨rfl, Y4.out⟩
      · have hm1 : (minL l l.length != maxL l l.length) = true := by simp [hmm]
        clear hmm
        go_wp2_with fail
        go_ret
        exact ⟨rfl, Y3.out⟩

set_option maxHeartbeats 2000000 in
theorem parts_walk_f (n m all : Int) (A : Option Addr) (c : Nat) (l : List Int) (w : World) (bn : n.natAbs < 2 ^ 64) (bm : m.natAbs < 2 ^ 64) (ba : all.natAbs < 2 ^ 64) (hw : ∀ n ∈ l, -2147483648 ≤ n ∧ n ≤ 2147483647)
    (hl : l.length ≤ 9223372036854775807) (h : RdJ w A l) (h3 : l.length ≤ 1000) (h4 : n ≠ 0) (g1 : 0 < all) (g2 : n ≤ m) (hne : l ≠ []) :
    Calls Try.prog 7 #[.int .i64 n, .int .i64 m, .int .i64 all, .slice A l.length c] w fun e w' => e = .returned (.bool true) ∧ Below w.heap.size w w' := by
  have hb0 : ((l.length : Int) == 0) = false := by simp [hne]
  have R0 := Lib.hid h
  have HW := Lib.hid hw
  have B0 := Lib.hid (Below.refl w.heap.size w)
  have z0 : w.heap.size ≤ w.heap.size := Nat.le_refl _
  clear h hw
  have hn0 : (n != 0) = true := by simp [h4]
  have hs := tself bn h4
  have hm := part_mono n m all bn bm ba g1 g2
  clear h4
  go_enter Try.func7, Try.ntmps7
  go_wp2_with fail
  refine (awake_any _).mono ?_
  rintro e w1 ⟨rfl, hb⟩
  have R1 := Lib.hid (R0.out.below hb)
  have B1 := Lib.hid (B0.out.trans (hb.mono z0))
  have z1 : w.heap.size ≤ w1.heap.size := by have := hb.size; omega
  clear hb
  go_wp2_with fail
  refine (part_any _ _ _).mono ?_
  rintro e w2 ⟨rfl, hb⟩
  have R2 := Lib.hid (R1.out.below hb)
  have B2 := Lib.hid (B1.out.trans (hb.mono z1))
  have z2 : w.heap.size ≤ w2.heap.size := by have := hb.size; omega
  clear hb
  go_wp2_with fail
  refine (part_any _ _ _).mono ?_
  rintro e w3 ⟨rfl, hb⟩
  have R3 := Lib.hid (R2.out.below hb)
  have B3 := Lib.hid (B2.out.trans (hb.mono z2))
  have z3 : w.heap.size ≤ w3.heap.size := by have := hb.size; omega
  clear hb
  go_wp2_with fail
  refine (part_any _ _ _).mono ?_
  rintro e w4 ⟨rfl, hb⟩
  have R4 := Lib.hid (R3.out.below hb)
  have B4 := Lib.hid (B3.out.trans (hb.mono z3))
  have z4 : w.heap.size ≤ w4.heap.size := by have := hb.size; omega
  clear hb
  go_wp2_with fail
  refine (less_any _ _ _).mono ?_
  rintro e wl ⟨rfl, rfl⟩
  go_wp2_with fail
  clear bn bm ba
  obtain ⟨b, off, rfl, hc⟩ := R4.out hne
  have HC := Lib.hid hc
  have hpos : 0 < l.length := List.length_pos_iff.2 hne
  clear hc hne hb0
  obtain ⟨i0, hi, hz0, hz1, hz2⟩ := info_parts info_int
  go_loopw [9, 10, 11, 12] (fun v p q i wr => ∃ k : Nat, k ≤ l.length ∧ i = .int .i64 k ∧ p = .int .i64 (minL l k) ∧ q = .int .i64 (maxL l k) ∧ wr.ownsRow w4.heap.size 3 1 v k ((xsL l k).map (Value.int .i64)) ∧ Below w4.heap.size w4 wr) (fun _ _ _ i _ => l.length - (intOf i).toNat)
  case atStart => exact ⟨0, Nat.zero_le _, rfl, rfl, rfl, World.ownsRow_nil _ _ _ _, Below.refl _ _⟩
  case round =>
    obtain ⟨k, hk, rfl, rfl, rfl, hown, hbl⟩ := hrel
    by_cases hlt : k < l.length
    · have hcell := keep1' hbl (HC.out k hlt)
      have bx := HW.out (l.getD k 0) (by simp [List.getD, hlt])
      obtain ⟨x, hx⟩ : ∃ x, x = l.getD k 0 := ⟨_, rfl⟩
      rw [← hx] at hcell bx
      obtain ⟨bx1, bx2⟩ := bx
      have HX := Lib.hid hx
      clear hx
      go_wp2_with (at_builtin; refine wpList_append_own _ rfl _ _ 30 rfl w4.heap.size 3 i0 (.int .i64 0) 1 8 Try.underlying30 hi hz0 hz1 hz2 rfl (by decide) _ _ _ rfl (hown.alloc _) ⟨wr.heap.size, 0, none⟩ 1 1 [.int .i64 (x / 4)] rfl rfl ?c1 ?c2 ?c3 ?c4 ?c5 ?_)
      case c1 => exact cell_one_new _ _ _
      case c2 => simp [Value.oneCell']
      case c3 => unfold maxLen; omega
      case c4 => omega
      case c5 => have := hbl.size; simp; omega
      intro v' w2 hown2 hgrow _
      have hb2 := (hbl.alloc hbl.size (.cells #[.int .i64 (x / 4)] 3)).grown hgrow (by have := hbl.size; simp; omega) (fun j hj => (hown.lt j hj).1)
      have HO := Lib.hid hown2
      have HB := Lib.hid hb2
      clear hown2 hgrow hb2 hown hbl
      have HN := Lib.hid (minL_succ l k hlt)
      have HM := Lib.hid (maxL_succ l k hlt)
      have HK := Lib.hid (xsL_succ l k hlt)
      go_wp2_with fail
      refine ⟨⟨k + 1, by omega, by go_num, ?_, ?_, ?_, HB.out⟩, by simp [intOf]; omega⟩
      · rw [HN.out, ← HX.out]
      · rw [HM.out, ← HX.out]
      · rw [HK.out, ← HX.out, List.map_append]; exact HO.out
    · have hkl : k = l.length := by omega
      subst hkl
      obtain ⟨g, cap, rfl, hg1, hg2⟩ := hown.form hpos
      have hcs := hown.cells (g := g) rfl
      have hrd : RdI wr (some ⟨g, 0, none⟩) (xsL l l.length) := fun _ => ⟨g, 0, rfl, fun j hj => by
        have := hcs j (.int .i64 ((xsL l l.length).getD j 0)) (by simp [List.getD, hj])
        rw [Go.WideShapes.add_plain] at this
        exact this⟩
      have HR := Lib.hid hrd
      have HB := Lib.hid hbl
      have hzr : w.heap.size ≤ wr.heap.size := by have := hbl.size; omega
      obtain ⟨q1, q2, q3⟩ := parts_end l HW.out h3 (by intro h; subst h; simp at hpos)
      have Q3 := Lib.hid q3
      have hlen : (xsL l l.length).length = l.length := by simp [xsL]
      have HQ := Lib.hid (xsL_bnd l l.length HW.out)
      clear hown hcs hrd hbl q3
      have HL := Lib.hid hlen
      clear hlen
      go_wp2_with fail
      refine (mean_len _ _ (xsL l l.length) l.length _ HL.out (fun n hn => by have := HQ.out n hn; omega) (by have := HL.out; omega) HR.out).mono ?_
      rintro e y1 ⟨rfl, hb⟩
      have Y1 := Lib.hid (((B4.out.trans (HB.out.mono z4))).trans (hb.mono hzr))
      have hy1 : w.heap.size ≤ y1.heap.size := by have := hb.size; omega
      clear hb
      go_wp2_with fail
      refine (part_any _ _ _).mono ?_
      rintro e y2 ⟨rfl, hb⟩
      have Y2 := Lib.hid (Y1.out.trans (hb.mono hy1))
      have hy2 : w.heap.size ≤ y2.heap.size := by have := hb.size; omega
      clear hb
      go_wp2_with fail
      refine (less_any _ _ _).mono ?_
      rintro e yl ⟨rfl, rfl⟩
      go_wp2_with fail
      refine (part_any _ _ _).mono ?_
      rintro e y3 ⟨rfl, hb⟩
      have Y3 := Lib.hid (Y2.out.trans (hb.mono hy2))
      have hy3 : w.heap.size ≤ y3.heap.size := by have := hb.size; omega
      clear hb
      go_wp2_with fail
      refine (less_any _ _ _).mono ?_
      rintro e yl ⟨rfl, rfl⟩
      by_cases hmm : minL l l.length = maxL l l.length
      · have hm1 : (minL l l.length != maxL l l.length) = false := by simp [hmm]
        have hq := Q3.out hmm
        have hq2 : (meanR (xsL l l.length) == partR (minL l l.length) 1) = true := by simp [hq]
        clear hq hmm
        go_wp2_with fail
        refine (part_any _ _ _).mono ?_
        rintro e y4 ⟨rfl, hb⟩
        have Y4 := Lib.hid (Y3.out.trans (hb.mono hy3))
        clear hb
        go_wp2_with fail
        go_ret
        exact ⟨rfl, Y4.out⟩
      · have hm1 : (minL l l.length != maxL l l.length) = true := by simp [hmm]
        clear hmm
        go_wp2_with fail
        go_ret
        exact ⟨rfl, Y3.out⟩

set_option maxHeartbeats 2000000 in
theorem parts_walk (n m all : Int) (A : Option Addr) (c : Nat) (l : List Int) (w : World) (bn : n.natAbs < 2 ^ 64) (bm : m.natAbs < 2 ^ 64) (ba : all.natAbs < 2 ^ 64) (hw : ∀ n ∈ l, -2147483648 ≤ n ∧ n ≤ 2147483647)
    (hl : l.length ≤ 9223372036854775807) (h : RdJ w A l)  :
    Calls Try.prog 7 #[.int .i64 n, .int .i64 m, .int .i64 all, .slice A l.length c] w fun e w' => e = .returned (.bool true) ∧ Below w.heap.size w w' := by
  by_cases h3 : l.length ≤ 1000
  · by_cases hne : l = [] <;> by_cases h4 : n = 0 <;> by_cases g1 : 0 < all <;> by_cases g2 : n ≤ m
    · exact parts_walk_c0 n m all A c l w bn bm ba hw hl h h3 h4 g1 g2 hne
    · exact parts_walk_b0 n m all A c l w bn bm ba hw hl h h3 h4 g1 g2 hne
    · exact parts_walk_a0 n m all A c l w bn bm ba hw hl h h3 h4 g1 hne
    · exact parts_walk_a0 n m all A c l w bn bm ba hw hl h h3 h4 g1 hne
    · exact parts_walk_f0 n m all A c l w bn bm ba hw hl h h3 h4 g1 g2 hne
    · exact parts_walk_e0 n m all A c l w bn bm ba hw hl h h3 h4 g1 g2 hne
    · exact parts_walk_d0 n m all A c l w bn bm ba hw hl h h3 h4 g1 hne
    · exact parts_walk_d0 n m all A c l w bn bm ba hw hl h h3 h4 g1 hne
    · exact parts_walk_c n m all A c l w bn bm ba hw hl h h3 h4 g1 g2 hne
    · exact parts_walk_b n m all A c l w bn bm ba hw hl h h3 h4 g1 g2 hne
    · exact parts_walk_a n m all A c l w bn bm ba hw hl h h3 h4 g1 hne
    · exact parts_walk_a n m all A c l w bn bm ba hw hl h h3 h4 g1 hne
    · exact parts_walk_f n m all A c l w bn bm ba hw hl h h3 h4 g1 g2 hne
    · exact parts_walk_e n m all A c l w bn bm ba hw hl h h3 h4 g1 g2 hne
    · exact parts_walk_d n m all A c l w bn bm ba hw hl h h3 h4 g1 hne
    · exact parts_walk_d n m all A c l w bn bm ba hw hl h h3 h4 g1 hne
  · exact parts_walk_long n m all A c l w bn bm ba hw hl h (by omega)
end Go.Proofs.Ytoiblmhhilipjaa
