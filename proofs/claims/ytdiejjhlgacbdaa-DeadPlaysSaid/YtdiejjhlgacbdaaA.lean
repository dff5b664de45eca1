/- LAYER 16 (dead): worlds that differ in some blocks alone; masks of trees. -/
import Derived.Test.YtdiejjhlgacbdaaRows
import Derived.WalkKit
import Derived.ProofKit
import Derived.Handy
import Derived.Deep.Light
import Derived.Lib.Hide
import Derived.OwnWalk
import Derived.Maps.Own
import Derived.Maps.OwnSet
import Derived.Maps.AppendAt
import Derived.Maps.RangeWalk
import Derived.Sort.OwnSortedInts
import Derived.Lib.SlFresh
import Derived.WalkMore
import Derived.Deep.RegionHeld3
import Derived.Test.YtdiejjhlgacbdaaSh
set_option linter.unusedVariables false
namespace Go.Proofs.Ytdiejjhlgacbdaa
open Go.RowKit Go.ChangeShapes Go.WideShapes Go.ChangeAt

/-- But for some blocks the world is as it was. -/
structure Off (O : Nat → Prop) (w w' : World) : Prop where
  os : w'.os = w.os
  tape : w'.tape = w.tape
  output : w'.output = w.output
  size : w.heap.size ≤ w'.heap.size
  block : ∀ k, k < w.heap.size → ¬ O k → w'.heap[k]? = w.heap[k]?
theorem Off.refl (O : Nat → Prop) (w : World) : Off O w w := ⟨rfl, rfl, rfl, Nat.le_refl _, fun _ _ _ => rfl⟩
theorem Off.mono {O O' : Nat → Prop} {w w' : World} (h : Off O w w') (hO : ∀ k, k < w.heap.size → O k → O' k) : Off O' w w' := ⟨h.os, h.tape, h.output, h.size, fun k hk hn => h.block k hk (fun hx => hn (hO k hk hx))⟩
theorem Off.trans {O : Nat → Prop} {a b c : World} (h : Off O a b) (k : Off O b c) : Off O a c :=
  ⟨k.os.trans h.os, k.tape.trans h.tape, k.output.trans h.output, Nat.le_trans h.size k.size, fun i hi hn => (k.block i (Nat.lt_of_lt_of_le hi h.size) hn).trans (h.block i hi hn)⟩
theorem Off.below {O : Nat → Prop} {w w' : World} {B : Nat} (h : Off O w w') (hB : B ≤ w.heap.size) (hO : ∀ x, O x → B ≤ x) : Below B w w' :=
  ⟨h.os, h.tape, h.output, h.size, fun k hk => h.block k (by omega) (fun hx => by have := hO k hx; omega)⟩
theorem Off.of_below {w w' : World} (O : Nat → Prop) (h : Below w.heap.size w w') : Off O w w' := ⟨h.os, h.tape, h.output, h.size, fun k hk _ => h.block k hk⟩
theorem Off.of_grown {O : Nat → Prop} {w w' : World} {row : Option Nat} (h : w.grownBy w' row) (hO : ∀ k, row = some k → O k) : Off O w w' := ⟨h.os, h.tape, h.output, h.size, fun k hk hn => h.block k hk (fun e => hn (hO k e.symm))⟩
theorem Off.alloc {O : Nat → Prop} {w w' : World} (h : Off O w w') (o : Obj) : Off O w (w'.alloc o) := h.trans (Off.of_below O ((Below.refl _ _).alloc (Nat.le_refl _) o))
theorem setCell_off (w : World) (a : Addr) (v : Value) : Off (fun b => b = a.block) w (w.setCell a v) :=
  ⟨rfl, rfl, rfl, by simp [World.setCell], fun b hb hn => Below.heap_setCell w a v b hn⟩
theorem Off.obj {O : Nat → Prop} {w w' : World} (h : Off O w w') {k : Nat} {o : Obj} (hk : w.heap[k]? = some o) (hn : ¬ O k) : w'.heap[k]? = some o :=
  (h.block k (Array.getElem?_eq_some_iff.1 hk).1 hn).trans hk
theorem Off.cell {O : Nat → Prop} {w w' : World} (h : Off O w w') {a : Addr} {v : Value} (hk : w.cell? a = some v) (hn : ¬ O a.block) : w'.cell? a = some v :=
  (World.cell?_of_block (h.block a.block (World.block_lt_of_cell? w _ hk) hn)).trans hk


theorem keep1 {w w' : World} {p : Addr} {v : Value} (hb : Below w.heap.size w w') (h : w.cell? p = some v) : w'.cell? p = some v := (hb.cell (World.block_lt_of_cell? w _ h)).trans h
theorem ret_bool {a b : Bool} (h : a = b) : Ending.returned (.bool a) = .returned (.bool b) := by rw [h]
/-- Trees, a bit each. -/
def withB (s : Nat) (t : Nat) : Nat := s ||| (1 <<< t)
def clrB (s : Nat) (t : Nat) : Nat := s &&& (127 ^^^ (1 <<< t))
theorem with_all : ∀ s : Fin 128, ∀ t : Fin 7, withB s t < 128 ∧ ∀ u : Fin 7, (withB s t).testBit u = (s.val.testBit u || u == t) := by decide +kernel
theorem clr_all : ∀ s : Fin 128, ∀ t : Fin 7, clrB s t < 128 ∧ ∀ u : Fin 7, (clrB s t).testBit u = (s.val.testBit u && u != t) := by decide +kernel
theorem mask_ext_all : ∀ s : Fin 128, (∀ u : Fin 7, s.val.testBit u = false) → s.val = 0 := by decide +kernel
theorem bits_has : ∀ s : Fin 128, ∀ t : Fin 7, (bits BinOp.and IntKind.u8 (((s.val : Nat) : Int) / 2 ^ t.val) 1 == 1) = s.val.testBit t.val := by decide +kernel
theorem bits_with : ∀ s : Fin 128, ∀ t : Fin 7, bits BinOp.or IntKind.u8 ((s.val : Nat) : Int) (2 ^ t.val % 256) = ((withB s t : Nat) : Int) := by decide +kernel
theorem bits_clr : ∀ s : Fin 128, ∀ t : Fin 7, bits BinOp.andNot IntKind.u8 ((s.val : Nat) : Int) (2 ^ t.val % 256) = ((clrB s t : Nat) : Int) := by decide +kernel
theorem with_lt {s t : Nat} (hs : s < 128) (ht : t < 7) : withB s t < 128 := (with_all ⟨s, hs⟩ ⟨t, ht⟩).1
theorem clr_lt {s t : Nat} (hs : s < 128) (ht : t < 7) : clrB s t < 128 := (clr_all ⟨s, hs⟩ ⟨t, ht⟩).1
theorem with_bit {s t u : Nat} (hs : s < 128) (ht : t < 7) (hu : u < 7) : (withB s t).testBit u = (s.testBit u || u == t) := by
  have := (with_all ⟨s, hs⟩ ⟨t, ht⟩).2 ⟨u, hu⟩
  rw [this]
  simp [BEq.beq, Fin.ext_iff]
theorem clr_bit {s t u : Nat} (hs : s < 128) (ht : t < 7) (hu : u < 7) : (clrB s t).testBit u = (s.testBit u && u != t) := by
  have := (clr_all ⟨s, hs⟩ ⟨t, ht⟩).2 ⟨u, hu⟩
  rw [this]
  simp [bne, BEq.beq, Fin.ext_iff]
theorem mask_zero {s : Nat} (hs : s < 128) : s = 0 ↔ ∀ u, u < 7 → s.testBit u = false := by
  constructor
  · rintro rfl u _
    simp
  · exact fun h => mask_ext_all ⟨s, hs⟩ fun u => h u.val u.isLt
theorem has_any (s t : Nat) (w : World) (hs : s < 128) (ht : t < 7) : Calls Try.prog 24 #[.int .u8 s, .int .i64 t] w fun e w' => e = .returned (.bool (s.testBit t)) ∧ w' = w := by
  go_enter Try.func24, Try.ntmps24
  go_wp2_with fail
  have h := bits_has ⟨s, hs⟩ ⟨t, ht⟩
  simp only at h
  rw [h]
  go_ret
  exact ⟨rfl, rfl⟩
theorem with_any (s t : Nat) (w : World) (hs : s < 128) (ht : t < 7) : Calls Try.prog 25 #[.int .u8 s, .int .i64 t] w fun e w' => e = .returned (.int .u8 (withB s t)) ∧ w' = w := by
  go_enter Try.func25, Try.ntmps25
  go_wp2_with fail
  have h := bits_with ⟨s, hs⟩ ⟨t, ht⟩
  simp only at h
  rw [h]
  go_ret
  exact ⟨rfl, rfl⟩
theorem without_any (s t : Nat) (w : World) (hs : s < 128) (ht : t < 7) : Calls Try.prog 26 #[.int .u8 s, .int .i64 t] w fun e w' => e = .returned (.int .u8 (clrB s t)) ∧ w' = w := by
  go_enter Try.func26, Try.ntmps26
  go_wp2_with fail
  have h := bits_clr ⟨s, hs⟩ ⟨t, ht⟩
  simp only at h
  rw [h]
  go_ret
  exact ⟨rfl, rfl⟩
/-- Is there such a tree, and such a block? -/
def mayB (a b : Int) : Bool := decide (0 ≤ a ∧ a ≤ 6 ∧ 2 ≤ b ∧ b < 8192)
theorem mayB_iff {a b : Int} : mayB a b = true ↔ 0 ≤ a ∧ a ≤ 6 ∧ 2 ≤ b ∧ b < 8192 := by simp [mayB]
theorem may_any (a b : Int) (w : World) : Calls Try.prog 23 #[.int .i64 a, .int .i64 b] w fun e w' => e = .returned (.bool (mayB a b)) ∧ w' = w := by
  by_cases h1 : 0 ≤ a
  · by_cases h2 : a ≤ 6
    · by_cases h3 : 2 ≤ b
      · by_cases h4 : b < 8192
        · go_enter Try.func23, Try.ntmps23
          go_wp2_with fail
          refine bodyPost_ret (v := .bool true) (by simp [results, Try.results23, go_sem]) rfl ⟨ret_bool (by symm; simpa [mayB] using ⟨h1, h2, h3, h4⟩), rfl⟩
        · go_enter Try.func23, Try.ntmps23
          go_wp2_with fail
          refine bodyPost_ret (v := .bool false) (by simp [results, Try.results23, go_sem]) rfl ⟨ret_bool (by symm; simp [mayB]; omega), rfl⟩
      · go_enter Try.func23, Try.ntmps23
        go_wp2_with fail
        refine bodyPost_ret (v := .bool false) (by simp [results, Try.results23, go_sem]) rfl ⟨ret_bool (by symm; simp [mayB]; omega), rfl⟩
    · go_enter Try.func23, Try.ntmps23
      go_wp2_with fail
      refine bodyPost_ret (v := .bool false) (by simp [results, Try.results23, go_sem]) rfl ⟨ret_bool (by symm; simp [mayB]; omega), rfl⟩
  · go_enter Try.func23, Try.ntmps23
    go_wp2_with fail
    refine bodyPost_ret (v := .bool false) (by simp [results, Try.results23, go_sem]) rfl ⟨ret_bool (by symm; simp [mayB]; omega), rfl⟩
end Go.Proofs.Ytdiejjhlgacbdaa
