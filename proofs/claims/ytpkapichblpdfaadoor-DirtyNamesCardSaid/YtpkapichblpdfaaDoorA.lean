/- LAYER 22: what a buffer of writes is in memory. -/
import Derived.Test.YtpkapichblpdfaaDoorRows
import Derived.WalkKit
import Derived.ProofKit
import Derived.Handy
import Derived.Deep.Light
import Derived.Lib.Hide
import Derived.StillTailTactics
import Derived.OwnWalk
import Derived.Maps.Own
import Derived.Maps.Views
import Derived.Maps.AppendAt
set_option linter.unusedVariables false
namespace Go.Proofs.YtpkapichblpdfaaDoor
open Go.RowKit Go.ChangeShapes Go.WideShapes Go.ChangeAt

theorem ret_bool {a b : Bool} (h : a = b) : Ending.returned (.bool a) = .returned (.bool b) := by rw [h]
theorem ret_i64 {a b : Int} (h : a = b) : Ending.returned (.int .i64 a) = .returned (.int .i64 b) := by rw [h]
theorem keep1 {w w' : World} {p : Addr} {v : Value} (hb : Below w.heap.size w w') (h : w.cell? p = some v) : w'.cell? p = some v := (hb.cell (World.block_lt_of_cell? w _ h)).trans h
/-- A write. -/
abbrev Pt := Int × ByteArray
/-- Writes as cells. -/
def putCells (l : List Pt) : List Value := l.flatMap fun p => [.int .i64 p.1, .string p.2]
theorem putCells_len (l : List Pt) : (putCells l).length = l.length * 2 := by
  induction l with
  | nil => rfl
  | cons x l ih =>
    have : putCells (x :: l) = [.int .i64 x.1, .string x.2] ++ putCells l := rfl
    rw [this, List.length_append, ih]; simp; omega
theorem putCells_snoc (l : List Pt) (p : Pt) : putCells (l ++ [p]) = putCells l ++ [.int .i64 p.1, .string p.2] := by unfold putCells; simp
theorem putCells_at : ∀ (l : List Pt) (k : Nat) (h : k < l.length), (putCells l)[2 * k]? = some (.int .i64 l[k].1) ∧ (putCells l)[2 * k + 1]? = some (.string l[k].2)
  | [], k, h => by simp at h
  | x :: l, 0, _ => ⟨rfl, rfl⟩
  | x :: l, k + 1, h => by
    have := putCells_at l k (by simpa using h)
    have e : putCells (x :: l) = [.int .i64 x.1, .string x.2] ++ putCells l := rfl
    rw [e]
    exact ⟨by rw [show 2 * (k + 1) = 2 * k + 2 from by omega]; simpa using this.1, by rw [show 2 * (k + 1) + 1 = 2 * k + 1 + 2 from by omega]; simpa using this.2⟩
/-- A slice as a plain datum: its place, its length, its room. -/
def encS : Value → Option (DataW Unit × List MemPlace)
  | .slice none 0 0 => some (.nil, [])
  | .slice (some ⟨g, 0, none⟩) n c => some (.agg [.lit (.int .i64 g), .lit (.int .i64 n), .lit (.int .i64 c)], [])
  | _ => none
theorem encS_inj {v v' : Value} {d : DataW Unit} {p p' : List MemPlace} (h : encS v = some (d, p)) (h' : encS v' = some (d, p')) : v = v' := by
  unfold encS at h h'
  split at h <;> split at h' <;> simp at h h' <;> try rfl
  · obtain ⟨rfl, _⟩ := h
    exact absurd h'.1 (by simp)
  · obtain ⟨rfl, _⟩ := h'
    exact absurd h.1 (by simp)
  · obtain ⟨rfl, _⟩ := h
    obtain ⟨h1, _⟩ := h'
    simp only [DataW.agg.injEq, List.cons.injEq, DataW.lit.injEq, Lit.int.injEq, true_and, and_true] at h1
    obtain ⟨a, b, c⟩ := h1
    simp only [Value.slice.injEq, Option.some.injEq, Addr.mk.injEq, and_true]
    exact ⟨by omega, by omega, by omega⟩
theorem encS_row {w : World} {base : Nat} {e : TypeId} {size : Nat} {v : Value} {n : Nat} {xs : List Value} (h : w.ownsRow base e size v n xs) : ∃ d, encS v = some (d, []) := by
  rcases h.2 with ⟨rfl, _⟩ | ⟨g, cap, cur, rfl, _⟩
  · exact ⟨_, rfl⟩
  · exact ⟨_, rfl⟩
/-- But for some blocks the world is as it was. -/
structure Off (O : Nat → Prop) (w w' : World) : Prop where
  os : w'.os = w.os
  tape : w'.tape = w.tape
  output : w'.output = w.output
  size : w.heap.size ≤ w'.heap.size
  block : ∀ k, k < w.heap.size → ¬ O k → w'.heap[k]? = w.heap[k]?
theorem Off.refl (O : Nat → Prop) (w : World) : Off O w w := ⟨rfl, rfl, rfl, Nat.le_refl _, fun _ _ _ => rfl⟩
theorem Off.trans {O O' : Nat → Prop} {a b c : World} (h : Off O a b) (k : Off O' b c) (hO : ∀ x, O' x → O x ∨ a.heap.size ≤ x) : Off O a c :=
  ⟨k.os.trans h.os, k.tape.trans h.tape, k.output.trans h.output, Nat.le_trans h.size k.size, fun i hi hn => (k.block i (Nat.lt_of_lt_of_le hi h.size) (fun hx => (hO i hx).elim hn (fun hy => by omega))).trans (h.block i hi hn)⟩
theorem Off.below {O : Nat → Prop} {w w' : World} {B : Nat} (h : Off O w w') (hB : B ≤ w.heap.size) (hO : ∀ x, O x → B ≤ x) : Below B w w' :=
  ⟨h.os, h.tape, h.output, h.size, fun k hk => h.block k (by omega) (fun hx => by have := hO k hx; omega)⟩
theorem Off.of_below {w w' : World} (O : Nat → Prop) (h : Below w.heap.size w w') : Off O w w' := ⟨h.os, h.tape, h.output, h.size, fun k hk _ => h.block k hk⟩
theorem Off.of_grown {O : Nat → Prop} {w w' : World} {row : Option Nat} (h : w.grownBy w' row) (hO : ∀ k, row = some k → O k) : Off O w w' := ⟨h.os, h.tape, h.output, h.size, fun k hk hn => h.block k hk (fun e => hn (hO k e.symm))⟩
theorem Off.grown {O : Nat → Prop} {w w' : World} (h : Off O w w') {k : Nat} (hO : ¬ O k) : k < w.heap.size → w'.heap[k]? = w.heap[k]? := fun hk => h.block k hk hO
theorem row_off {O : Nat → Prop} {w w' : World} {base : Nat} {e : TypeId} {size : Nat} {v : Value} {n : Nat} {xs : List Value} (h : w.ownsRow base e size v n xs) (ho : Off O w w') (hn : ∀ g, v.ownBlock = some g → ¬ O g) : w'.ownsRow base e size v n xs := by
  refine ⟨h.1, ?_⟩
  rcases h.2 with h1 | ⟨g, cap, cur, rfl, h2, h3, h4⟩
  · exact .inl h1
  · exact .inr ⟨g, cap, cur, rfl, h2, (ho.block g (Array.getElem?_eq_some_iff.1 h3).1 (hn g rfl)).trans h3, h4⟩
theorem map_off {O : Nat → Prop} {w w' : World} {P : Program} {k : TypeId} {R : Value → Option (DataW Unit × List MemPlace)} {b n : Nat} {D : DataW Unit} (h : w.ownsMap P k R b n D) (ho : Off O w w') (hn : ¬ O b) : w'.ownsMap P k R b n D := by
  have hlt := h.lt
  obtain ⟨es, clock, hb, F, hs, hD⟩ := h
  exact ⟨es, clock, (ho.block b hlt hn).trans hb, F, hs, hD⟩
/-- A BUFFER: its block, its map, its rows; O: the blocks that are its own. -/
def BufAt (O : Nat → Prop) (w : World) (r bm n : Nat) (D : DataW Unit) (F : Int → Value) (L : Int → List Pt) (h : Int) : Prop :=
  w.heap[r]? = some (.cells #[.map (some bm), .int .i64 h] 54 (0, 0)) ∧ w.ownsMap Tryd.prog 3 encS bm n D ∧ (Go.Maps.IsMap D ∧ ∀ i, Go.Maps.has D (.int .i64 i) = decide (L i ≠ [])) ∧ (∀ i, encS (F i) = some (D.atKey (.int .i64 i) .nil, [])) ∧
  (∀ i, w.ownsRow 0 51 2 (F i) (L i).length (putCells (L i))) ∧ (∀ i j g, (F i).ownBlock = some g → (F j).ownBlock = some g → i = j) ∧ O r ∧ O bm ∧ (∀ i g, (F i).ownBlock = some g → O g)
def Buf (O : Nat → Prop) (w : World) (r n : Nat) (L : Int → List Pt) (h : Int) : Prop := ∃ bm D F, BufAt O w r bm n D F L h
theorem Buf.off {O O' : Nat → Prop} {w w' : World} {r n : Nat} {L : Int → List Pt} {h : Int} (hb : Buf O w r n L h) (ho : Off O' w w') (hd : ∀ x, O x → ¬ O' x) : Buf O w' r n L h := by
  obtain ⟨bm, D, F, h1, h2, h3, h4, h5, h6, h7, h8, h9⟩ := hb
  exact ⟨bm, D, F, (ho.block r (Array.getElem?_eq_some_iff.1 h1).1 (hd r h7)).trans h1, map_off h2 ho (hd bm h8), h3, h4, fun i => row_off (h5 i) ho (fun g hg => hd g (h9 i g hg)), h6, h7, h8, h9⟩
theorem Buf.below {O : Nat → Prop} {w w' : World} {r n : Nat} {L : Int → List Pt} {h : Int} (hb : Buf O w r n L h) (ho : Below w.heap.size w w') : Buf O w' r n L h := hb.off (Off.of_below (fun _ => False) ho) (fun _ _ h => h)
end Go.Proofs.YtpkapichblpdfaaDoor
