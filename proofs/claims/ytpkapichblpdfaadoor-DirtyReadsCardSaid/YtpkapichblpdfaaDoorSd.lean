/- WALK of DirtyReads. -/
import Derived.Test.YtpkapichblpdfaaDoorSc
import Derived.Deep.RegionHeld3
import Derived.Deep.DeepCutAuto
import Derived.RegionTactic
import Derived.Lib.SlBuf
set_option linter.unusedVariables false
namespace Go.Proofs.YtpkapichblpdfaaDoor
open Go.RowKit Go.ChangeShapes Go.WideShapes Go.ChangeAt Go.Deep

theorem poke_step (M t : List UInt8) (a j : Nat) (hj : j < t.length) (h : a + t.length ≤ M.length) : (poke M a (t.take j)).set (a + j) t[j] = poke M a (t.take (j + 1)) := by
  unfold poke
  have h1 : (t.take j).length = j := by simp; omega
  have h2 : (t.take (j + 1)).length = j + 1 := by simp; omega
  rw [h1, h2, List.set_append_right _ _ (by simp; omega)]
  have hd : M.drop (a + j) = M[a + j] :: M.drop (a + j + 1) := List.drop_eq_getElem_cons (by omega)
  rw [show a + j - (M.take a ++ t.take j).length = 0 from by simp; omega, hd, List.set_cons_zero, take_snoc t j hj]
  simp only [List.append_assoc, Nat.add_assoc, List.cons_append, List.nil_append]
theorem poke_zero (M : List UInt8) (a : Nat) : poke M a [] = M := by unfold poke; simp
/-- '[]byte(file)'. -/
theorem mb_of (s : ByteArray) (w : World) (hs : s.size ≤ 1000000) : ∃ (c : Nat) (w1 : World), (convert 9 30 (.string s)).run Tryd.prog w = .ok (.slice (some ⟨w.heap.size, 0, none⟩) s.size c) w1 ∧
    MB w1 w.heap.size c s.data.toList ∧ Below w.heap.size w w1 := by
  have hge := grownCap_ge w s.size 0 5
  have hle := grownCap_le_maxLen w s.size 0 5 (by unfold maxLen; omega)
  have hlen : s.data.toList.length = s.size := rfl
  have hrs : (bytesRow s (grownCap w s.size 0 5)).size = grownCap w s.size 0 5 := by
    unfold bytesRow
    have : s.data.size = s.size := rfl
    simp [this]; omega
  have hnew := heap_alloc_new w.drew (.cells (bytesRow s (grownCap w s.size 0 5)) 5 ((bytesRow s (grownCap w s.size 0 5)).size, (bytesRow s (grownCap w s.size 0 5)).size + 1))
  refine ⟨_, _, run_bytes_of_string w 9 30 5 s Tryd.underlying9 Tryd.underlying30 Tryd.underlying5, ⟨by rw [hlen]; exact hge, hle, ?_, fun k h => ?_, fun k h => ⟨?_, ?_⟩⟩, (Below.refl _ _).drew.alloc (Nat.le_refl _) _⟩
  · show w.heap.size < (w.heap.push _).size
    simp
  · have := World.news_of_block hnew k _ (by rw [Array.getElem?_toList]; exact bytesRow_at s _ k h)
    simpa [Addr.add, show (if k = 0 then (⟨w.heap.size, 0, none⟩ : Addr) else ⟨w.heap.size, k, none⟩) = ⟨w.heap.size, k, none⟩ from by split <;> simp_all] using this
  · unfold World.cell?
    rw [show (w.drew.alloc (.cells (bytesRow s (grownCap w s.size 0 5)) 5 ((bytesRow s (grownCap w s.size 0 5)).size, (bytesRow s (grownCap w s.size 0 5)).size + 1))).heap[(⟨w.heap.size, k, none⟩ : Addr).block]? = _ from hnew]
    simp [Array.getElem?_eq_getElem (show k < (bytesRow s (grownCap w s.size 0 5)).size by rw [hrs]; exact h)]
  · unfold World.frozen?
    rw [show (w.drew.alloc (.cells (bytesRow s (grownCap w s.size 0 5)) 5 ((bytesRow s (grownCap w s.size 0 5)).size, (bytesRow s (grownCap w s.size 0 5)).size + 1))).heap[(⟨w.heap.size, k, none⟩ : Addr).block]? = _ from hnew]
    simp [hrs]; omega
/-- The row read as a text. -/
theorem MB.conv {w : World} {g cap : Nat} {M : List UInt8} (h : MB w g cap M) : (convert 30 9 (.slice (some ⟨g, 0, none⟩) M.length cap)).run Tryd.prog w = .ok (.string ⟨M.toArray⟩) w := by
  have := run_convert_bytes_arg w 30 5 Tryd.underlying30 Tryd.underlying5 g 0 M.length cap (M.map fun c => ((c.toNat : Nat) : Int)) (by simp) (fun i hi => by
    rw [Nat.zero_add, h.2.2.2.1 i hi]
    simp [List.getD_eq_getElem?_getD, List.getElem?_eq_getElem hi]) 9 Tryd.underlying9
  rw [this]
  congr 2
  apply bytes_inj
  rw [strOfNums_data, List.map_map, show ((fun n : Int => UInt8.ofNat n.toNat) ∘ fun c : UInt8 => ((c.toNat : Nat) : Int)) = id from by funext c; simp, List.map_id]
/-- At the head of the loop that makes 'mine' longer. -/
def RL1 (w wx : World) (r bx : Nat) (i apart : Int) (k : Nat) (L2 La : List Pt) (M : List UInt8) (a : Int) (tx : ByteArray) (E : Nat) (v6 : Value) : Prop :=
  ∃ j g cap, M.length + j ≤ E ∧ v6 = .slice (some ⟨g, 0, none⟩) (M.length + j) cap ∧ RS w wx r bx i apart k L2 La g cap (M ++ List.replicate j 0) ∧ wx.cell? ⟨bx, 1, none⟩ = some (.int .i64 i) ∧ wx.cell? ⟨bx, 2, none⟩ = some (.int .i64 a) ∧ wx.cell? ⟨bx, 3, none⟩ = some (.string tx)
/-- At the head of the loop that writes the text. -/
def RL2 (w wx : World) (r bx : Nat) (i apart : Int) (k : Nat) (L2 La : List Pt) (M : List UInt8) (a : Nat) (tx : ByteArray) (g cap : Nat) (v12 : Value) : Prop :=
  ∃ j : Nat, j ≤ tx.size ∧ v12 = .int .i64 (j : Nat) ∧ RS w wx r bx i apart k L2 La g cap (poke M a (tx.data.toList.take j)) ∧ wx.cell? ⟨bx, 1, none⟩ = some (.int .i64 i) ∧ wx.cell? ⟨bx, 2, none⟩ = some (.int .i64 (a : Nat)) ∧ wx.cell? ⟨bx, 3, none⟩ = some (.string tx)
theorem Off.cell {O : Nat → Prop} {w w' : World} (h : Off O w w') {a : Addr} {v : Value} (hk : w.cell? a = some v) (hn : ¬ O a.block) : w'.cell? a = some v :=
  (World.cell?_of_block (h.block a.block (World.block_lt_of_cell? w _ hk) hn)).trans hk
def lenOf : Value → Nat
  | .slice _ n _ => n
  | _ => 0
end Go.Proofs.YtpkapichblpdfaaDoor
