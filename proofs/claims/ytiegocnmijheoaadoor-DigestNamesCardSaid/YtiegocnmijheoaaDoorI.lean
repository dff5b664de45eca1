/- WALKS of layer 6: a hash's methods, the examples. -/
import Derived.Test.YtiegocnmijheoaaDoorH
set_option linter.unusedVariables false
namespace Go.Proofs.YtiegocnmijheoaaDoor
open Go.RowKit Go.ChangeShapes Go.WideShapes Go.ChangeAt

theorem new_any (w : World) : Calls Tryd.prog 23 #[] w fun e w' => e = .returned (.pointer (some ⟨w.heap.size, 0, none⟩)) ∧ w' = w.alloc (.cells #[.int .u64 begin_] 53) := by
  go_enter Tryd.func23, Tryd.ntmps23
  go_wp2
  go_ret
  exact ⟨rfl, rfl⟩
theorem sumh_any (g : Nat) (u : Int) (w : World) (h : w.cell? ⟨g, 0, none⟩ = some (.int .u64 u)) : Calls Tryd.prog 22 #[.pointer (some ⟨g, 0, none⟩)] w fun e w' => e = .returned (.int .u64 u) ∧ w = w' := by
  go_enter Tryd.func22, Tryd.ntmps22
  go_wp2
  go_ret
  exact ⟨rfl, rfl⟩
theorem copyh_any (g : Nat) (u : Int) (w : World) (h : w.cell? ⟨g, 0, none⟩ = some (.int .u64 u)) : Calls Tryd.prog 21 #[.pointer (some ⟨g, 0, none⟩)] w fun e w' => e = .returned (.pointer (some ⟨w.heap.size, 0, none⟩)) ∧ w' = w.alloc (.cells #[.int .u64 u] 53) := by
  go_enter Tryd.func21, Tryd.ntmps21
  go_wp2
  go_ret
  exact ⟨rfl, rfl⟩
theorem writeh_any (g b o c : Nat) (u : Int) (l : List UInt8) (w : World) (hs : l.length ≤ 9223372036854775807) (h : w.cell? ⟨g, 0, none⟩ = some (.int .u64 u)) (hf : w.frozen? ⟨g, 0, none⟩ = false) (hc : ∀ k, (h : k < l.length) → w.cell? ⟨b, o + k, none⟩ = some (.int .u8 ((l[k].toNat : Nat) : Int))) :
    Calls Tryd.prog 20 #[.pointer (some ⟨g, 0, none⟩), .slice (some ⟨b, o, none⟩) l.length c] w fun e w' => e = .returned (.tuple #[]) ∧ w' = w.setCell ⟨g, 0, none⟩ (.int .u64 (fold u l)) := by
  have F := onb_any u b o c l w hs hc
  clear hc
  go_enter Tryd.func20, Tryd.ntmps20
  go_wp2_with (go_at_call 27; refine F.mono ?_; rintro e w' ⟨rfl, rfl⟩)
  go_returns
  exact ⟨rfl, rfl⟩
theorem writeh_none (g : Nat) (a : Option Addr) (c : Nat) (u : Int) (w : World) (h : w.cell? ⟨g, 0, none⟩ = some (.int .u64 u)) (hf : w.frozen? ⟨g, 0, none⟩ = false) :
    Calls Tryd.prog 20 #[.pointer (some ⟨g, 0, none⟩), .slice a 0 c] w fun e w' => e = .returned (.tuple #[]) ∧ w' = w.setCell ⟨g, 0, none⟩ (.int .u64 u) := by
  have F := onb_none u a c w
  go_enter Tryd.func20, Tryd.ntmps20
  go_wp2_with (go_at_call 27; refine F.mono ?_; rintro e w' ⟨rfl, rfl⟩)
  go_returns
  exact ⟨rfl, rfl⟩
end Go.Proofs.YtiegocnmijheoaaDoor
