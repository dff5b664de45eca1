/- WALKS of layer 6: sums. -/
import Derived.Test.YtpkapichblpdfaaDoorRows
import Derived.WalkKit
import Derived.ProofKit
import Derived.Handy
import Derived.Deep.Light
import Derived.Lib.Hide
import Derived.StillTailTactics
set_option linter.unusedVariables false
namespace Go.Proofs.YtpkapichblpdfaaDoor.Dg
open Go.RowKit Go.ChangeShapes Go.WideShapes Go.ChangeAt

theorem ret_u64 {a b : Int} (h : a = b) : Ending.returned (.int .u64 a) = .returned (.int .u64 b) := by rw [h]
theorem ret_bool {a b : Bool} (h : a = b) : Ending.returned (.bool a) = .returned (.bool b) := by rw [h]
/-- A sum, and a byte more. -/
def fnv (u c : Int) : Int := IntKind.u64.wrap (bits .xor .u64 u c * 1099511628211)
/-- A sum, and bytes more. -/
def fold (u : Int) (l : List UInt8) : Int := l.foldl (fun u c => fnv u (c.toNat : Int)) u
theorem fold_snoc (u : Int) (l : List UInt8) (c : UInt8) : fold u (l ++ [c]) = fnv (fold u l) (c.toNat : Int) := by unfold fold; rw [List.foldl_append]; rfl
theorem fold_append (u : Int) (l m : List UInt8) : fold u (l ++ m) = fold (fold u l) m := by unfold fold; rw [List.foldl_append]
theorem wrap_byte (c : UInt8) : IntKind.u64.wrap (c.toNat : Int) = (c.toNat : Int) := by
  have := c.toNat_lt
  simp [IntKind.wrap, IntKind.bits, IntKind.signed]; omega
theorem take_snoc {α : Type} (l : List α) (k : Nat) (h : k < l.length) : l.take (k + 1) = l.take k ++ [l[k]] := by
  rw [List.take_add_one, List.getElem?_eq_getElem h]; rfl
def begin_ : Int := 14695981039346656037

theorem refon_any (u : Int) (c : UInt8) (w : World) : Calls Tryd.prog 37 #[.int .u64 u, .int .u8 c.toNat] w fun e w' => e = .returned (.int .u64 (fnv u c.toNat)) ∧ w = w' := by
  have hw := wrap_byte c
  go_enter Tryd.func37, Tryd.ntmps37
  go_wp2
  go_ret
  exact ⟨rfl, rfl⟩
theorem on_any (u : Int) (s : ByteArray) (w : World) (hs : s.size ≤ 9223372036854775807) : Calls Tryd.prog 28 #[.int .u64 u, .string s] w fun e w' => e = .returned (.int .u64 (fold u s.data.toList)) ∧ w = w' := by
  go_enter Tryd.func28, Tryd.ntmps28
  go_wp2_with fail
  go_loop [0, 8] (fun v i => ∃ k : Nat, k ≤ s.size ∧ i = .int .i64 k ∧ v = .int .u64 (fold u (s.data.toList.take k))) (fun _ i => s.size - (intOf i).toNat)
  case atStart => exact ⟨0, Nat.zero_le _, rfl, rfl⟩
  case round =>
    obtain ⟨k, hk, rfl, rfl⟩ := hrel
    by_cases hlt : k < s.size
    · have hw := wrap_byte s[k]
      have hl : k < s.data.toList.length := by simpa using hlt
      go_wp2_with fail
      go_round
      case rel =>
        refine ⟨k + 1, by omega, by go_num, ?_⟩
        rw [take_snoc _ _ hl, fold_snoc]
        rfl
      case measure => simp [intOf]; omega
    · have hkl : k = s.size := by omega
      subst hkl
      go_wp2_with fail
      go_ret
      exact ⟨ret_u64 (by rw [List.take_of_length_le]; simp), rfl⟩
theorem from_any (u : Int) (s : ByteArray) (w : World) (hs : s.size ≤ 9223372036854775807) : Calls Tryd.prog 32 #[.int .u64 u, .string s] w fun e w' => e = .returned (.int .u64 (fold u s.data.toList)) ∧ w = w' := by
  go_enter Tryd.func32, Tryd.ntmps32
  go_wp2_with fail
  go_loop [0, 5] (fun v i => ∃ k : Nat, k ≤ s.size ∧ i = .int .i64 k ∧ v = .int .u64 (fold u (s.data.toList.take k))) (fun _ i => s.size - (intOf i).toNat)
  case atStart => exact ⟨0, Nat.zero_le _, rfl, rfl⟩
  case round =>
    obtain ⟨k, hk, rfl, rfl⟩ := hrel
    by_cases hlt : k < s.size
    · have hl : k < s.data.toList.length := by simpa using hlt
      go_wp2_with (go_at_call 37; refine (refon_any _ _ _).mono ?_; rintro e w' ⟨rfl, rfl⟩)
      go_round
      case rel =>
        refine ⟨k + 1, by omega, by go_num, ?_⟩
        rw [take_snoc _ _ hl, fold_snoc]
        rfl
      case measure => simp [intOf]; omega
    · have hkl : k = s.size := by omega
      subst hkl
      go_wp2_with fail
      go_ret
      exact ⟨ret_u64 (by rw [List.take_of_length_le]; simp), rfl⟩
end Go.Proofs.YtpkapichblpdfaaDoor.Dg
