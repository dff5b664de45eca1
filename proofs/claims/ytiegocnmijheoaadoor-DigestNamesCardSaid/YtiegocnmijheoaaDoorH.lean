/- WALKS of layer 6: the document's Parse. -/
import Derived.Test.YtiegocnmijheoaaDoorG
set_option linter.unusedVariables false
namespace Go.Proofs.YtiegocnmijheoaaDoor
open Go.RowKit Go.ChangeShapes Go.WideShapes Go.ChangeAt

theorem or16 (N d : Int) (h0 : 0 ≤ N) (h1 : N * 16 < 18446744073709551616) (d0 : 0 ≤ d) (d1 : d < 16) : bits .or .u64 (N * 16) d = N * 16 + d := by
  obtain ⟨n, rfl⟩ : ∃ n : Nat, N = n := ⟨N.toNat, by omega⟩
  obtain ⟨m, rfl⟩ : ∃ m : Nat, d = m := ⟨d.toNat, by omega⟩
  have := bits_or_u64_nat (n * 16) m (by omega) (by omega)
  rw [show ((n * 16 : Nat) : Int) = (n : Int) * 16 from by simp] at this
  rw [this, show n * 16 = n <<< 4 from by rw [Nat.shiftLeft_eq], ← Nat.shiftLeft_add_eq_or_of_lt (by omega : m < 2 ^ 4), Nat.shiftLeft_eq]
  simp
/-- The digits that were read. -/
def Read (s : ByteArray) (k : Nat) (N : Int) : Prop := 0 ≤ N ∧ N < 16 ^ k ∧ ∀ i, (h : i < s.size) → i < k → ((s[i].toNat : Nat) : Int) = dig (N / 16 ^ (k - 1 - i) % 16)
theorem Read.next {s : ByteArray} {k : Nat} {N d : Int} (h : Read s k N) (hk : k < s.size) (d0 : 0 ≤ d) (d1 : d < 16) (hd : ((s[k].toNat : Nat) : Int) = dig d) : Read s (k + 1) (N * 16 + d) := by
  obtain ⟨h0, h1, h2⟩ := h
  refine ⟨by omega, by rw [Int.pow_succ]; omega, fun i hi hik => ?_⟩
  by_cases he : i = k
  · subst he
    rw [show i + 1 - 1 - i = 0 from by omega, hd]
    congr 1
    simp
    omega
  · rw [h2 i hi (by omega)]
    have e : (N * 16 + d) / 16 ^ (k + 1 - 1 - i) = N / 16 ^ (k - 1 - i) := by
      rw [show k + 1 - 1 - i = (k - 1 - i) + 1 from by omega, Int.pow_succ, Int.mul_comm (16 ^ (k - 1 - i)) 16, ← Int.ediv_ediv_of_nonneg (by decide : (0 : Int) ≤ 16)]
      congr 1
      omega
    rw [e]
theorem Read.text {s : ByteArray} {N : Int} (h : Read s 16 N) (hs : s.size = 16) : s = strOfNums (hexL N 15) := by
  apply bytes_inj
  apply List.ext_getElem
  · rw [strOfNums_data, List.length_map, hexL_len]; exact hs
  · intro i h1 h2
    have hi : i < s.size := h1
    have := h.2.2 i hi (by omega)
    have t2 := (text_at (rfl : strOfNums (hexL N 15) = strOfNums (hexL N 15)) i h2).2
    apply UInt8.toNat_inj.1
    show s[i].toNat = (strOfNums (hexL N 15))[i].toNat
    rw [show 16 - 1 - i = 15 - i from by omega] at this
    omega

set_option maxHeartbeats 1000000 in
theorem refparse_any (s : ByteArray) (w : World) (hs : s.size ≤ 20000) : Calls Tryd.prog 13 #[.string s] w fun e w' => PaPost s e ∧ w = w' := by
  by_cases h16 : s.size = 16
  case neg =>
    have hne : ((s.size : Int) != 16) = true := by simp; omega
    have HN := Lib.hid (show ∀ v : Int, 0 ≤ v → v < 18446744073709551616 → s ≠ strOfNums (hexL v 15) from fun v _ _ h => h16 (by rw [h, strOfNums_size, hexL_len]))
    clear h16
    go_enter Tryd.func13, Tryd.ntmps13
    go_wp2_with fail
    go_ret2
    exact ⟨.inr ⟨HN.out, rfl⟩, rfl⟩
  go_enter Tryd.func13, Tryd.ntmps13
  go_wp2_with fail
  go_loop [4, 5] (fun v i => ∃ (k : Nat) (N : Int), k ≤ 16 ∧ i = .int .i64 k ∧ v = .int .u64 N ∧ Read s k N) (fun _ i => 16 - (intOf i).toNat)
  case atStart => exact ⟨0, 0, by omega, rfl, rfl, by omega, by simp, fun i _ h => by omega⟩
  case round =>
    obtain ⟨k, N, hk, rfl, rfl, hr⟩ := hrel
    by_cases hlt : k < 16
    · have hks : k < s.size := by omega
      have hr0 := hr.1
      have hr1 : N * 16 < 18446744073709551616 := by
        have h1 := hr.2.1
        have h2 : (16 : Int) ^ k ≤ 16 ^ 15 := by exact_mod_cast Nat.pow_le_pow_right (by decide) (by omega)
        have h3 : (16 : Int) ^ 15 = 1152921504606846976 := by decide
        omega
      have hcb := s[k].toNat_lt
      have HR := Lib.hid (fun d (d0 : 0 ≤ d) (d1 : d < 16) (hd : ((s[k].toNat : Nat) : Int) = dig d) => hr.next hks d0 d1 hd)
      have HT := Lib.hid (fun v (h : s = strOfNums (hexL v 15)) => (text_at h k hks).2)
      have ho1 : 48 ≤ ((s[k].toNat : Nat) : Int) → ((s[k].toNat : Nat) : Int) ≤ 57 → bits .or .u64 (N * 16) (((s[k].toNat : Nat) : Int) - 48) = N * 16 + (((s[k].toNat : Nat) : Int) - 48) := fun a b => or16 N _ hr0 hr1 (by omega) (by omega)
      have ho2 : 97 ≤ ((s[k].toNat : Nat) : Int) → ((s[k].toNat : Nat) : Int) ≤ 102 → bits .or .u64 (N * 16) (((s[k].toNat : Nat) : Int) - 87) = N * 16 + (((s[k].toNat : Nat) : Int) - 87) := fun a b => or16 N _ hr0 hr1 (by omega) (by omega)
      clear hr
      go_wp2_with fail
      all_goals first
        | exact ⟨⟨k + 1, N * 16 + (((s[k].toNat : Nat) : Int) - 48), by omega, by go_num, by first | rfl | rw [ho1 (by omega) (by omega)], HR.out _ (by omega) (by omega) (by unfold dig; rw [if_pos (by omega)]; omega)⟩, by simp [intOf]; omega⟩
        | exact ⟨⟨k + 1, N * 16 + (((s[k].toNat : Nat) : Int) - 87), by omega, by go_num, by rw [show ((s[k].toNat : Nat) : Int) - 97 + 10 = ((s[k].toNat : Nat) : Int) - 87 from by omega, ho2 (by omega) (by omega)], HR.out _ (by omega) (by omega) (by unfold dig; rw [if_neg (by omega)]; omega)⟩, by simp [intOf]; omega⟩
        | (go_ret2; exact ⟨.inr ⟨fun v a b c => by have := HT.out v c; unfold dig at this; split at this <;> omega, rfl⟩, rfl⟩)
    · have : k = 16 := by omega
      subst this
      have hr1 := hr.2.1
      have HR := Lib.hid hr
      clear hr
      go_wp2_with fail
      go_ret2
      exact ⟨.inl ⟨N, HR.out.1, by simpa using hr1, HR.out.text h16, rfl⟩, rfl⟩
end Go.Proofs.YtiegocnmijheoaaDoor
