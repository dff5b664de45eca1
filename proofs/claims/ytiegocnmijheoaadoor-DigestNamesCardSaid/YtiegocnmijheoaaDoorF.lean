/- WALKS of layer 6: ParseUint at base 16. -/
import Derived.Test.YtiegocnmijheoaaDoorE
import Derived.Laws.IdiomStrings
import Derived.Deep.AppendLies
set_option linter.unusedVariables false
namespace Go.Proofs.YtiegocnmijheoaaDoor
open Go.RowKit Go.ChangeShapes Go.WideShapes Go.ChangeAt

theorem lower_any (c : Int) (w : World) : Calls Tryd.prog 42 #[.int .u8 c] w fun e w' => e = .returned (.int .u8 (bits .or .u8 c 32)) ∧ w = w' := by
  go_enter Tryd.func42, Tryd.ntmps42
  go_wp2
  go_ret
  exact ⟨rfl, rfl⟩
theorem add0 (g k : Nat) : (⟨g, 0, none⟩ : Addr).add k = ⟨g, k, none⟩ := by unfold Addr.add; split <;> simp_all
theorem bytes_of (s : ByteArray) (w : World) : ∃ (c : Nat) (w1 : World), (convert 9 35 (.string s)).run Tryd.prog w = .ok (.slice (some ⟨w.heap.size, 0, none⟩) s.size c) w1 ∧
    (∀ k, (h : k < s.size) → w1.cell? ⟨w.heap.size, k, none⟩ = some (.int .u8 ((s[k].toNat : Nat) : Int))) ∧ Below w.heap.size w w1 := by
  refine ⟨_, _, run_bytes_of_string w 9 35 5 s Tryd.underlying9 Tryd.underlying35 Tryd.underlying5, fun k h => ?_, ?_⟩
  · have := World.news_of_block (heap_alloc_new w.drew (.cells (bytesRow s (grownCap w s.size 0 5)) 5 ((bytesRow s (grownCap w s.size 0 5)).size, (bytesRow s (grownCap w s.size 0 5)).size + 1))) k _ (by rw [Array.getElem?_toList]; exact bytesRow_at s _ k h)
    rw [add0] at this
    exact this
  · exact (Below.refl _ _).drew.alloc (Nat.le_refl _) _
theorem low_hex (c : UInt8) : 97 ≤ c.toNat → c.toNat ≤ 102 → bits .or .u8 ((c.toNat : Nat) : Int) 32 = ((c.toNat : Nat) : Int) := by
  revert c
  have : ∀ n : Fin 256, 97 ≤ n.val → n.val ≤ 102 → bits .or .u8 ((n.val : Nat) : Int) 32 = ((n.val : Nat) : Int) := by decide +kernel
  exact fun c => this ⟨c.toNat, c.toNat_lt⟩
theorem low_rng (c : UInt8) : 0 ≤ bits .or .u8 ((c.toNat : Nat) : Int) 32 ∧ bits .or .u8 ((c.toNat : Nat) : Int) 32 < 256 := by
  revert c
  have : ∀ n : Fin 256, 0 ≤ bits .or .u8 ((n.val : Nat) : Int) 32 ∧ bits .or .u8 ((n.val : Nat) : Int) 32 < 256 := by decide +kernel
  exact fun c => this ⟨c.toNat, c.toNat_lt⟩
theorem getD_byte (s : ByteArray) (k : Nat) (h : k < s.size) : s.data.toList.getD k 0 = s[k] := by
  rw [List.getD_eq_getElem?_getD, List.getElem?_eq_getElem (show k < s.data.toList.length from h)]; rfl
/-- Of a sum's text: its digits. -/
theorem text_at {s : ByteArray} {v : Int} (h : s = strOfNums (hexL v 15)) (k : Nat) (hk : k < s.size) : k < 16 ∧ ((s[k].toNat : Nat) : Int) = dig (v / 16 ^ (15 - k) % 16) := by
  subst h
  have h16 : k < 16 := by rw [strOfNums_size, hexL_len] at hk; exact hk
  refine ⟨h16, ?_⟩
  rw [← getD_byte _ k hk, strOfNums_data, show ((hexL v 15).map fun n => UInt8.ofNat n.toNat).getD k 0 = UInt8.ofNat (dig (v / 16 ^ (15 - k) % 16)).toNat from by
    simp [hexL, List.getD_eq_getElem?_getD, List.getElem?_map, List.getElem?_range h16], UInt8.toNat_ofNat']
  have hd : 48 ≤ dig (v / 16 ^ (15 - k) % 16) ∧ dig (v / 16 ^ (15 - k) % 16) < 256 := by unfold dig; split <;> omega
  omega

theorem pu_key {v N L : Int} {k : Nat} {c : UInt8} (hN : N = v / 16 ^ (16 - k)) (v0 : 0 ≤ v) (v1 : v < 18446744073709551616) (hk : k < 16) (hd : ((c.toNat : Nat) : Int) = dig (v / 16 ^ (15 - k) % 16)) (hl : 97 ≤ c.toNat → c.toNat ≤ 102 → L = ((c.toNat : Nat) : Int)) :
    ((48 ≤ ((c.toNat : Nat) : Int) ∧ ((c.toNat : Nat) : Int) ≤ 57 ∧ v / 16 ^ (16 - (k + 1)) = N * 16 + (((c.toNat : Nat) : Int) - 48)) ∨ (97 ≤ ((c.toNat : Nat) : Int) ∧ ((c.toNat : Nat) : Int) ≤ 102 ∧ L = ((c.toNat : Nat) : Int) ∧ v / 16 ^ (16 - (k + 1)) = N * 16 + (((c.toNat : Nat) : Int) - 87))) ∧ N < 1152921504606846976 := by
  have hy : v / 16 ^ (16 - k) = v / 16 ^ (15 - k) / 16 := by
    rw [Int.ediv_ediv_of_nonneg (by exact_mod_cast Nat.zero_le _), ← Int.pow_succ]
    congr 2
    omega
  have hle : v / 16 ^ (15 - k) ≤ v := Int.ediv_le_self _ v0
  rw [show 16 - (k + 1) = 15 - k from by omega]
  generalize v / 16 ^ (15 - k) = y at *
  subst hN
  rw [hy]
  unfold dig at hd
  split at hd
  · exact ⟨.inl (by omega), by omega⟩
  · have := hl (by omega) (by omega)
    exact ⟨.inr (by omega), by omega⟩
/-- What the numeral's reader gives: some number and some error; of a sum's text the sum, and none. -/
def PuPost (s : ByteArray) (e : Ending) : Prop := ∃ (x : Int) (er : Value), e = .returned (.tuple #[.int .u64 x, er]) ∧ 0 ≤ x ∧ x < 18446744073709551616 ∧ (∀ v : Int, 0 ≤ v → v < 18446744073709551616 → s = strOfNums (hexL v 15) → x = v ∧ er = .nilIface) ∧ (er = .nilIface ∨ ∃ k : Int, er = .iface 67 (.int .i64 k) ∧ (k = 1 ∨ k = 2))
set_option maxRecDepth 20000 in
set_option maxHeartbeats 2000000 in
theorem pu_any (s : ByteArray) (w : World) (hs : s.size ≤ 20000) : Calls Tryd.prog 32 #[.string s, .int .i64 16, .int .i64 64] w fun e w' => PuPost s e ∧ Below w.heap.size w w' := by
  by_cases h0 : s.size = 0
  · have he : s.toList.isEmpty = true := by
      rw [ByteArray.toList_eq]
      have : s.data.toList = [] := List.eq_nil_of_length_eq_zero (by rw [Array.length_toList]; exact h0)
      rw [this]; rfl
    go_enter Tryd.func32, Tryd.ntmps32
    go_wp2_with fail
    go_ret2
    exact ⟨⟨_, _, rfl, by decide, by decide, fun v _ _ hv => by exfalso; rw [hv, strOfNums_size, hexL_len] at h0; omega, .inr ⟨_, rfl, by first | exact .inl rfl | exact .inr rfl⟩⟩, Below.refl _ _⟩
  have he : s.toList.isEmpty = false := by
    rw [ByteArray.toList_eq]
    cases hl : s.data.toList with
    | nil => exfalso; apply h0; show s.data.size = 0; rw [← Array.length_toList, hl]; rfl
    | cons _ _ => rfl
  obtain ⟨c, w1, hcv, hcell, hb⟩ := bytes_of s w
  have hmx : IntKind.u64.wrap (IntKind.u64.wrap 18446744073709551616 - 1) = 18446744073709551615 := by kernel_rfl
  go_enter Tryd.func32, Tryd.ntmps32
  go_wp2_with fail
  have HC := Lib.hid hcell
  have HB := Lib.hid hb
  clear hcell hb hcv
  go_loop [12, 13, 101] (fun un v i => ∃ (k : Nat) (N : Int), k ≤ s.size ∧ i = .int .i64 k ∧ un = .bool false ∧ v = .int .u64 N ∧ 0 ≤ N ∧ N < 18446744073709551616 ∧ (∀ v : Int, 0 ≤ v → v < 18446744073709551616 → s = strOfNums (hexL v 15) → N = v / 16 ^ (16 - k))) (fun _ _ i => s.size - (intOf i).toNat)
  case atStart => exact ⟨0, 0, Nat.zero_le _, rfl, rfl, rfl, by omega, by omega, fun v h0 h1 _ => by rw [Int.ediv_eq_zero_of_lt h0]; simpa using h1⟩
  case round =>
    obtain ⟨k, N, hk, rfl, rfl, rfl, hN0, hN1, hNv⟩ := hrel
    by_cases hlt : k < s.size
    · have hcl := HC.out k hlt
      have hcb := s[k].toNat_lt
      have hlh := Lib.hid (low_hex s[k])
      have hlr := low_rng s[k]
      have HK := Lib.hid (fun (v : Int) (v0 : 0 ≤ v) (v1 : v < 18446744073709551616) (hv : s = strOfNums (hexL v 15)) => pu_key (hNv v v0 v1 hv) v0 v1 (text_at hv k hlt).1 (text_at hv k hlt).2 (low_hex s[k]))
      clear hNv
      generalize s[k] = ch at *
      have h95 : bits .or .u8 95 32 = 127 := by kernel_rfl
      generalize hL : bits .or .u8 ((ch.toNat : Nat) : Int) 32 = L at *
      go_wp2_with (go_at_call 42; refine (lower_any _ _).mono ?_; rintro e w2 ⟨rfl, rfl⟩)
      all_goals first
        | (go_ret2; exact ⟨⟨_, _, rfl, by omega, by omega, fun v v0 v1 hv => by exfalso; have := HK.out v v0 v1 hv; omega, .inr ⟨_, rfl, by first | exact .inl rfl | exact .inr rfl⟩⟩, HB.out⟩)
        | exact ⟨⟨k + 1, _, by omega, by go_num, rfl, rfl, by omega, by omega, fun v v0 v1 hv => by have := HK.out v v0 v1 hv; omega⟩, by simp [intOf]; omega⟩
    · have hkl : k = s.size := by omega
      subst hkl
      go_wp2_with fail
      go_ret2
      refine ⟨⟨_, _, rfl, hN0, hN1, fun v v0 v1 hv => ⟨?_, rfl⟩, .inl rfl⟩, HB.out⟩
      have h16 : s.size = 16 := by rw [hv, strOfNums_size, hexL_len]
      rw [hNv v v0 v1 hv, h16]
      simp
end Go.Proofs.YtiegocnmijheoaaDoor
