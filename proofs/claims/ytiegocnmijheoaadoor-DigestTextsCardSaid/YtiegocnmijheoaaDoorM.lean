/- LAYER 6: plain facts of sums; WALKS of DigestOn, DigestByte, DigestTexts. -/
import Derived.Test.YtiegocnmijheoaaDoorJ
set_option linter.unusedVariables false
namespace Go.Proofs.YtiegocnmijheoaaDoor
open Go.RowKit Go.ChangeShapes Go.WideShapes Go.ChangeAt

theorem fnv_nat (n m : Nat) (hn : n < 18446744073709551616) (hm : m < 18446744073709551616) : fnv (n : Int) (m : Int) = (((n ^^^ m) * 1099511628211 % 18446744073709551616 : Nat) : Int) := by
  unfold fnv
  rw [bits_xor_u64_nat n m hn hm, IntKind.wrap_u64]
  omega
theorem fnv_rng (u c : Int) : 0 ≤ fnv u c ∧ fnv u c < 18446744073709551616 := by
  unfold fnv
  rw [IntKind.wrap_u64]
  omega
theorem mul_inj (a b : Nat) (ha : a < 18446744073709551616) (hb : b < 18446744073709551616) (h : a * 1099511628211 % 18446744073709551616 = b * 1099511628211 % 18446744073709551616) : a = b := by
  have key : ∀ a : Nat, a < 18446744073709551616 → (a * 1099511628211 % 18446744073709551616) * 14886173955864302971 % 18446744073709551616 = a := by
    intro a ha
    rw [Nat.mod_mul_mod, Nat.mul_assoc, Nat.mul_mod, show (1099511628211 * 14886173955864302971) % 18446744073709551616 = 1 from by decide, Nat.mul_one, Nat.mod_mod]
    exact Nat.mod_eq_of_lt ha
  rw [← key a ha, h, key b hb]
theorem fnv_inj {u v c : Int} (u0 : 0 ≤ u) (u1 : u < 18446744073709551616) (v0 : 0 ≤ v) (v1 : v < 18446744073709551616) (c0 : 0 ≤ c) (c1 : c < 18446744073709551616) (h : fnv u c = fnv v c) : u = v := by
  obtain ⟨n, rfl⟩ : ∃ n : Nat, u = n := ⟨u.toNat, by omega⟩
  obtain ⟨k, rfl⟩ : ∃ n : Nat, v = n := ⟨v.toNat, by omega⟩
  obtain ⟨m, rfl⟩ : ∃ n : Nat, c = n := ⟨c.toNat, by omega⟩
  rw [fnv_nat n m (by omega) (by omega), fnv_nat k m (by omega) (by omega)] at h
  have h2 := mul_inj _ _ (Nat.xor_lt_two_pow (n := 64) (by omega) (by omega)) (Nat.xor_lt_two_pow (n := 64) (by omega) (by omega)) (Int.ofNat.inj h)
  have := congrArg (· ^^^ m) h2
  simp only [Nat.xor_assoc, Nat.xor_self, Nat.xor_zero] at this
  omega
theorem fnv_inj2 {u c d : Int} (u0 : 0 ≤ u) (u1 : u < 18446744073709551616) (d0 : 0 ≤ d) (d1 : d < 18446744073709551616) (c0 : 0 ≤ c) (c1 : c < 18446744073709551616) (h : fnv u c = fnv u d) : c = d := by
  obtain ⟨n, rfl⟩ : ∃ n : Nat, u = n := ⟨u.toNat, by omega⟩
  obtain ⟨k, rfl⟩ : ∃ n : Nat, d = n := ⟨d.toNat, by omega⟩
  obtain ⟨m, rfl⟩ : ∃ n : Nat, c = n := ⟨c.toNat, by omega⟩
  rw [fnv_nat n m (by omega) (by omega), fnv_nat n k (by omega) (by omega)] at h
  have h2 := mul_inj _ _ (Nat.xor_lt_two_pow (n := 64) (by omega) (by omega)) (Nat.xor_lt_two_pow (n := 64) (by omega) (by omega)) (Int.ofNat.inj h)
  have := congrArg (n ^^^ ·) h2
  simp only [← Nat.xor_assoc, Nat.xor_self, Nat.zero_xor] at this
  omega
theorem fold_rng : ∀ (l : List UInt8) (u : Int), 0 ≤ u → u < 18446744073709551616 → 0 ≤ fold u l ∧ fold u l < 18446744073709551616
  | [], u, h0, h1 => ⟨h0, h1⟩
  | c :: l, u, h0, h1 => fold_rng l (fnv u c.toNat) (fnv_rng u _).1 (fnv_rng u _).2
theorem fold_inj : ∀ (l : List UInt8) (u v : Int), 0 ≤ u → u < 18446744073709551616 → 0 ≤ v → v < 18446744073709551616 → fold u l = fold v l → u = v
  | [], u, v, _, _, _, _, h => h
  | c :: l, u, v, u0, u1, v0, v1, h => by
    have hc := c.toNat_lt
    exact fnv_inj u0 u1 v0 v1 (c := (c.toNat : Int)) (by omega) (by omega) (fold_inj l _ _ (fnv_rng u _).1 (fnv_rng u _).2 (fnv_rng v _).1 (fnv_rng v _).2 h)
theorem begin_rng : 0 ≤ begin_ ∧ begin_ < 18446744073709551616 := by unfold begin_; omega
theorem sum_rng (l : List UInt8) : 0 ≤ fold begin_ l ∧ fold begin_ l < 18446744073709551616 := fold_rng l _ begin_rng.1 begin_rng.2
theorem on_law (a b e : List UInt8) : ((fold begin_ a == fold begin_ b) == (fold begin_ (a ++ e) == fold begin_ (b ++ e))) = true := by
  rw [fold_append, fold_append, beq_iff_eq, Bool.eq_iff_iff, beq_iff_eq, beq_iff_eq]
  exact ⟨fun h => by rw [h], fold_inj e _ _ (sum_rng a).1 (sum_rng a).2 (sum_rng b).1 (sum_rng b).2⟩
theorem byte_law (a : List UInt8) (b c : UInt8) (e : List UInt8) : ((fold begin_ (a ++ [b] ++ e) == fold begin_ (a ++ [c] ++ e)) == (((b.toNat : Nat) : Int) == ((c.toNat : Nat) : Int))) = true := by
  rw [fold_append begin_ (a ++ [b]) e, fold_append begin_ (a ++ [c]) e, fold_snoc, fold_snoc, beq_iff_eq, Bool.eq_iff_iff, beq_iff_eq, beq_iff_eq]
  have hb := b.toNat_lt
  have hc := c.toNat_lt
  exact ⟨fun h => fnv_inj2 (sum_rng a).1 (sum_rng a).2 (by omega) (by omega) (by omega) (by omega) (fold_inj e _ _ (fnv_rng _ _).1 (fnv_rng _ _).2 (fnv_rng _ _).1 (fnv_rng _ _).2 h), fun h => by rw [h]⟩

set_option maxHeartbeats 1000000 in
theorem on_walk (a b c : ByteArray) (w : World) (hl : Libs w) (ha : a.size ≤ maxLen) (hb : b.size ≤ maxLen) (hc : c.size ≤ maxLen) : Calls Tryd.prog 8 #[.string a, .string b, .string c] w fun e w' => e = .returned (.bool true) ∧ Below w.heap.size w w' := by
  have AW := Lib.hid (fun w (h : Libs w) => awake06 w h)
  replace hl := Lib.hid hl
  unfold maxLen at ha hb hc
  by_cases h1 : 5000 < a.size
  · go_enter Tryd.func8, Tryd.ntmps8
    go_wp2_with fail
    refine (AW.out _ hl.out).mono ?_
    rintro e w1 ⟨rfl, hb1⟩
    go_wp2_with fail
    go_ret
    exact ⟨rfl, hb1⟩
  by_cases h2 : 5000 < b.size
  · go_enter Tryd.func8, Tryd.ntmps8
    go_wp2_with fail
    refine (AW.out _ hl.out).mono ?_
    rintro e w1 ⟨rfl, hb1⟩
    go_wp2_with fail
    go_ret
    exact ⟨rfl, hb1⟩
  by_cases h3 : 5000 < c.size
  · go_enter Tryd.func8, Tryd.ntmps8
    go_wp2_with fail
    refine (AW.out _ hl.out).mono ?_
    rintro e w1 ⟨rfl, hb1⟩
    go_wp2_with fail
    go_ret
    exact ⟨rfl, hb1⟩
  have F1 := Lib.hid (fun w => sum_any (a ++ c) w (by rw [ByteArray.size_append]; omega))
  have F2 := Lib.hid (fun w => sum_any (b ++ c) w (by rw [ByteArray.size_append]; omega))
  have E1 : (a ++ c).data.toList = a.data.toList ++ c.data.toList := by rw [ByteArray.data_append, Array.toList_append]
  have E2 : (b ++ c).data.toList = b.data.toList ++ c.data.toList := by rw [ByteArray.data_append, Array.toList_append]
  rw [E1] at F1
  rw [E2] at F2
  have LW := Lib.hid (on_law a.data.toList b.data.toList c.data.toList)
  clear E1 E2
  go_enter Tryd.func8, Tryd.ntmps8
  go_wp2_with fail
  refine (AW.out _ hl.out).mono ?_
  rintro e w1 ⟨rfl, hb1⟩
  have HB := Lib.hid hb1
  clear hb1
  go_wp2_with fail
  refine (sum_any a _ (by omega)).mono ?_
  rintro e w2 ⟨rfl, rfl⟩
  go_wp2_with fail
  refine (sum_any b _ (by omega)).mono ?_
  rintro e w2 ⟨rfl, rfl⟩
  generalize fold begin_ a.data.toList = fa at *
  generalize fold begin_ b.data.toList = fb at *
  go_wp2_with fail
  refine (F1.out _).mono ?_
  rintro e w2 ⟨rfl, rfl⟩
  go_wp2_with fail
  refine (F2.out _).mono ?_
  rintro e w2 ⟨rfl, rfl⟩
  go_wp2_with fail
  go_ret
  exact ⟨ret_bool LW.out, HB.out⟩

theorem byte_str (a e : ByteArray) (b : UInt8) : (a ++ strOfNums [((b.toNat : Nat) : Int)] ++ e).data.toList = a.data.toList ++ [b] ++ e.data.toList := by
  rw [ByteArray.data_append, ByteArray.data_append, Array.toList_append, Array.toList_append, strOfNums_data]
  simp
theorem append_str (a e : ByteArray) : (a ++ e).data.toList = a.data.toList ++ e.data.toList := by rw [ByteArray.data_append, Array.toList_append]
set_option maxHeartbeats 1000000 in
theorem byte_walk (a c : ByteArray) (x y : UInt8) (w : World) (hl : Libs w) (ha : a.size ≤ maxLen) (hc : c.size ≤ maxLen) : Calls Tryd.prog 6 #[.string a, .int .u8 ((x.toNat : Nat) : Int), .int .u8 ((y.toNat : Nat) : Int), .string c] w fun e w' => e = .returned (.bool true) ∧ Below w.heap.size w w' := by
  have AW := Lib.hid (fun w (h : Libs w) => awake06 w h)
  replace hl := Lib.hid hl
  unfold maxLen at ha hc
  by_cases h1 : 5000 < a.size
  · go_enter Tryd.func6, Tryd.ntmps6
    go_wp2_with fail
    refine (AW.out _ hl.out).mono ?_
    rintro e w1 ⟨rfl, hb1⟩
    go_wp2_with fail
    go_ret
    exact ⟨rfl, hb1⟩
  by_cases h2 : 5000 < c.size
  · go_enter Tryd.func6, Tryd.ntmps6
    go_wp2_with fail
    refine (AW.out _ hl.out).mono ?_
    rintro e w1 ⟨rfl, hb1⟩
    go_wp2_with fail
    go_ret
    exact ⟨rfl, hb1⟩
  have hs1 : ∀ n : Int, (strOfNums [n]).size = 1 := fun n => strOfNums_size _
  have F1 := Lib.hid (fun w => sum_any (a ++ strOfNums [((x.toNat : Nat) : Int)] ++ c) w (by rw [ByteArray.size_append, ByteArray.size_append, hs1]; omega))
  have F2 := Lib.hid (fun w => sum_any (a ++ strOfNums [((y.toNat : Nat) : Int)] ++ c) w (by rw [ByteArray.size_append, ByteArray.size_append, hs1]; omega))
  rw [byte_str] at F1 F2
  have LW := Lib.hid (byte_law a.data.toList x y c.data.toList)
  have hcv := conv1
  have hx := x.toNat_lt
  have hy := y.toNat_lt
  go_enter Tryd.func6, Tryd.ntmps6
  go_wp2_with fail
  refine (AW.out _ hl.out).mono ?_
  rintro e w1 ⟨rfl, hb1⟩
  have HB := Lib.hid hb1
  clear hb1
  go_wp2_with fail
  refine (F1.out _).mono ?_
  rintro e w2 ⟨rfl, rfl⟩
  go_wp2_with fail
  refine (F2.out _).mono ?_
  rintro e w2 ⟨rfl, rfl⟩
  go_wp2_with fail
  go_ret
  exact ⟨ret_bool (by have := LW.out; rw [List.append_assoc, List.append_assoc] at this; exact this), (HB.out.alloc HB.out.size _).alloc (by have := HB.out.size; simp; omega) _⟩
theorem texts_walk (u : Int) (s : ByteArray) (w : World) (hl : Libs w) (u0 : 0 ≤ u) (u1 : u < 18446744073709551616) (hs : s.size ≤ maxLen) : Calls Tryd.prog 7 #[.int .u64 u, .string s] w fun e w' => e = .returned (.bool true) ∧ Below w.heap.size w w' := by
  have AW := Lib.hid (fun w (h : Libs w) => awake06 w h)
  have hll := Lib.hid hl
  unfold maxLen at hs
  by_cases h1 : 5000 < s.size
  · clear hl
    go_enter Tryd.func7, Tryd.ntmps7
    go_wp2_with fail
    refine (AW.out _ hll.out).mono ?_
    rintro e w1 ⟨rfl, hb1⟩
    go_wp2_with fail
    go_ret
    exact ⟨rfl, hb1⟩
  have h20 : s.size ≤ 20000 := by omega
  have TX := Lib.hid (fun w (h : Libs w) => text_any u w u0 u1 h.2.2.1 h.2.2.2)
  have PA := Lib.hid (fun s (hs : s.size ≤ 20000) w (h : Libs w) => parse_any s w hs h.1 h.2.1 h.2.2.1 h.2.2.2)
  clear hl
  go_enter Tryd.func7, Tryd.ntmps7
  go_wp2_with fail
  refine (AW.out _ hll.out).mono ?_
  rintro e w1 ⟨rfl, hb1⟩
  have hl1 := Lib.hid (hll.out.below hb1)
  have HB := Lib.hid hb1
  clear hb1 AW
  go_wp2_with fail
  refine (TX.out _ hl1.out).mono ?_
  rintro e w2 ⟨rfl, hb2⟩
  have hl2 := Lib.hid (hl1.out.below hb2)
  have HB2 := Lib.hid (HB.out.trans (hb2.mono HB.out.size))
  clear hb2 HB
  go_wp2_with fail
  refine (PA.out _ (by rw [strOfNums_size, hexL_len]; decide) _ hl2.out).mono ?_
  rintro e w3 ⟨hp, hb3⟩
  rw [hp.text u0 u1 rfl]
  have hl3 := Lib.hid (hl2.out.below hb3)
  have HB3 := Lib.hid (HB2.out.trans (hb3.mono HB2.out.size))
  clear hb3 HB2 hp
  go_wp2_with fail
  refine (PA.out _ h20 _ hl3.out).mono ?_
  rintro e w4 ⟨hp, hb4⟩
  have hl4 := Lib.hid (hl3.out.below hb4)
  have HB4 := Lib.hid (HB3.out.trans (hb4.mono HB3.out.size))
  clear hb4 HB3
  rcases hp with ⟨v, v0, v1, hs, rfl⟩ | ⟨_, rfl⟩
  · have HS := Lib.hid hs
    clear hs
    go_wp2_with fail
    refine (text_any v _ v0 v1 hl4.out.2.2.1 hl4.out.2.2.2).mono ?_
    rintro e w5 ⟨rfl, hb5⟩
    have HB5 := Lib.hid (HB4.out.trans (hb5.mono HB4.out.size))
    have hc : ((strOfNums (hexL v 15)).toList == s.toList) = true := by rw [HS.out]; simp
    clear hb5 HB4
    go_wp2_with fail
    go_ret
    exact ⟨rfl, HB5.out⟩
  · go_wp2_with fail
    go_ret
    exact ⟨rfl, HB4.out⟩
end Go.Proofs.YtiegocnmijheoaaDoor
