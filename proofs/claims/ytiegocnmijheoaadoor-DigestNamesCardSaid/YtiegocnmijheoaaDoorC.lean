/- WALKS of layer 6: a number's text, base 16. -/
import Derived.Test.YtiegocnmijheoaaDoorB
import Derived.Laws.Bits64b
set_option linter.unusedVariables false
namespace Go.Proofs.YtiegocnmijheoaaDoor
open Go.RowKit Go.ChangeShapes Go.WideShapes Go.ChangeAt

/-- The one place of the library's table that is read. -/
def Tab (w : World) : Prop := w.cell? ⟨5, 15, none⟩ = some (.int .u8 4)
abbrev digs : ByteArray := ⟨#[48, 49, 50, 51, 52, 53, 54, 55, 56, 57, 97, 98, 99, 100, 101, 102, 103, 104, 105, 106, 107, 108, 109, 110, 111, 112, 113, 114, 115, 116, 117, 118, 119, 120, 121, 122]⟩
/-- A digit's sign. -/
def dig (d : Int) : Int := if d < 10 then 48 + d else 87 + d
theorem digs_at (n : Nat) (h : n < digs.size) (h16 : n < 16) : ((digs[n].toNat : Nat) : Int) = dig n := by
  have : ∀ n : Fin 16, (((digs.data.toList.getD n.val 0).toNat : Nat) : Int) = dig n.val := by decide
  have hn := this ⟨n, h16⟩
  rw [show digs.data.toList.getD n 0 = digs[n] from by
    rw [List.getD_eq_getElem?_getD, List.getElem?_eq_getElem (show n < digs.data.toList.length from h)]; rfl] at hn
  exact hn
/-- The text's digits: j + 1 of them. -/
def hexL (u : Int) (j : Nat) : List Int := (List.range (j + 1)).map fun i => dig (u / 16 ^ (j - i) % 16)
theorem and15 (x : Int) (h0 : 0 ≤ x) (h1 : x < 18446744073709551616) : bits BinOp.and IntKind.u64 x 15 = x % 16 := by
  obtain ⟨n, rfl⟩ : ∃ n : Nat, x = n := ⟨x.toNat, by omega⟩
  have : bits BinOp.and IntKind.u64 (n : Int) 15 = ((n &&& 15 : Nat) : Int) := bits_and_u64_nat n 15 (by omega) (by decide)
  rw [this, show (15 : Nat) = 2 ^ 4 - 1 from rfl, Nat.and_two_pow_sub_one_eq_mod]
  rfl
/-- The row of the digits. -/
def Hex (w : World) (g : Nat) (u : Int) (j : Nat) : Prop := (∀ t, t < 65 → w.cell? ⟨g, t, none⟩ = some (.int .u8 (if 65 ≤ t + j then dig (u / 16 ^ (64 - t) % 16) else 0))) ∧ ∀ t, w.frozen? ⟨g, t, none⟩ = false
theorem Hex.next {w : World} {g : Nat} {u : Int} {j : Nat} (h : Hex w g u j) (hj : j < 65) : Hex (w.setCell ⟨g, 64 - j, none⟩ (.int .u8 (dig (u / 16 ^ j % 16)))) g u (j + 1) := by
  refine ⟨fun t ht => ?_, fun t => by rw [World.frozen?_setCell]; exact h.2 t⟩
  by_cases he : t = 64 - j
  · subst he
    rw [World.cell?_setCell_same _ _ _ (h.1 (64 - j) (by omega)), if_pos (by omega), show 64 - (64 - j) = j from by omega]
  · rw [World.cell?_setCell_other _ _ _ _ (by simp; try omega), h.1 t ht]
    by_cases h2 : 65 ≤ t + j
    · rw [if_pos h2, if_pos (by omega)]
    · rw [if_neg h2, if_neg (by omega)]

theorem zero65 (t : Nat) (h : t < 65) : Tryd.zeroCells92[t]? = some (.int .u8 0) := by
  rw [show Tryd.zeroCells92 = Array.replicate 65 (.int .u8 0) from by kernel_rfl]
  simp [h]
theorem slice_tail (g j : Nat) (h : j ≤ 64) (W : World) : (Instr.sliceAt 92 (.pointer (some ⟨g, 0, none⟩)) (some (.int .i64 ((64 - j : Nat) : Int))) none none).run Tryd.prog W = .ok (.slice (some ⟨g, 64 - j, none⟩) (j + 1) (j + 1)) W := by
  have hu : Tryd.prog.underlying 92 = some (.array (Tryd.prog.arrayLen 92) (Tryd.prog.elem 92)) := by kernel_rfl
  have hn : Tryd.prog.arrayLen 92 = 65 := by kernel_rfl
  have he : Tryd.prog.elem 92 = 5 := by kernel_rfl
  have hs : (sizeOf 5).run Tryd.prog W = .ok 1 W := by kernel_rfl
  rw [run_sliceAt_array_l W 92 ⟨g, 0, none⟩ hu .i64 _ (by omega) (by rw [hn]; omega), he, hs, hn]
  simp only [Result.andThen_ok, slicedAt, Int.toNat_natCast]
  rw [if_neg (by omega), show 65 - (64 - j) = j + 1 from by omega]
  unfold Addr.add
  simp
  intro h; exact h.symm
theorem conv_hex (W : World) (g : Nat) (u : Int) (j : Nat) (hj : j ≤ 15) (h : Hex W g u (j + 1)) : (convert 35 9 (.slice (some ⟨g, 64 - j, none⟩) (j + 1) (j + 1))).run Tryd.prog W = .ok (.string (strOfNums (hexL u j))) W :=
  run_convert_bytes_arg W 35 5 Tryd.underlying35 Tryd.underlying5 g (64 - j) (j + 1) (j + 1) (hexL u j) (by simp [hexL]) (fun i hi => by
    rw [h.1 (64 - j + i) (by omega), if_pos (by omega), show 64 - (64 - j + i) = j - i from by omega]
    congr 2
    simp [hexL, List.getD_eq_getElem?_getD, List.getElem?_map, List.getElem?_range hi]) 9 Tryd.underlying9

set_option maxRecDepth 20000 in
theorem fmt_any (u : Int) (w : World) (h0 : 0 ≤ u) (h1 : u < 18446744073709551616) (ht : Tab w) (hz : 5 < w.heap.size) : Calls Tryd.prog 51 #[.slice none 0 0, .int .u64 u, .int .i64 16, .bool false, .bool false] w fun e w' =>
    (∃ j, j ≤ 15 ∧ u < 16 ^ (j + 1) ∧ (j = 0 ∨ 16 ^ j ≤ u) ∧ e = .returned (.tuple #[.slice none 0 0, .string (strOfNums (hexL u j))])) ∧ Below w.heap.size w w' := by
  have e1 : bits BinOp.and IntKind.i64 16 15 = 0 := by kernel_rfl
  have e2 : bits BinOp.and IntKind.u64 16 (IntKind.u64.wrap (-16)) = 16 := by kernel_rfl
  have e3 : IntKind.u64.wrap (16 * 285870213051353865) / 288230376151711744 = 15 := by kernel_rfl
  unfold Tab at ht
  go_enter Tryd.func51, Tryd.ntmps51
  go_wp2
  clear e1 e2 e3 ht
  go_loopw [1, 13] (fun v i wr => ∃ j : Nat, j ≤ 15 ∧ u / 16 ^ j < 16 ^ (16 - j) ∧ (j = 0 ∨ 1 ≤ u / 16 ^ j) ∧ v = .int .u64 (u / 16 ^ j) ∧ i = .int .i64 (65 - (j : Int)) ∧ Hex wr w.heap.size u j ∧ Below w.heap.size w wr ∧ w.heap.size < wr.heap.size) (fun v _ _ => (intOf v).toNat)
  case atStart =>
    refine ⟨0, by omega, by simpa using h1, .inl rfl, by simp, rfl, ⟨fun t ht => ?_, fun t => World.frozen?_alloc_new w _ _ _⟩, (Below.refl _ _).alloc (Nat.le_refl _) _, by simp⟩
    rw [World.cell?_alloc_new, if_neg (by omega), zero65 t ht]
  case round =>
    obtain ⟨j, hj, hx, hx1, rfl, rfl, hh, hb, hw⟩ := hrel
    have hp : 0 ≤ u / 16 ^ j := Int.ediv_nonneg h0 (by exact_mod_cast Nat.zero_le _)
    have hm : u / 16 ^ j ≤ u := Int.ediv_le_self _ h0
    have hnx : u / 16 ^ (j + 1) = u / 16 ^ j / 16 := by rw [Int.ediv_ediv_of_nonneg (by exact_mod_cast Nat.zero_le _)]; rfl
    have han := and15 (u / 16 ^ j) hp (by omega)
    by_cases hge : 16 ≤ u / 16 ^ j
    · have hj14 : j ≤ 14 := by
        rcases Nat.lt_or_ge j 15 with h | h
        · omega
        · have : j = 15 := by omega
          subst this
          simp at hx
          omega
      have hxn : u / 16 ^ (j + 1) < 16 ^ (16 - (j + 1)) := by
        rw [hnx]
        apply Int.ediv_lt_of_lt_mul (by decide)
        have : (16 : Int) ^ (16 - j) = 16 ^ (16 - (j + 1)) * 16 := by rw [← Int.pow_succ]; congr 1; omega
        omega
      have hcl := hh.1 (64 - j) (by omega)
      have hfz := hh.2 (64 - j)
      have hnext := Lib.hid (hh.next (by omega))
      have HB := Lib.hid hb
      have HX := Lib.hid hxn
      have HN := Lib.hid hnx
      have hd1 : 0 ≤ u / 16 ^ j % 16 := by omega
      have hd2 : u / 16 ^ j % 16 < 16 := by omega
      clear hh hb hxn hnx hx
      have hi0 : (65 : Int) - j - 1 = ((64 - j : Nat) : Int) := by omega
      have hi1 : 64 - j < 65 := by omega
      have hi2 : 0 ≤ (65 : Int) - j := by omega
      generalize u / 16 ^ j = x at *
      have hd := digs_at (x % 16).toNat (by show (x % 16).toNat < 36; omega) (by omega)
      rw [Int.toNat_of_nonneg hd1] at hd
      replace hd := Lib.hid hd
      go_wp2
      refine ⟨⟨_, _, _, _, _, _, _, _, _, _, _, _, _, _, _, _, ?relat, rfl⟩, ?meas⟩
      case relat =>
        refine ⟨j + 1, by omega, HX.out, .inr (by rw [HN.out]; omega), by rw [HN.out], by congr 1; omega, ?_, by have := HB.out; go_grown, by simp; omega⟩
        have hN := hnext.out
        rw [← hd.out] at hN
        exact hN
      case meas => simp [intOf]; omega
    · have hcl := hh.1 (64 - j) (by omega)
      have hfz := hh.2 (64 - j)
      have hnext := Lib.hid (hh.next (by omega))
      have HB := Lib.hid hb
      have hd1 : 0 ≤ u / 16 ^ j % 16 := by omega
      have hxm : u / 16 ^ j % 16 = u / 16 ^ j := by omega
      have hlt16 : u / 16 ^ j < 16 := by omega
      have HE := Lib.hid (show u < 16 ^ (j + 1) ∧ (j = 0 ∨ 16 ^ j ≤ u) from ⟨by
        have h := Int.lt_mul_of_ediv_lt (show (0 : Int) < 16 ^ j from Int.pow_pos (by decide)) hlt16
        rw [Int.pow_succ]; rwa [Int.mul_comm] at h, hx1.imp id fun h => by
        have := (Int.le_ediv_iff_mul_le (show (0 : Int) < 16 ^ j from Int.pow_pos (by decide))).1 h
        omega⟩)
      clear hh hb hnx hx hx1
      have hi0 : (65 : Int) - j - 1 = ((64 - j : Nat) : Int) := by omega
      have hi1 : 64 - j < 65 := by omega
      have hi2 : 0 ≤ (65 : Int) - j := by omega
      generalize u / 16 ^ j = x at *
      have hd := digs_at x.toNat (by show x.toNat < 36; omega) (by omega)
      rw [Int.toNat_of_nonneg hp] at hd
      have hxm' := hxm
      have hnx2 := hnext.out
      rw [hxm, ← hd] at hnx2
      have hsl := slice_tail w.heap.size j (by omega)
      have hcv := conv_hex _ w.heap.size u j (by omega) hnx2
      replace hd := Lib.hid hd
      clear hnx2 hxm'
      go_wp2
      go_ret2
      exact ⟨⟨j, hj, HE.out.1, HE.out.2, rfl⟩, by have := HB.out; go_grown⟩
end Go.Proofs.YtiegocnmijheoaaDoor
