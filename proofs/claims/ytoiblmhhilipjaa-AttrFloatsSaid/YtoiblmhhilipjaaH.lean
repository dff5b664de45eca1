/- WALKS of layer 26: the laws AttrFloats, AttrTwice. -/
import Derived.Test.YtoiblmhhilipjaaF
set_option linter.unusedVariables false
namespace Go.Proofs.Ytoiblmhhilipjaa
open Go.RowKit Go.ChangeShapes Go.WideShapes Go.ChangeAt

theorem RdI.below {W W' : World} {A : Option Addr} {l : List Int} (h : RdI W A l) (hb : Below W.heap.size W W') : RdI W' A l := by
  intro hl
  obtain ⟨b, off, e, hc⟩ := h hl
  exact ⟨b, off, e, fun k hk => (hb.cell (p := ⟨b, off + k, none⟩) (World.block_lt_of_cell? W _ (hc k hk))).trans (hc k hk)⟩

set_option maxHeartbeats 1000000 in
theorem floats_walk (n all a b : Int) (A : Option Addr) (c : Nat) (l : List Int) (w : World) (hw : ∀ n ∈ l, n.natAbs < 2 ^ 64) (hl : l.length ≤ 9223372036854775807) (h : RdI w A l) :
    Calls Try.prog 4 #[.int .i64 n, .int .i64 all, .slice A l.length c, .int .u64 a, .int .u64 b] w fun e w' => e = .returned (.bool true) ∧ Below w.heap.size w w' := by
  have H0 := Lib.hid h
  have HW := Lib.hid hw
  clear h hw
  by_cases h3 : l.length ≤ 3000
  · go_enter Try.func4, Try.ntmps4
    go_wp2_with fail
    refine (part_any _ _ _).mono ?_
    rintro e w1 ⟨rfl, hb⟩
    have H1 := Lib.hid (H0.out.below hb)
    have B1 := Lib.hid hb
    have hz := hb.size
    clear hb
    go_wp2_with fail
    refine (refpart_any _ _ _).mono ?_
    rintro e w2 ⟨rfl, hb⟩
    have H2 := Lib.hid (H1.out.below hb)
    have hz2 : w.heap.size ≤ w2.heap.size := by have := hb.size; omega
    have B2 := Lib.hid (B1.out.trans (hb.mono hz))
    clear hb
    go_wp2_with fail
    refine (mean_any _ _ _ _ HW.out hl H2.out).mono ?_
    rintro e w3 ⟨rfl, hb⟩
    have H3 := Lib.hid (H2.out.below hb)
    have hz3 : w.heap.size ≤ w3.heap.size := by have := hb.size; omega
    have B3 := Lib.hid (B2.out.trans (hb.mono hz2))
    clear hb
    go_wp2_with fail
    refine (refmean_any _ _ _ _ HW.out hl H3.out).mono ?_
    rintro e w4 ⟨rfl, hb⟩
    have hz4 : w.heap.size ≤ w4.heap.size := by have := hb.size; omega
    have B4 := Lib.hid (B3.out.trans (hb.mono hz3))
    clear hb
    go_wp2_with fail
    refine (less_any _ _ _).mono ?_
    rintro e w5 ⟨rfl, rfl⟩
    go_wp2_with fail
    refine (refless_any _ _ _).mono ?_
    rintro e w5 ⟨rfl, rfl⟩
    go_wp2_with fail
    refine (awake_any _).mono ?_
    rintro e w5 ⟨rfl, hb⟩
    have B5 := Lib.hid (B4.out.trans (hb.mono hz4))
    clear hb
    go_wp2_with fail
    go_ret
    exact ⟨ret_bool (by simp), B5.out⟩
  · go_enter Try.func4, Try.ntmps4
    go_wp2_with (go_at_call 12; refine (awake_any _).mono ?_; rintro e w1 ⟨rfl, hb⟩; have B1 := Lib.hid hb; clear hb)
    go_ret
    exact ⟨rfl, B1.out⟩
end Go.Proofs.Ytoiblmhhilipjaa
