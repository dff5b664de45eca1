/- WALKS of layer 20: Key, Encode. -/
import Derived.Test.YtlkjgnnnamkfeaaC
import Derived.Lib.SlBytesConst
import Derived.Deep.RegionHeld3
set_option linter.unusedVariables false
namespace Go.Proofs.Ytlkjgnnnamkfeaa
open Go.RowKit Go.ChangeShapes Go.WideShapes Go.ChangeAt

theorem app_str (xs ys : List Int) : strOfNums xs ++ strOfNums ys = strOfNums (xs ++ ys) := by
  apply ByteArray.ext
  simp [strOfNums]

/-- A block's cells behind one new block. -/
theorem news_old {w : World} {g : Nat} {cs : Array Value} {t : TypeId} {fr : Nat × Nat} (o : Obj) (h : w.heap[g]? = some (.cells cs t fr)) (hg : g < w.heap.size) : ∀ j u, cs.toList[j]? = some u → (w.alloc o).cell? ((⟨g, 0, none⟩ : Addr).add j) = some u :=
  World.news_of_block ((heap_alloc_old w o hg).trans h)

theorem key_any (n : Int) (w : World) (b1 : -9223372036854775808 ≤ n) (b2 : n ≤ 9223372036854775807) :
    Calls Try.prog 25 #[.int .i64 n] w fun e w' => e = .returned (.string (strOfNums ([105] ++ by4 n))) ∧ Below w.heap.size w w' := by
  have kc := fun (w : World) (C : Array Value) (n c : Nat) => Lib.run_convert_bytes_const (P := Try.prog) w 23 5 C n c Try.underlying23 Try.underlying5
  go_enter Try.func25, Try.ntmps25
  go_wp2_with fail
  refine (put1_full n _ 1 ⟨w.heap.size, 0, none⟩ 1 [105] _ b1 b2 (by simp) rfl (by omega) (news_old _ (heap_alloc_new w _) (by simp)) (by simp; omega)).mono ?_
  rintro e w2 ⟨v, rfl, hown, hb⟩
  have hs := own_str hown (by omega) 23 Try.underlying23
  have HB := Lib.hid ((((Below.refl w.heap.size w).alloc (Nat.le_refl _) _).alloc (by simp) _).trans (hb.mono (by simp; omega)))
  clear hown hb
  go_wp2_with fail
  go_ret
  exact ⟨rfl, HB.out⟩

theorem refkey_any (n : Int) (w : World) (b1 : -9223372036854775808 ≤ n) (b2 : n ≤ 9223372036854775807) :
    Calls Try.prog 26 #[.int .i64 n] w fun e w' => e = .returned (.string (strOfNums ([105] ++ by4 n))) ∧ Below w.heap.size w w' := by
  have H := Lib.hid (app_str [105] (by4 n))
  go_enter Try.func26, Try.ntmps26
  go_wp2_with (go_at_call 40; refine (word_any _ _ b1 b2).mono ?_; rintro e w1 ⟨rfl, hb⟩; have HB := Lib.hid hb; clear hb)
  go_ret
  exact ⟨congrArg (fun s => Ending.returned (.string s)) H.out, HB.out⟩

theorem handle_any (k mo li sz mt ct ino gen snap : Int) (w : World) :
    Calls Try.prog 38 #[.agg #[.int .u8 k, .int .i64 mo, .int .i64 li, .int .i64 sz, .int .i64 mt, .int .i64 ct, .int .i64 ino, .int .i64 gen], .int .i64 snap] w fun e w' => e = .returned (.agg #[.int .i64 snap, .int .i64 ino, .int .i64 gen]) ∧ Below w.heap.size w w' := by
  go_enter Try.func38, Try.ntmps38
  go_wp2_with fail
  all_goals go_returns
  all_goals exact ⟨rfl, by go_grown⟩

/-- An object's bytes. -/
def encL (k mo li sz mt ct ino gen : Int) : List Int := [k] ++ by4 mo ++ by4 li ++ by4 sz ++ by4 mt ++ by4 ct ++ by4 ino ++ by4 gen
def encR (k mo li sz mt ct ino gen : Int) : Value := if mayB k mo li sz mt ct ino gen = true then .tuple #[.string (strOfNums (encL k mo li sz mt ct ino gen)), .int .i64 0] else .tuple #[.string ByteArray.empty, .int .i64 4]

set_option maxHeartbeats 2000000 in
theorem encode_any (k mo li sz mt ct ino gen : Int) (w : World) (lo_mo : -9223372036854775808 ≤ mo) (hi_mo : mo ≤ 9223372036854775807) (lo_li : -9223372036854775808 ≤ li) (hi_li : li ≤ 9223372036854775807) (lo_sz : -9223372036854775808 ≤ sz) (hi_sz : sz ≤ 9223372036854775807) (lo_mt : -9223372036854775808 ≤ mt) (hi_mt : mt ≤ 9223372036854775807) (lo_ct : -9223372036854775808 ≤ ct) (hi_ct : ct ≤ 9223372036854775807) (lo_ino : -9223372036854775808 ≤ ino) (hi_ino : ino ≤ 9223372036854775807) (lo_gen : -9223372036854775808 ≤ gen) (hi_gen : gen ≤ 9223372036854775807) :
    Calls Try.prog 20 #[.agg #[.int .u8 k, .int .i64 mo, .int .i64 li, .int .i64 sz, .int .i64 mt, .int .i64 ct, .int .i64 ino, .int .i64 gen]] w fun e w' => e = .returned (encR k mo li sz mt ct ino gen) ∧ Below w.heap.size w w' := by
  cases hm : mayB k mo li sz mt ct ino gen with
  | false =>
    have H := Lib.hid (show encR k mo li sz mt ct ino gen = .tuple #[.string ByteArray.empty, .int .i64 4] from by unfold encR; rw [hm]; rfl)
    have HM := Lib.hid hm
    clear hm
    go_enter Try.func20, Try.ntmps20
    go_wp2_with fail
    refine (may_any _ _ _ _ _ _ _ _ _).mono ?_
    rintro e w1 ⟨rfl, hb⟩
    have HB := Lib.hid (((Below.refl w.heap.size w).alloc (Nat.le_refl _) _).trans (hb.mono (by simp)))
    rw [HM.out]
    clear hb
    go_wp2_with fail
    go_ret2
    exact ⟨congrArg Ending.returned H.out.symm, HB.out⟩
  | true =>
    have H := Lib.hid (show encR k mo li sz mt ct ino gen = .tuple #[.string (strOfNums (encL k mo li sz mt ct ino gen)), .int .i64 0] from by unfold encR; rw [hm]; rfl)
    have HM := Lib.hid hm
    clear hm
    have i0 : ∀ W : World, (Instr.index 65 (places w.heap.size) (.int .i64 0)).run Try.prog W = .ok (.pointer (some ⟨w.heap.size, 1, none⟩)) W := fun _ => by kernel_rfl
    have i1 : ∀ W : World, (Instr.index 65 (places w.heap.size) (.int .i64 1)).run Try.prog W = .ok (.pointer (some ⟨w.heap.size, 2, none⟩)) W := fun _ => by kernel_rfl
    have i2 : ∀ W : World, (Instr.index 65 (places w.heap.size) (.int .i64 2)).run Try.prog W = .ok (.pointer (some ⟨w.heap.size, 3, none⟩)) W := fun _ => by kernel_rfl
    have i3 : ∀ W : World, (Instr.index 65 (places w.heap.size) (.int .i64 3)).run Try.prog W = .ok (.pointer (some ⟨w.heap.size, 4, none⟩)) W := fun _ => by kernel_rfl
    have i4 : ∀ W : World, (Instr.index 65 (places w.heap.size) (.int .i64 4)).run Try.prog W = .ok (.pointer (some ⟨w.heap.size, 5, none⟩)) W := fun _ => by kernel_rfl
    have i5 : ∀ W : World, (Instr.index 65 (places w.heap.size) (.int .i64 5)).run Try.prog W = .ok (.pointer (some ⟨w.heap.size, 6, none⟩)) W := fun _ => by kernel_rfl
    have i6 : ∀ W : World, (Instr.index 65 (places w.heap.size) (.int .i64 6)).run Try.prog W = .ok (.pointer (some ⟨w.heap.size, 7, none⟩)) W := fun _ => by kernel_rfl
    go_enter Try.func20, Try.ntmps20
    go_wp2_with fail
    refine (may_any _ _ _ _ _ _ _ _ _).mono ?_
    rintro e w1 ⟨rfl, hb⟩
    have HA := Lib.hid ((Held8.new w [.int .u8 k, .int .i64 mo, .int .i64 li, .int .i64 sz, .int .i64 mt, .int .i64 ct, .int .i64 ino, .int .i64 gen] 37).below hb (by simp))
    have HB := Lib.hid (((Below.refl w.heap.size w).alloc (Nat.le_refl _) _).trans (hb.mono (by simp)))
    have hz1 : w.heap.size < w1.heap.size := by have := hb.size; simp at this; omega
    rw [HM.out]
    clear hb
    obtain ⟨a0, a1, a2, a3, a4, a5, a6, a7⟩ := cells8 HA.out
    go_wp2_with fail
    refine (fields_any _ _).mono ?_
    rintro e w2 ⟨rfl, hb⟩
    have hA2 := (HA.out.alloc hz1 (.cells #[.int .u8 k] 5)).below hb (by simp; omega)
    have hO : (w1.alloc (.cells #[.int .u8 k] 5)).ownsRow w1.heap.size 5 1 (.slice (some ⟨w1.heap.size, 0, none⟩) 1 1) 1 ([k].map (Value.int .u8)) :=
      ⟨rfl, .inr ⟨w1.heap.size, 1, #[.int .u8 k], rfl, Nat.le_refl _, heap_alloc_new w1 _, Nat.le_refl _, by decide, rfl, rfl⟩⟩
    have own := hO.kept (w' := w2) (row := none) ⟨hb.os, hb.tape, hb.output, hb.size, fun i hi _ => hb.block i hi⟩ (.inr (by simp [Value.ownBlock]))
    have HB2 := Lib.hid (HB.out.trans (((Below.refl w.heap.size w1).alloc (by omega) _).trans (hb.mono (by simp; omega))))
    have hz2 : w1.heap.size < w2.heap.size := by have := hb.size; simp at this; omega
    clear hb a0 a1 a2 a3 a4 a5 a6 a7 HA HB hO
    have OW := Lib.hid own
    have HA2 := Lib.hid hA2
    obtain ⟨a0, a1, a2, a3, a4, a5, a6, a7⟩ := cells8 hA2
    clear own hA2
    have hy : w.heap.size < w2.heap.size := by omega
    go_wp2_with fail
    refine wp_loop_rounds 8 ?_
    rw [rounds_succ]
    go_wp2_with fail
    refine (put1_own mo _ 1 _ 1 w1.heap.size ([k]) _ lo_mo hi_mo (by simp) (OW.out.alloc _) (by simp; omega) (by omega)).mono ?_
    rintro e y0 ⟨v0, rfl, hown, hb⟩
    have OW0 := Lib.hid hown
    have HAy0 := Lib.hid (show Held8 y0 w.heap.size [.int .u8 k, .int .i64 mo, .int .i64 li, .int .i64 sz, .int .i64 mt, .int .i64 ct, .int .i64 ino, .int .i64 gen] from ⟨fun i hi => (hb.cell (p := ⟨w.heap.size, i, none⟩) hz1).trans ((HA2.out.alloc (by omega) _).1 i hi), fun i => (hb.frozen (p := ⟨w.heap.size, i, none⟩) hz1).trans ((HA2.out.alloc (by omega) _).2 i)⟩)
    have HBy0 := Lib.hid (HB2.out.trans (((Below.refl w.heap.size w2).alloc (by omega) _).trans (hb.mono (by omega))))
    have hz_y0 : w1.heap.size < y0.heap.size := by have := hb.size; simp at this; omega
    have hy_y0 : w.heap.size < y0.heap.size := by omega
    clear hown hb OW HA2 HB2 a0 a1 a2 a3 a4 a5 a6 a7
    obtain ⟨a0, a1, a2, a3, a4, a5, a6, a7⟩ := cells8 HAy0.out
    go_wp2_with fail
    rw [rounds_succ]
    go_wp2_with fail
    refine (put1_own li _ 1 _ 5 w1.heap.size ([k] ++ by4 mo) _ lo_li hi_li (by simp) (OW0.out.alloc _) (by simp; omega) (by omega)).mono ?_
    rintro e y1 ⟨v1, rfl, hown, hb⟩
    have OW1 := Lib.hid hown
    have HAy1 := Lib.hid (show Held8 y1 w.heap.size [.int .u8 k, .int .i64 mo, .int .i64 li, .int .i64 sz, .int .i64 mt, .int .i64 ct, .int .i64 ino, .int .i64 gen] from ⟨fun i hi => (hb.cell (p := ⟨w.heap.size, i, none⟩) hz1).trans ((HAy0.out.alloc (by omega) _).1 i hi), fun i => (hb.frozen (p := ⟨w.heap.size, i, none⟩) hz1).trans ((HAy0.out.alloc (by omega) _).2 i)⟩)
    have HBy1 := Lib.hid (HBy0.out.trans (((Below.refl w.heap.size y0).alloc (by omega) _).trans (hb.mono (by omega))))
    have hz_y1 : w1.heap.size < y1.heap.size := by have := hb.size; simp at this; omega
    have hy_y1 : w.heap.size < y1.heap.size := by omega
    clear hown hb OW0 HAy0 HBy0 a0 a1 a2 a3 a4 a5 a6 a7
    obtain ⟨a0, a1, a2, a3, a4, a5, a6, a7⟩ := cells8 HAy1.out
    go_wp2_with fail
    rw [rounds_succ]
    go_wp2_with fail
    refine (put1_own sz _ 1 _ 9 w1.heap.size ([k] ++ by4 mo ++ by4 li) _ lo_sz hi_sz (by simp) (OW1.out.alloc _) (by simp; omega) (by omega)).mono ?_
    rintro e y2 ⟨v2, rfl, hown, hb⟩
    have OW2 := Lib.hid hown
    have HAy2 := Lib.hid (show Held8 y2 w.heap.size [.int .u8 k, .int .i64 mo, .int .i64 li, .int .i64 sz, .int .i64 mt, .int .i64 ct, .int .i64 ino, .int .i64 gen] from ⟨fun i hi => (hb.cell (p := ⟨w.heap.size, i, none⟩) hz1).trans ((HAy1.out.alloc (by omega) _).1 i hi), fun i => (hb.frozen (p := ⟨w.heap.size, i, none⟩) hz1).trans ((HAy1.out.alloc (by omega) _).2 i)⟩)
    have HBy2 := Lib.hid (HBy1.out.trans (((Below.refl w.heap.size y1).alloc (by omega) _).trans (hb.mono (by omega))))
    have hz_y2 : w1.heap.size < y2.heap.size := by have := hb.size; simp at this; omega
    have hy_y2 : w.heap.size < y2.heap.size := by omega
    clear hown hb OW1 HAy1 HBy1 a0 a1 a2 a3 a4 a5 a6 a7
    obtain ⟨a0, a1, a2, a3, a4, a5, a6, a7⟩ := cells8 HAy2.out
    go_wp2_with fail
    rw [rounds_succ]
    go_wp2_with fail
    refine (put1_own mt _ 1 _ 13 w1.heap.size ([k] ++ by4 mo ++ by4 li ++ by4 sz) _ lo_mt hi_mt (by simp) (OW2.out.alloc _) (by simp; omega) (by omega)).mono ?_
    rintro e y3 ⟨v3, rfl, hown, hb⟩
    have OW3 := Lib.hid hown
    have HAy3 := Lib.hid (show Held8 y3 w.heap.size [.int .u8 k, .int .i64 mo, .int .i64 li, .int .i64 sz, .int .i64 mt, .int .i64 ct, .int .i64 ino, .int .i64 gen] from ⟨fun i hi => (hb.cell (p := ⟨w.heap.size, i, none⟩) hz1).trans ((HAy2.out.alloc (by omega) _).1 i hi), fun i => (hb.frozen (p := ⟨w.heap.size, i, none⟩) hz1).trans ((HAy2.out.alloc (by omega) _).2 i)⟩)
    have HBy3 := Lib.hid (HBy2.out.trans (((Below.refl w.heap.size y2).alloc (by omega) _).trans (hb.mono (by omega))))
    have hz_y3 : w1.heap.size < y3.heap.size := by have := hb.size; simp at this; omega
    have hy_y3 : w.heap.size < y3.heap.size := by omega
    clear hown hb OW2 HAy2 HBy2 a0 a1 a2 a3 a4 a5 a6 a7
    obtain ⟨a0, a1, a2, a3, a4, a5, a6, a7⟩ := cells8 HAy3.out
    go_wp2_with fail
    rw [rounds_succ]
    go_wp2_with fail
    refine (put1_own ct _ 1 _ 17 w1.heap.size ([k] ++ by4 mo ++ by4 li ++ by4 sz ++ by4 mt) _ lo_ct hi_ct (by simp) (OW3.out.alloc _) (by simp; omega) (by omega)).mono ?_
    rintro e y4 ⟨v4, rfl, hown, hb⟩
    have OW4 := Lib.hid hown
    have HAy4 := Lib.hid (show Held8 y4 w.heap.size [.int .u8 k, .int .i64 mo, .int .i64 li, .int .i64 sz, .int .i64 mt, .int .i64 ct, .int .i64 ino, .int .i64 gen] from ⟨fun i hi => (hb.cell (p := ⟨w.heap.size, i, none⟩) hz1).trans ((HAy3.out.alloc (by omega) _).1 i hi), fun i => (hb.frozen (p := ⟨w.heap.size, i, none⟩) hz1).trans ((HAy3.out.alloc (by omega) _).2 i)⟩)
    have HBy4 := Lib.hid (HBy3.out.trans (((Below.refl w.heap.size y3).alloc (by omega) _).trans (hb.mono (by omega))))
    have hz_y4 : w1.heap.size < y4.heap.size := by have := hb.size; simp at this; omega
    have hy_y4 : w.heap.size < y4.heap.size := by omega
    clear hown hb OW3 HAy3 HBy3 a0 a1 a2 a3 a4 a5 a6 a7
    obtain ⟨a0, a1, a2, a3, a4, a5, a6, a7⟩ := cells8 HAy4.out
    go_wp2_with fail
    rw [rounds_succ]
    go_wp2_with fail
    refine (put1_own ino _ 1 _ 21 w1.heap.size ([k] ++ by4 mo ++ by4 li ++ by4 sz ++ by4 mt ++ by4 ct) _ lo_ino hi_ino (by simp) (OW4.out.alloc _) (by simp; omega) (by omega)).mono ?_
    rintro e y5 ⟨v5, rfl, hown, hb⟩
    have OW5 := Lib.hid hown
    have HAy5 := Lib.hid (show Held8 y5 w.heap.size [.int .u8 k, .int .i64 mo, .int .i64 li, .int .i64 sz, .int .i64 mt, .int .i64 ct, .int .i64 ino, .int .i64 gen] from ⟨fun i hi => (hb.cell (p := ⟨w.heap.size, i, none⟩) hz1).trans ((HAy4.out.alloc (by omega) _).1 i hi), fun i => (hb.frozen (p := ⟨w.heap.size, i, none⟩) hz1).trans ((HAy4.out.alloc (by omega) _).2 i)⟩)
    have HBy5 := Lib.hid (HBy4.out.trans (((Below.refl w.heap.size y4).alloc (by omega) _).trans (hb.mono (by omega))))
    have hz_y5 : w1.heap.size < y5.heap.size := by have := hb.size; simp at this; omega
    have hy_y5 : w.heap.size < y5.heap.size := by omega
    clear hown hb OW4 HAy4 HBy4 a0 a1 a2 a3 a4 a5 a6 a7
    obtain ⟨a0, a1, a2, a3, a4, a5, a6, a7⟩ := cells8 HAy5.out
    go_wp2_with fail
    rw [rounds_succ]
    go_wp2_with fail
    refine (put1_own gen _ 1 _ 25 w1.heap.size ([k] ++ by4 mo ++ by4 li ++ by4 sz ++ by4 mt ++ by4 ct ++ by4 ino) _ lo_gen hi_gen (by simp) (OW5.out.alloc _) (by simp; omega) (by omega)).mono ?_
    rintro e y6 ⟨v6, rfl, hown, hb⟩
    have OW6 := Lib.hid hown
    have HAy6 := Lib.hid (show Held8 y6 w.heap.size [.int .u8 k, .int .i64 mo, .int .i64 li, .int .i64 sz, .int .i64 mt, .int .i64 ct, .int .i64 ino, .int .i64 gen] from ⟨fun i hi => (hb.cell (p := ⟨w.heap.size, i, none⟩) hz1).trans ((HAy5.out.alloc (by omega) _).1 i hi), fun i => (hb.frozen (p := ⟨w.heap.size, i, none⟩) hz1).trans ((HAy5.out.alloc (by omega) _).2 i)⟩)
    have HBy6 := Lib.hid (HBy5.out.trans (((Below.refl w.heap.size y5).alloc (by omega) _).trans (hb.mono (by omega))))
    have hz_y6 : w1.heap.size < y6.heap.size := by have := hb.size; simp at this; omega
    have hy_y6 : w.heap.size < y6.heap.size := by omega
    clear hown hb OW5 HAy5 HBy5 a0 a1 a2 a3 a4 a5 a6 a7
    obtain ⟨a0, a1, a2, a3, a4, a5, a6, a7⟩ := cells8 HAy6.out
    go_wp2_with fail
    rw [rounds_succ]
    have hs := own_str OW6.out (by omega) 23 Try.underlying23
    go_wp2_with fail
    go_ret2
    exact ⟨congrArg Ending.returned H.out.symm, HBy6.out⟩
end Go.Proofs.Ytlkjgnnnamkfeaa
