/- WALK of DigestParts. -/
import Derived.Test.YtiegocnmijheoaaDoorK
import Derived.Deep.QuietTactic
import Derived.BigQuiet
set_option linter.unusedVariables false
namespace Go.Proofs.YtiegocnmijheoaaDoor
open Go.RowKit Go.ChangeShapes Go.WideShapes Go.ChangeAt

theorem cellP {w : World} {o : Obj} {b i : Nat} {v : Option Value} (h : b < w.heap.size) (hc : w.cell? ⟨b, i, none⟩ = v) : (w.alloc o).cell? ⟨b, i, none⟩ = v := (World.cell?_alloc_lt w o _ h).trans hc
theorem frozP {w : World} {o : Obj} {b i : Nat} {v : Bool} (h : b < w.heap.size) (hc : w.frozen? ⟨b, i, none⟩ = v) : (w.alloc o).frozen? ⟨b, i, none⟩ = v := (World.frozen?_alloc_old w o _ (Nat.ne_of_lt h)).trans hc
theorem setO {w : World} {b i c j : Nat} {v : Value} (h : b ≠ c ∨ i ≠ j) : (w.setCell ⟨b, i, none⟩ v).cell? ⟨c, j, none⟩ = w.cell? ⟨c, j, none⟩ := World.cell?_setCell_other _ _ _ _ (by intro h'; simp at h'; omega)
theorem setS {w : World} {a : Addr} {v u : Value} (h : w.cell? a = some u) : (w.setCell a v).cell? a = some v := World.cell?_setCell_same _ _ _ h
theorem frozS {w : World} {a p : Addr} {v : Value} {x : Bool} (h : w.frozen? p = x) : (w.setCell a v).frozen? p = x := (World.frozen?_setCell w a p v).trans h
theorem below_dn {B : Nat} {a w : World} (h : Below B a w) (n : Nat) : Below B a (w.drewN n) := h.trans ⟨rfl, rfl, rfl, Nat.le_refl _, fun _ _ => rfl⟩
/-- Where a cut of a row lies. -/
def adr (g o c k : Nat) : Addr := if c = k then ⟨g, o, none⟩ else ⟨g, o + k, none⟩
theorem adr_cut (g o c k : Nat) : (if c = k then some (⟨g, o, none⟩ : Addr) else Option.map (fun x : Addr => x.add (k * 1)) (some (⟨g, o, none⟩ : Addr))) = some (adr g o c k) := by
  unfold adr
  by_cases h : c = k
  · rw [if_pos h, if_pos h]
  · rw [if_neg h, if_neg h]
    simp [Addr.add]
theorem cut_lh (g o n c k m : Nat) (h1 : k ≤ m) (h2 : m ≤ c) (W : World) : (Instr.slice 35 (.slice (some ⟨g, o, none⟩) n c) (some (.int .i64 (k : Int))) (some (.int .i64 (m : Int))) none).run Tryd.prog W = .ok (.slice (some (adr g o c k)) (m - k) (c - k)) W := by
  have hu : Tryd.prog.underlying 35 = some (.slice (Tryd.prog.elem 35)) := by kernel_rfl
  have hs : (sizeOf (Tryd.prog.elem 35)).run Tryd.prog W = .ok 1 W := by kernel_rfl
  rw [run_slice_lh W 35 _ n c hu .i64 .i64 _ _ (by omega) (by omega) (by omega), hs]
  simp only [Result.andThen_ok, sliced, Int.toNat_natCast]
  rw [adr_cut]
theorem cut_h (g o n c m : Nat) (h2 : m ≤ c) (W : World) : (Instr.slice 35 (.slice (some ⟨g, o, none⟩) n c) none (some (.int .i64 (m : Int))) none).run Tryd.prog W = .ok (.slice (some ⟨g, o, none⟩) m c) W := by
  have hu : Tryd.prog.underlying 35 = some (.slice (Tryd.prog.elem 35)) := by kernel_rfl
  have hs : (sizeOf (Tryd.prog.elem 35)).run Tryd.prog W = .ok 1 W := by kernel_rfl
  rw [run_slice_h W 35 _ n c hu .i64 _ (by omega) (by omega), hs]
  simp only [Result.andThen_ok, sliced, Int.toNat_natCast]
  rw [adr_cut]
  unfold adr
  split <;> rfl
theorem cut_l (g o n c k : Nat) (h1 : k ≤ n) (h2 : n ≤ c) (W : World) : (Instr.slice 35 (.slice (some ⟨g, o, none⟩) n c) (some (.int .i64 (k : Int))) none none).run Tryd.prog W = .ok (.slice (some (adr g o c k)) (n - k) (c - k)) W := by
  have hu : Tryd.prog.underlying 35 = some (.slice (Tryd.prog.elem 35)) := by kernel_rfl
  have hs : (sizeOf (Tryd.prog.elem 35)).run Tryd.prog W = .ok 1 W := by kernel_rfl
  rw [run_slice_l W 35 _ n c hu .i64 _ (by omega) (by omega), hs]
  simp only [Result.andThen_ok, sliced, Int.toNat_natCast]
  rw [adr_cut]
theorem cut_0 (A : Option Addr) (c : Nat) (W : World) : (Instr.slice 35 (.slice A 0 c) (some (.int .i64 0)) none none).run Tryd.prog W = .ok (.slice A 0 c) W := by
  have hu : Tryd.prog.underlying 35 = some (.slice (Tryd.prog.elem 35)) := by kernel_rfl
  have hs : (sizeOf (Tryd.prog.elem 35)).run Tryd.prog W = .ok 1 W := by kernel_rfl
  rw [run_slice_l W 35 A 0 c hu .i64 0 (by omega) (by omega), hs]
  simp only [Result.andThen_ok, sliced]
  cases A with
  | none => simp
  | some a => simp [Addr.add]
theorem conv_0 (A : Option Addr) (c : Nat) (W : World) : (convert 35 9 (.slice A 0 c)).run Tryd.prog W = .ok (.string ⟨#[]⟩) W := by
  rw [run_convert_bytes_string W 35 9 5 A 0 c Tryd.underlying35 Tryd.underlying5 Tryd.underlying9]
  cases A with
  | none => simp [Conv.bytesToString]; rfl
  | some a => simp [Conv.bytesToString, loadCells, loadCellsFrom]; rfl
/-- A row's bytes, at a plain place. -/
def RowB (w : World) (g o : Nat) (l : List UInt8) : Prop := ∀ k, (h : k < l.length) → w.cell? ⟨g, o + k, none⟩ = some (.int .u8 ((l[k].toNat : Nat) : Int))
theorem RowB.below {w w' : World} {g o : Nat} {l : List UInt8} (h : RowB w g o l) (hb : Below w.heap.size w w') : RowB w' g o l := fun k hk => keep1 hb (h k hk)
theorem RowB.conv {W : World} {g o : Nat} {l : List UInt8} (h : RowB W g o l) (m c : Nat) (hm : m ≤ l.length) : (convert 35 9 (.slice (some ⟨g, o, none⟩) m c)).run Tryd.prog W = .ok (.string ⟨(l.take m).toArray⟩) W := by
  have := run_convert_bytes_arg W 35 5 Tryd.underlying35 Tryd.underlying5 g o m c ((l.take m).map fun c => ((c.toNat : Nat) : Int)) (by simp; omega) (fun i hi => by
    rw [h i (by omega)]
    congr 2
    rw [List.getD_eq_getElem?_getD, List.getElem?_map, List.getElem?_take_of_lt hi, List.getElem?_eq_getElem (by omega)]
    rfl) 9 Tryd.underlying9
  rw [this]
  congr 2
  apply bytes_inj
  rw [strOfNums_data, List.map_map, show ((fun n : Int => UInt8.ofNat n.toNat) ∘ fun c : UInt8 => ((c.toNat : Nat) : Int)) = id from by funext c; simp, List.map_id]
theorem RowB.nil (w : World) (g o : Nat) : RowB w g o [] := fun k h => by simp at h
theorem writeh_part (hb g o c k m : Nat) (u : Int) (l : List UInt8) (w : World) (hl : l.length ≤ c) (hk : k ≤ m) (hm : m ≤ l.length) (hs : l.length ≤ 9223372036854775807) (h : w.cell? ⟨hb, 0, none⟩ = some (.int .u64 u)) (hf : w.frozen? ⟨hb, 0, none⟩ = false) (hr : RowB w g o l) :
    Calls Tryd.prog 20 #[.pointer (some ⟨hb, 0, none⟩), .slice (some (adr g o c k)) (m - k) (c - k)] w fun e w' => e = .returned (.tuple #[]) ∧ w' = w.setCell ⟨hb, 0, none⟩ (.int .u64 (fold u ((l.take m).drop k))) := by
  by_cases h0 : k = m
  · subst h0
    rw [Nat.sub_self, List.drop_of_length_le (by simp; omega)]
    exact writeh_none hb _ _ u w h hf
  · have hlen : ((l.take m).drop k).length = m - k := by simp; omega
    have := writeh_any hb g (o + k) (c - k) u ((l.take m).drop k) w (by omega) h hf (fun i hi => by
      rw [hlen] at hi
      rw [Nat.add_assoc, hr (k + i) (by omega)]
      congr 2
      simp)
    rw [hlen] at this
    unfold adr
    rw [if_neg (by omega)]
    exact this
theorem fold_cut (u : Int) (l : List UInt8) (k m : Nat) (h : k ≤ m) : fold (fold u (l.take k)) ((l.take m).drop k) = fold u (l.take m) := by
  rw [← fold_append]
  congr 1
  have := List.take_append_drop k (l.take m)
  rw [List.take_take, Nat.min_eq_left h] at this
  exact this
theorem sum_take (l : List UInt8) (m : Nat) (w : World) (hs : l.length ≤ 5000) : Calls Tryd.prog 14 #[.string ⟨(l.take m).toArray⟩] w fun e w' => e = .returned (.int .u64 (fold begin_ (l.take m))) ∧ w' = w :=
  (sum_any ⟨(l.take m).toArray⟩ w (by show (l.take m).toArray.size ≤ _; simp; omega)).mono fun e w' ⟨h1, h2⟩ => ⟨h1, h2.symm⟩
theorem sumh_same (g : Nat) (u : Int) (w : World) (h : w.cell? ⟨g, 0, none⟩ = some (.int .u64 u)) : Calls Tryd.prog 22 #[.pointer (some ⟨g, 0, none⟩)] w fun e w' => e = .returned (.int .u64 u) ∧ w' = w :=
  (sumh_any g u w h).mono fun e w' ⟨h1, h2⟩ => ⟨h1, h2.symm⟩
/-- The bytes that lie in a row, below a block. -/
def RdF (base : Nat) (w : World) (A : Option Addr) (l : List UInt8) : Prop := l ≠ [] → ∃ b off, A = some ⟨b, off, none⟩ ∧ b < base ∧ ∀ k, (h : k < l.length) → w.cell? ⟨b, off + k, none⟩ = some (.int .u8 ((l[k].toNat : Nat) : Int))
theorem RdF.below {base : Nat} {w w' : World} {A : Option Addr} {l : List UInt8} (h : RdF base w A l) (hb : Below w.heap.size w w') : RdF base w' A l := fun hne => by
  obtain ⟨b, off, hA, hlt, hc⟩ := h hne
  exact ⟨b, off, hA, hlt, fun k hk => keep1 hb (hc k hk)⟩
/-- What a round keeps. -/
def Par (w : World) (hb g o : Nat) (l : List UInt8) (k : Nat) (wr : World) : Prop := wr.cell? ⟨hb, 0, none⟩ = some (.int .u64 (fold begin_ (l.take k))) ∧ wr.frozen? ⟨hb, 0, none⟩ = false ∧ RowB wr g o l ∧ Below w.heap.size w wr ∧ w.heap.size ≤ hb ∧ hb < wr.heap.size

set_option maxRecDepth 20000 in
set_option maxHeartbeats 2000000 in
theorem parts_walk (A A2 : Option Addr) (c c2 : Nat) (l l2 : List UInt8) (w : World) (hl : Libs w) (hlc : l.length ≤ c) (hcm : c ≤ maxLen) (hlc2 : l2.length ≤ c2) (hcm2 : c2 ≤ maxLen) (h : RdB w A l) (h2 : RdB w A2 l2) :
    Calls Tryd.prog 5 #[.slice A l.length c, .slice A2 l2.length c2] w fun e w' => e = .returned (.bool true) ∧ Below w.heap.size w w' := by
  have AW := Lib.hid (fun w (h : Libs w) => awake06 w h)
  have hl0 := Lib.hid hl
  unfold maxLen at hcm hcm2
  by_cases hbig : 5000 < l.length
  · clear h h2 hl
    go_enter Tryd.func5, Tryd.ntmps5
    go_wp2_with fail
    refine (AW.out _ hl0.out).mono ?_
    rintro e w1 ⟨rfl, hb1⟩
    go_wp2_with fail
    go_ret
    exact ⟨rfl, hb1⟩
  by_cases h0 : l = []
  · subst h0
    have hc0 := cut_0 A c
    have hcv := conv_0 A c
    have HR2 := Lib.hid h2
    clear h h2 hl
    go_enter Tryd.func5, Tryd.ntmps5
    go_wp2_with fail
    refine (AW.out _ hl0.out).mono ?_
    rintro e w1 ⟨rfl, hb1⟩
    have HB1 := Lib.hid hb1
    clear hb1
    go_wp2_with fail
    refine (new_any _).mono ?_
    rintro e w2 ⟨rfl, rfl⟩
    have hz1 := HB1.out.size
    have HC := Lib.hid (show (w1.alloc (.cells #[.int .u64 begin_] 53)).cell? ⟨w1.heap.size, 0, none⟩ = some (.int .u64 begin_) from (cellR rfl 0).trans rfl)
    go_wp2_with fail
    refine wp_loop_rounds 1 ?_
    rw [rounds_succ]
    go_wp2_with fail
    all_goals
      refine (writeh_none w1.heap.size _ _ begin_ _ HC.out (World.frozen?_alloc_new _ _ _ _)).mono ?_
      rintro e w4 ⟨rfl, hw4⟩
      have c4 : w4.cell? ⟨w1.heap.size, 0, none⟩ = some (.int .u64 begin_) := by subst hw4; exact setS HC.out
      have B4 := Lib.hid (show Below w.heap.size w w4 by subst hw4; exact (HB1.out.alloc hz1 _).setCell hz1 _)
      clear hw4 hc0
      have SM := Lib.hid (fun w => sum_take [] 0 w (by decide))
      go_wp2_with fail
      go_quiet ((first
        | (go_at_call 22; exact Calls.quiet_of_same (sumh_same _ _ _ (by assumption)))
        | (go_at_call 14; exact Calls.quiet_of_same (SM.out _))))
      go_wp2_with fail
      go_ret
      exact ⟨ret_bool (by simp [fold]), below_dn B4.out _⟩
  obtain ⟨g, o, rfl, hg, hc⟩ := h h0
  have hpos : 0 < l.length := List.length_pos_iff.2 h0
  have HR := Lib.hid (show RowB w g o l from hc)
  have HR2 := Lib.hid (show RdF w.heap.size w A2 l2 from h2)
  clear h h2 hl hc h0
  go_enter Tryd.func5, Tryd.ntmps5
  go_wp2_with fail
  refine (AW.out _ hl0.out).mono ?_
  rintro e w1 ⟨rfl, hb1⟩
  have HR1 := Lib.hid (HR.out.below hb1)
  have HR21 := Lib.hid (RdF.below HR2.out hb1)
  have HB1 := Lib.hid hb1
  clear hb1 HR HR2
  go_wp2_with fail
  refine (new_any _).mono ?_
  rintro e w2 ⟨rfl, rfl⟩
  have hz1 := HB1.out.size
  go_wp2_with fail
  go_loopw [6, 7] (fun a i wr => ∃ k j : Nat, k ≤ l.length ∧ j ≤ l2.length ∧ a = .int .i64 k ∧ i = .int .i64 j ∧ Par w w1.heap.size g o l k wr ∧ RdF w.heap.size wr A2 l2) (fun _ i _ => l2.length - (intOf i).toNat)
  case atStart => exact ⟨0, 0, Nat.zero_le _, Nat.zero_le _, rfl, rfl, ⟨by rw [World.cell?_alloc_new]; rfl, World.frozen?_alloc_new _ _ _ _, HR1.out.below ((Below.refl _ _).alloc (Nat.le_refl _) _), HB1.out.alloc hz1 _, hz1, by simp⟩, RdF.below HR21.out ((Below.refl _ _).alloc (Nat.le_refl _) _)⟩
  case round =>
    obtain ⟨k, j, hk, hj, rfl, rfl, hp, hr2⟩ := hrel
    have HP := Lib.hid hp
    have HR2 := Lib.hid hr2
    clear hp hr2
    by_cases hgo : j < l2.length ∧ k < l.length ∧ j < 200
    · obtain ⟨hj2, hk2, hj200⟩ := hgo
      obtain ⟨g2, o2, rfl, hg2, hc2⟩ := HR2.out (by intro h; subst h; simp at hj2)
      have hcell := hc2 j hj2
      have hv := l2[j].toNat_lt
      obtain ⟨c0, f0, HRr, HBr, hw1, hw2⟩ := HP.out
      replace HRr := Lib.hid HRr
      replace HBr := Lib.hid HBr
      have hc2' := Lib.hid hc2
      clear hc2
      obtain ⟨m, hm, hkm, hml⟩ : ∃ m : Nat, min ((k : Int) + ((l2[j].toNat : Nat) : Int)) (l.length : Int) = (m : Int) ∧ k ≤ m ∧ m ≤ l.length := ⟨(min ((k : Int) + ((l2[j].toNat : Nat) : Int)) (l.length : Int)).toNat, by omega, by omega, by omega⟩
      go_wp2_with fail
      refine (copyh_any w1.heap.size _ _ c0).mono ?_
      rintro e w3 ⟨rfl, rfl⟩
      have c1 := cellP (o := .cells #[.int .u64 (fold begin_ (l.take k))] 53) hw2 c0
      have f1 := frozP (o := .cells #[.int .u64 (fold begin_ (l.take k))] 53) hw2 f0
      have k1 : (wr.alloc (.cells #[.int .u64 (fold begin_ (l.take k))] 53)).cell? ⟨wr.heap.size, 0, none⟩ = some (.int .u64 (fold begin_ (l.take k))) := (cellR rfl 0).trans rfl
      have RR := Lib.hid (RowB.below HRr.out ((Below.refl _ _).alloc (Nat.le_refl _) (.cells #[.int .u64 (fold begin_ (l.take k))] 53)))
      have BB := Lib.hid (HBr.out.alloc (HBr.out.size) (.cells #[.int .u64 (fold begin_ (l.take k))] 53))
      have WH := Lib.hid (writeh_part w1.heap.size g o c k m _ l _ hlc hkm hml (by omega) c1 f1 RR.out)
      rw [fold_cut _ _ _ _ hkm] at WH
      have hsl := cut_lh g o l.length c k m hkm (by omega)
      have hr2' := Lib.hid (RdF.below HR2.out ((Below.refl _ _).alloc (Nat.le_refl _) (.cells #[.int .u64 (fold begin_ (l.take k))] 53)))
      go_wp2_with fail
      refine WH.out.mono ?_
      rintro e w4 ⟨rfl, hw4⟩
      have hs4 : w4.heap.size = wr.heap.size + 1 := by subst hw4; simp
      have HS4 := Lib.hid hs4
      have c4 : w4.cell? ⟨w1.heap.size, 0, none⟩ = some (.int .u64 (fold begin_ (l.take m))) := by subst hw4; exact setS c1
      have k4 : w4.cell? ⟨wr.heap.size, 0, none⟩ = some (.int .u64 (fold begin_ (l.take k))) := by subst hw4; exact (setO (by omega)).trans k1
      have f4 : w4.frozen? ⟨w1.heap.size, 0, none⟩ = false := by subst hw4; exact frozS f1
      have R4 : RowB w4 g o l := fun i hi => by subst hw4; exact (setO (by left; intro h; subst h; omega)).trans (RR.out i hi)
      have B4 := Lib.hid (show Below w.heap.size w w4 by subst hw4; exact BB.out.setCell hw1 _)
      have R24 := Lib.hid (show RdF w.heap.size w4 (some ⟨g2, o2, none⟩) l2 from fun hne => ⟨g2, o2, rfl, hg2, fun i hi => by subst hw4; exact (setO (by left; intro h; subst h; omega)).trans ((cellP (by omega) (hc2'.out i hi)))⟩)
      have hw4' : w1.heap.size < w4.heap.size := by omega
      clear hw4 hs4 c1 f1 k1 RR BB WH hsl hr2' HR2 c0 f0 HRr HBr
      have hcm4 : ∀ n, (convert 35 9 (.slice (some ⟨g, o, none⟩) m c)).run Tryd.prog (w4.drewN n) = .ok (.string ⟨(l.take m).toArray⟩) (w4.drewN n) := fun n => RowB.conv (W := w4.drewN n) (fun i hi => R4 i hi) m c hml
      have hck4 : ∀ n, (convert 35 9 (.slice (some ⟨g, o, none⟩) k c)).run Tryd.prog (w4.drewN n) = .ok (.string ⟨(l.take k).toArray⟩) (w4.drewN n) := fun n => RowB.conv (W := w4.drewN n) (fun i hi => R4 i hi) k c hk
      have R4' := Lib.hid R4
      clear R4
      have hsm := cut_h g o l.length c m (by omega)
      have hsk := cut_h g o l.length c k (by omega)
      have hl5 : l.length ≤ 5000 := by omega
      go_wp2_with fail
      go_quiet ((first
        | (go_at_call 22; exact Calls.quiet_of_same (sumh_same _ _ _ (by assumption)))
        | (go_at_call 14; exact Calls.quiet_of_same (sum_take _ _ _ hl5))))
      go_wp2_with fail
      go_roundw
      case rel => exact ⟨m, j + 1, hml, by omega, rfl, by go_num, ⟨c4, f4, R4'.out, below_dn B4.out _, by omega, hw4'⟩, R24.out⟩
      case measure => simp [intOf]; omega
    · have hend : (((j : Int) < (l2.length : Int)) && ((k : Int) < (l.length : Int))) = true → ((j : Int) < 200) = false := by
        intro h
        simp at h ⊢
        omega
      obtain ⟨c0, f0, HRr, HBr, hw1, hw2⟩ := HP.out
      have WH := Lib.hid (writeh_part w1.heap.size g o c k l.length _ l _ hlc hk (Nat.le_refl _) (by omega) c0 f0 HRr)
      rw [fold_cut _ _ _ _ hk, List.take_length] at WH
      have hsl := cut_l g o l.length c k hk hlc
      replace HRr := Lib.hid HRr
      replace HBr := Lib.hid HBr
      have SM := Lib.hid (fun w => sum_take l l.length w (by omega))
      rw [List.take_length] at SM
      have CV := Lib.hid (fun W (h : RowB W g o l) => RowB.conv h l.length c (Nat.le_refl _))
      rw [List.take_length] at CV
      by_cases hA1 : j < l2.length
      · by_cases hA2 : k < l.length
        · have hA3 : ¬ (j : Int) < 200 := by omega
          clear hend hgo
          go_wp2_with fail
          refine WH.out.mono ?_
          rintro e w4 ⟨rfl, hw4⟩
          have c4 : w4.cell? ⟨w1.heap.size, 0, none⟩ = some (.int .u64 (fold begin_ l)) := by subst hw4; exact setS c0
          have R4 : RowB w4 g o l := fun i hi => by subst hw4; exact (setO (by left; intro h; subst h; omega)).trans (HRr.out i hi)
          have B4 := Lib.hid (show Below w.heap.size w w4 by subst hw4; exact HBr.out.setCell hw1 _)
          have hcv : ∀ n, (convert 35 9 (.slice (some ⟨g, o, none⟩) l.length c)).run Tryd.prog (w4.drewN n) = .ok (.string ⟨l.toArray⟩) (w4.drewN n) := fun n => CV.out (w4.drewN n) (fun i hi => R4 i hi)
          clear hw4 c0 f0 WH hsl HRr HBr R4 CV
          go_wp2_with fail
          go_quiet ((first
            | (go_at_call 22; exact Calls.quiet_of_same (sumh_same _ _ _ (by assumption)))
            | (go_at_call 14; exact Calls.quiet_of_same (SM.out _))))
          go_wp2_with fail
          go_ret
          exact ⟨ret_bool (by simp), below_dn B4.out _⟩
        · clear hend hgo
          go_wp2_with fail
          refine WH.out.mono ?_
          rintro e w4 ⟨rfl, hw4⟩
          have c4 : w4.cell? ⟨w1.heap.size, 0, none⟩ = some (.int .u64 (fold begin_ l)) := by subst hw4; exact setS c0
          have R4 : RowB w4 g o l := fun i hi => by subst hw4; exact (setO (by left; intro h; subst h; omega)).trans (HRr.out i hi)
          have B4 := Lib.hid (show Below w.heap.size w w4 by subst hw4; exact HBr.out.setCell hw1 _)
          have hcv : ∀ n, (convert 35 9 (.slice (some ⟨g, o, none⟩) l.length c)).run Tryd.prog (w4.drewN n) = .ok (.string ⟨l.toArray⟩) (w4.drewN n) := fun n => CV.out (w4.drewN n) (fun i hi => R4 i hi)
          clear hw4 c0 f0 WH hsl HRr HBr R4 CV
          go_wp2_with fail
          go_quiet ((first
            | (go_at_call 22; exact Calls.quiet_of_same (sumh_same _ _ _ (by assumption)))
            | (go_at_call 14; exact Calls.quiet_of_same (SM.out _))))
          go_wp2_with fail
          go_ret
          exact ⟨ret_bool (by simp), below_dn B4.out _⟩
      · clear hend hgo
        go_wp2_with fail
        refine WH.out.mono ?_
        rintro e w4 ⟨rfl, hw4⟩
        have c4 : w4.cell? ⟨w1.heap.size, 0, none⟩ = some (.int .u64 (fold begin_ l)) := by subst hw4; exact setS c0
        have R4 : RowB w4 g o l := fun i hi => by subst hw4; exact (setO (by left; intro h; subst h; omega)).trans (HRr.out i hi)
        have B4 := Lib.hid (show Below w.heap.size w w4 by subst hw4; exact HBr.out.setCell hw1 _)
        have hcv : ∀ n, (convert 35 9 (.slice (some ⟨g, o, none⟩) l.length c)).run Tryd.prog (w4.drewN n) = .ok (.string ⟨l.toArray⟩) (w4.drewN n) := fun n => CV.out (w4.drewN n) (fun i hi => R4 i hi)
        clear hw4 c0 f0 WH hsl HRr HBr R4 CV
        go_wp2_with fail
        go_quiet ((first
          | (go_at_call 22; exact Calls.quiet_of_same (sumh_same _ _ _ (by assumption)))
          | (go_at_call 14; exact Calls.quiet_of_same (SM.out _))))
        go_wp2_with fail
        go_ret
        exact ⟨ret_bool (by simp), below_dn B4.out _⟩
end Go.Proofs.YtiegocnmijheoaaDoor
