/- WALKS of layer 6: the 8 bytes of a number, the sum of parts. -/
import Derived.Test.YtpkapichblpdfaaDoorGA
import Derived.Laws.BytesArg
import Derived.Deep.RegionHeld3
set_option linter.unusedVariables false
namespace Go.Proofs.YtpkapichblpdfaaDoor.Dg
open Go.RowKit Go.ChangeShapes Go.WideShapes Go.ChangeAt

theorem onb_any (u : Int) (g o c : Nat) (l : List UInt8) (w : World) (hs : l.length ≤ 9223372036854775807) (hc : ∀ k, (h : k < l.length) → w.cell? ⟨g, o + k, none⟩ = some (.int .u8 ((l[k].toNat : Nat) : Int))) :
    Calls Tryd.prog 29 #[.int .u64 u, .slice (some ⟨g, o, none⟩) l.length c] w fun e w' => e = .returned (.int .u64 (fold u l)) ∧ w = w' := by
  have HC := Lib.hid hc
  clear hc
  go_enter Tryd.func29, Tryd.ntmps29
  go_wp2_with fail
  go_loop [0, 8] (fun v i => ∃ k : Nat, k ≤ l.length ∧ i = .int .i64 k ∧ v = .int .u64 (fold u (l.take k))) (fun _ i => l.length - (intOf i).toNat)
  case atStart => exact ⟨0, Nat.zero_le _, rfl, rfl⟩
  case round =>
    obtain ⟨k, hk, rfl, rfl⟩ := hrel
    by_cases hlt : k < l.length
    · have hw := wrap_byte l[k]
      have hcell := HC.out k hlt
      go_wp2_with fail
      go_round
      case rel =>
        refine ⟨k + 1, by omega, by go_num, ?_⟩
        rw [take_snoc _ _ hlt, fold_snoc]
        rfl
      case measure => simp [intOf]; omega
    · have hkl : k = l.length := by omega
      subst hkl
      go_wp2_with fail
      go_ret
      exact ⟨ret_u64 (by first | rfl | simp), rfl⟩
theorem onb_none (u : Int) (a : Option Addr) (c : Nat) (w : World) : Calls Tryd.prog 29 #[.int .u64 u, .slice a 0 c] w fun e w' => e = .returned (.int .u64 u) ∧ w = w' := by
  go_enter Tryd.func29, Tryd.ntmps29
  go_wp2_with fail
  refine wp_loop_rounds 1 ?_
  rw [rounds_succ]
  go_wp2_with fail
  go_ret
  exact ⟨rfl, rfl⟩

/-- The 8 bytes of a number, the greatest first. -/
def be8 (u : Int) : List Int := [u / 72057594037927936 % 256, u / 281474976710656 % 256, u / 1099511627776 % 256, u / 4294967296 % 256, u / 16777216 % 256, u / 65536 % 256, u / 256 % 256, u % 256]
def bytesL (l : List Int) : List UInt8 := l.map fun n => UInt8.ofNat n.toNat
theorem info_u8 : (Tryd.prog.info? 5).map (fun i => (i.zero, i.size, i.bytes)) = some (some (.int .u8 0), 1, 1) := by kernel_rfl
theorem make8 (w : World) : (Instr.makeSlice 30 (.int .i64 8) (.int .i64 8)).run Tryd.prog w = .ok (.slice (some ⟨w.heap.size, 0, none⟩) 8 8) (w.alloc (.cells #[.int .u8 0, .int .u8 0, .int .u8 0, .int .u8 0, .int .u8 0, .int .u8 0, .int .u8 0, .int .u8 0] 5)) := by
  obtain ⟨i0, hi, hz0, hz1, hz2⟩ := info_parts info_u8
  have := run_makeSlice (P := Tryd.prog) w 30 5 i0 (.int .u8 0) Tryd.underlying30 hi hz0 .i64 .i64 8 8 (by decide) (by decide) (by rw [hz1]; decide) (by rw [hz2]; decide) (by decide)
  rw [hz1, show madeCells (Value.int .u8 0).cells (Int.toNat 8 * 1) = #[.int .u8 0, .int .u8 0, .int .u8 0, .int .u8 0, .int .u8 0, .int .u8 0, .int .u8 0, .int .u8 0] from by kernel_rfl] at this
  exact this

set_option maxRecDepth 20000 in
theorem long_any (u : Int) (w : World) : Calls Tryd.prog 30 #[.int .u64 u] w fun e w' => e = .returned (.slice (some ⟨w.heap.size, 0, none⟩) 8 8) ∧ w' = w.alloc (.cells ((be8 u).map (Value.int .u8)).toArray 5) := by
  have hmk := make8
  have h2 : u / 256 / 256 = u / 65536 := by omega
  have h3 : u / 65536 / 256 = u / 16777216 := by omega
  have h4 : u / 16777216 / 256 = u / 4294967296 := by omega
  have h5 : u / 4294967296 / 256 = u / 1099511627776 := by omega
  have h6 : u / 1099511627776 / 256 = u / 281474976710656 := by omega
  have h7 : u / 281474976710656 / 256 = u / 72057594037927936 := by omega
  go_enter Tryd.func30, Tryd.ntmps30
  go_wp2_with fail
  refine wp_loop_rounds 9 ?_
  rw [rounds_succ]
  go_wp2_with fail
  rw [rounds_succ]
  go_wp2_with fail
  rw [rounds_succ]
  go_wp2_with fail
  rw [rounds_succ]
  go_wp2_with fail
  rw [rounds_succ]
  go_wp2_with fail
  rw [rounds_succ]
  go_wp2_with fail
  rw [rounds_succ]
  go_wp2_with fail
  rw [rounds_succ]
  go_wp2_with fail
  rw [rounds_succ]
  go_wp2_with fail
  go_ret
  exact ⟨rfl, rfl⟩
theorem conv8 (u : Int) (w : World) : (convert 30 9 (.slice (some ⟨w.heap.size, 0, none⟩) 8 8)).run Tryd.prog (w.alloc (.cells #[.int .u8 (u / 72057594037927936 % 256), .int .u8 (u / 281474976710656 % 256), .int .u8 (u / 1099511627776 % 256), .int .u8 (u / 4294967296 % 256), .int .u8 (u / 16777216 % 256), .int .u8 (u / 65536 % 256), .int .u8 (u / 256 % 256), .int .u8 (u % 256)] 5)) = .ok (.string (strOfNums (be8 u))) (w.alloc (.cells #[.int .u8 (u / 72057594037927936 % 256), .int .u8 (u / 281474976710656 % 256), .int .u8 (u / 1099511627776 % 256), .int .u8 (u / 4294967296 % 256), .int .u8 (u / 16777216 % 256), .int .u8 (u / 65536 % 256), .int .u8 (u / 256 % 256), .int .u8 (u % 256)] 5)) :=
  run_convert_bytes_arg _ 30 5 Tryd.underlying30 Tryd.underlying5 w.heap.size 0 8 8 (be8 u) rfl (fun i hi => by
    rw [World.cell?_alloc_new]
    have hi' : i < 8 := hi
    match i, hi' with
    | 0, _ => rfl
    | 1, _ => rfl
    | 2, _ => rfl
    | 3, _ => rfl
    | 4, _ => rfl
    | 5, _ => rfl
    | 6, _ => rfl
    | 7, _ => rfl) 9 Tryd.underlying9
set_option maxRecDepth 20000 in
theorem reflong_any (u : Int) (w : World) : Calls Tryd.prog 33 #[.int .u64 u] w fun e w' => e = .returned (.string (strOfNums (be8 u))) ∧ w' = w.alloc (.cells ((be8 u).map (Value.int .u8)).toArray 5) := by
  have hmk := make8
  have hcv := conv8 u w
  go_enter Tryd.func33, Tryd.ntmps33
  go_wp2_with fail
  refine wp_loop_rounds 9 ?_
  rw [rounds_succ]
  go_wp2_with fail
  rw [rounds_succ]
  go_wp2_with fail
  rw [rounds_succ]
  go_wp2_with fail
  rw [rounds_succ]
  go_wp2_with fail
  rw [rounds_succ]
  go_wp2_with fail
  rw [rounds_succ]
  go_wp2_with fail
  rw [rounds_succ]
  go_wp2_with fail
  rw [rounds_succ]
  go_wp2_with fail
  rw [rounds_succ]
  go_wp2_with fail
  go_ret
  exact ⟨rfl, rfl⟩

/-- The texts that lie in a row. -/
def RdT (w : World) (A : Option Addr) (l : List ByteArray) : Prop := l ≠ [] → ∃ b off, A = some ⟨b, off, none⟩ ∧ b < w.heap.size ∧ ∀ k, (h : k < l.length) → w.cell? ⟨b, off + k, none⟩ = some (.string l[k])
/-- The sum of parts. -/
def foldT (u : Int) (l : List ByteArray) : Int := l.foldl (fun u p => fold (fold u (bytesL (be8 p.size))) p.data.toList) u
theorem foldT_snoc (u : Int) (l : List ByteArray) (p : ByteArray) : foldT u (l ++ [p]) = fold (fold (foldT u l) (bytesL (be8 p.size))) p.data.toList := by unfold foldT; rw [List.foldl_append]; rfl

theorem keep1 {w w' : World} {p : Addr} {v : Value} (hb : Below w.heap.size w w') (h : w.cell? p = some v) : w'.cell? p = some v := (hb.cell (World.block_lt_of_cell? w _ h)).trans h
theorem wrap_size {n : Nat} (h : n ≤ 9223372036854775807) : IntKind.u64.wrap (n : Int) = (n : Int) := by simp [IntKind.wrap, IntKind.bits, IntKind.signed]; omega
theorem be8_cells (u : Int) (w : World) (t : TypeId) (k : Nat) (h : k < (bytesL (be8 u)).length) : (w.alloc (.cells ((be8 u).map (Value.int .u8)).toArray t)).cell? ⟨w.heap.size, 0 + k, none⟩ = some (.int .u8 (((bytesL (be8 u))[k].toNat : Nat) : Int)) := by
  rw [World.cell?_alloc_new]
  have h' : k < 8 := by simpa [bytesL, be8] using h
  have key : ∀ n : Int, ((UInt8.ofNat (n % 256).toNat).toNat : Int) = n % 256 := fun n => by rw [UInt8.toNat_ofNat']; omega
  match k, h' with
  | 0, _ => exact congrArg (fun x => some (Value.int .u8 x)) (key _).symm
  | 1, _ => exact congrArg (fun x => some (Value.int .u8 x)) (key _).symm
  | 2, _ => exact congrArg (fun x => some (Value.int .u8 x)) (key _).symm
  | 3, _ => exact congrArg (fun x => some (Value.int .u8 x)) (key _).symm
  | 4, _ => exact congrArg (fun x => some (Value.int .u8 x)) (key _).symm
  | 5, _ => exact congrArg (fun x => some (Value.int .u8 x)) (key _).symm
  | 6, _ => exact congrArg (fun x => some (Value.int .u8 x)) (key _).symm
  | 7, _ => exact congrArg (fun x => some (Value.int .u8 x)) (key _).symm

theorem of_any (A : Option Addr) (c : Nat) (l : List ByteArray) (w : World) (hl : l.length ≤ 9223372036854775807) (hp : ∀ p ∈ l, p.size ≤ 9223372036854775807) (h : RdT w A l) :
    Calls Tryd.prog 21 #[.slice A l.length c] w fun e w' => e = .returned (.int .u64 (foldT begin_ l)) ∧ Below w.heap.size w w' := by
  by_cases h0 : l = []
  · subst h0
    clear h hp hl
    go_enter Tryd.func21, Tryd.ntmps21
    go_wp2_with fail
    refine wp_loop_rounds 1 ?_
    rw [rounds_succ]
    go_wp2_with fail
    go_ret
    exact ⟨rfl, Below.refl _ _⟩
  · obtain ⟨b, off, rfl, hb, hc⟩ := h h0
    have HC := Lib.hid hc
    have HP := Lib.hid hp
    clear hc hp h h0
    go_enter Tryd.func21, Tryd.ntmps21
    go_wp2_with fail
    go_loopw [3, 8] (fun v i wr => ∃ k : Nat, k ≤ l.length ∧ i = .int .i64 k ∧ v = .int .u64 (foldT begin_ (l.take k)) ∧ Below w.heap.size w wr) (fun _ i _ => l.length - (intOf i).toNat)
    case atStart => exact ⟨0, Nat.zero_le _, rfl, rfl, Below.refl _ _⟩
    case round =>
      obtain ⟨k, hk, rfl, rfl, hbw⟩ := hrel
      by_cases hlt : k < l.length
      · have hcell := keep1 hbw (HC.out k hlt)
        have hps := HP.out l[k] (List.getElem_mem hlt)
        have hwr := wrap_size hps
        have HB := Lib.hid hbw
        clear hbw
        go_wp2_with (first
          | (go_at_call 30; refine (long_any _ _).mono ?_; rintro e w2 ⟨rfl, rfl⟩)
          | (go_at_call 29; refine (onb_any _ _ 0 8 (bytesL (be8 l[k].size)) _ (by simp [bytesL, be8]) (be8_cells _ _ _)).mono ?_; rintro e w2 ⟨rfl, rfl⟩)
          | (go_at_call 28; refine (on_any _ _ _ hps).mono ?_; rintro e w2 ⟨rfl, rfl⟩))
        go_round
        case rel =>
          refine ⟨k + 1, by omega, by go_num, ?_, HB.out.trans ((Below.refl _ _).alloc HB.out.size _)⟩
          rw [take_snoc _ _ hlt, foldT_snoc]
        case measure => simp [intOf]; omega
      · have hkl : k = l.length := by omega
        subst hkl
        go_wp2_with fail
        go_ret
        exact ⟨ret_u64 (by first | rfl | simp), hbw⟩
theorem reflong_b (u : Int) (w : World) : Calls Tryd.prog 33 #[.int .u64 u] w fun e w' => e = .returned (.string (strOfNums (be8 u))) ∧ Below w.heap.size w w' :=
  (reflong_any u w).mono fun e w' ⟨h1, h2⟩ => ⟨h1, by subst h2; exact (Below.refl _ _).alloc (Nat.le_refl _) _⟩
theorem from_b (u : Int) (s : ByteArray) (w : World) (hs : s.size ≤ 9223372036854775807) : Calls Tryd.prog 32 #[.int .u64 u, .string s] w fun e w' => e = .returned (.int .u64 (fold u s.data.toList)) ∧ Below w.heap.size w w' :=
  (from_any u s w hs).mono fun e w' ⟨h1, h2⟩ => ⟨h1, by subst h2; exact Below.refl _ _⟩

theorem refof_any (A : Option Addr) (c : Nat) (l : List ByteArray) (w : World) (hl : l.length ≤ 9223372036854775807) (hp : ∀ p ∈ l, p.size ≤ 9223372036854775807) (h : RdT w A l) :
    Calls Tryd.prog 23 #[.slice A l.length c] w fun e w' => e = .returned (.int .u64 (foldT begin_ l)) ∧ Below w.heap.size w w' := by
  by_cases h0 : l = []
  · subst h0
    clear h hp hl
    go_enter Tryd.func23, Tryd.ntmps23
    go_wp2_with fail
    refine wp_loop_rounds 1 ?_
    rw [rounds_succ]
    go_wp2_with fail
    go_ret
    exact ⟨rfl, Below.refl _ _⟩
  · obtain ⟨b, off, rfl, hb, hc⟩ := h h0
    have HC := Lib.hid hc
    have HP := Lib.hid hp
    clear hc hp h h0
    go_enter Tryd.func23, Tryd.ntmps23
    go_wp2_with fail
    go_loopw [3, 4] (fun v i wr => ∃ k : Nat, k ≤ l.length ∧ i = .int .i64 k ∧ v = .int .u64 (foldT begin_ (l.take k)) ∧ Below w.heap.size w wr) (fun _ i _ => l.length - (intOf i).toNat)
    case atStart => exact ⟨0, Nat.zero_le _, rfl, rfl, Below.refl _ _⟩
    case round =>
      obtain ⟨k, hk, rfl, rfl, hbw⟩ := hrel
      by_cases hlt : k < l.length
      · have hcell := keep1 hbw (HC.out k hlt)
        have hps := HP.out l[k] (List.getElem_mem hlt)
        have hwr := wrap_size hps
        have HB := Lib.hid hbw
        clear hbw
        have hbz := HB.out.size
        have hcell' := hcell
        go_wp2_with fail
        go_region_held3 (fun w' => w'.cell? ⟨b, off + k, none⟩ = some (.string l[k]) ∧ wr.heap.size ≤ w'.heap.size ∧ Below w.heap.size w w')
          (first | exact ⟨hcell', Nat.le_refl _, HB.out.drew⟩ | (go_split_ands; refine ⟨?_, ?_, ?_⟩; (exact keep1 hb (by assumption)); (have := hb.size; first | omega | (simp at this; omega)); exact Below.trans (by assumption) (hb.mono (by omega))))
          (first | (go_at_call 33; refine (reflong_b _ _).mono ?_; rintro e w4 ⟨rfl, hb⟩) | (go_at_call 32; refine (from_b _ _ _ (by first | exact hps | (rw [strOfNums_size]; simp [be8]))).mono ?_; rintro e w4 ⟨rfl, hb⟩))
        go_wp2_with fail
        go_round
        case rel =>
          refine ⟨k + 1, by omega, by go_num, ?_, by go_split_ands; assumption⟩
          rw [take_snoc _ _ hlt, foldT_snoc]
          rfl
        case measure => simp [intOf]; omega
      · have hkl : k = l.length := by omega
        subst hkl
        go_wp2_with fail
        go_ret
        exact ⟨ret_u64 (by first | rfl | simp), hbw⟩
end Go.Proofs.YtpkapichblpdfaaDoor.Dg
