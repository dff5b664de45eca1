/- LAYER 16 (dead): Who, Copy. -/
import Derived.Test.YtdiejjhlgacbdaaE
import Derived.Shelf.SlMaps.Clone
set_option linter.unusedVariables false
namespace Go.Proofs.Ytdiejjhlgacbdaa
open Go.RowKit Go.ChangeShapes Go.WideShapes Go.ChangeAt Go.Sort

theorem Off.thenNew {O O' : Nat → Prop} {w w1 w2 : World} (h : Off O w w1) (k : Off O' w1 w2) (hO : ∀ x, O' x → x < w.heap.size → O x) : Off O w w2 :=
  ⟨k.os.trans h.os, k.tape.trans h.tape, k.output.trans h.output, Nat.le_trans h.size k.size, fun i hi hn => (k.block i (Nat.lt_of_lt_of_le hi h.size) (fun hx => hn (hO i hx hi))).trans (h.block i hi hn)⟩
/-- Numbers that lie in a row. -/
def RdI (w : World) (A : Option Addr) (l : List Int) : Prop := l ≠ [] → ∃ b off, A = some ⟨b, off, none⟩ ∧ ∀ k, (h : k < l.length) → w.cell? ⟨b, off + k, none⟩ = some (.int .i64 l[k])
theorem RdI.off {O : Nat → Prop} {w w' : World} {A : Option Addr} {l : List Int} (h : RdI w A l) (ho : Off O w w') (hn : ∀ a, A = some a → ¬ O a.block) : RdI w' A l := fun hne => by
  obtain ⟨b, off, rfl, hc⟩ := h hne
  exact ⟨b, off, rfl, fun k hk => ho.cell (hc k hk) (hn ⟨b, off, none⟩ rfl)⟩
theorem OwnI.rd {w : World} {base : Nat} {A : Option Addr} {c n : Nat} {l : List Int} (h : OwnI base w (.slice A n c) l) : RdI w A l := fun hne => by
  rcases h.2 with ⟨hx, hy⟩ | ⟨g, cap, cur, hx, hb, h3, _⟩
  · exact absurd (by simpa using hy) hne
  · cases hx
    refine ⟨g, 0, rfl, fun k hk => ?_⟩
    rw [Nat.zero_add, World.ownsRow.cellAt h k (by omega)]
    simp [hk]
/-- An append at a world that bears what is needed; the block of the one number is the newest. -/
theorem own_grow {base : Nat} {v : Value} {ss : List Int} {w w' : World} {x : Int} (h : OwnI base w v ss) (hb : base ≤ w.heap.size) (hg : (w.alloc (.cells #[.int .i64 x] 3)).grownBy w' v.ownBlock) : Off (fun k => base ≤ k) w w' :=
  (Off.of_below (fun k => base ≤ k) ((Below.refl _ w).alloc (Nat.le_refl _) _)).trans (Off.of_grown hg (fun k e => (row_lt h e).1))
/-- The trees that need a block. -/
def whoU (s k : Nat) : List Int := ((List.range k).filter (fun t => s.testBit t)).map (fun t : Nat => (t : Int))
theorem whoU_succ (s k : Nat) : whoU s (k + 1) = if s.testBit k then whoU s k ++ [(k : Int)] else whoU s k := by
  unfold whoU
  rw [List.range_succ, List.filter_append, List.map_append]
  cases h : s.testBit k <;> simp [h]
theorem whoU_len (s k : Nat) : (whoU s k).length ≤ k := by
  unfold whoU
  rw [List.length_map]
  refine Nat.le_trans (List.length_filter_le _ _) ?_
  simp
/-- At the head of Who's loop. -/
def WHead (s : Nat) (w : World) (v6 v17 : Value) (wr : World) : Prop := ∃ k, k ≤ 7 ∧ v17 = .int .i64 (k : Nat) ∧ OwnI w.heap.size wr v6 (whoU s k) ∧ Below w.heap.size w wr
set_option maxRecDepth 20000 in
set_option maxHeartbeats 2000000 in
theorem who_any (r bm n : Nat) (S : Int → Nat) (b : Int) (w : World) (hT : Tab w r bm n S) (hG : Good S) (hb : In64 b) : Calls Try.prog 15 #[.pointer (some ⟨r, 0, none⟩), .int .i64 b] w (ListPost (whoU (S b) 7) w) := by
  have c0 := hT.cell
  have hlk := hT.2.look b hb
  have hs := (hG b).1
  clear hT hG
  generalize S b = s at *
  go_enter Try.func15, Try.ntmps15
  go_wp2_with fail
  clear hlk c0
  go_loopw [6, 17] (fun v6 v17 wr => WHead s w v6 v17 wr) (fun _ v17 _ => 7 - (intOf v17).toNat)
  case atStart => exact ⟨0, by omega, rfl, OwnI.nil _ _, Below.refl _ _⟩
  case round =>
    obtain ⟨k, hk, rfl, hrow, hnx⟩ := hrel
    obtain ⟨A, c, rfl, hA⟩ := hrow.form
    by_cases hk7 : k < 7
    · have hcon := has_any s k wr hs hk7
      have hw := whoU_succ s k
      have hle := whoU_len s k
      have hnz := hnx.size
      cases hbit : s.testBit k with
      | false =>
        rw [hbit] at hcon hw
        simp only [Bool.false_eq_true, if_false] at hw
        generalize whoU s k = l at *
        have HW := Lib.hid hw
        have HO := Lib.hid hrow
        have HN := Lib.hid hnx
        clear hw hrow hnx
        go_wp2_with fail
        refine hcon.mono ?_
        rintro e w2 ⟨rfl, rfl⟩
        go_wp2_with fail
        go_roundw
        case rel => exact ⟨k + 1, by omega, by go_num, by rw [HW.out]; exact HO.out, HN.out⟩
        case measure => simp [intOf]; omega
      | true =>
        rw [hbit] at hcon hw
        simp only [if_true] at hw
        generalize whoU s k = l at *
        obtain ⟨v', w3, hap, hown', hg3, hv'⟩ := own_appI hrow (k : Int) (by omega) hnz
        have HW := Lib.hid hw
        have HN := Lib.hid (hnx.trans ((own_grow hrow hnz hg3).below hnz (fun x h => h)))
        obtain ⟨A2, c2, rfl, _⟩ := hown'.form
        have HO := Lib.hid hown'
        clear hw hrow hnx hown' hg3 hv'
        go_wp2_with fail
        refine hcon.mono ?_
        rintro e w2 ⟨rfl, rfl⟩
        go_wp2_with (at_builtin; refine Go.Lib.wpList_append_run_sl _ rfl _ _ _ rfl _ _ rfl rfl hap ?_)
        go_roundw
        case rel => exact ⟨k + 1, by omega, by go_num, by rw [HW.out]; have h := HO.out; rw [List.length_append] at h; exact h, HN.out⟩
        case measure => simp [intOf]; omega
    · have hk8 : k = 7 := by omega
      subst hk8
      have HO := Lib.hid hrow
      have HN := Lib.hid hnx
      clear hrow hnx
      go_wp2_with fail
      go_ret
      exact ⟨A, c, rfl, HO.out, HN.out⟩
theorem tmap_of_heap {w w' : World} {b n : Nat} {S : Int → Nat} (h : TMap w b n S) (hw : ∀ es c, w.heap[b]? = some (.map es c) → w'.heap[b]? = some (.map es c)) : TMap w' b n S := by
  obtain ⟨D, ⟨es, clock, hb, F, hs, hD⟩, h2⟩ := h
  exact ⟨D, ⟨es, clock, hw _ _ hb, F, hs, hD⟩, h2⟩
/-- What Clone does. -/
def ClonePost (n : Nat) (S : Int → Nat) (w : World) (e : Ending) (w' : World) : Prop := e = .returned (.map (some w.heap.size)) ∧ TMap w' w.heap.size n S ∧ Below w.heap.size w w'
set_option maxHeartbeats 1000000 in
theorem clone_any (b n : Nat) (S : Int → Nat) (w : World) (h : TMap w b n S) : Calls Try.prog 28 #[.map (some b)] w (ClonePost n S w) := by
  obtain ⟨D, ⟨es, clock, hb, F, hs, hD⟩, h2⟩ := h
  have hq := fun w => run_eql_map_nil_sl (P := Try.prog) w 48 _ _ (some b) Try.underlying48
  have HF := Lib.hid (show TMap (w.alloc (.map es clock)) w.heap.size n S from ⟨D, ⟨es, clock, (MapKept.heap_alloc w _).1, F, hs, hD⟩, h2⟩)
  clear F hs hD h2
  go_enter Try.func28, Try.ntmps28
  go_wp2_with fail
  rw [run_callFunc_extern Try.func38 (by kernel_rfl) (by kernel_rfl) (by kernel_rfl) (e := Extern.MapsClone.clone) (by kernel_rfl), run_maps_clone_sl w 48 hb]
  simp only [Result.andThen]
  rw [Oper.upon_value]
  go_wp2_with fail
  rw [run_typeAssert_map_sl _ 48 20 _ _ _ Try.underlying48]
  simp only [Result.andThen]
  rw [Oper.upon_value]
  go_wp2_with fail
  go_ret
  exact ⟨rfl, HF.out, (Below.refl _ _).alloc (Nat.le_refl _) _⟩
/-- What Copy does. -/
def CopyPost (r bm n : Nat) (S : Int → Nat) (w : World) (e : Ending) (w' : World) : Prop := ∃ r2 bm2, e = .returned (.pointer (some ⟨r2, 0, none⟩)) ∧ Tab w' r2 bm2 n S ∧ w.heap.size ≤ r2 ∧ w.heap.size ≤ bm2 ∧ Below w.heap.size w w'
set_option maxHeartbeats 1000000 in
theorem copy_any (r bm n : Nat) (S : Int → Nat) (w : World) (hT : Tab w r bm n S) : Calls Try.prog 16 #[.pointer (some ⟨r, 0, none⟩)] w (CopyPost r bm n S w) := by
  have c0 := hT.cell
  have hC := clone_any bm n S w hT.2
  clear hT
  go_enter Try.func16, Try.ntmps16
  go_wp2_with (go_at_call 28; refine hC.mono ?_; rintro e w1 ⟨rfl, h1, h2⟩)
  go_ret
  have hz := h2.size
  exact ⟨_, w.heap.size, rfl, ⟨heap_alloc_new _ _, h1.off (Off.of_below (fun _ => False) ((Below.refl _ _).alloc (Nat.le_refl _) _)) (fun h => h)⟩, hz, Nat.le_refl _, h2.trans (((Below.refl _ _).alloc (Nat.le_refl _) _).mono hz)⟩
end Go.Proofs.Ytdiejjhlgacbdaa
