/- LAYER 22: rows of numbers; Same. (After our own texts of the seat dead.) -/
import Derived.Test.YtpkapichblpdfaaDoorH
import Derived.Test.YtpkapichblpdfaaDoorShs
import Derived.BigQuiet
import Derived.Maps.AppendAt
import Derived.Maps.RangeWalk
import Derived.Sort.OwnSortedInts
import Derived.Lib.SlFresh
import Derived.WalkMore
import Derived.Deep.RegionHeld3
set_option linter.unusedVariables false
namespace Go.Proofs.YtpkapichblpdfaaDoor.Dd
open Go.RowKit Go.ChangeShapes Go.WideShapes Go.ChangeAt Go.Sort

/-- But for some blocks the world is as it was. -/
structure Off (O : Nat → Prop) (w w' : World) : Prop where
  os : w'.os = w.os
  tape : w'.tape = w.tape
  output : w'.output = w.output
  size : w.heap.size ≤ w'.heap.size
  block : ∀ k, k < w.heap.size → ¬ O k → w'.heap[k]? = w.heap[k]?
theorem Off.refl (O : Nat → Prop) (w : World) : Off O w w := ⟨rfl, rfl, rfl, Nat.le_refl _, fun _ _ _ => rfl⟩
theorem Off.mono {O O' : Nat → Prop} {w w' : World} (h : Off O w w') (hO : ∀ k, k < w.heap.size → O k → O' k) : Off O' w w' := ⟨h.os, h.tape, h.output, h.size, fun k hk hn => h.block k hk (fun hx => hn (hO k hk hx))⟩
theorem Off.trans {O : Nat → Prop} {a b c : World} (h : Off O a b) (k : Off O b c) : Off O a c :=
  ⟨k.os.trans h.os, k.tape.trans h.tape, k.output.trans h.output, Nat.le_trans h.size k.size, fun i hi hn => (k.block i (Nat.lt_of_lt_of_le hi h.size) hn).trans (h.block i hi hn)⟩
theorem Off.below {O : Nat → Prop} {w w' : World} {B : Nat} (h : Off O w w') (hB : B ≤ w.heap.size) (hO : ∀ x, O x → B ≤ x) : Below B w w' :=
  ⟨h.os, h.tape, h.output, h.size, fun k hk => h.block k (by omega) (fun hx => by have := hO k hx; omega)⟩
theorem Off.of_below {w w' : World} (O : Nat → Prop) (h : Below w.heap.size w w') : Off O w w' := ⟨h.os, h.tape, h.output, h.size, fun k hk _ => h.block k hk⟩
theorem Off.of_grown {O : Nat → Prop} {w w' : World} {row : Option Nat} (h : w.grownBy w' row) (hO : ∀ k, row = some k → O k) : Off O w w' := ⟨h.os, h.tape, h.output, h.size, fun k hk hn => h.block k hk (fun e => hn (hO k e.symm))⟩
theorem Off.alloc {O : Nat → Prop} {w w' : World} (h : Off O w w') (o : Obj) : Off O w (w'.alloc o) := h.trans (Off.of_below O ((Below.refl _ _).alloc (Nat.le_refl _) o))
theorem setCell_off (w : World) (a : Addr) (v : Value) : Off (fun b => b = a.block) w (w.setCell a v) :=
  ⟨rfl, rfl, rfl, by simp [World.setCell], fun b hb hn => Below.heap_setCell w a v b hn⟩
theorem Off.obj {O : Nat → Prop} {w w' : World} (h : Off O w w') {k : Nat} {o : Obj} (hk : w.heap[k]? = some o) (hn : ¬ O k) : w'.heap[k]? = some o :=
  (h.block k (Array.getElem?_eq_some_iff.1 hk).1 hn).trans hk
theorem Off.cell {O : Nat → Prop} {w w' : World} (h : Off O w w') {a : Addr} {v : Value} (hk : w.cell? a = some v) (hn : ¬ O a.block) : w'.cell? a = some v :=
  (World.cell?_of_block (h.block a.block (World.block_lt_of_cell? w _ hk) hn)).trans hk


theorem rising_unique : ∀ {l m : List Int}, l.Pairwise (· < ·) → m.Pairwise (· < ·) → (∀ x, x ∈ l ↔ x ∈ m) → l = m := fun {l m} h1 h2 h3 => by
  refine List.Perm.eq_of_pairwise (le := fun a b => a < b) (fun a b _ _ h1 h2 => by omega) h1 h2 ((List.perm_ext_iff_of_nodup (h1.imp (fun h => by omega)) (h2.imp (fun h => by omega))).2 h3)
/-- A row of numbers of the call's own. -/
def OwnI (base : Nat) (w : World) (v : Value) (l : List Int) : Prop := w.ownsRow base 3 1 v l.length (l.map (Value.int .i64))
theorem OwnI.nil (base : Nat) (w : World) : OwnI base w (.slice none 0 0) [] := World.ownsRow_nil _ _ _ _
theorem info_int : (Tryd.prog.info? 3).map (fun i => (i.zero, i.size, i.bytes)) = some (some (.int .i64 0), 1, 8) := by kernel_rfl
theorem row_lt {w : World} {base : Nat} {e : TypeId} {size : Nat} {v : Value} {n : Nat} {xs : List Value} (h : w.ownsRow base e size v n xs) {g : Nat} (hg : v.ownBlock = some g) : base ≤ g ∧ ∃ cs, w.heap[g]? = some (.cells cs e (0, 0)) := by
  rcases h.2 with ⟨rfl, _⟩ | ⟨g', cap, cur, rfl, hb, h3, _⟩
  · cases hg
  · simp [Value.ownBlock] at hg
    subst hg
    exact ⟨hb, _, h3⟩
theorem OwnI.off {O : Nat → Prop} {w w' : World} {base : Nat} {v : Value} {l : List Int} (h : OwnI base w v l) (ho : Off O w w') (hn : ∀ g, v.ownBlock = some g → ¬ O g) : OwnI base w' v l := by
  refine ⟨h.1, ?_⟩
  rcases h.2 with h2 | ⟨g, cap, cur, rfl, hb, h3, h4⟩
  · exact .inl h2
  · exact .inr ⟨g, cap, cur, rfl, hb, ho.obj h3 (hn g rfl), h4⟩
theorem OwnI.below {w w' : World} {base : Nat} {v : Value} {l : List Int} (h : OwnI base w v l) (ho : Below w.heap.size w w') : OwnI base w' v l := h.off (Off.of_below (fun _ => False) ho) (fun _ _ h => h)
theorem OwnI.form {w : World} {base : Nat} {v : Value} {l : List Int} (h : OwnI base w v l) : ∃ A c, v = .slice A l.length c ∧ (∀ a, A = some a → base ≤ a.block ∧ a.block < w.heap.size) := by
  rcases h.2 with ⟨rfl, hx⟩ | ⟨g, cap, cur, rfl, hb, h3, _⟩
  · have : l = [] := by simpa using hx
    subst this
    exact ⟨none, 0, rfl, fun a h => by cases h⟩
  · exact ⟨_, cap, rfl, fun a h => by cases h; exact ⟨hb, (Array.getElem?_eq_some_iff.1 h3).1⟩⟩
theorem own_appI {base : Nat} {v : Value} {ss : List Int} {w : World} (h : OwnI base w v ss) (x : Int) (hl : ss.length ≤ 10000000) (hb : base ≤ w.heap.size) :
    ∃ v' w', (Builtin.append_ #[44, 44] 44 #[v, .slice (some ⟨w.heap.size, 0, none⟩) 1 1]).run Tryd.prog (w.alloc (.cells #[.int .i64 x] 3)) = .ok v' w' ∧ OwnI base w' v' (ss ++ [x]) ∧ (w.alloc (.cells #[.int .i64 x] 3)).grownBy w' v.ownBlock ∧
      (v'.ownBlock = v.ownBlock ∨ v'.ownBlock = some (w.heap.size + 1)) := by
  obtain ⟨i0, hi, hz0, hz1, hz2⟩ := info_parts info_int
  have h1 := h.below ((Below.refl _ w).alloc (Nat.le_refl _) (.cells #[.int .i64 x] 3))
  obtain ⟨v', w', hr, hown, hgrow, _, hat⟩ := run_append_own_at (P := Tryd.prog) (w.alloc (.cells #[.int .i64 x] 3)) base 44 44 3 i0 (.int .i64 0) 1 8 Tryd.underlying44 hi hz0 hz1 hz2 rfl (by decide) v ss.length (ss.map (Value.int .i64)) h1 ⟨w.heap.size, 0, none⟩ 1 1 [.int .i64 x] rfl (cell_one_new _ _ _) (by simp [Value.oneCell']) (by unfold maxLen; omega) (by omega) (by simp; omega)
  refine ⟨v', w', hr, ?_, hgrow, ?_⟩
  · unfold OwnI
    rw [List.length_append, List.map_append]
    exact hown
  · simpa using hat
/-- What a list that is told is. -/
def ListPost (L : List Int) (w : World) (e : Ending) (w' : World) : Prop := ∃ A c, e = .returned (.slice A L.length c) ∧ OwnI w.heap.size w' (.slice A L.length c) L ∧ Below w.heap.size w w'
theorem sort_any (base : Nat) (v : Value) (ss L : List Int) (w : World) (ho : OwnI base w v ss) (hL : (ss.mergeSort fun x y => decide (x ≤ y)) = L) (hs : ss.length ≤ 10000000) (hB : base ≤ w.heap.size) :
    Calls Tryd.prog 26 #[v] w fun e w' => e = .returned (.tuple #[]) ∧ OwnI base w' v L ∧ v.ownBlock = v.ownBlock ∧ Off (fun k => v.ownBlock = some k) w w' ∧ ss.length = L.length := by
  have hlen : L.length = ss.length := by rw [← hL, List.length_mergeSort]
  rcases ho.2 with ⟨rfl, hx⟩ | ⟨g, cap, cur, rfl, hbase, hb, h1, h2, h3, h4⟩
  · have : ss = [] := by simpa using hx
    subst this
    have : L = [] := by simpa using hlen
    subst this
    refine (Tryd.slices_Sort_int_none none 0 w).mono ?_
    rintro e w' ⟨rfl, rfl⟩
    exact ⟨rfl, OwnI.nil _ _, rfl, Off.refl _ _, rfl⟩
  · have hH : Holds (Value.int .i64) w g 0 ss.toArray := holds_of_blockI hb (by simpa using h4)
    refine (Tryd.slices_Sort_int g 0 cap ss w hH (Array.getElem?_eq_some_iff.1 hb).1 (by omega)).mono ?_
    rintro e w' ⟨rfl, nn, os, rfl⟩
    have hrow := ownsRow_sortedI (n := nn) (os := os) (ts := ss.mergeSort fun x y => decide (x ≤ y)) (by simp) hbase hb h1 h2 h3
    have hg := grownBy_sortedI (w := w) (g := g) (n := nn) (os := os) (ss.mergeSort fun x y => decide (x ≤ y)).toArray
    refine ⟨rfl, ?_, rfl, Off.of_grown hg (fun k e => by cases e; rfl), hlen.symm⟩
    rw [← hL]
    unfold OwnI
    rw [List.length_mergeSort]
    exact hrow
/-- Numbers that lie in a row. -/
def RdI (w : World) (A : Option Addr) (l : List Int) : Prop := l ≠ [] → ∃ b off, A = some ⟨b, off, none⟩ ∧ ∀ k, (h : k < l.length) → w.cell? ⟨b, off + k, none⟩ = some (.int .i64 l[k])
theorem OwnI.rd {w : World} {base : Nat} {A : Option Addr} {c n : Nat} {l : List Int} (h : OwnI base w (.slice A n c) l) : RdI w A l := fun hne => by
  rcases h.2 with ⟨hx, hy⟩ | ⟨g, cap, cur, hx, hb, h3, _⟩
  · exact absurd (by simpa using hy) hne
  · cases hx
    refine ⟨g, 0, rfl, fun k hk => ?_⟩
    rw [Nat.zero_add, World.ownsRow.cellAt h k (by omega)]
    simp [hk]
/-- An append at a world that bears what is needed; the block of the one number is the newest. -/
theorem own_grow {base : Nat} {v : Value} {ss : List Int} {w w' : World} {x : Int} (h : OwnI base w v ss) (hb : base ≤ w.heap.size) (hg : (w.alloc (.cells #[.int .i64 x] 3)).grownBy w' v.ownBlock) : Off (fun k => base ≤ k) w w' :=
  (Off.of_below (fun k => base ≤ k) ((Below.refl _ w).alloc (Nat.le_refl _) _)).trans (Off.of_grown hg (fun k e => (row_lt h e).1))
theorem take_snocI (l : List Int) (k : Nat) (h : k < l.length) : l.take (k + 1) = l.take k ++ [l[k]] := by
  rw [List.take_add_one, List.getElem?_eq_getElem h]; rfl
theorem take_neI {a b : List Int} {k : Nat} (h : k < a.length) (h2 : k < b.length) (hn : a[k] ≠ b[k]) : a ≠ b := fun e => by subst e; exact hn rfl
theorem RdI.below {w w' : World} {A : Option Addr} {l : List Int} (h : RdI w A l) (hb : Below w.heap.size w w') : RdI w' A l := fun hne => by
  obtain ⟨b, off, hA, hc⟩ := h hne
  exact ⟨b, off, hA, fun k hk => keep1 hb (hc k hk)⟩
set_option maxHeartbeats 2000000 in
theorem same_any (A B : Option Addr) (c d : Nat) (a b : List Int) (w : World) (hA : RdI w A a) (hB : RdI w B b) (ha : a.length ≤ 1000000) (hb : b.length ≤ 1000000) :
    Calls Tryd.prog 20 #[.slice A a.length c, .slice B b.length d] w fun e w' => e = .returned (.bool (decide (a = b))) ∧ Below w.heap.size w w' := by
  have HA := Lib.hid hA
  have HB := Lib.hid hB
  clear hA hB
  obtain ⟨R, hR⟩ : ∃ R, decide (a = b) = R := ⟨_, rfl⟩
  rw [hR]
  replace hR := Lib.hid hR
  by_cases hl : a.length = b.length
  · have hl1 : a.length ≤ b.length := by omega
    have hl2 : b.length ≤ a.length := by omega
    have hlB : ((a.length : Int) != (b.length : Int)) = false := by rw [hl]; simp
    replace hl := Lib.hid hl
    go_enter Tryd.func20, Tryd.ntmps20
    go_wp2_with fail
    go_loopw [5] (fun i wr => ∃ k : Nat, k ≤ a.length ∧ i = .int .i64 k ∧ a.take k = b.take k ∧ Below w.heap.size w wr) (fun i _ => a.length - (intOf i).toNat)
    case atStart => exact ⟨0, Nat.zero_le _, rfl, rfl, Below.refl _ _⟩
    case round =>
      obtain ⟨k, hk, rfl, hall, hbw⟩ := hrel
      replace hall := Lib.hid hall
      have HW := Lib.hid hbw
      by_cases hlt : k < a.length
      · have hlt2 : k < b.length := by omega
        obtain ⟨p, o, rfl, hcs⟩ := HA.out (by intro h; subst h; simp at hlt)
        obtain ⟨p2, o2, rfl, hcs2⟩ := HB.out (by intro h; subst h; simp at hlt2)
        have d0 := keep1 hbw (hcs k hlt)
        have d1 := keep1 hbw (hcs2 k hlt2)
        have K1 := Lib.hid (take_snocI a k hlt)
        have K2 := Lib.hid (take_snocI b k hlt2)
        have hne := Lib.hid (take_neI hlt hlt2)
        clear hcs hcs2 hbw
        have hi1 : (k : Int) < (a.length : Int) := by omega
        have hi2 : (k : Int) < (b.length : Int) := by omega
        by_cases hq : a[k] = b[k]
        · rw [← hq] at d1 K2
          generalize ha' : a[k] = x at *
          replace ha' := Lib.hid ha'
          replace hq := Lib.hid hq
          go_wp2_with fail
          go_quiet (fail)
          go_wp2_with fail
          go_roundw
          case rel => exact ⟨k + 1, by omega, by go_num, by rw [K1.out, K2.out, hall.out], ⟨HW.out.os, HW.out.tape, HW.out.output, HW.out.size, HW.out.block⟩⟩
          case measure => simp [intOf]; omega
        · have hF : R = false := by rw [← hR.out]; exact decide_eq_false (hne.out hq)
          have hqN : (a[k] != b[k]) = true := by simpa using hq
          have hqN' : decide (a[k] = b[k]) = false := by simpa using hq
          replace hF := Lib.hid hF
          generalize ha' : a[k] = x at *
          generalize hb' : b[k] = y at *
          replace ha' := Lib.hid ha'
          replace hb' := Lib.hid hb'
          go_wp2_with fail
          go_quiet (fail)
          go_wp2_with fail
          go_ret
          exact ⟨by rw [hF.out]; rfl, ⟨HW.out.os, HW.out.tape, HW.out.output, HW.out.size, HW.out.block⟩⟩
      · have hkl : k = a.length := by omega
        subst hkl
        have hT : R = true := by
          rw [← hR.out, decide_eq_true_iff]
          have := hall.out
          rw [List.take_length, hl.out, List.take_length] at this
          exact this
        replace hT := Lib.hid hT
        clear hbw
        go_wp2_with fail
        go_ret
        exact ⟨by rw [hT.out]; rfl, HW.out⟩
  · have hF : R = false := by rw [← hR.out]; exact decide_eq_false (fun e => hl (by rw [e]))
    replace hF := Lib.hid hF
    have hlB : ((a.length : Int) != (b.length : Int)) = true := by simp; omega
    go_enter Tryd.func20, Tryd.ntmps20
    go_wp2_with fail
    go_ret
    exact ⟨by rw [hF.out]; rfl, Below.refl _ _⟩
end Go.Proofs.YtpkapichblpdfaaDoor.Dd
