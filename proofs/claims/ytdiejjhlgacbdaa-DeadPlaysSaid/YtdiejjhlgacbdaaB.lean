/- LAYER 16 (dead): a table: which block is needed by which trees; New, Need, Give. -/
import Derived.Test.YtdiejjhlgacbdaaA
set_option linter.unusedVariables false
namespace Go.Proofs.Ytdiejjhlgacbdaa
open Go.RowKit Go.ChangeShapes Go.WideShapes Go.ChangeAt

theorem zero_trees (w : World) : (zeroValue 52).run Try.prog w = .ok (.int .u8 0) w := by kernel_rfl
theorem int_keys : Go.Maps.Keyed Try.prog 3 := Go.Maps.int_keyed Try.underlying3
def In64 (n : Int) : Prop := -9223372036854775808 ≤ n ∧ n ≤ 9223372036854775807
theorem wf64i {n : Int} (h : In64 n) : (Lit.int .i64 n).wf = true := by unfold In64 at h; simp [Lit.wf, IntKind.min, IntKind.max, IntKind.signed, IntKind.bits]; omega
theorem wf8i {n : Nat} (h : n < 128) : (Lit.int .u8 (n : Int)).wf = true := by simp [Lit.wf, IntKind.min, IntKind.max, IntKind.signed, IntKind.bits]; omega
theorem key_int {n : Int} (h : In64 n) : keyOf Try.prog 3 (.int .i64 n) = some (.int .i64 n) := Go.Maps.keyOf_int_mk Try.underlying3 (wf64i h)
/-- A map of blocks: by which trees each is needed. -/
def TMap (w : World) (b n : Nat) (S : Int → Nat) : Prop := ∃ D : DataW Unit, w.ownsMap Try.prog 3 (plainElem Try.prog 52) b n D ∧
  ∀ x, Go.Maps.has D (.int .i64 x) = decide (S x ≠ 0) ∧ D.atKey (.int .i64 x) (.lit (.int .u8 0)) = .lit (.int .u8 (S x))
/-- The masks are such. -/
def Good (S : Int → Nat) : Prop := ∀ x, S x < 128 ∧ (S x ≠ 0 → 2 ≤ x ∧ x < 8192)
def updS (S : Int → Nat) (b : Int) (v : Nat) : Int → Nat := fun x => if x = b then v else S x
theorem Good.upd {S : Int → Nat} (h : Good S) {b : Int} {v : Nat} (hb : 2 ≤ b ∧ b < 8192) (hv : v < 128) : Good (updS S b v) := fun x => by
  unfold updS
  split
  · subst x; exact ⟨hv, fun _ => hb⟩
  · exact h x
theorem good_none : Good (fun _ => 0) := fun x => ⟨Nat.zero_lt_succ _, fun h => absurd rfl h⟩
theorem TMap.lt {w : World} {b n : Nat} {S : Int → Nat} (h : TMap w b n S) : b < w.heap.size := by
  obtain ⟨D, h1, _⟩ := h
  exact h1.lt
theorem TMap.mono {w : World} {b n n' : Nat} {S : Int → Nat} (h : TMap w b n S) (hn : n ≤ n') : TMap w b n' S := by
  obtain ⟨D, h1, h2⟩ := h
  exact ⟨D, h1.mono hn, h2⟩
theorem TMap.off {O : Nat → Prop} {w w' : World} {b n : Nat} {S : Int → Nat} (h : TMap w b n S) (ho : Off O w w') (hn : ¬ O b) : TMap w' b n S := by
  obtain ⟨D, ⟨es, clock, hb, F, hs, hD⟩, h2⟩ := h
  exact ⟨D, ⟨es, clock, ho.obj hb hn, F, hs, hD⟩, h2⟩
theorem tmap_made (w : World) : TMap (w.alloc (.map #[] 0)) w.heap.size 0 (fun _ => 0) :=
  ⟨.map [], World.ownsMap_made w _ _ _, fun x => ⟨rfl, rfl⟩⟩
theorem TMap.look {w : World} {b n : Nat} {S : Int → Nat} (h : TMap w b n S) (x : Int) (hx : In64 x) : (Instr.lookup 48 (.map (some b)) (.int .i64 x) false).run Try.prog w = .ok (.int .u8 (S x)) w := by
  obtain ⟨D, h1, h2⟩ := h
  obtain ⟨c, hr, hv, _⟩ := h1.lookup_int int_keys Try.underlying48 Try.underlying52 (zero_trees w) (key_int hx)
  rw [(h2 x).2] at hv
  rw [hr]
  simp only [DataW.lit.injEq, Lit.int.injEq, true_and] at hv
  rw [hv]
theorem TMap.put {w : World} {b n : Nat} {S : Int → Nat} (h : TMap w b n S) (x : Int) (v : Nat) (hx : In64 x) (hv : v < 128) (hv0 : v ≠ 0) (hn : n ≤ 10000000) :
    ∃ w', (Instr.mapUpdate 48 (.map (some b)) (.int .i64 x) (.int .u8 v)).run Try.prog w = .ok () w' ∧ TMap w' b (n + 1) (updS S x v) ∧ Off (fun k => k = b) w w' := by
  obtain ⟨D, h1, h2⟩ := h
  obtain ⟨w', hr, h3, hg⟩ := h1.update int_keys Try.underlying48 (by unfold maxLen; omega) (key_int hx) (plainElem_int (a := (v : Int)) Try.underlying52 (wf8i hv))
  have hD := h1.isMap
  refine ⟨w', hr, ⟨_, h3, fun y => ?_⟩, Off.of_grown hg (fun k e => by simpa using e.symm)⟩
  unfold updS
  by_cases hy : y = x
  · subst hy
    rw [if_pos rfl, Go.Maps.has_put_same hD (by simp [WideAt.IsKeyLit]), Go.Maps.atKey_put_same hD (by simp [WideAt.IsKeyLit])]
    exact ⟨by simp [hv0], rfl⟩
  · rw [if_neg hy, Go.Maps.has_put_other (by simp; exact hy), Go.Maps.atKey_put_other (by simp; exact hy)]
    exact h2 y
theorem own_heap {w w' : World} {P : Program} {k : TypeId} {R : Value → Option (DataW Unit × List MemPlace)} {b n : Nat} {D : DataW Unit} (h : w.ownsMap P k R b n D) (hw : w'.heap = w.heap) : w'.ownsMap P k R b n D := by
  obtain ⟨es, clock, hb, F, hs, hD'⟩ := h
  exact ⟨es, clock, by rw [hw]; exact hb, F, hs, hD'⟩
/-- Behind a store of 0: a delete. -/
theorem TMap.kill {w : World} {b n : Nat} {S : Int → Nat} (h : TMap w b n S) (x : Int) (hx : In64 x) (hn : n ≤ 10000000) :
    ∃ w1, (Instr.mapUpdate 48 (.map (some b)) (.int .i64 x) (.int .u8 0)).run Try.prog w = .ok () w1 ∧ Off (fun k => k = b) w w1 ∧ (Instr.lookup 48 (.map (some b)) (.int .i64 x) false).run Try.prog w1 = .ok (.int .u8 0) w1 ∧
      ∀ w1', w1'.heap = w1.heap → ∃ w2, (∀ ty, (Builtin.delete_ #[48, 3] ty #[.map (some b), .int .i64 x]).run Try.prog w1' = .ok (.tuple #[]) w2) ∧ TMap w2 b (n + 1) (updS S x 0) ∧ Off (fun k => k = b) w1' w2 := by
  obtain ⟨D, h1, h2⟩ := h
  obtain ⟨w1, hr, h3, hg⟩ := h1.update int_keys Try.underlying48 (by unfold maxLen; omega) (key_int hx) (plainElem_int (a := ((0 : Nat) : Int)) Try.underlying52 (wf8i (by decide)))
  have hD := h1.isMap
  obtain ⟨c, hl, hv, _⟩ := h3.lookup_int int_keys Try.underlying48 Try.underlying52 (zero_trees w1) (key_int hx)
  rw [Go.Maps.atKey_put_same hD (by simp [WideAt.IsKeyLit])] at hv
  simp only [DataW.lit.injEq, Lit.int.injEq, true_and] at hv
  rw [← hv] at hl
  refine ⟨w1, hr, Off.of_grown hg (fun k e => by simpa using e.symm), hl, fun w1' hw => ?_⟩
  have h3' := own_heap h3 hw
  obtain ⟨w2, hr2, h4, ht⟩ := h3'.drop int_keys Try.underlying48 (key_int hx) 0
  refine ⟨w2, fun ty => hr2, ⟨_, h4, fun y => ?_⟩, Off.of_grown ht.grown (fun k e => by simpa using e.symm)⟩
  unfold updS
  by_cases hy : y = x
  · subst hy
    rw [if_pos rfl, Go.Maps.has_del_same, Go.Maps.atKey_del_same]
    exact ⟨by simp, rfl⟩
  · rw [if_neg hy, Go.Maps.has_del_other (by simp; exact hy), Go.Maps.atKey_del_other (by simp; exact hy), Go.Maps.has_put_other (by simp; exact hy), Go.Maps.atKey_put_other (by simp; exact hy)]
    exact h2 y
/-- A table. -/
def Tab (w : World) (r bm n : Nat) (S : Int → Nat) : Prop := w.heap[r]? = some (.cells #[.map (some bm)] 50 (0, 0)) ∧ TMap w bm n S
theorem Tab.cell {w : World} {r bm n : Nat} {S : Int → Nat} (h : Tab w r bm n S) : w.cell? ⟨r, 0, none⟩ = some (.map (some bm)) := by
  simp [World.cell?, h.1]
theorem Tab.lt {w : World} {r bm n : Nat} {S : Int → Nat} (h : Tab w r bm n S) : r < w.heap.size ∧ bm < w.heap.size := ⟨(Array.getElem?_eq_some_iff.1 h.1).1, h.2.lt⟩
theorem Tab.ne {w : World} {r bm n : Nat} {S : Int → Nat} (h : Tab w r bm n S) : r ≠ bm := by
  obtain ⟨h0, D, ⟨es, clock, hb, _⟩, _⟩ := h
  rintro rfl
  rw [h0] at hb
  simp at hb
theorem Tab.off {O : Nat → Prop} {w w' : World} {r bm n : Nat} {S : Int → Nat} (h : Tab w r bm n S) (ho : Off O w w') (h1 : ¬ O r) (h2 : ¬ O bm) : Tab w' r bm n S := ⟨ho.obj h.1 h1, h.2.off ho h2⟩
theorem Tab.below {w w' : World} {r bm n : Nat} {S : Int → Nat} (h : Tab w r bm n S) (ho : Below w.heap.size w w') : Tab w' r bm n S := h.off (Off.of_below (fun _ => False) ho) (fun h => h) (fun h => h)
theorem Tab.mono {w : World} {r bm n n' : Nat} {S : Int → Nat} (h : Tab w r bm n S) (hn : n ≤ n') : Tab w r bm n' S := ⟨h.1, h.2.mono hn⟩
theorem Tab.map {w w' : World} {r bm n n' : Nat} {S S' : Int → Nat} (h : Tab w r bm n S) (ho : Off (fun k => k = bm) w w') (h2 : TMap w' bm n' S') : Tab w' r bm n' S' := ⟨ho.obj h.1 h.ne, h2⟩
set_option maxHeartbeats 1000000 in
theorem new_any (w : World) : Calls Try.prog 7 #[] w fun e w' => ∃ r bm, e = .returned (.pointer (some ⟨r, 0, none⟩)) ∧ Tab w' r bm 0 (fun _ => 0) ∧ w.heap.size ≤ r ∧ w.heap.size ≤ bm ∧ Below w.heap.size w w' := by
  have hmm := @run_makeMap Try.prog
  go_enter Try.func7, Try.ntmps7
  go_wp2_with fail
  go_ret
  have hB : Below w.heap.size w (w.alloc (.map #[] 0)) := (Below.refl _ _).alloc (Nat.le_refl _) _
  have hz : (w.alloc (.map #[] 0)).heap.size = w.heap.size + 1 := by simp
  have h1 := heap_alloc_new (w.alloc (.map #[] 0)) (.cells #[.map (some w.heap.size)] 50 (0, 0))
  rw [hz] at h1
  exact ⟨_, w.heap.size, rfl, ⟨h1, (tmap_made w).off (Off.of_below (fun _ => False) ((Below.refl _ _).alloc (Nat.le_refl _) _)) (fun h => h)⟩, by omega, Nat.le_refl _, hB.trans (((Below.refl _ _).alloc (Nat.le_refl _) _).mono hB.size)⟩
/-- Need's code, and what is needed then. -/
def needE (S : Int → Nat) (a b : Int) : Int := if mayB a b then if (S b).testBit a.toNat then 6 else 0 else 1
def needS (S : Int → Nat) (a b : Int) : Int → Nat := if mayB a b then if (S b).testBit a.toNat then S else updS S b (withB (S b) a.toNat) else S
theorem with_ne (s t : Nat) : withB s t ≠ 0 := by
  intro h
  have : (withB s t).testBit t = true := by simp [withB, Nat.testBit_or, Nat.testBit_shiftLeft]
  rw [h] at this
  simp at this
theorem needS_good {S : Int → Nat} (h : Good S) (a b : Int) : Good (needS S a b) := by
  unfold needS
  split
  · rename_i hm
    rw [mayB_iff] at hm
    split
    · exact h
    · exact h.upd ⟨hm.2.2.1, hm.2.2.2⟩ (with_lt (h b).1 (by omega))
  · exact h
set_option maxHeartbeats 2000000 in
theorem need_any (r bm n : Nat) (S : Int → Nat) (a b : Int) (w : World) (hT : Tab w r bm n S) (hG : Good S) (hn : n ≤ 10000000) :
    Calls Try.prog 9 #[.pointer (some ⟨r, 0, none⟩), .int .i64 a, .int .i64 b] w fun e w' => e = .returned (.int .i64 (needE S a b)) ∧ Tab w' r bm (n + 1) (needS S a b) ∧ Off (fun k => k = bm) w w' := by
  have hM := may_any a b w
  have hE := Lib.hid (show needE S a b = if mayB a b then if (S b).testBit a.toNat then 6 else 0 else 1 from rfl)
  have hS := Lib.hid (show needS S a b = if mayB a b then if (S b).testBit a.toNat then S else updS S b (withB (S b) a.toNat) else S from rfl)
  generalize needE S a b = E at *
  generalize needS S a b = S' at *
  have c0 := hT.cell
  have HT := Lib.hid hT
  cases hm : mayB a b with
  | false =>
    rw [hm] at hM
    have hE' := hE.out; have hS' := hS.out
    rw [hm] at hE' hS'
    simp only [Bool.false_eq_true, if_false] at hE' hS'
    subst hE'; subst hS'
    clear hE hS hT
    go_enter Try.func9, Try.ntmps9
    go_wp2_with (go_at_call 23; refine hM.mono ?_; rintro e w1 ⟨rfl, rfl⟩)
    go_ret
    exact ⟨rfl, HT.out.mono (Nat.le_succ _), Off.refl _ _⟩
  | true =>
    rw [hm] at hM
    have hmm := mayB_iff.1 hm
    obtain ⟨t, rfl⟩ : ∃ t : Nat, a = (t : Int) := ⟨a.toNat, by omega⟩
    have ht : t < 7 := by omega
    have hs := (hG b).1
    have hb : In64 b := by unfold In64; omega
    have hlk := hT.2.look b hb
    have hlk1 : (Instr.lookup 48 (.map (some bm)) (.int .i64 b) false).run Try.prog w.drew = .ok (.int .u8 (S b)) w.drew := (hT.2.off (Off.of_below (fun _ => False) ((Below.refl _ _).drew)) (fun h => h)).look b hb
    have hH := has_any (S b) t w hs ht
    cases hbit : (S b).testBit t with
    | true =>
      rw [hbit] at hH
      have hE' := hE.out; have hS' := hS.out
      rw [hm, Int.toNat_natCast, hbit] at hE' hS'
      simp only [if_true] at hE' hS'
      subst hE'; subst hS'
      clear hE hS hT hlk1
      go_enter Try.func9, Try.ntmps9
      go_wp2_with (first | (go_at_call 23; refine hM.mono ?_; rintro e w1 ⟨rfl, rfl⟩) | (go_at_call 24; refine hH.mono ?_; rintro e w1 ⟨rfl, rfl⟩))
      go_ret
      exact ⟨rfl, HT.out.mono (Nat.le_succ _), Off.refl _ _⟩
    | false =>
      rw [hbit] at hH
      have hE' := hE.out; have hS' := hS.out
      rw [hm, Int.toNat_natCast, hbit] at hE' hS'
      simp only [if_true, Bool.false_eq_true, if_false] at hE' hS'
      subst hE'; subst hS'
      have HW := Lib.hid (show w.heap = w.drew.heap from rfl)
      obtain ⟨w2, hup, hT2, ho2⟩ := (show TMap w.drew bm n S from hT.2.off (Off.of_below (fun _ => False) ((Below.refl _ _).drew)) (fun h => h)).put b (withB (S b) t) hb (with_lt hs ht) (with_ne _ _) hn
      have ho2' : Off (fun k => k = bm) w w2 := (Off.of_below (fun k => k = bm) ((Below.refl _ w).drew)).trans ho2
      have hfin := Lib.hid (⟨HT.out.map ho2' hT2, ho2'⟩ : Tab w2 r bm (n + 1) (updS S b (withB (S b) t)) ∧ Off (fun k => k = bm) w w2)
      have cD : w.drew.cell? ⟨r, 0, none⟩ = some (.map (some bm)) := c0
      have c2 := hfin.out.1.cell
      clear hE hS hT hT2 ho2 ho2'
      go_enter Try.func9, Try.ntmps9
      go_wp2_with (first | (go_at_call 23; refine hM.mono ?_; rintro e w1 ⟨rfl, rfl⟩) | (go_at_call 24; refine hH.mono ?_; rintro e w1 ⟨rfl, rfl⟩))
      clear hlk
      go_region_held3 (fun w' => w'.cell? ⟨r, 0, none⟩ = some (.map (some bm)))
        (first | assumption | exact c0 | exact cD | exact c2)
        (first | (refine (with_any (S b) t _ hs ht).mono ?_; rintro e w1 ⟨rfl, rfl⟩) | (rw [hlk1]) | rw [hup])
      all_goals (clear hlk1 hup c0 cD c2; go_wp2_with fail; go_ret; exact ⟨rfl, hfin.out⟩)
end Go.Proofs.Ytdiejjhlgacbdaa
