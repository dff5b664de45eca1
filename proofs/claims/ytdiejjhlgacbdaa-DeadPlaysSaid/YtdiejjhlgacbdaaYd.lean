/- LAYER 16, DeadPlays: spoil; the two tables side by side; do. -/
import Derived.Test.YtdiejjhlgacbdaaYc
import Derived.Test.YtdiejjhlgacbdaaK
set_option linter.unusedVariables false
namespace Go.Proofs.Ytdiejjhlgacbdaa
open Go.RowKit Go.ChangeShapes Go.WideShapes Go.ChangeAt Go.Deep

def SpHead (g n : Nat) (w wr : World) (v : Value) : Prop := ∃ (k : Nat) (cur : Array Value), k ≤ n ∧ v = .int .i64 (k : Nat) ∧ wr.heap[g]? = some (.cells cur 3 (0, 0)) ∧ n ≤ cur.size ∧ Off (fun j => j = g) w wr
theorem cell_of_row' {w : World} {g k : Nat} {cur : Array Value} {T : TypeId} (h : w.heap[g]? = some (.cells cur T (0, 0))) (hk : k < cur.size) : w.cell? ⟨g, k, none⟩ = some cur[k] ∧ w.frozen? ⟨g, k, none⟩ = false := by
  constructor
  · unfold World.cell?
    simp only
    rw [h]
    simp [hk]
  · simp only [World.frozen?]
    rw [h]
    simp
set_option maxRecDepth 20000 in
set_option maxHeartbeats 2000000 in
theorem spoil_any (base : Nat) (A : Option Addr) (n c : Nat) (l : List Int) (w : World) (h : OwnI base w (.slice A n c) l) (hn : n ≤ 1000000) : Calls Try.prog 33 #[.slice A n c] w fun e w' => e = .returned (.tuple #[]) ∧ Off (fun j => (Value.slice A n c).ownBlock = some j) w w' := by
  rcases h.spot with ⟨rfl, rfl, rfl, _⟩ | ⟨g, rfl, hg⟩
  · clear h
    go_enter Try.func33, Try.ntmps33
    go_wp2_with fail
    go_loopw [2] (fun v2 wr => v2 = .int .i64 0 ∧ wr = w) (fun _ _ => 0)
    case atStart => exact ⟨rfl, rfl⟩
    case round =>
      obtain ⟨rfl, rfl⟩ := hrel
      go_wp2_with fail
      go_end0
      exact ⟨rfl, Off.refl _ _⟩
  · have hc := h.cap
    obtain ⟨cur, hcur, hcs⟩ : ∃ cur : Array Value, w.heap[g]? = some (.cells cur 3 (0, 0)) ∧ n ≤ cur.size := by
      rcases h.2 with ⟨e, _⟩ | ⟨g', cap, cur, e, _, h3, h4, _, h6, _⟩
      · cases e
      · cases e
        exact ⟨cur, h3, by omega⟩
    clear h
    go_enter Try.func33, Try.ntmps33
    go_wp2_with fail
    go_loopw [2] (fun v2 wr => SpHead g n w wr v2) (fun v2 _ => n - (intOf v2).toNat)
    case atStart => exact ⟨0, cur, Nat.zero_le _, rfl, hcur, hcs, Off.refl _ _⟩
    case round =>
      obtain ⟨k, cur', hk, rfl, hh, hs, ho⟩ := hrel
      have HO := Lib.hid ho
      by_cases hlt : k < n
      · obtain ⟨q0, q1⟩ := cell_of_row' hh (show k < cur'.size by omega)
        have hh' := heap_setCell_same wr g k cur' _ (.int .i64 (-7)) hh
        have ho' := setCell_off wr ⟨g, k, none⟩ (.int .i64 (-7))
        have HF := Lib.hid (And.intro hh' (And.intro (show n ≤ (cur'.setIfInBounds k (.int .i64 (-7))).size by simpa using hs) (HO.out.trans (ho'.mono (fun _ _ e => e)))))
        have hk0 : (0 : Int) ≤ k := by omega
        have hk1 : (k : Int) < n := by omega
        clear hh hh' ho' ho hcur
        go_wp2_with fail
        go_roundw
        case rel => exact ⟨k + 1, _, by omega, by go_num, HF.out.1, HF.out.2.1, HF.out.2.2⟩
        case measure => simp [intOf]; omega
      · clear hh ho hcur
        go_wp2_with fail
        go_end0
        exact ⟨rfl, HO.out.mono (fun j _ e => by rw [e]; rfl)⟩
/-- The program's table and the document's, side by side: O: all their blocks. -/
def JT (O : Nat → Prop) (w : World) (r x n : Nat) (S : Int → Nat) : Prop := ∃ bm O2, Tab w r bm n S ∧ Good S ∧ XS O2 w x n S ∧ O r ∧ O bm ∧ (∀ k, O2 k → O k) ∧ ¬ O2 r ∧ ¬ O2 bm ∧ (∀ k, O k → k < w.heap.size)
theorem JT.off {O Q : Nat → Prop} {w w' : World} {r x n : Nat} {S : Int → Nat} (h : JT O w r x n S) (ho : Off Q w w') (hd : ∀ k, O k → ¬ Q k) : JT O w' r x n S := by
  obtain ⟨bm, O2, h1, h2, h3, h4, h5, h6, h7, h8, h9⟩ := h
  exact ⟨bm, O2, h1.off ho (hd _ h4) (hd _ h5), h2, h3.off ho (fun k hk => hd k (h6 k hk)), h4, h5, h6, h7, h8, fun k hk => Nat.lt_of_lt_of_le (h9 k hk) ho.size⟩
theorem JT.below {O : Nat → Prop} {w w' : World} {r x n : Nat} {S : Int → Nat} (h : JT O w r x n S) (hb : Below w.heap.size w w') : JT O w' r x n S := h.off (Off.of_below (fun _ => False) hb) (fun _ _ h => h)
theorem JT.lt {O : Nat → Prop} {w : World} {r x n : Nat} {S : Int → Nat} (h : JT O w r x n S) : ∀ k, O k → k < w.heap.size := by
  obtain ⟨bm, O2, h1, h2, h3, h4, h5, h6, h7, h8, h9⟩ := h
  exact h9
theorem JT.wide {O O' : Nat → Prop} {w : World} {r x n n' : Nat} {S : Int → Nat} (h : JT O w r x n S) (hO : ∀ k, O k → O' k) (hl : ∀ k, O' k → k < w.heap.size) (hn : n ≤ n') : JT O' w r x n' S := by
  obtain ⟨bm, O2, h1, h2, h3, h4, h5, h6, h7, h8, h9⟩ := h
  exact ⟨bm, O2, h1.mono hn, h2, h3.wide (fun k hk => hk) h3.lt hn, hO _ h4, hO _ h5, fun k hk => hO k (h6 k hk), h7, h8, hl⟩
/-- What do leaves. -/
def DoPost (O : Nat → Prop) (w : World) (r x n : Nat) (S : Int → Nat) (w' : World) : Prop := JT (grow O w w') w' r x n S ∧ Off O w w'
/-- A call of the program's, then one of the document's. -/
theorem jt_two {O O2 : Nat → Prop} {w w0 w1 w2 : World} {r bm x n' : Nat} {S' : Int → Nat} (hb : Below w.heap.size w w0) (hT : Tab w1 r bm n' S') (hG : Good S') (ho1 : Off (fun k => k = bm) w0 w1) (hX : XS (grow O2 w1 w2) w2 x n' S') (ho2 : Off O2 w1 w2)
    (h4 : O r) (h5 : O bm) (h6 : ∀ k, O2 k → O k) (h7 : ¬ O2 r) (h8 : ¬ O2 bm) (h9 : ∀ k, O k → k < w.heap.size) : JT (grow O w1 w2) w2 r x n' S' ∧ Off O w w2 := by
  have s1 := hb.size
  have s2 := ho1.size
  have s3 := ho2.size
  refine ⟨⟨bm, grow O2 w1 w2, hT.off ho2 h7 h8, hG, hX, .inl h4, .inl h5, ?_, ?_, ?_, grow_lt (fun k hk => Nat.lt_of_lt_of_le (h9 k hk) (Nat.le_trans s1 s2)) s3⟩, ?_⟩
  · rintro k (hk | hk)
    · exact .inl (h6 k hk)
    · exact .inr hk
  · rintro (h | ⟨h, _⟩)
    · exact h7 h
    · have := h9 r h4
      omega
  · rintro (h | ⟨h, _⟩)
    · exact h8 h
    · have := h9 bm h5
      omega
  · exact ((Off.of_below O hb).trans (ho1.mono (fun k _ e => by have : k = bm := e; subst this; exact h5))).trans (ho2.mono (fun k _ h => h6 k h))
theorem jt_grow {O : Nat → Prop} {w w1 w2 w3 : World} {r x n : Nat} {S : Int → Nat} (h : JT (grow O w1 w2) w3 r x n S) (hs : w.heap.size ≤ w1.heap.size) (hO : ∀ k, O k → k < w.heap.size) (hw : w.heap.size ≤ w3.heap.size) : JT (grow O w w3) w3 r x n S := by
  refine h.wide ?_ (grow_lt hO hw) (Nat.le_refl n)
  intro k hk
  rcases hk with hk' | ⟨k1, k2⟩
  · exact .inl hk'
  · exact .inr ⟨Nat.le_trans hs k1, h.lt k (.inr ⟨k1, k2⟩)⟩
theorem jt_both {O O2 : Nat → Prop} {w w0 w1 w2 : World} {r bm x n' : Nat} {S' : Int → Nat} (hb : Below w.heap.size w w0) (hT : Tab w1 r bm n' S') (hG : Good S') (ho1 : Off (fun k => k = bm) w0 w1) (hX : XS (grow O2 w1 w2) w2 x n' S') (ho2 : Off O2 w1 w2)
    (h4 : O r) (h5 : O bm) (h6 : ∀ k, O2 k → O k) (h7 : ¬ O2 r) (h8 : ¬ O2 bm) (h9 : ∀ k, O k → k < w.heap.size) : DoPost O w r x n' S' w2 := by
  obtain ⟨a, b⟩ := jt_two hb hT hG ho1 hX ho2 h4 h5 h6 h7 h8 h9
  exact ⟨jt_grow a (Nat.le_trans hb.size ho1.size) h9 b.size, b⟩
/-- What stands ahead of a step: the step lies in a box. -/
structure Ahead (O : Nat → Prop) (w wb : World) (r bm x n : Nat) (O2 : Nat → Prop) (S : Int → Nat) (bx : Nat) (κ : Nat) (t b : Int) : Prop where
  tab : Tab wb r bm n S
  good : Good S
  ref : XS O2 wb x n S
  hr : O r
  hbm : O bm
  sub : ∀ k, O2 k → O k
  nr : ¬ O2 r
  nbm : ¬ O2 bm
  lt : ∀ k, O k → k < w.heap.size
  box : w.heap.size ≤ bx
  below : Below w.heap.size w wb
  c0 : wb.cell? ⟨bx, 0, none⟩ = some (.int .u8 (κ : Nat))
  c1 : wb.cell? ⟨bx, 1, none⟩ = some (.int .i64 t)
  c2 : wb.cell? ⟨bx, 2, none⟩ = some (.int .i64 b)
theorem Ahead.later {O O2 : Nat → Prop} {w wb w' : World} {r bm x n bx κ : Nat} {S : Int → Nat} {t b : Int} (h : Ahead O w wb r bm x n O2 S bx κ t b) (hb : Below wb.heap.size wb w') : Ahead O w w' r bm x n O2 S bx κ t b :=
  ⟨h.tab.below hb, h.good, h.ref.below hb, h.hr, h.hbm, h.sub, h.nr, h.nbm, h.lt, h.box, h.below.trans (hb.mono h.below.size), keep1 hb h.c0, keep1 hb h.c1, keep1 hb h.c2⟩
theorem jt_ahead {O : Nat → Prop} {w : World} {r x n : Nat} {S : Int → Nat} (h : JT O w r x n S) (κ : Nat) (t b : Int) : ∃ bm O2, Ahead O w (w.alloc (.cells #[.int .u8 (κ : Nat), .int .i64 t, .int .i64 b] 29)) r bm x n O2 S w.heap.size κ t b := by
  obtain ⟨bm, O2, h1, h2, h3, h4, h5, h6, h7, h8, h9⟩ := h
  have hba : Below w.heap.size w (w.alloc (.cells #[.int .u8 (κ : Nat), .int .i64 t, .int .i64 b] 29)) := (Below.refl _ _).alloc (Nat.le_refl _) _
  exact ⟨bm, O2, ⟨h1.below hba, h2, h3.below hba, h4, h5, h6, h7, h8, h9, Nat.le_refl _, hba, (World.cell?_alloc_new w _ _ 0).trans rfl, (World.cell?_alloc_new w _ _ 1).trans rfl, (World.cell?_alloc_new w _ _ 2).trans rfl⟩⟩
/-- The box's cells. -/
def Bx (W : World) (bx : Nat) (t b : Int) : Prop := W.cell? ⟨bx, 1, none⟩ = some (.int .i64 t) ∧ W.cell? ⟨bx, 2, none⟩ = some (.int .i64 b)
theorem Ahead.bxs {O O2 : Nat → Prop} {w wb w1 w2 : World} {r bm x n bx κ : Nat} {S : Int → Nat} {t b : Int} (h : Ahead O w wb r bm x n O2 S bx κ t b) (ho1 : Off (fun k => k = bm) wb w1) (ho2 : Off O2 w1 w2) : Bx w1 bx t b ∧ Bx w2 bx t b := by
  have hbx := h.box
  have hne : bx ≠ bm := fun e => by have := h.lt bm h.hbm; omega
  have hno : ¬ O2 bx := fun e => by have := h.lt bx (h.sub bx e); omega
  have a1 := ho1.cell h.c1 hne
  have a2 := ho1.cell h.c2 hne
  exact ⟨⟨a1, a2⟩, ho2.cell a1 hno, ho2.cell a2 hno⟩
theorem two_need {O O2 : Nat → Prop} {w wb : World} {r bm x n bx κ : Nat} {S : Int → Nat} {t b : Int} (h : Ahead O w wb r bm x n O2 S bx κ t b) (hn : n ≤ 800000) :
    Calls Try.prog 9 #[.pointer (some ⟨r, 0, none⟩), .int .i64 t, .int .i64 b] wb fun e w1 => e = .returned (.int .i64 (needE S t b)) ∧ Bx w1 bx t b ∧
      Calls Try.prog 29 #[.pointer (some ⟨x, 0, none⟩), .int .i64 t, .int .i64 b] w1 fun e w2 => e = .returned (.int .i64 (needE S t b)) ∧ Bx w2 bx t b ∧ DoPost O w r x (n + 8192) (needS S t b) w2 := by
  refine (need_any r bm n S t b wb h.tab h.good (by omega)).mono ?_
  rintro e w1 ⟨rfl, hT, ho⟩
  have hX := h.ref.off ho (fun k hk e => h.nbm (by have : k = bm := e; subst this; exact hk))
  refine ⟨rfl, (h.bxs ho (Off.refl _ _)).1, ?_⟩
  refine (need_ref O2 x n S t b w1 hX h.good (by omega)).mono ?_
  rintro e w2 ⟨rfl, hX2, ho2⟩
  exact ⟨rfl, (h.bxs ho ho2).2, jt_both h.below (hT.mono (by omega)) (needS_good h.good t b) ho (hX2.wide (fun k hk => hk) hX2.lt (by omega)) ho2 h.hr h.hbm h.sub h.nr h.nbm h.lt⟩
theorem two_like {O O2 : Nat → Prop} {w wb : World} {r bm x n bx κ : Nat} {S : Int → Nat} {t b : Int} (h : Ahead O w wb r bm x n O2 S bx κ t b) (hn : n ≤ 800000) :
    Calls Try.prog 11 #[.pointer (some ⟨r, 0, none⟩), .int .i64 t, .int .i64 b] wb fun e w1 => e = .returned (.int .i64 (likeE S t b)) ∧ Bx w1 bx t b ∧
      Calls Try.prog 31 #[.pointer (some ⟨x, 0, none⟩), .int .i64 t, .int .i64 b] w1 fun e w2 => e = .returned (.int .i64 (likeE S t b)) ∧ Bx w2 bx t b ∧ DoPost O w r x (n + 8192) (likeS S t b) w2 := by
  refine (like_any r bm n S t b wb h.tab h.good (by omega)).mono ?_
  rintro e w1 ⟨rfl, hT, hG', ho⟩
  have hX := h.ref.off ho (fun k hk e => h.nbm (by have : k = bm := e; subst this; exact hk))
  refine ⟨rfl, (h.bxs ho (Off.refl _ _)).1, ?_⟩
  refine (like_ref O2 x n S t b w1 hX h.good (by omega)).mono ?_
  rintro e w2 ⟨rfl, hX2, ho2⟩
  exact ⟨rfl, (h.bxs ho ho2).2, jt_both h.below hT hG' ho hX2 ho2 h.hr h.hbm h.sub h.nr h.nbm h.lt⟩
theorem two_give {O O2 : Nat → Prop} {w wb : World} {r bm x n bx κ : Nat} {S : Int → Nat} {t b : Int} (h : Ahead O w wb r bm x n O2 S bx κ t b) (hn : n ≤ 800000) :
    Calls Try.prog 10 #[.pointer (some ⟨r, 0, none⟩), .int .i64 t, .int .i64 b] wb fun e w1 => e = .returned (.tuple #[.bool (giveB S t b), .int .i64 (giveE S t b)]) ∧ Bx w1 bx t b ∧
      Calls Try.prog 30 #[.pointer (some ⟨x, 0, none⟩), .int .i64 t, .int .i64 b] w1 fun e w2 => e = .returned (.tuple #[.bool (giveB S t b), .int .i64 (giveE S t b)]) ∧ Bx w2 bx t b ∧ DoPost O w r x (n + 8192) (giveS S t b) w2 := by
  refine (give_any r bm n S t b wb h.tab h.good (by omega)).mono ?_
  rintro e w1 ⟨rfl, hT, ho⟩
  have hX := h.ref.off ho (fun k hk e => h.nbm (by have : k = bm := e; subst this; exact hk))
  refine ⟨rfl, (h.bxs ho (Off.refl _ _)).1, ?_⟩
  refine (give_ref O2 x n S t b w1 hX h.good (by omega)).mono ?_
  rintro e w2 ⟨rfl, hX2, ho2⟩
  exact ⟨rfl, (h.bxs ho ho2).2, jt_both h.below (hT.mono (by omega)) (giveS_good h.good t b) ho (hX2.wide (fun k hk => hk) hX2.lt (by omega)) ho2 h.hr h.hbm h.sub h.nr h.nbm h.lt⟩
theorem two_drop {O O2 : Nat → Prop} {w wb : World} {r bm x n bx κ : Nat} {S : Int → Nat} {t b : Int} (h : Ahead O w wb r bm x n O2 S bx κ t b) (hn : n ≤ 800000) (ht : In64 t) :
    Calls Try.prog 13 #[.pointer (some ⟨r, 0, none⟩), .int .i64 t] wb fun e w1 => ∃ A1 c1, e = .returned (.tuple #[.slice A1 (dropU S t).2.length c1, .int .i64 (dropE t)]) ∧ Bx w1 bx t b ∧
      Calls Try.prog 32 #[.pointer (some ⟨x, 0, none⟩), .int .i64 t] w1 fun e w2 => ∃ A2 c2, e = .returned (.tuple #[.slice A2 (dropU S t).2.length c2, .int .i64 (dropE t)]) ∧
        Calls Try.prog 20 #[.slice A1 (dropU S t).2.length c1, .slice A2 (dropU S t).2.length c2] w2 fun e w3 => e = .returned (.bool true) ∧
          Calls Try.prog 33 #[.slice A1 (dropU S t).2.length c1] w3 fun e w4 => e = .returned (.tuple #[]) ∧ DoPost O w r x (n + 8192) (dropU S t).1 w4 := by
  have hlen : (dropU S t).2.length ≤ 8192 := by
    rw [dropU_spec h.good]
    split
    · exact Nat.le_trans (List.length_filter_le _ _) (ofL_len _ _)
    · simp
  refine (drop_any r bm n S t wb h.tab h.good (by omega) ht).mono ?_
  rintro e w1 ⟨A1, c1, rfl, hown, hT, hG', ho⟩
  have hX := h.ref.off ho (fun k hk e => h.nbm (by have : k = bm := e; subst this; exact hk))
  refine ⟨A1, c1, rfl, (h.bxs ho (Off.refl _ _)).1, ?_⟩
  refine (drop_ref O2 x n S t w1 hX h.good (by omega)).mono ?_
  rintro e w2 ⟨A2, c2, rfl, hown2, hX2, ho2⟩
  refine ⟨A2, c2, rfl, ?_⟩
  have sb := h.below.size
  have hnO2 : ∀ g, (Value.slice A1 (dropU S t).2.length c1).ownBlock = some g → ¬ O2 g := fun g hg hk => by
    have h1 := (row_lt hown hg).1
    have h2 := h.lt g (h.sub g hk)
    omega
  have hown' := hown.off ho2 hnO2
  obtain ⟨j1, j2⟩ := jt_two h.below hT hG' ho (hX2.wide (fun k hk => hk) hX2.lt (show n ≤ n + 8192 by omega)) ho2 h.hr h.hbm h.sub h.nr h.nbm h.lt
  have hs := same_any A1 A2 c1 c2 (dropU S t).2 (dropU S t).2 w2 hown'.rd hown2.rd (by omega) (by omega)
  rw [decide_eq_true rfl] at hs
  refine hs.mono ?_
  rintro e w3 ⟨rfl, hb3⟩
  refine ⟨rfl, ?_⟩
  refine (spoil_any wb.heap.size A1 _ c1 (dropU S t).2 w3 (hown'.below hb3) (by omega)).mono ?_
  rintro e w4 ⟨rfl, ho4⟩
  have s1 := ho.size
  have s2 := ho2.size
  have s3 := hb3.size
  have s4 := ho4.size
  refine ⟨rfl, jt_grow (O := O) (w := w) ((j1.below hb3).off ho4 ?_) (Nat.le_trans sb s1) h.lt (by omega), ?_⟩
  · rintro k (hk | ⟨hk, _⟩) e
    · have h1 := (row_lt hown e).1
      have h2 := h.lt k hk
      omega
    · obtain ⟨_, cs, hcs⟩ := row_lt hown e
      have := (Array.getElem?_eq_some_iff.1 hcs).1
      omega
  · refine ((j2.trans (Off.of_below O hb3)).thenNew ho4 (fun g hg hlt => ?_))
    have h1 := (row_lt hown hg).1
    omega
end Go.Proofs.Ytdiejjhlgacbdaa
