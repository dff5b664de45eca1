/- LAYER 16, the document's table: its state; Who, Need. -/
import Derived.Test.YtdiejjhlgacbdaaT
import Derived.Maps.AppendAt
set_option linter.unusedVariables false
namespace Go.Proofs.Ytdiejjhlgacbdaa
open Go.RowKit Go.ChangeShapes Go.WideShapes Go.ChangeAt

theorem rdP_cells {W : World} {g off : Nat} {Q : List Pr} (h : RdP W (some ⟨g, off, none⟩) Q) : ∀ j u, (pcells Q)[j]? = some u → W.cell? ((⟨g, off, none⟩ : Addr).add j) = some u := fun j u hj => by
  have hl := pcells_len Q
  have hjl : j < Q.length * 2 := by
    have := (List.getElem?_eq_some_iff.1 hj).1
    omega
  obtain ⟨b, o, e, hc⟩ := h (by intro e; subst e; simp at hjl)
  simp only [Option.some.injEq, Addr.mk.injEq, and_true] at e
  obtain ⟨rfl, rfl⟩ := e
  have hk : j / 2 < Q.length := by omega
  obtain ⟨c0, c1⟩ := hc (j / 2) hk
  obtain ⟨a0, a1⟩ := pcells_at Q (j / 2) hk
  rw [Go.WideShapes.add_plain]
  rcases Nat.mod_two_eq_zero_or_one j with hm | hm
  · have e : j = j / 2 * 2 := by omega
    rw [e] at hj
    rw [a0] at hj
    rw [e, ← hj, ← c0]
    try (congr 2; omega)
  · have e : j = j / 2 * 2 + 1 := by omega
    rw [e] at hj
    rw [a1] at hj
    rw [e, ← hj, ← c1]
    exact congrArg (fun z => W.cell? ⟨g, z, none⟩) (by omega)
/-- Pairs behind pairs. -/
theorem own_appsP {W : World} {v : Value} {P : List Pr} (h : OwnP W v P) (g off c : Nat) (Q : List Pr) (hQ : RdP W (some ⟨g, off, none⟩) Q) (hl : P.length + Q.length ≤ 100000000) :
    ∃ v' W', (Builtin.append_ #[41, 41] 41 #[v, .slice (some ⟨g, off, none⟩) Q.length c]).run Try.prog W = .ok v' W' ∧ OwnP W' v' (P ++ Q) ∧ W.grownBy W' v.ownBlock ∧ (v'.ownBlock = v.ownBlock ∨ v'.ownBlock = some W.heap.size) := by
  obtain ⟨i0, hi, hz0, hz1, hz2⟩ := info_parts info_pair
  obtain ⟨v', W', hr, hown, hgrow, _, hat⟩ := run_append_own_at (P := Try.prog) W 0 41 41 62 i0 (.agg #[.int .i64 0, .int .i64 0]) 2 16 Try.underlying41 hi hz0 hz1 hz2 rfl (by decide) v P.length (pcells P) h ⟨g, off, none⟩ Q.length c (pcells Q) (pcells_len Q) (rdP_cells hQ) (pcells_one Q) (by unfold maxLen; omega) (by omega) (Nat.zero_le _)
  refine ⟨v', W', hr, ?_, hgrow, hat⟩
  unfold OwnP
  rw [List.length_append, pcells_append]
  exact hown
theorem rd_pair (w : World) (a b : Int) : RdP (w.alloc (.cells #[.int .i64 a, .int .i64 b] 62)) (some ⟨w.heap.size, 0, none⟩) [(a, b)] := fun _ => ⟨w.heap.size, 0, rfl, fun k hk => by
  obtain rfl : k = 0 := by simp at hk; omega
  exact ⟨(World.cell?_alloc_new w _ _ 0).trans rfl, (World.cell?_alloc_new w _ _ 1).trans rfl⟩⟩
/-- The document's table: its own blocks are among O. -/
def RT (O : Nat → Prop) (w : World) (x : Nat) (P : List Pr) : Prop := ∃ v, w.heap[x]? = some (.cells #[v] 43 (0, 0)) ∧ OwnP w v P ∧ v.ownBlock ≠ some x ∧ O x ∧ (∀ g, v.ownBlock = some g → O g) ∧ (∀ k, O k → k < w.heap.size)
/-- What is made between two worlds counts as own. -/
def grow (O : Nat → Prop) (w w' : World) : Nat → Prop := fun k => O k ∨ (w.heap.size ≤ k ∧ k < w'.heap.size)
theorem own_lt {w : World} {v : Value} {P : List Pr} (h : OwnP w v P) {g : Nat} (hg : v.ownBlock = some g) : g < w.heap.size := by
  obtain ⟨_, cs, hc⟩ := row_lt h hg
  exact (Array.getElem?_eq_some_iff.1 hc).1
theorem RT.off {O Q : Nat → Prop} {w w' : World} {x : Nat} {P : List Pr} (h : RT O w x P) (ho : Off Q w w') (hd : ∀ k, O k → ¬ Q k) : RT O w' x P := by
  obtain ⟨v, h1, h2, h3, h4, h5, h6⟩ := h
  exact ⟨v, ho.obj h1 (hd x h4), h2.off ho (fun g hg => hd g (h5 g hg)), h3, h4, h5, fun k hk => Nat.lt_of_lt_of_le (h6 k hk) ho.size⟩
theorem RT.below {O : Nat → Prop} {w w' : World} {x : Nat} {P : List Pr} (h : RT O w x P) (hb : Below w.heap.size w w') : RT O w' x P := h.off (Off.of_below (fun _ => False) hb) (fun _ _ h => h)
theorem RT.wide {O O' : Nat → Prop} {w : World} {x : Nat} {P : List Pr} (h : RT O w x P) (hO : ∀ k, O k → O' k) (hl : ∀ k, O' k → k < w.heap.size) : RT O' w x P := by
  obtain ⟨v, h1, h2, h3, h4, h5, h6⟩ := h
  exact ⟨v, h1, h2, h3, hO x h4, fun g hg => hO g (h5 g hg), hl⟩
theorem RT.look {O : Nat → Prop} {w : World} {x : Nat} {P : List Pr} (h : RT O w x P) : ∃ A c, w.cell? ⟨x, 0, none⟩ = some (.slice A P.length c) ∧ RdP w A P := by
  obtain ⟨v, h1, h2, _⟩ := h
  obtain ⟨A, c, rfl, _, h3, _⟩ := h2.form
  refine ⟨A, c, ?_, h3⟩
  unfold World.cell?
  simp only
  rw [h1]
  rfl
theorem off_size {O : Nat → Prop} {w w' : World} (h : Off O w w') : w.heap.size ≤ w'.heap.size := h.size
/-- A row is stored into the table. -/
theorem rt_store {O : Nat → Prop} {w W' : World} {x : Nat} {v v' : Value} {P' : List Pr} (hx : w.heap[x]? = some (.cells #[v] 43 (0, 0))) (hvx : v.ownBlock ≠ some x) (hOx : O x) (hOv : ∀ g, v.ownBlock = some g → O g) (hOl : ∀ k, O k → k < w.heap.size)
    (ho : Off (fun k => v.ownBlock = some k) w W') (hown : OwnP W' v' P') (hv : v'.ownBlock = v.ownBlock ∨ ∃ g, v'.ownBlock = some g ∧ w.heap.size ≤ g) :
    RT (grow O w (W'.setCell ⟨x, 0, none⟩ v')) (W'.setCell ⟨x, 0, none⟩ v') x P' ∧ Off O w (W'.setCell ⟨x, 0, none⟩ v') := by
  have hxl := (Array.getElem?_eq_some_iff.1 hx).1
  have hs := setCell_off W' ⟨x, 0, none⟩ v'
  have hx' : W'.heap[x]? = some (.cells #[v] 43 (0, 0)) := ho.obj hx hvx
  have hnx : v'.ownBlock ≠ some x := by
    rcases hv with e | ⟨g, e, hg⟩
    · rw [e]; exact hvx
    · rw [e]; simp; omega
  have hsz := hs.size
  have hsz2 := ho.size
  refine ⟨⟨v', ?_, hown.off hs (fun g hg e => hnx (by rw [hg]; exact congrArg some e)), hnx, .inl hOx, ?_, ?_⟩, ?_⟩
  · have := heap_setCell_same W' x 0 #[v] _ v' hx'
    rw [this]
    rfl
  · intro g hg
    rcases hv with e | ⟨g', e, hg'⟩
    · exact .inl (hOv g (by rw [← e]; exact hg))
    · refine .inr ⟨?_, ?_⟩
      · rw [e] at hg
        cases hg
        exact hg'
      · exact Nat.lt_of_lt_of_le (own_lt hown hg) hsz
  · rintro k (hk | ⟨_, hk⟩)
    · exact Nat.lt_of_lt_of_le (hOl k hk) (Nat.le_trans hsz2 hsz)
    · exact hk
  · exact (ho.mono (fun k _ e => hOv k e)).trans (hs.mono (fun k _ e => by have : k = x := e; subst this; exact hOx))
/-- Who needs what, by the document. -/
def Rel (S : Int → Nat) (P : List Pr) : Prop := P.Nodup ∧ ∀ a b, (a, b) ∈ P ↔ (0 ≤ a ∧ a ≤ 6 ∧ (S b).testBit a.toNat = true)
def whoL (P : List Pr) (b : Int) (k : Nat) : List Int := ((List.range k).filter (fun t : Nat => decide (((t : Int), b) ∈ P))).map (fun t : Nat => (t : Int))
theorem whoL_succ (P : List Pr) (b : Int) (k : Nat) : whoL P b (k + 1) = if ((k : Int), b) ∈ P then whoL P b k ++ [(k : Int)] else whoL P b k := by
  unfold whoL
  rw [List.range_succ, List.filter_append, List.map_append]
  by_cases h : ((k : Int), b) ∈ P <;> simp [h]
theorem whoL_len (P : List Pr) (b : Int) (k : Nat) : (whoL P b k).length ≤ k := by
  unfold whoL
  rw [List.length_map]
  refine Nat.le_trans (List.length_filter_le _ _) ?_
  simp
theorem whoL_eq {S : Int → Nat} {P : List Pr} (h : Rel S P) (b : Int) : whoL P b 7 = whoU (S b) 7 := by
  unfold whoL whoU
  congr 1
  refine List.filter_congr fun t ht => ?_
  have ht7 : t < 7 := by simpa using ht
  rw [Bool.eq_iff_iff, decide_eq_true_iff, h.2]
  simp
  omega
def WHeadP (P : List Pr) (b : Int) (w : World) (v5 v6 : Value) (wr : World) : Prop := ∃ k, k ≤ 7 ∧ v6 = .int .i64 (k : Nat) ∧ OwnI w.heap.size wr v5 (whoL P b k) ∧ Below w.heap.size w wr
set_option maxRecDepth 20000 in
set_option maxHeartbeats 2000000 in
theorem who_ref (x : Nat) (A0 : Option Addr) (c0 : Nat) (P : List Pr) (b : Int) (w : World) (hx : w.cell? ⟨x, 0, none⟩ = some (.slice A0 P.length c0)) (hR : RdP w A0 P) (hl : P.length ≤ 20000000) : Calls Try.prog 35 #[.pointer (some ⟨x, 0, none⟩), .int .i64 b] w (ListPost (whoL P b 7) w) := by
  have HC := Lib.hid (fun (k : Nat) (W : World) (hb : Below w.heap.size w W) => at_any x A0 c0 P ((k : Int), b) W (keep1 hb hx) (hR.below hb) hl)
  clear hx hR hl
  go_enter Try.func35, Try.ntmps35
  go_wp2_with fail
  go_loopw [5, 6] (fun v5 v6 wr => WHeadP P b w v5 v6 wr) (fun _ v6 _ => 7 - (intOf v6).toNat)
  case atStart => exact ⟨0, by omega, rfl, OwnI.nil _ _, Below.refl _ _⟩
  case round =>
    obtain ⟨k, hk, rfl, hrow, hnx⟩ := hrel
    obtain ⟨A, c, rfl, hA⟩ := hrow.form
    by_cases hk7 : k < 7
    · have hcon := HC.out k wr hnx
      have hw := whoL_succ P b k
      have hle := whoL_len P b k
      have hnz := hnx.size
      have hge := atP_ge (P := P) (p := ((k : Int), b))
      generalize atP P ((k : Int), b) = E at *
      by_cases hm : ((k : Int), b) ∈ P
      · rw [if_pos hm] at hw
        have hE : (0 : Int) ≤ E := hge.2 hm
        clear hge hm
        generalize whoL P b k = l at *
        have HW := Lib.hid hw
        have HN := Lib.hid hnx
        have HO := Lib.hid hrow
        clear hw hrow hnx
        go_wp2_with fail
        refine hcon.mono ?_
        rintro e w2 ⟨rfl, hb2⟩
        obtain ⟨v', w3, hap, hown', hg3, hv'⟩ := own_appI (HO.out.below hb2) (k : Int) (by omega) (Nat.le_trans hnz hb2.size)
        have HN2 := Lib.hid ((HN.out.trans (hb2.mono hnz)).trans ((own_grow (HO.out.below hb2) (Nat.le_trans hnz hb2.size) hg3).below (Nat.le_trans hnz hb2.size) (fun x h => h)))
        obtain ⟨A2, c2, rfl, _⟩ := hown'.form
        replace HO := Lib.hid hown'
        clear hown' hg3 hv' hb2 hcon HN
        go_wp2_with (at_builtin; refine Go.Lib.wpList_append_run_sl _ rfl _ _ _ rfl _ _ rfl rfl hap ?_)
        go_roundw
        case rel => exact ⟨k + 1, by omega, by go_num, by rw [HW.out]; have h := HO.out; rw [List.length_append] at h; exact h, HN2.out⟩
        case measure => simp [intOf]; omega
      · rw [if_neg hm] at hw
        have hE : ¬ (0 : Int) ≤ E := fun h => hm (hge.1 h)
        clear hge hm
        generalize whoL P b k = l at *
        have HW := Lib.hid hw
        have HN := Lib.hid hnx
        have HO := Lib.hid hrow
        clear hw hrow hnx
        go_wp2_with fail
        refine hcon.mono ?_
        rintro e w2 ⟨rfl, hb2⟩
        have HN2 := Lib.hid (HN.out.trans (hb2.mono hnz))
        replace HO := Lib.hid (HO.out.below hb2)
        clear hb2 hcon HN
        go_wp2_with fail
        go_roundw
        case rel => exact ⟨k + 1, by omega, by go_num, by rw [HW.out]; exact HO.out, HN2.out⟩
        case measure => simp [intOf]; omega
    · have hk8 : k = 7 := by omega
      subst hk8
      have HO := Lib.hid hrow
      have HN := Lib.hid hnx
      clear hrow hnx
      go_wp2_with fail
      go_ret
      exact ⟨A, c, rfl, HO.out, HN.out⟩
theorem Rel.need {S : Int → Nat} {P : List Pr} (hG : Good S) (h : Rel S P) {a b : Int} (hm : mayB a b = true) (hn : (a, b) ∉ P) : Rel (needS S a b) (P ++ [(a, b)]) := by
  have h2 := mayB_iff.1 hm
  have hbit : ¬ (S b).testBit a.toNat = true := fun e => hn ((h.2 a b).2 ⟨h2.1, h2.2.1, e⟩)
  refine ⟨?_, fun c d => ?_⟩
  · rw [List.nodup_append]
    refine ⟨h.1, by simp, ?_⟩
    intro p hp q hq e
    simp at hq
    subst hq
    subst e
    exact hn hp
  · unfold needS
    rw [if_pos hm, if_neg hbit, List.mem_append, h.2]
    unfold updS
    simp only [List.mem_singleton, Prod.mk.injEq]
    by_cases hd : d = b
    · subst hd
      rw [if_pos rfl]
      constructor
      · rintro (⟨p1, p2, p3⟩ | ⟨rfl, _⟩)
        · refine ⟨p1, p2, ?_⟩
          rw [with_bit (hG d).1 (by omega) (by omega), p3]
          rfl
        · refine ⟨h2.1, h2.2.1, ?_⟩
          rw [with_bit (hG d).1 (by omega) (by omega)]
          simp
      · rintro ⟨p1, p2, p3⟩
        rw [with_bit (hG d).1 (by omega) (by omega)] at p3
        simp at p3
        rcases p3 with p3 | p3
        · exact .inl ⟨p1, p2, p3⟩
        · exact .inr ⟨by omega, rfl⟩
    · rw [if_neg hd]
      simp [hd]
theorem rel_in {S : Int → Nat} {P : List Pr} (h : Rel S P) {a b : Int} (hm : mayB a b = true) : (a, b) ∈ P ↔ (S b).testBit a.toNat = true := by
  have h2 := mayB_iff.1 hm
  rw [h.2]
  exact ⟨fun h => h.2.2, fun h => ⟨h2.1, h2.2.1, h⟩⟩
/-- The document's table stands for S. -/
def XS (O : Nat → Prop) (w : World) (x n : Nat) (S : Int → Nat) : Prop := ∃ P, RT O w x P ∧ Rel S P ∧ P.length ≤ n
theorem XS.off {O Q : Nat → Prop} {w w' : World} {x n : Nat} {S : Int → Nat} (h : XS O w x n S) (ho : Off Q w w') (hd : ∀ k, O k → ¬ Q k) : XS O w' x n S := by
  obtain ⟨P, h1, h2, h3⟩ := h
  exact ⟨P, h1.off ho hd, h2, h3⟩
theorem XS.below {O : Nat → Prop} {w w' : World} {x n : Nat} {S : Int → Nat} (h : XS O w x n S) (hb : Below w.heap.size w w') : XS O w' x n S := h.off (Off.of_below (fun _ => False) hb) (fun _ _ h => h)
theorem XS.wide {O O' : Nat → Prop} {w : World} {x n n' : Nat} {S : Int → Nat} (h : XS O w x n S) (hO : ∀ k, O k → O' k) (hl : ∀ k, O' k → k < w.heap.size) (hn : n ≤ n') : XS O' w x n' S := by
  obtain ⟨P, h1, h2, h3⟩ := h
  exact ⟨P, h1.wide hO hl, h2, by omega⟩
theorem XS.lt {O : Nat → Prop} {w : World} {x n : Nat} {S : Int → Nat} (h : XS O w x n S) : ∀ k, O k → k < w.heap.size := by
  obtain ⟨P, ⟨v, h1, h2, h3, h4, h5, h6⟩, _⟩ := h
  exact h6
theorem XS.own {O : Nat → Prop} {w : World} {x n : Nat} {S : Int → Nat} (h : XS O w x n S) : O x := by
  obtain ⟨P, ⟨v, h1, h2, h3, h4, h5, h6⟩, _⟩ := h
  exact h4
theorem grow_lt {O : Nat → Prop} {w w' : World} (hO : ∀ k, O k → k < w.heap.size) (hs : w.heap.size ≤ w'.heap.size) : ∀ k, grow O w w' k → k < w'.heap.size := by
  rintro k (h | h)
  · exact Nat.lt_of_lt_of_le (hO k h) hs
  · exact h.2
theorem XS.grown {O : Nat → Prop} {w w' : World} {x n n' : Nat} {S : Int → Nat} (h : XS O w x n S) (hb : Below w.heap.size w w') (hn : n ≤ n') : XS (grow O w w') w' x n' S :=
  (h.below hb).wide (fun k hk => .inl hk) (grow_lt h.lt hb.size) hn
theorem cell_of_obj {w : World} {x : Nat} {v : Value} {T : TypeId} (h : w.heap[x]? = some (.cells #[v] T (0, 0))) : w.cell? ⟨x, 0, none⟩ = some v ∧ w.frozen? ⟨x, 0, none⟩ = false := by
  constructor
  · unfold World.cell?
    simp only
    rw [h]
    rfl
  · simp only [World.frozen?]
    rw [h]
    simp
/-- A pair behind the others. -/
theorem push_ref {O : Nat → Prop} {w : World} {x : Nat} {P : List Pr} (h : RT O w x P) (a b : Int) (hl : P.length ≤ 20000000) : ∃ A c A' c' W' v', w.cell? ⟨x, 0, none⟩ = some (.slice A P.length c) ∧ v' = .slice A' (P ++ [(a, b)]).length c' ∧
    (Builtin.append_ #[41, 41] 41 #[.slice A P.length c, .slice (some ⟨w.heap.size, 0, none⟩) 1 1]).run Try.prog (w.alloc (.cells #[.int .i64 a, .int .i64 b] 62)) = .ok v' W' ∧
    W'.cell? ⟨x, 0, none⟩ = some (.slice A P.length c) ∧ W'.frozen? ⟨x, 0, none⟩ = false ∧ RT (grow O w (W'.setCell ⟨x, 0, none⟩ v')) (W'.setCell ⟨x, 0, none⟩ v') x (P ++ [(a, b)]) ∧ Off O w (W'.setCell ⟨x, 0, none⟩ v') := by
  obtain ⟨v, h1, h2, h3, h4, h5, h6⟩ := h
  obtain ⟨A, c, rfl, h7, _⟩ := h2.form
  have hba : Below w.heap.size w (w.alloc (.cells #[.int .i64 a, .int .i64 b] 62)) := (Below.refl _ _).alloc (Nat.le_refl _) _
  have h2' : OwnP (w.alloc (.cells #[.int .i64 a, .int .i64 b] 62)) (.slice A P.length c) P := h2.off (Off.of_below (fun _ => False) hba) (fun _ _ h => h)
  obtain ⟨v', W', hr, hown, hg, hv⟩ := own_appsP h2' w.heap.size 0 1 [(a, b)] (rd_pair w a b) (by simp; omega)
  obtain ⟨A', c', rfl, _⟩ := hown.form
  have ho : Off (fun k => (Value.slice A P.length c).ownBlock = some k) w W' := (Off.of_below _ hba).trans (Off.of_grown hg (fun k e => e))
  obtain ⟨r1, r2⟩ := rt_store (O := O) h1 h3 h4 h5 h6 ho hown (hv.imp (fun h => h) (fun h => ⟨_, h, by simp⟩))
  have hcx := cell_of_obj (ho.obj h1 h3)
  exact ⟨A, c, A', c', W', _, (cell_of_obj h1).1, rfl, hr, hcx.1, hcx.2, r1, r2⟩
def RefPost (O : Nat → Prop) (x n : Nat) (S : Int → Nat) (v : Value) (w : World) (e : Ending) (w' : World) : Prop := e = .returned v ∧ XS (grow O w w') w' x n S ∧ Off O w w'
set_option maxRecDepth 20000 in
set_option maxHeartbeats 2000000 in
theorem need_ref (O : Nat → Prop) (x n : Nat) (S : Int → Nat) (a b : Int) (w : World) (hX : XS O w x n S) (hG : Good S) (hn : n ≤ 10000000) : Calls Try.prog 29 #[.pointer (some ⟨x, 0, none⟩), .int .i64 a, .int .i64 b] w (RefPost O x (n + 1) (needS S a b) (.int .i64 (needE S a b)) w) := by
  have HT := tree_any a w
  have HK := block_any b w
  by_cases ht : 0 ≤ a ∧ a ≤ 6
  · by_cases hb : 2 ≤ b ∧ b < 8192
    · have hm : mayB a b = true := mayB_iff.2 ⟨ht.1, ht.2, hb.1, hb.2⟩
      obtain ⟨P, hRT, hRel, hPn⟩ := hX
      obtain ⟨A, c, hx, hR⟩ := hRT.look
      have HA := at_any x A c P (a, b) w hx hR (by omega)
      have hge := atP_ge (P := P) (p := (a, b))
      rw [decide_eq_true ht] at HT
      rw [decide_eq_true hb] at HK
      by_cases hin : (a, b) ∈ P
      · have hbit := (rel_in hRel hm).1 hin
        have hE : needE S a b = 6 := by unfold needE; rw [if_pos hm, if_pos hbit]
        have hS : needS S a b = S := by unfold needS; rw [if_pos hm, if_pos hbit]
        rw [hE, hS]
        have h0 : 0 ≤ atP P (a, b) := hge.2 hin
        have HX := Lib.hid (show XS O w x n S from ⟨P, hRT, hRel, hPn⟩)
        clear hge hx hR hRT hRel hE hS hbit hin
        generalize atP P (a, b) = E at *
        replace ht := Lib.hid ht
        replace hb := Lib.hid hb
        go_enter Try.func29, Try.ntmps29
        go_wp2_with fail
        refine HT.mono ?_
        rintro e w1 ⟨rfl, rfl⟩
        go_wp2_with fail
        refine HK.mono ?_
        rintro e w1 ⟨rfl, rfl⟩
        go_wp2_with fail
        refine HA.mono ?_
        rintro e w2 ⟨rfl, hb2⟩
        clear HA HT HK
        have HP := Lib.hid (And.intro (HX.out.grown hb2 (Nat.le_succ n)) (Off.of_below O hb2))
        go_wp2_with fail
        go_ret
        exact ⟨rfl, HP.out⟩
      · have hbit : ¬ (S b).testBit a.toNat = true := fun e => hin ((rel_in hRel hm).2 e)
        have hE : needE S a b = 0 := by unfold needE; rw [if_pos hm, if_neg hbit]
        have hRel' := Rel.need hG hRel hm hin
        rw [hE]
        generalize needS S a b = S' at *
        have h0 : ¬ 0 ≤ atP P (a, b) := fun h => hin (hge.1 h)
        replace hRel' := Lib.hid hRel'
        have HRT := Lib.hid hRT
        clear hge hx hR hRT hRel hE hbit hin
        generalize atP P (a, b) = E at *
        replace ht := Lib.hid ht
        replace hb := Lib.hid hb
        go_enter Try.func29, Try.ntmps29
        go_wp2_with fail
        refine HT.mono ?_
        rintro e w1 ⟨rfl, rfl⟩
        go_wp2_with fail
        refine HK.mono ?_
        rintro e w1 ⟨rfl, rfl⟩
        go_wp2_with fail
        refine HA.mono ?_
        rintro e w2 ⟨rfl, hb2⟩
        clear HA HT HK
        obtain ⟨A1, c1, A2, c2, W', v', hcx, rfl, hap, hcx2, hfx2, hrt, hoff⟩ := push_ref (HRT.out.below hb2) a b (by omega)
        have HP : Hid (XS (grow O _ (W'.setCell ⟨x, 0, none⟩ _)) (W'.setCell ⟨x, 0, none⟩ _) x (n + 1) S' ∧ Off O _ (W'.setCell ⟨x, 0, none⟩ _)) := Lib.hid ⟨⟨_, hrt.wide (fun k hk => hk.imp (fun h => h) (fun h => ⟨Nat.le_trans hb2.size h.1, h.2⟩)) (grow_lt (fun k hk => Nat.lt_of_lt_of_le (HRT.out.choose_spec.2.2.2.2.2 k hk) (Nat.le_refl _)) (Nat.le_trans hb2.size hoff.size)), hRel'.out, by rw [List.length_append]; simp; omega⟩, (Off.of_below O hb2).trans hoff⟩
        clear hrt hoff hb2
        go_wp2_with (at_builtin; refine Go.Lib.wpList_append_run_sl _ rfl _ _ _ rfl _ _ rfl rfl hap ?_)
        go_ret
        exact ⟨rfl, by have h := HP.out; rw [List.length_append] at h; exact h⟩
    · have hm : mayB a b = false := by
        rw [← Bool.not_eq_true, mayB_iff]
        exact fun h => hb ⟨h.2.2.1, h.2.2.2⟩
      have hE : needE S a b = 1 := by unfold needE; rw [hm]; rfl
      have hS : needS S a b = S := by unfold needS; rw [hm]; rfl
      rw [hE, hS]
      rw [decide_eq_true ht] at HT
      rw [decide_eq_false hb] at HK
      have HX := Lib.hid (And.intro (hX.grown (Below.refl _ w) (Nat.le_succ n)) (Off.refl O w))
      clear hX hE hS hm
      replace ht := Lib.hid ht
      replace hb := Lib.hid hb
      go_enter Try.func29, Try.ntmps29
      go_wp2_with fail
      refine HT.mono ?_
      rintro e w1 ⟨rfl, rfl⟩
      go_wp2_with fail
      refine HK.mono ?_
      rintro e w1 ⟨rfl, rfl⟩
      go_wp2_with fail
      go_ret
      exact ⟨rfl, HX.out⟩
  · have hm : mayB a b = false := by
      rw [← Bool.not_eq_true, mayB_iff]
      exact fun h => ht ⟨h.1, h.2.1⟩
    have hE : needE S a b = 1 := by unfold needE; rw [hm]; rfl
    have hS : needS S a b = S := by unfold needS; rw [hm]; rfl
    rw [hE, hS]
    rw [decide_eq_false ht] at HT
    have HX := Lib.hid (And.intro (hX.grown (Below.refl _ w) (Nat.le_succ n)) (Off.refl O w))
    clear hX hE hS hm
    replace ht := Lib.hid ht
    go_enter Try.func29, Try.ntmps29
    go_wp2_with fail
    refine HT.mono ?_
    rintro e w1 ⟨rfl, rfl⟩
    go_wp2_with fail
    go_ret
    exact ⟨rfl, HX.out⟩
end Go.Proofs.Ytdiejjhlgacbdaa
