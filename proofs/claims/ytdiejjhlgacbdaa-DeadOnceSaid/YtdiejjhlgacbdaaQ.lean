/- WALK of DeadOnce. -/
import Derived.Test.YtdiejjhlgacbdaaO
import Derived.Deep.CutRange
import Derived.Deep.CutBlock
set_option linter.unusedVariables false
namespace Go.Proofs.Ytdiejjhlgacbdaa
open Go.RowKit Go.ChangeShapes Go.WideShapes Go.ChangeAt Go.Deep

/-- What holds at the head of the loop. -/
def DS (w wr : World) (r bm kb n : Nat) (S : Int → Nat) (K : Nat → List Int) : Prop := Tab wr r bm n S ∧ Good S ∧ KInv S K ∧ KArr wr kb bm K ∧ kb ≠ r ∧ kb ≠ bm ∧ w.heap.size ≤ r ∧ w.heap.size ≤ bm ∧ w.heap.size ≤ kb ∧ Below w.heap.size w wr
theorem DS.below {w wr w' : World} {r bm kb n : Nat} {S : Int → Nat} {K : Nat → List Int} (h : DS w wr r bm kb n S K) (hb : Below wr.heap.size wr w') : DS w w' r bm kb n S K := by
  obtain ⟨h1, h2, h3, h4, h5, h6, h7, h8, h9, h10⟩ := h
  exact ⟨h1.below hb, h2, h3, h4.below hb, h5, h6, h7, h8, h9, h10.trans (hb.mono h10.size)⟩
theorem DS.step {w wr w' : World} {r bm kb n n' : Nat} {S S' : Int → Nat} {K : Nat → List Int} (h : DS w wr r bm kb n S K) (hT : Tab w' r bm n' S') (hG : Good S') (hK : KInv S' K) (ho : Off (fun k => k = bm) wr w') : DS w w' r bm kb n' S' K := by
  obtain ⟨h1, h2, h3, h4, h5, h6, h7, h8, h9, h10⟩ := h
  exact ⟨hT, hG, hK, h4.off ho h6 (fun _ e => e), h5, h6, h7, h8, h9, h10.trans (ho.below h10.size (fun x hx => by omega))⟩
theorem KInv.drop {S : Int → Nat} {K : Nat → List Int} (h : KInv S K) (m : Nat) : KInv S (updK K m []) := fun n h1 h7 x hx => by
  unfold updK at hx
  split at hx
  · simp at hx
  · exact h n h1 h7 x hx
theorem DS.setK {w wr : World} {r bm kb n : Nat} {S : Int → Nat} {K : Nat → List Int} (h : DS w wr r bm kb n S K) (m : Nat) (hm : m < 7) (l : List Int) (hl : l.length ≤ 8192) (A : Option Addr) (c : Nat) (hR : RdI wr A l) (hA : ∀ a, A = some a → a.block ≠ kb ∧ a.block ≠ bm) (hK : KInv S (updK K m l)) :
    DS w (wr.setCell ⟨kb, m, none⟩ (.slice A l.length c)) r bm kb n S (updK K m l) := by
  obtain ⟨h1, h2, h3, h4, h5, h6, h7, h8, h9, h10⟩ := h
  have ho := setCell_off wr ⟨kb, m, none⟩ (.slice A l.length c)
  exact ⟨h1.off ho (fun e => h5 e.symm) (fun e => h6 e.symm), h2, hK, h4.set m hm l hl A c hR hA, h5, h6, h7, h8, h9, h10.trans (ho.below h10.size (fun x hx => by have : x = kb := hx; omega))⟩
theorem dropU_len (S : Int → Nat) (hG : Good S) (t : Int) : (dropU S t).2.length ≤ 8192 := by
  rw [dropU_spec hG]
  split
  · exact Nat.le_trans (List.length_filter_le _ _) (ofL_len _ _)
  · simp
theorem karr_new (w : World) (T bm : Nat) : KArr (w.alloc (.cells #[.slice none 0 0, .slice none 0 0, .slice none 0 0, .slice none 0 0, .slice none 0 0, .slice none 0 0, .slice none 0 0] T)) w.heap.size bm (fun _ => []) := fun n hn => by
  refine ⟨by simp, none, 0, ?_, ?_, fun h => absurd rfl h, fun a h => by cases h⟩
  · rw [World.cell?_alloc_new w _ _ n]
    match n, hn with
    | 0, _ => rfl
    | 1, _ => rfl
    | 2, _ => rfl
    | 3, _ => rfl
    | 4, _ => rfl
    | 5, _ => rfl
    | 6, _ => rfl
  · have h := heap_alloc_new w (.cells #[.slice none 0 0, .slice none 0 0, .slice none 0 0, .slice none 0 0, .slice none 0 0, .slice none 0 0, .slice none 0 0] T)
    simp only [World.frozen?]
    rw [h]
    simp
/-- A step, then a row of what was kept is put out. -/
theorem DS.stepSet {w wr w' : World} {r bm kb n n' : Nat} {S S' : Int → Nat} {K : Nat → List Int} (h : DS w wr r bm kb n S K) (hT : Tab w' r bm n' S') (hG : Good S') (ho : Off (fun k => k = bm) wr w') (m : Nat) (hm : m < 7) (hK : KInv S' (updK K m [])) :
    DS w (w'.setCell ⟨kb, m, none⟩ (.slice none 0 0)) r bm kb n' S' (updK K m []) := by
  obtain ⟨h1, h2, h3, h4, h5, h6, h7, h8, h9, h10⟩ := h
  have ho2 := setCell_off w' ⟨kb, m, none⟩ (.slice none 0 0)
  have hb := h10.trans (ho.below h10.size (fun x hx => by omega))
  exact ⟨hT.off ho2 (fun e => h5 e.symm) (fun e => h6 e.symm), hG, hK, (h4.off ho h6 (fun _ e => e)).set m hm [] (Nat.zero_le _) none 0 (fun h => absurd rfl h) (fun a h => by cases h), h5, h6, h7, h8, h9, hb.trans (ho2.below hb.size (fun x hx => by have : x = kb := hx; omega))⟩
theorem KArr.room {w : World} {kb bm : Nat} {K : Nat → List Int} (h : KArr w kb bm K) (m : Nat) (hm : m < 7) : (∃ v, w.cell? ⟨kb, m, none⟩ = some v) ∧ w.frozen? ⟨kb, m, none⟩ = false := by
  obtain ⟨_, A, c, hc, hf, _, _⟩ := h m hm
  exact ⟨⟨_, hc⟩, hf⟩
theorem setCell_size_eq (w : World) (a : Addr) (v : Value) : (w.setCell a v).heap.size = w.heap.size := by simp
theorem rd_lone (w : World) (b : Int) : RdI (w.alloc (.cells #[.int .i64 b] 3)) (some ⟨w.heap.size, 0, none⟩) [b] := fun _ => ⟨w.heap.size, 0, rfl, fun k hk => by
  obtain rfl : k = 0 := by simp at hk; omega
  exact (World.cell?_alloc_new w _ _ 0).trans rfl⟩
/-- Behind the switch. -/
def CutO (w wx : World) (r bm kb bx k : Nat) (o : Stp) (S : Int → Nat) (K : Nat → List Int) (Aw : Option Addr) (s8 : Value) : Prop := ∃ Ag cg, s8 = .slice Ag (stepG o S).length cg ∧ (stepG o S).length ≤ 8192 ∧ RdI wx Ag (stepG o S) ∧ DS w wx r bm kb (8192 * (k + 1)) (stepS o S) (stepK o S K) ∧ RdI wx Aw (blks prAll S) ∧
  wx.cell? ⟨bx, 0, none⟩ = some (.int .u8 (o.kind : Nat)) ∧ wx.cell? ⟨bx, 1, none⟩ = some (.int .i64 o.tree) ∧ wx.cell? ⟨bx, 2, none⟩ = some (.int .i64 o.block)
/-- What the inner loops read. -/
def FO (w W : World) (r bm kb bx n : Nat) (S : Int → Nat) (K : Nat → List Int) (Ag Aw An : Option Addr) (g was now : List Int) (κ : Nat) (bl : Int) : Prop :=
  DS w W r bm kb n S K ∧ RdI W Ag g ∧ RdI W Aw was ∧ RdI W An now ∧ W.cell? ⟨bx, 0, none⟩ = some (.int .u8 (κ : Nat)) ∧ W.cell? ⟨bx, 2, none⟩ = some (.int .i64 bl)
theorem FO.below {w W W' : World} {r bm kb bx n : Nat} {S : Int → Nat} {K : Nat → List Int} {Ag Aw An : Option Addr} {g was now : List Int} {κ : Nat} {bl : Int} (h : FO w W r bm kb bx n S K Ag Aw An g was now κ bl) (hb : Below W.heap.size W W') : FO w W' r bm kb bx n S K Ag Aw An g was now κ bl := by
  obtain ⟨h1, h2, h3, h4, h5, h6⟩ := h
  exact ⟨h1.below hb, h2.below hb, h3.below hb, h4.below hb, keep1 hb h5, keep1 hb h6⟩
theorem who_zero (r bm n : Nat) (S : Int → Nat) (b : Int) (w : World) (hT : Tab w r bm n S) (hG : Good S) (hb : In64 b) (h0 : whoU (S b) 7 = []) :
    Calls Try.prog 15 #[.pointer (some ⟨r, 0, none⟩), .int .i64 b] w fun e w' => ∃ A c, e = .returned (.slice A 0 c) ∧ Below w.heap.size w w' := by
  refine (who_any r bm n S b w hT hG hb).mono fun e w' h => ?_
  rw [h0] at h
  obtain ⟨A, c, he, _, hb⟩ := h
  exact ⟨A, c, he, hb⟩
theorem who_some (r bm n : Nat) (S : Int → Nat) (b : Int) (w : World) (hT : Tab w r bm n S) (hG : Good S) (hb : In64 b) (h0 : whoU (S b) 7 ≠ []) :
    Calls Try.prog 15 #[.pointer (some ⟨r, 0, none⟩), .int .i64 b] w fun e w' => ∃ A c m, e = .returned (.slice A m c) ∧ m ≤ 7 ∧ (((m : Nat) : Int) == 0) = false ∧ Below w.heap.size w w' := by
  refine (who_any r bm n S b w hT hG hb).mono fun e w' h => ?_
  obtain ⟨A, c, he, _, hb⟩ := h
  refine ⟨A, c, _, he, whoU_len _ _, ?_, hb⟩
  have : (whoU (S b) 7).length ≠ 0 := fun e => h0 (List.eq_nil_of_length_eq_zero e)
  simpa using this
theorem in_all {S : Int → Nat} (hG : Good S) {x : Int} (h : x ∈ blks prAll S) : In64 x := by
  have := (hG x).2 ((mem_all hG).1 h)
  unfold In64
  omega
/-- At an inner loop's head. -/
def GH (w wr : World) (len : Nat) (v : Value) : Prop := ∃ j, j ≤ len ∧ v = .int .i64 (j : Nat) ∧ Below w.heap.size w wr
def NH (w wr : World) (v : Value) : Prop := ∃ n, 1 ≤ n ∧ n ≤ 7 ∧ v = .int .i64 (n : Nat) ∧ Below w.heap.size w wr
theorem wpAnyH_at {P : Program} {md : Region.Mode} {ops : Array Oper} {Q : Exit → Act → World → Prop} {S : World → Prop} {fuel : Nat} {l l' : Array Bool} {a : Act} {w : World} (h : l = l') (H : wpAnyH P md ops Q S fuel l' a w) : wpAnyH P md ops Q S fuel l a w := h ▸ H
theorem wpAnyH_from {P : Program} {md : Region.Mode} {ops : Array Oper} {Q : Exit → Act → World → Prop} {S : World → Prop} {n n' : Nat} {l l' : Array Bool} {a : Act} {w : World} (hn : n = n') (h : l = l') (H : wpAnyH P md ops Q S n' l' a w) : wpAnyH P md ops Q S n l a w := hn ▸ h ▸ H
/-- At the head of the loop. -/
def OHead (w wr : World) (r bm kb len : Nat) (v5 : Value) : Prop := ∃ k S K, k ≤ len ∧ v5 = .int .i64 (k : Nat) ∧ DS w wr r bm kb (8192 * k) S K
set_option maxRecDepth 100000 in
set_option maxHeartbeats 4000000 in
theorem once_walk (A : Option Addr) (c : Nat) (l : List Stp) (w : World) (hR : RdO w A l) (hlm : l.length ≤ maxLen) (hok : ∀ o ∈ l, OkOp o) :
    Calls Try.prog 3 #[.slice A l.length c] w fun e w' => e = .returned (.bool true) ∧ Below w.heap.size w w' := by
  have HR := Lib.hid hR
  have HO := Lib.hid hok
  clear hR hok
  unfold maxLen at hlm
  by_cases h80 : 80 < l.length
  · go_enter Try.func3, Try.ntmps3
    go_wp2_with fail
    refine (awake_any w).mono ?_
    rintro e w1 ⟨rfl, hb⟩
    replace hb := Lib.hid hb
    go_wp2_with fail
    go_ret
    exact ⟨rfl, hb.out⟩
  go_enter Try.func3, Try.ntmps3
  go_wp2_with fail
  refine (awake_any w).mono ?_
  rintro e w1 ⟨rfl, hb1⟩
  replace hb1 := Lib.hid hb1
  go_wp2_with fail
  refine (new_any w1).mono ?_
  rintro e w2 ⟨r, bm, rfl, hT2, hr, hbm, hB2⟩
  have T2 := Lib.hid hT2
  have B2 := Lib.hid (hb1.out.trans (hB2.mono hb1.out.size))
  have hz1 := hb1.out.size
  clear hT2 hB2
  go_wp2_with fail
  have hT3 := T2.out.lt
  have KN := Lib.hid (fun T => karr_new w2 T bm)
  have B3 := Lib.hid (fun (o : Obj) => (Below.refl w2.heap.size w2).alloc (Nat.le_refl _) o)
  go_loopw [5] (fun v5 wr => OHead w wr r bm w2.heap.size l.length v5) (fun v5 _ => l.length - (intOf v5).toNat)
  case atStart =>
    refine ⟨0, fun _ => 0, fun _ => [], by omega, rfl, T2.out.below (B3.out _), good_none, fun n _ _ x hx => by simp at hx, KN.out _, by omega, by omega, by omega, by omega, by have := B2.out.size; omega, B2.out.trans ((B3.out _).mono B2.out.size)⟩
  case round =>
    obtain ⟨k, S, K, hk, rfl, hs⟩ := hrel
    clear KN B3 B2 T2 hb1
    generalize w2.heap.size = kb at *
    clear hT3 hr hbm
    by_cases hlt : k < l.length
    · obtain ⟨b, off, rfl, hbl, hcs⟩ := HR.out (by intro h; subst h; simp at hlt)
      obtain ⟨e0, e1, e2⟩ := hcs k hlt
      have d0 := keep1 hs.2.2.2.2.2.2.2.2.2 e0
      have d1 := keep1 hs.2.2.2.2.2.2.2.2.2 e1
      have d2 := keep1 hs.2.2.2.2.2.2.2.2.2 e2
      clear hcs e0 e1 e2
      have hoo := HO.out l[k] (List.getElem_mem hlt)
      generalize hol : l[k] = o at *
      obtain ⟨κ, t, bl⟩ := o
      simp only at d0 d1 d2
      obtain ⟨hκ, hti, hbi⟩ := hoo
      simp only at hκ hti hbi
      replace hol := Lib.hid hol
      have HS := Lib.hid hs
      clear hs
      go_wp2_with fail
      have hbx : Below wr.heap.size wr (wr.alloc (.cells #[.int .u8 (κ : Nat), .int .i64 t, .int .i64 bl] 29)) := (Below.refl _ _).alloc (Nat.le_refl _) _
      have p0 : (wr.alloc (.cells #[.int .u8 (κ : Nat), .int .i64 t, .int .i64 bl] 29)).cell? ⟨wr.heap.size, 0, none⟩ = some (.int .u8 (κ : Nat)) := (World.cell?_alloc_new wr _ _ 0).trans rfl
      have p1 : (wr.alloc (.cells #[.int .u8 (κ : Nat), .int .i64 t, .int .i64 bl] 29)).cell? ⟨wr.heap.size, 1, none⟩ = some (.int .i64 t) := (World.cell?_alloc_new wr _ _ 1).trans rfl
      have p2 : (wr.alloc (.cells #[.int .u8 (κ : Nat), .int .i64 t, .int .i64 bl] 29)).cell? ⟨wr.heap.size, 2, none⟩ = some (.int .i64 bl) := (World.cell?_alloc_new wr _ _ 2).trans rfl
      have HS1 := Lib.hid (HS.out.below hbx)
      have hga := hbx.size
      have hgb : wr.heap.size < (wr.alloc (.cells #[.int .u8 (κ : Nat), .int .i64 t, .int .i64 bl] 29)).heap.size := by simp
      have hgk : kb < wr.heap.size ∧ bm < wr.heap.size := ⟨World.block_lt_of_cell? wr _ (HS.out.2.2.2.1 0 (by omega)).2.choose_spec.choose_spec.1, HS.out.1.lt.2⟩
      clear hbx HS d0 d1 d2 hga
      generalize (wr.alloc (.cells #[.int .u8 (κ : Nat), .int .i64 t, .int .i64 bl] 29)) = wa at *
      generalize wr.heap.size = bx at *
      refine (all_any r bm (8192 * k) S wa HS1.out.1 HS1.out.2.1 (by omega)).mono ?_
      rintro e wb ⟨Aw, cw, rfl, hwas, hb⟩
      have RW := Lib.hid hwas.rd
      have hAw : ∀ a, Aw = some a → wa.heap.size ≤ a.block := fun a ha => by
        obtain ⟨A1, c1, e1, h1⟩ := hwas.form
        cases e1
        exact (h1 a ha).1
      replace hAw := Lib.hid hAw
      replace p0 := keep1 hb p0
      replace p1 := keep1 hb p1
      replace p2 := keep1 hb p2
      have HS2 := Lib.hid (HS1.out.below hb)
      have hwl := blks_len prAll S
      have hzb := hb.size
      clear hwas hb HS1
      go_upto_block 2 with fail
      go_cut [8] from 25 to 214 (fun s8 wx => CutO w wx r bm kb bx k ⟨κ, t, bl⟩ S K Aw s8)
      case first =>
        by_cases h0 : κ = 0
        · as_aux_lemma =>
            subst h0
            have hN := need_any r bm (8192 * k) S t bl wb HS2.out.1 HS2.out.2.1 (by omega)
            have hG' := needS_good HS2.out.2.1 t bl
            have hK' := step_inv ⟨0, t, bl⟩ HS2.out.2.1 HS2.out.2.2.1
            go_wp2_with fail
            refine hN.mono ?_
            rintro e wc ⟨rfl, hT, ho⟩
            have HS3 := Lib.hid (HS2.out.step (hT.mono (n' := 8192 * (k + 1)) (by omega)) hG' hK' ho)
            have RW3 := Lib.hid (RW.out.off ho (fun a ha => by have := hAw.out a ha; omega))
            replace p0 := ho.cell p0 (by show bx ≠ bm; omega)
            replace p1 := ho.cell p1 (by show bx ≠ bm; omega)
            replace p2 := ho.cell p2 (by show bx ≠ bm; omega)
            clear hT ho hN
            go_wp2_with fail
            go_meet
            exact ⟨none, 0, rfl, Nat.zero_le _, fun h => absurd rfl h, HS3.out, RW3.out, p0, p1, p2⟩
        by_cases h1 : κ = 1
        · as_aux_lemma =>
            subst h1
            have hN := give_any r bm (8192 * k) S t bl wb HS2.out.1 HS2.out.2.1 (by omega)
            have hG' := giveS_good HS2.out.2.1 t bl
            have hKI := step_inv ⟨1, t, bl⟩ HS2.out.2.1 HS2.out.2.2.1
            replace hKI := Lib.hid (show KInv (giveS S t bl) (if giveE S t bl = 0 ∧ t ≠ 0 then updK K t.toNat [] else K) from hKI)
            have hbE : giveB S t bl = true → giveE S t bl = 0 := giveB_code
            have hmE : giveE S t bl = 0 → 0 ≤ t ∧ t ≤ 6 := fun h => by
              unfold giveE at h
              split at h
              · rename_i hm
                have := mayB_iff.1 hm
                exact ⟨this.1, this.2.1⟩
              · cases h
            by_cases hE0 : giveE S t bl = 0
            · by_cases ht0 : t = 0
              · subst ht0
                have hKept : stepK ⟨1, 0, bl⟩ S K = K := by simp [stepK]
                have hKK := hKI.out
                rw [if_neg (by simp)] at hKK
                replace hKK := Lib.hid hKK
                replace hKept := Lib.hid hKept
                clear hKI hmE hbE
                by_cases hB : giveB S 0 bl = true
                · have hGone : stepG ⟨1, 0, bl⟩ S = [bl] := by simp [stepG, hB]
                  replace hGone := Lib.hid hGone
                  rw [hB, hE0] at hN
                  clear hE0 hB
                  go_wp2_with fail
                  refine hN.mono ?_
                  rintro e wc ⟨rfl, hT, ho⟩
                  have hba : Below wc.heap.size wc (wc.alloc (.cells #[.int .i64 bl] 3)) := (Below.refl _ _).alloc (Nat.le_refl _) _
                  have HS3 := Lib.hid ((HS2.out.step (hT.mono (n' := 8192 * (k + 1)) (by omega)) hG' hKK.out ho).below hba)
                  have RG := Lib.hid (rd_lone wc bl)
                  have RW3 := Lib.hid ((RW.out.off ho (fun a ha => by have := hAw.out a ha; omega)).below hba)
                  replace p0 := ho.cell p0 (by show bx ≠ bm; omega)
                  replace p1 := ho.cell p1 (by show bx ≠ bm; omega)
                  replace p2 := ho.cell p2 (by show bx ≠ bm; omega)
                  have pa0 := keep1 hba p0
                  have pa1 := keep1 hba p1
                  have pa2 := keep1 hba p2
                  have HQ := Lib.hid (And.intro pa0 (And.intro pa1 pa2))
                  clear hT ho hN hba
                  go_wp2_with fail
                  go_meet
                  exact ⟨some ⟨wc.heap.size, 0, none⟩, 1, by rw [hGone.out]; rfl, by rw [hGone.out]; simp, by rw [hGone.out]; exact RG.out, by rw [hKept.out]; exact HS3.out, RW3.out, HQ.out.1, HQ.out.2.1, HQ.out.2.2⟩
                · have hBf : giveB S 0 bl = false := by simpa using hB
                  have hGone : stepG ⟨1, 0, bl⟩ S = [] := by simp [stepG, hBf]
                  replace hGone := Lib.hid hGone
                  rw [hBf, hE0] at hN
                  clear hE0 hB hBf
                  go_wp2_with fail
                  refine hN.mono ?_
                  rintro e wc ⟨rfl, hT, ho⟩
                  have HS3 := Lib.hid (HS2.out.step (hT.mono (n' := 8192 * (k + 1)) (by omega)) hG' hKK.out ho)
                  have RW3 := Lib.hid (RW.out.off ho (fun a ha => by have := hAw.out a ha; omega))
                  replace p0 := ho.cell p0 (by show bx ≠ bm; omega)
                  replace p1 := ho.cell p1 (by show bx ≠ bm; omega)
                  replace p2 := ho.cell p2 (by show bx ≠ bm; omega)
                  clear hT ho hN
                  go_wp2_with fail
                  go_meet
                  exact ⟨none, 0, by rw [hGone.out]; rfl, by rw [hGone.out]; exact Nat.zero_le _, fun h => absurd hGone.out h, by rw [hKept.out]; exact HS3.out, RW3.out, p0, p1, p2⟩
              · obtain ⟨m, rfl⟩ : ∃ m : Nat, t = (m : Int) := ⟨t.toNat, by have := hmE hE0; omega⟩
                have hm7 : m < 7 := by have := hmE hE0; omega
                have hm0 : (((m : Nat) : Int) == 0) = false := by simpa using ht0
                have hm6 : (m : Int) ≤ 6 := by omega
                have hKept : stepK ⟨1, m, bl⟩ S K = updK K m [] := by simp [stepK, hE0]; intro h; exact absurd (by omega) ht0
                have hKK := hKI.out
                rw [if_pos ⟨hE0, ht0⟩, Int.toNat_natCast] at hKK
                replace hKK := Lib.hid hKK
                replace hKept := Lib.hid hKept
                replace ht0 := Lib.hid ht0
                clear hKI hmE hbE
                by_cases hB : giveB S m bl = true
                · have hGone : stepG ⟨1, m, bl⟩ S = [bl] := by simp [stepG, hB]
                  replace hGone := Lib.hid hGone
                  rw [hB, hE0] at hN
                  clear hE0 hB
                  go_wp2_with fail
                  refine hN.mono ?_
                  rintro e wc ⟨rfl, hT, ho⟩
                  have hba : Below wc.heap.size wc (wc.alloc (.cells #[.int .i64 bl] 3)) := (Below.refl _ _).alloc (Nat.le_refl _) _
                  replace p0 := ho.cell p0 (by show bx ≠ bm; omega)
                  replace p1 := ho.cell p1 (by show bx ≠ bm; omega)
                  replace p2 := ho.cell p2 (by show bx ≠ bm; omega)
                  have pa0 := keep1 hba p0
                  have pa1 := keep1 hba p1
                  have pa2 := keep1 hba p2
                  have hka := HS2.out.2.2.2.1.off (ho.alloc (.cells #[.int .i64 bl] 3)) HS2.out.2.2.2.2.2.1 (fun _ e => e)
                  obtain ⟨⟨v0, hc0⟩, hf0⟩ := hka.room m hm7
                  have ho2 := ho.alloc (.cells #[.int .i64 bl] 3)
                  have hT2 := hT.below hba
                  have hst := setCell_off (wc.alloc (.cells #[.int .i64 bl] 3)) ⟨kb, m, none⟩ (.slice none 0 0)
                  have HS3 := Lib.hid (HS2.out.stepSet (hT2.mono (n' := 8192 * (k + 1)) (by omega)) hG' ho2 m hm7 hKK.out)
                  have RW3 := RW.out.off ho2 (fun a ha => by have := hAw.out a ha; omega)
                  replace RW3 := Lib.hid (RW3.off hst (fun a ha e => by have := hAw.out a ha; have e' : a.block = kb := e; omega))
                  have hsz := ho.size
                  have hkw : kb < wc.heap.size := by omega
                  have RG := Lib.hid ((rd_lone wc bl).off hst (fun a ha e => by cases ha; have e' : wc.heap.size = kb := e; omega))
                  have HQ := Lib.hid (And.intro (hst.cell pa0 (by show bx ≠ kb; omega)) (And.intro (hst.cell pa1 (by show bx ≠ kb; omega)) (hst.cell pa2 (by show bx ≠ kb; omega))))
                  clear hT ho hN hka hst hba ho2 hT2 hkw hsz
                  go_wp2_with fail
                  go_meet
                  exact ⟨some ⟨wc.heap.size, 0, none⟩, 1, by rw [hGone.out]; rfl, by rw [hGone.out]; simp, by rw [hGone.out]; exact RG.out, by rw [hKept.out]; exact HS3.out, RW3.out, HQ.out.1, HQ.out.2.1, HQ.out.2.2⟩
                · have hBf : giveB S m bl = false := by simpa using hB
                  have hGone : stepG ⟨1, m, bl⟩ S = [] := by simp [stepG, hBf]
                  replace hGone := Lib.hid hGone
                  rw [hBf, hE0] at hN
                  clear hE0 hB hBf
                  go_wp2_with fail
                  refine hN.mono ?_
                  rintro e wc ⟨rfl, hT, ho⟩
                  have hka := HS2.out.2.2.2.1.off ho HS2.out.2.2.2.2.2.1 (fun _ e => e)
                  obtain ⟨⟨v0, hc0⟩, hf0⟩ := hka.room m hm7
                  have HS3 := Lib.hid (HS2.out.stepSet (hT.mono (n' := 8192 * (k + 1)) (by omega)) hG' ho m hm7 hKK.out)
                  have RW3 := RW.out.off ho (fun a ha => by have := hAw.out a ha; omega)
                  have hst := setCell_off wc ⟨kb, m, none⟩ (.slice none 0 0)
                  replace RW3 := Lib.hid (RW3.off hst (fun a ha e => by have := hAw.out a ha; have e' : a.block = kb := e; omega))
                  replace p0 := ho.cell p0 (by show bx ≠ bm; omega)
                  replace p1 := ho.cell p1 (by show bx ≠ bm; omega)
                  replace p2 := ho.cell p2 (by show bx ≠ bm; omega)
                  have HQ := Lib.hid (⟨hst.cell p0 (by show bx ≠ kb; omega), hst.cell p1 (by show bx ≠ kb; omega), hst.cell p2 (by show bx ≠ kb; omega)⟩ : (wc.setCell ⟨kb, m, none⟩ (.slice none 0 0)).cell? ⟨bx, 0, none⟩ = some (.int .u8 (1 : Nat)) ∧ (wc.setCell ⟨kb, m, none⟩ (.slice none 0 0)).cell? ⟨bx, 1, none⟩ = some (.int .i64 m) ∧ (wc.setCell ⟨kb, m, none⟩ (.slice none 0 0)).cell? ⟨bx, 2, none⟩ = some (.int .i64 bl))
                  clear hT ho hN hka hst
                  go_wp2_with fail
                  go_meet
                  exact ⟨none, 0, by rw [hGone.out]; rfl, by rw [hGone.out]; exact Nat.zero_le _, fun h => absurd hGone.out h, by rw [hKept.out]; exact HS3.out, RW3.out, HQ.out.1, HQ.out.2.1, HQ.out.2.2⟩
            · have hBf : giveB S t bl = false := by
                cases hB : giveB S t bl
                · rfl
                · exact absurd (hbE hB) hE0
              have hGone : stepG ⟨1, t, bl⟩ S = [] := by simp [stepG, hBf]
              have hKept : stepK ⟨1, t, bl⟩ S K = K := by simp [stepK, hE0]
              have hKK := hKI.out
              rw [if_neg (fun h => hE0 h.1)] at hKK
              replace hKK := Lib.hid hKK
              replace hKept := Lib.hid hKept
              replace hGone := Lib.hid hGone
              obtain ⟨E, hE⟩ : ∃ E, giveE S t bl = E := ⟨_, rfl⟩
              have heB : (E == 0) = false := by rw [← hE]; simpa using hE0
              rw [hBf, hE] at hN
              clear hKI hmE hbE hBf hE hE0
              go_wp2_with fail
              refine hN.mono ?_
              rintro e wc ⟨rfl, hT, ho⟩
              have HS3 := Lib.hid (HS2.out.step (hT.mono (n' := 8192 * (k + 1)) (by omega)) hG' hKK.out ho)
              have RW3 := Lib.hid (RW.out.off ho (fun a ha => by have := hAw.out a ha; omega))
              replace p0 := ho.cell p0 (by show bx ≠ bm; omega)
              replace p1 := ho.cell p1 (by show bx ≠ bm; omega)
              replace p2 := ho.cell p2 (by show bx ≠ bm; omega)
              clear hT ho hN
              go_wp2_with fail
              go_meet
              exact ⟨none, 0, by rw [hGone.out]; rfl, by rw [hGone.out]; exact Nat.zero_le _, fun h => absurd hGone.out h, by rw [hKept.out]; exact HS3.out, RW3.out, p0, p1, p2⟩
        by_cases h2 : κ = 2
        · subst h2
          have hN := like_any r bm (8192 * k) S t bl wb HS2.out.1 HS2.out.2.1 (by omega)
          have hKI := step_inv ⟨2, t, bl⟩ HS2.out.2.1 HS2.out.2.2.1
          replace hKI := Lib.hid (show KInv (likeS S t bl) (if likeE S t bl = 0 then updK K bl.toNat (ofL (likeS S t bl) bl) else K) from hKI)
          have hLG := Lib.hid (fun n hn x h => likeS_bit HS2.out.2.1 t bl x (n := n) hn h)
          by_cases he : likeE S t bl = 0
          · as_aux_lemma =>
              have hKept : stepK ⟨2, t, bl⟩ S K = updK K bl.toNat (ofL (likeS S t bl) bl) := by simp [stepK, he]
              have hmb := mayB_iff.1 (likeE_may he)
              obtain ⟨m, rfl⟩ : ∃ m : Nat, bl = (m : Int) := ⟨bl.toNat, by omega⟩
              have hm7 : m < 7 := by omega
              have hKK := hKI.out
              rw [if_pos he] at hKK
              rw [Int.toNat_natCast] at hKK hKept
              have hKS : KInv (likeS S t m) K := fun n h1 h7 x hx => hLG.out n h7 x (HS2.out.2.2.1 n h1 h7 x hx)
              replace hKS := Lib.hid hKS
              replace hKK := Lib.hid hKK
              replace hKept := Lib.hid hKept
              unfold LikePost at hN
              rw [he] at hN
              clear hKI hmb
              go_wp2_with fail
              refine hN.mono ?_
              rintro e wc ⟨rfl, hT, hG', ho⟩
              have HS3 := Lib.hid (HS2.out.step (hT.mono (n' := 8192 * (k + 1)) (by omega)) hG' hKS.out ho)
              have RW3 := Lib.hid (RW.out.off ho (fun a ha => by have := hAw.out a ha; omega))
              replace p0 := ho.cell p0 (by show bx ≠ bm; omega)
              replace p1 := ho.cell p1 (by show bx ≠ bm; omega)
              replace p2 := ho.cell p2 (by show bx ≠ bm; omega)
              clear hT ho hN
              have hll := ofL_len (likeS S t m) m
              have hOf := of_any r bm (8192 * (k + 1)) (likeS S t m) m wc.drew (HS3.out.below ((Below.refl _ _).drew)).1 HS3.out.2.1 (by omega)
              obtain ⟨⟨v0, hc0⟩, hf0⟩ := HS3.out.2.2.2.1.room m hm7
              have hkz : kb < wc.heap.size := World.block_lt_of_cell? wc _ hc0
              have hmz : bm < wc.heap.size := HS3.out.1.lt.2
              have hCall : Calls Try.prog 12 #[.pointer (some ⟨r, 0, none⟩), .int .i64 m] wc.drew (fun e w' => ∃ A c, e = .returned (.slice A (ofL (likeS S t m) m).length c) ∧ w'.cell? ⟨kb, m, none⟩ = some v0 ∧ w'.frozen? ⟨kb, m, none⟩ = false ∧ w'.cell? ⟨bx, 2, none⟩ = some (.int .i64 m) ∧
                  Hid (CutO w (w'.setCell ⟨kb, m, none⟩ (.slice A (ofL (likeS S t m) m).length c)) r bm kb bx k ⟨2, t, m⟩ S K Aw (.slice none 0 0))) := by
                refine hOf.mono ?_
                rintro e w' ⟨A2, c2, rfl, hown, hb'⟩
                have hb : Below wc.heap.size wc w' := ((Below.refl _ _).drew).trans hb'
                have hs' := HS3.out.below hb
                obtain ⟨⟨v1, hc1⟩, hf1⟩ := hs'.2.2.2.1.room m hm7
                have hst := setCell_off w' ⟨kb, m, none⟩ (.slice A2 (ofL (likeS S t m) m).length c2)
                have hA : ∀ a, A2 = some a → wc.heap.size ≤ a.block := fun a ha => by
                  obtain ⟨A3, c3, e1, h1⟩ := hown.form
                  cases e1
                  exact (h1 a ha).1
                refine ⟨A2, c2, rfl, keep1 hb hc0, hf1, keep1 hb p2, Lib.hid ⟨none, 0, rfl, Nat.zero_le _, fun h => absurd rfl h, ?_, ?_, hst.cell (keep1 hb p0) (by show bx ≠ kb; omega), hst.cell (keep1 hb p1) (by show bx ≠ kb; omega), hst.cell (keep1 hb p2) (by show bx ≠ kb; omega)⟩⟩
                · rw [hKept.out]
                  exact hs'.setK m hm7 _ hll A2 c2 hown.rd (fun a ha => by have := hA a ha; omega) hKK.out
                · exact (RW3.out.below hb).off hst (fun a ha e => by have := hAw.out a ha; have e' : a.block = kb := e; omega)
              have hm70 : (m : Int) < 7 := by omega
              have hm00 : (0 : Int) ≤ m := by omega
              have pD : wc.drew.cell? ⟨bx, 2, none⟩ = some (.int .i64 m) := p2
              have hbk : ¬ (bx = kb) := by omega
              clear hOf hll hkz hmz p0 p1
              go_wp2_with fail
              go_region_held3 (fun W => W.cell? ⟨bx, 2, none⟩ = some (.int .i64 m))
                (first | exact pD | assumption | exact (setCell_off _ _ _).cell (by assumption) hbk)
                (first | (go_at_call 12; refine hCall.mono ?_; rintro e w' ⟨A2, c2, rfl, hcK, hfK, hcB, hCC⟩))
              all_goals (
                go_wp2_with fail
                go_meet
                exact hCC.out)
          · as_aux_lemma =>
              have hKept : stepK ⟨2, t, bl⟩ S K = K := by simp [stepK, he]
              have heB : (likeE S t bl == 0) = false := by simpa using he
              have hE : ∃ E, likeE S t bl = E := ⟨_, rfl⟩
              obtain ⟨E, hE⟩ := hE
              have hKK := hKI.out
              rw [if_neg he] at hKK
              replace hKK := Lib.hid hKK
              unfold LikePost at hN
              rw [hE] at hN he heB
              replace hE := Lib.hid hE
              replace hKept := Lib.hid hKept
              clear hKI
              go_wp2_with fail
              refine hN.mono ?_
              rintro e wc ⟨rfl, hT, hG', ho⟩
              have HS3 := Lib.hid (HS2.out.step (hT.mono (n' := 8192 * (k + 1)) (by omega)) hG' hKK.out ho)
              have RW3 := Lib.hid (RW.out.off ho (fun a ha => by have := hAw.out a ha; omega))
              replace p0 := ho.cell p0 (by show bx ≠ bm; omega)
              replace p1 := ho.cell p1 (by show bx ≠ bm; omega)
              replace p2 := ho.cell p2 (by show bx ≠ bm; omega)
              clear hT ho hN
              go_wp2_with fail
              go_meet
              exact ⟨none, 0, rfl, Nat.zero_le _, fun h => absurd rfl h, by rw [hKept.out]; exact HS3.out, RW3.out, p0, p1, p2⟩
        as_aux_lemma =>
          have e0 : (((κ : Nat) : Int) == 0) = false := by simp; omega
          have e1 : (((κ : Nat) : Int) == 1) = false := by simp; omega
          have e2 : (((κ : Nat) : Int) == 2) = false := by simp; omega
          have hStep : stepS ⟨κ, t, bl⟩ S = (dropU S t).1 := by simp [stepS, h0, h1, h2]
          have hGone : stepG ⟨κ, t, bl⟩ S = (dropU S t).2 := by simp [stepG, h0, h1, h2]
          have hKept : stepK ⟨κ, t, bl⟩ S K = if 0 ≤ t ∧ t ≤ 6 then updK K t.toNat [] else K := by simp [stepK, h0, h1, h2]
          have hKI := step_inv ⟨κ, t, bl⟩ HS2.out.2.1 HS2.out.2.2.1
          have hdl := dropU_len S HS2.out.2.1 t
          rw [hStep, hKept] at hKI
          replace hStep := Lib.hid hStep
          replace hGone := Lib.hid hGone
          replace hKept := Lib.hid hKept
          replace h0 := Lib.hid h0
          replace h1 := Lib.hid h1
          replace h2 := Lib.hid h2
          by_cases ht : 0 ≤ t ∧ t ≤ 6
          · obtain ⟨m, rfl⟩ : ∃ m : Nat, t = (m : Int) := ⟨t.toNat, by omega⟩
            have hm7 : m < 7 := by omega
            have hm6 : (m : Int) ≤ 6 := by omega
            rw [if_pos ht, Int.toNat_natCast] at hKI
            replace hKI := Lib.hid hKI
            obtain ⟨_, A0, c0, hc0, hf0, _, _⟩ := HS2.out.2.2.2.1 m hm7
            have HS3 := Lib.hid (HS2.out.setK m hm7 [] (Nat.zero_le _) none 0 (fun h => absurd rfl h) (fun a h => by cases h) (HS2.out.2.2.1.drop m))
            have ho := setCell_off wb ⟨kb, m, none⟩ (.slice none 0 0)
            have RW3 := Lib.hid (RW.out.off ho (fun a ha e => by have := hAw.out a ha; have e' : a.block = kb := e; omega))
            have HQ := Lib.hid (⟨ho.cell p0 (by show bx ≠ kb; omega), ho.cell p1 (by show bx ≠ kb; omega), ho.cell p2 (by show bx ≠ kb; omega)⟩ : (wb.setCell ⟨kb, m, none⟩ (.slice none 0 0)).cell? ⟨bx, 0, none⟩ = some (.int .u8 (κ : Nat)) ∧ (wb.setCell ⟨kb, m, none⟩ (.slice none 0 0)).cell? ⟨bx, 1, none⟩ = some (.int .i64 m) ∧ (wb.setCell ⟨kb, m, none⟩ (.slice none 0 0)).cell? ⟨bx, 2, none⟩ = some (.int .i64 bl))
            have hzc := ho.size
            have hD := fun W (hW : W = wb.setCell ⟨kb, m, none⟩ (.slice none 0 0)) => drop_any r bm (8192 * k) S m W (by rw [hW]; exact HS3.out.1) HS2.out.2.1 (by omega) hti
            replace hD := Lib.hid hD
            clear ho
            go_wp2_with fail
            refine (hD.out _ rfl).mono ?_
            rintro e wc ⟨Ag, cg, rfl, hown, hT, hG', ho⟩
            have hm1 : dropE m = 0 := by unfold dropE; rw [if_pos (mayB_iff.2 ⟨ht.1, ht.2, by omega, by omega⟩)]
            rw [hm1]
            have HS4 := Lib.hid (HS3.out.step (hT.mono (n' := 8192 * (k + 1)) (by omega)) hG' hKI.out ho)
            have RG := Lib.hid hown.rd
            have RW4 := Lib.hid (RW3.out.off ho (fun a ha => by have := hAw.out a ha; omega))
            have q0 := ho.cell HQ.out.1 (by show bx ≠ bm; omega)
            have q1 := ho.cell HQ.out.2.1 (by show bx ≠ bm; omega)
            have q2 := ho.cell HQ.out.2.2 (by show bx ≠ bm; omega)
            replace q0 := Lib.hid q0
            replace q1 := Lib.hid q1
            replace q2 := Lib.hid q2
            clear hown hT ho
            go_wp2_with fail
            go_meet
            refine ⟨Ag, cg, ?_, ?_, ?_, ?_, RW4.out, q0.out, q1.out, q2.out⟩
            · rw [hGone.out]
            · rw [hGone.out]; exact hdl
            · rw [hGone.out]; exact RG.out
            · rw [hStep.out, hKept.out, if_pos ht, Int.toNat_natCast]; exact HS4.out
          · rw [if_neg ht] at hKI
            replace hKI := Lib.hid hKI
            have hD := drop_any r bm (8192 * k) S t wb HS2.out.1 HS2.out.2.1 (by omega) hti
            by_cases h0t : 0 ≤ t
            · have h6t : ¬ t ≤ 6 := fun h => ht ⟨h0t, h⟩
              replace ht := Lib.hid ht
              go_wp2_with fail
              refine hD.mono ?_
              rintro e wc ⟨Ag, cg, rfl, hown, hT, hG', ho⟩
              have HS4 := Lib.hid (HS2.out.step (hT.mono (n' := 8192 * (k + 1)) (by omega)) hG' hKI.out ho)
              have RG := Lib.hid hown.rd
              have RW4 := Lib.hid (RW.out.off ho (fun a ha => by have := hAw.out a ha; omega))
              have q0 := Lib.hid (ho.cell p0 (by show bx ≠ bm; omega))
              have q1 := Lib.hid (ho.cell p1 (by show bx ≠ bm; omega))
              have q2 := Lib.hid (ho.cell p2 (by show bx ≠ bm; omega))
              clear hown hT ho p0 p1 p2
              go_wp2_with fail
              go_meet
              refine ⟨Ag, cg, ?_, ?_, ?_, ?_, RW4.out, q0.out, q1.out, q2.out⟩
              · rw [hGone.out]
              · rw [hGone.out]; exact hdl
              · rw [hGone.out]; exact RG.out
              · rw [hStep.out, hKept.out, if_neg ht.out]; exact HS4.out
            · replace ht := Lib.hid ht
              go_wp2_with fail
              refine hD.mono ?_
              rintro e wc ⟨Ag, cg, rfl, hown, hT, hG', ho⟩
              have HS4 := Lib.hid (HS2.out.step (hT.mono (n' := 8192 * (k + 1)) (by omega)) hG' hKI.out ho)
              have RG := Lib.hid hown.rd
              have RW4 := Lib.hid (RW.out.off ho (fun a ha => by have := hAw.out a ha; omega))
              have q0 := Lib.hid (ho.cell p0 (by show bx ≠ bm; omega))
              have q1 := Lib.hid (ho.cell p1 (by show bx ≠ bm; omega))
              have q2 := Lib.hid (ho.cell p2 (by show bx ≠ bm; omega))
              clear hown hT ho p0 p1 p2
              go_wp2_with fail
              go_meet
              refine ⟨Ag, cg, ?_, ?_, ?_, ?_, RW4.out, q0.out, q1.out, q2.out⟩
              · rw [hGone.out]
              · rw [hGone.out]; exact hdl
              · rw [hGone.out]; exact RG.out
              · rw [hStep.out, hKept.out, if_neg ht.out]; exact HS4.out
      case rest =>
        as_aux_lemma =>
          obtain ⟨Ag, cg, rfl, hgl, RG, HS3, RW3, q0, q1, q2⟩ := hcut
          clear p0 p1 p2
          have FG : ∀ x ∈ stepG ⟨κ, t, bl⟩ S, x ∈ blks prAll S ∧ x ∉ blks prAll (stepS ⟨κ, t, bl⟩ S) ∧ whoU (stepS ⟨κ, t, bl⟩ S x) 7 = [] ∧ ∀ n, 1 ≤ n → n < 7 → x ∉ stepK ⟨κ, t, bl⟩ S K n := fun x h => ask_gone _ HS2.out.2.1 HS2.out.2.2.1 h
          have FW : ∀ x ∈ blks prAll S, x ∈ blks prAll (stepS ⟨κ, t, bl⟩ S) ∨ x ∈ stepG ⟨κ, t, bl⟩ S := fun x h => ask_was ⟨κ, t, bl⟩ HS2.out.2.1 h
          have FN : ∀ x ∈ blks prAll (stepS ⟨κ, t, bl⟩ S), (x ∈ blks prAll S ∨ (κ = 0 ∧ x = bl)) ∧ whoU (stepS ⟨κ, t, bl⟩ S x) 7 ≠ [] := fun x h => ask_now ⟨κ, t, bl⟩ HS2.out.2.1 h
          have FI : ∀ x ∈ blks prAll S, In64 x := fun x h => in_all HS2.out.2.1 h
          have FJ : ∀ x ∈ blks prAll (stepS ⟨κ, t, bl⟩ S), In64 x := fun x h => in_all HS3.2.1 h
          have hnl := blks_len prAll (stepS ⟨κ, t, bl⟩ S)
          have hAll := all_any r bm (8192 * (k + 1)) (stepS ⟨κ, t, bl⟩ S) _ HS3.1 HS3.2.1 (by omega)
          clear HS2 RW hAw q1
          generalize stepG ⟨κ, t, bl⟩ S = g at *
          generalize stepS ⟨κ, t, bl⟩ S = S' at *
          generalize stepK ⟨κ, t, bl⟩ S K = K' at *
          generalize blks prAll S = was at *
          generalize blks prAll S' = now at *
          replace FG := Lib.hid FG
          replace FW := Lib.hid FW
          replace FN := Lib.hid FN
          replace FI := Lib.hid FI
          replace FJ := Lib.hid FJ
          have HSX := Lib.hid (And.intro HS3 (And.intro RG (And.intro RW3 (And.intro q0 q2))))
          clear HS3 RG RW3 q0 q2
          go_wp2_with fail
          refine hAll.mono ?_
          rintro e wy ⟨An, cn, rfl, hown, hb⟩
          have F : Hid (FO w wy r bm kb bx (8192 * (k + 1)) S' K' Ag Aw An g was now κ bl) := Lib.hid ⟨HSX.out.1.below hb, HSX.out.2.1.below hb, HSX.out.2.2.1.below hb, hown.rd, keep1 hb HSX.out.2.2.2.1, keep1 hb HSX.out.2.2.2.2⟩
          clear HSX hown hb hAll
          go_wp2_with fail
          go_loopw [12] (fun v12 wr => GH wy wr g.length v12) (fun v12 _ => g.length - (intOf v12).toNat)
          case atStart => exact ⟨0, Nat.zero_le _, rfl, Below.refl _ _⟩
          case round =>
            obtain ⟨j, hj, rfl, hB⟩ := hrel
            have hF := F.out.below hB
            by_cases hlt : j < g.length
            · obtain ⟨x, hx⟩ : ∃ x, g[j] = x := ⟨_, rfl⟩
              have hxm : x ∈ g := hx ▸ List.getElem_mem hlt
              obtain ⟨gb, go, rfl, hgc⟩ := hF.2.1 (by intro h; subst h; simp at hlt)
              have c0 := hgc j hlt
              rw [hx] at c0
              obtain ⟨f1, f2, f3, f4⟩ := FG.out x hxm
              have n1 := needed_any Aw cw was x _ hF.2.2.1 (by omega)
              have n2 := needed_any An cn now x _ hF.2.2.2.1 (by omega)
              have n3 := who_zero r bm _ S' x _ hF.1.1 hF.1.2.1 (FI.out x f1) f3
              rw [show decide (x ∈ was) = true from by simpa using f1] at n1
              rw [show decide (x ∈ now) = false from by simpa using f2] at n2
              replace hB := Lib.hid hB
              replace f4 := Lib.hid f4
              clear hF hgc hx hxm f1 f2 f3
              go_wp2_with fail
              refine n1.mono ?_
              rintro e wz ⟨rfl, rfl⟩
              go_wp2_with fail
              refine n2.mono ?_
              rintro e wz ⟨rfl, rfl⟩
              go_wp2_with fail
              refine n3.mono ?_
              rintro e wv ⟨A3, c3, rfl, hb⟩
              replace c0 := keep1 hb c0
              have HB2 := Lib.hid (hB.out.trans (hb.mono hB.out.size))
              clear n1 n2 n3 hb hB
              go_wp2_with fail
              go_loopw [13] (fun v13 wr => NH wv wr v13) (fun v13 _ => 7 - (intOf v13).toNat)
              case atStart => exact ⟨1, by omega, by omega, rfl, Below.refl _ _⟩
              case round =>
                obtain ⟨n, hn1, hn7, rfl, hB⟩ := hrel
                by_cases hlt7 : n < 7
                · have hF := F.out.below (HB2.out.trans (hB.mono HB2.out.size))
                  obtain ⟨hkl, Ak, ck, hck, _, hrk, _⟩ := hF.1.2.2.2.1 n hlt7
                  have c0' := keep1 hB c0
                  have hND := fun W (hb : Below (World.heap _).size _ W) => needed_any Ak ck (K' n) x W (hrk.below hb) (by omega)
                  rw [show decide (x ∈ K' n) = false from by simpa using f4.out n hn1 hlt7] at hND
                  have H0 : wr.drew.cell? ⟨kb, n, none⟩ = some (.slice Ak (K' n).length ck) ∧ wr.drew.cell? ⟨gb, go + j, none⟩ = some (.int .i64 x) ∧ Below wr.heap.size wr wr.drew := ⟨hck, c0', (Below.refl _ _).drew⟩
                  replace HB2 := Lib.hid (HB2.out.trans (hB.mono HB2.out.size))
                  have hB0 := Lib.hid hB
                  have hn70 : (n : Int) < 7 := by omega
                  have hn00 : (0 : Int) ≤ n := by omega
                  clear hF hrk hB
                  go_wp2_with fail
                  go_region_held3 (fun W => W.cell? ⟨kb, n, none⟩ = some (.slice Ak (K' n).length ck) ∧ W.cell? ⟨gb, go + j, none⟩ = some (.int .i64 x) ∧ Below wr.heap.size wr W)
                    (first | exact H0 | assumption)
                    (first | (go_at_call 14; refine (hND _ (by go_split_ands; assumption)).mono ?_; rintro e w' ⟨rfl, rfl⟩))
                  all_goals (
                    go_split_ands
                    have HBe := Lib.hid (show Below wr.heap.size wr _ by assumption)
                    go_wp2_with fail
                    go_roundw
                    case rel => exact ⟨n + 1, by omega, by omega, by go_num, hB0.out.trans (HBe.out.mono hB0.out.size)⟩
                    case measure => simp [intOf]; omega)
                · obtain rfl : n = 7 := by omega
                  have HB3 := Lib.hid (HB2.out.trans (hB.mono HB2.out.size))
                  clear hB
                  go_wp2_with fail
                  go_roundw
                  case rel => exact ⟨j + 1, by omega, by go_num, HB3.out⟩
                  case measure => simp [intOf]; omega
            · obtain rfl : j = g.length := by omega
              have F2 := Lib.hid hF
              clear hB hF F
              generalize wr = wg at *
              go_wp2_with fail
              go_loopw [14] (fun v14 wr => GH wg wr was.length v14) (fun v14 _ => was.length - (intOf v14).toNat)
              case atStart => exact ⟨0, Nat.zero_le _, rfl, Below.refl _ _⟩
              case round =>
                obtain ⟨j, hj, rfl, hB⟩ := hrel
                have hF := F2.out.below hB
                by_cases hlt : j < was.length
                · obtain ⟨x, hx⟩ : ∃ x, was[j] = x := ⟨_, rfl⟩
                  have hxm : x ∈ was := hx ▸ List.getElem_mem hlt
                  obtain ⟨sb, so, rfl, hgc⟩ := hF.2.2.1 (by intro h; subst h; simp at hlt)
                  have c0 := hgc j hlt
                  rw [hx] at c0
                  have f1 := FW.out x hxm
                  have n1 := needed_any An cn now x _ hF.2.2.2.1 (by omega)
                  have n2 := needed_any Ag cg g x _ hF.2.1 (by omega)
                  replace hB := Lib.hid hB
                  by_cases hin : x ∈ now
                  · rw [show decide (x ∈ now) = true from by simpa using hin] at n1
                    clear hF hgc hx hxm f1 hin n2
                    go_wp2_with fail
                    refine n1.mono ?_
                    rintro e wz ⟨rfl, rfl⟩
                    clear n1
                    go_wp2_with fail
                    go_roundw
                    case rel => exact ⟨j + 1, by omega, by go_num, hB.out⟩
                    case measure => simp [intOf]; omega
                  · have hin2 : x ∈ g := f1.resolve_left hin
                    rw [show decide (x ∈ now) = false from by simpa using hin] at n1
                    rw [show decide (x ∈ g) = true from by simpa using hin2] at n2
                    clear hF hgc hx hxm f1 hin hin2
                    go_wp2_with fail
                    refine n1.mono ?_
                    rintro e wz ⟨rfl, rfl⟩
                    go_wp2_with fail
                    refine n2.mono ?_
                    rintro e wz ⟨rfl, rfl⟩
                    clear n1 n2
                    go_wp2_with fail
                    go_roundw
                    case rel => exact ⟨j + 1, by omega, by go_num, hB.out⟩
                    case measure => simp [intOf]; omega
                · obtain rfl : j = was.length := by omega
                  have F3 := Lib.hid hF
                  clear hB hF F2
                  generalize wr = wg2 at *
                  go_wp2_with fail
                  go_loopw [15] (fun v15 wr => GH wg2 wr now.length v15) (fun v15 _ => now.length - (intOf v15).toNat)
                  case atStart => exact ⟨0, Nat.zero_le _, rfl, Below.refl _ _⟩
                  case round =>
                    obtain ⟨j, hj, rfl, hB⟩ := hrel
                    have hF := F3.out.below hB
                    by_cases hlt : j < now.length
                    · obtain ⟨x, hx⟩ : ∃ x, now[j] = x := ⟨_, rfl⟩
                      have hxm : x ∈ now := hx ▸ List.getElem_mem hlt
                      obtain ⟨nb, no, rfl, hgc⟩ := hF.2.2.2.1 (by intro h; subst h; simp at hlt)
                      have c0 := hgc j hlt
                      rw [hx] at c0
                      obtain ⟨f1, f2⟩ := FN.out x hxm
                      have hxi := FJ.out x hxm
                      have n1 := fun W (hb : Below wr.heap.size wr W) => needed_any Aw cw was x W (hF.2.2.1.below hb) (by omega)
                      have n3 := fun W (hb : Below wr.heap.size wr W) => who_some r bm _ S' x W (hF.1.below hb).1 hF.1.2.1 hxi f2
                      have H0 : wr.drew.cell? ⟨nb, no + j, none⟩ = some (.int .i64 x) ∧ wr.drew.cell? ⟨bx, 0, none⟩ = some (.int .u8 (κ : Nat)) ∧ wr.drew.cell? ⟨bx, 2, none⟩ = some (.int .i64 bl) ∧ Below wr.heap.size wr wr.drew := ⟨c0, hF.2.2.2.2.1, hF.2.2.2.2.2, (Below.refl _ _).drew⟩
                      have hj0 : (0 : Int) ≤ j := by omega
                      have hj1 : (j : Int) < now.length := by omega
                      replace hB := Lib.hid hB
                      clear hF hgc hx hxm f2 hxi
                      by_cases hin : x ∈ was
                      · rw [show decide (x ∈ was) = true from by simpa using hin] at n1
                        clear f1 hin
                        go_wp2_with fail
                        refine wp_region_held_drew (S := fun W => W.cell? ⟨nb, no + j, none⟩ = some (.int .i64 x) ∧ W.cell? ⟨bx, 0, none⟩ = some (.int .u8 (κ : Nat)) ∧ W.cell? ⟨bx, 2, none⟩ = some (.int .i64 bl) ∧ Below wr.heap.size wr W) (by kernel_rfl) (H0) (fun hHeld => ?_)
                        refine wpAnyH_from (n' := 31) (l' := #[false, false, false, false, false, false, false, false, false, false, false, false, false, false, false, false, false, false, false, false, false, false, false, false, false, false, false, false, false, false, false]) (by kernel_rfl) (by kernel_rfl) ?_
                        refine wpAnyH_take (i := 0) (oi := { dst := some 184, op := Op.move (Operand.tmp 7), type := 26, pos := "outright.go:86", after := #[], guard := none }) (v := ?_) rfl (by kernel_rfl) (by kernel_rfl) (by kernel_rfl) (fun _ _ _ h => h) (Or.inl ⟨by rfl, ?_⟩) (by assumption) ?_
                        rotate_left
                        · (intro w hSw; (try dsimp only at hSw); go_simp; try with_reducible rfl)
                        try simp only [Act.put, List.setIfInBounds_toArray, List.set_cons_zero, List.set_cons_succ]
                        refine wpAnyH_at (l' := #[true, false, false, false, false, false, false, false, false, false, false, false, false, false, false, false, false, false, false, false, false, false, false, false, false, false, false, false, false, false, false]) (by kernel_rfl) ?_
                        refine wpAnyH_take (i := 1) (oi := { dst := some 185, op := Op.move (Operand.tmp 11), type := 26, pos := "outright.go:86", after := #[], guard := none }) (v := ?_) rfl (by kernel_rfl) (by kernel_rfl) (by kernel_rfl) (fun _ _ _ h => h) (Or.inl ⟨by rfl, ?_⟩) (by assumption) ?_
                        rotate_left
                        · (intro w hSw; (try dsimp only at hSw); go_simp; try with_reducible rfl)
                        try simp only [Act.put, List.setIfInBounds_toArray, List.set_cons_zero, List.set_cons_succ]
                        refine wpAnyH_at (l' := #[true, true, false, false, false, false, false, false, false, false, false, false, false, false, false, false, false, false, false, false, false, false, false, false, false, false, false, false, false, false, false]) (by kernel_rfl) ?_
                        refine wpAnyH_take (i := 2) (oi := { dst := some 186, op := Op.move (Operand.tmp 15), type := 3, pos := "outright.go:86", after := #[], guard := none }) (v := ?_) rfl (by kernel_rfl) (by kernel_rfl) (by kernel_rfl) (fun _ _ _ h => h) (Or.inl ⟨by rfl, ?_⟩) (by assumption) ?_
                        rotate_left
                        · (intro w hSw; (try dsimp only at hSw); go_simp; try with_reducible rfl)
                        try simp only [Act.put, List.setIfInBounds_toArray, List.set_cons_zero, List.set_cons_succ]
                        refine wpAnyH_at (l' := #[true, true, true, false, false, false, false, false, false, false, false, false, false, false, false, false, false, false, false, false, false, false, false, false, false, false, false, false, false, false, false]) (by kernel_rfl) ?_
                        refine wpAnyH_take (i := 3) (oi := { dst := some 187, op := Op.indexAddr 26 (Operand.tmp 185) (Operand.tmp 186), type := 0, pos := "outright.go:86", after := #[{ on := 1, ground := Ground.data }, { on := 2, ground := Ground.data }], guard := none }) (v := ?_) rfl (by kernel_rfl) (by kernel_rfl) (by kernel_rfl) (fun _ _ _ h => h) (Or.inl ⟨by rfl, ?_⟩) (by assumption) ?_
                        rotate_left
                        · (intro w hSw; (try dsimp only at hSw); go_simp; try with_reducible rfl)
                        try simp only [Act.put, List.setIfInBounds_toArray, List.set_cons_zero, List.set_cons_succ]
                        refine wpAnyH_at (l' := #[true, true, true, true, false, false, false, false, false, false, false, false, false, false, false, false, false, false, false, false, false, false, false, false, false, false, false, false, false, false, false]) (by kernel_rfl) ?_
                        refine wpAnyH_take (i := 4) (oi := { dst := some 188, op := Op.load 3 (Operand.tmp 187), type := 3, pos := "outright.go:86", after := #[{ on := 3, ground := Ground.data }], guard := none }) (v := ?_) rfl (by kernel_rfl) (by kernel_rfl) (by kernel_rfl) (fun _ _ _ h => h) (Or.inl ⟨by rfl, ?_⟩) (by assumption) ?_
                        rotate_left
                        · (intro w hSw; (try dsimp only at hSw); go_simp; try with_reducible rfl)
                        try simp only [Act.put, List.setIfInBounds_toArray, List.set_cons_zero, List.set_cons_succ]
                        refine wpAnyH_at (l' := #[true, true, true, true, true, false, false, false, false, false, false, false, false, false, false, false, false, false, false, false, false, false, false, false, false, false, false, false, false, false, false]) (by kernel_rfl) ?_
                        refine wpAnyH_ready (rs := [5]) (by kernel_rfl) (by simp) ?_
                        refine AllReadyH.cons (o := { dst := some 189, op := Op.call { callee := Callee.value (Operand.func 14), args := #[Operand.tmp 184, Operand.tmp 188], argTypes := #[26, 3] }, type := 4, pos := "outright.go:86", after := #[{ on := 0, ground := Ground.data }, { on := 4, ground := Ground.data }], guard := none }) rfl (fun K hK => ?_) AllReadyH.nil
                        go_simp
                        go_at_call 14
                        refine (n1 _ hHeld.2.2.2).mono ?_
                        rintro e w' ⟨rfl, rfl⟩
                        refine hK.out _ _ (by first | assumption | exact ⟨keep1 hb hHeld.1, keep1 hb hHeld.2.1, keep1 hb hHeld.2.2.1, hHeld.2.2.2.trans (hb.mono hHeld.2.2.2.size)⟩) (fun hHeld => ?_)
                        clear hK K
                        try simp only [List.setIfInBounds_toArray, List.set_cons_zero, List.set_cons_succ]
                        refine wpAnyH_at (l' := #[true, true, true, true, true, true, false, false, false, false, false, false, false, false, false, false, false, false, false, false, false, false, false, false, false, false, false, false, false, false, false]) (by kernel_rfl) ?_
                        refine wpAnyH_take (i := 6) (oi := { dst := some 190, op := Op.unOp UnOp.not 4 (Operand.tmp 189), type := 4, pos := "outright.go:86", after := #[{ on := 5, ground := Ground.data }], guard := none }) (v := ?_) rfl (by kernel_rfl) (by kernel_rfl) (by kernel_rfl) (fun _ _ _ h => h) (Or.inl ⟨by rfl, ?_⟩) (by assumption) ?_
                        rotate_left
                        · (intro w hSw; (try dsimp only at hSw); go_simp; try with_reducible rfl)
                        try simp only [Act.put, List.setIfInBounds_toArray, List.set_cons_zero, List.set_cons_succ]
                        refine wpAnyH_at (l' := #[true, true, true, true, true, true, true, false, false, false, false, false, false, false, false, false, false, false, false, false, false, false, false, false, false, false, false, false, false, false, false]) (by kernel_rfl) ?_
                        refine wpAnyH_take (i := 7) (oi := { dst := some 191, op := Op.move (Operand.tmp 190), type := 4, pos := "outright.go:86", after := #[{ on := 6, ground := Ground.data }, { on := 5, ground := Ground.chain }], guard := none }) (v := ?_) rfl (by kernel_rfl) (by kernel_rfl) (by kernel_rfl) (fun _ _ _ h => h) (Or.inl ⟨by rfl, ?_⟩) (by assumption) ?_
                        rotate_left
                        · (intro w hSw; (try dsimp only at hSw); go_simp; try with_reducible rfl)
                        try simp only [Act.put, List.setIfInBounds_toArray, List.set_cons_zero, List.set_cons_succ]
                        refine wpAnyH_at (l' := #[true, true, true, true, true, true, true, true, false, false, false, false, false, false, false, false, false, false, false, false, false, false, false, false, false, false, false, false, false, false, false]) (by kernel_rfl) ?_
                        refine wpAnyH_take (i := 8) (oi := { dst := some 192, op := Op.fieldAddr 29 (Operand.tmp 6) 0, type := 0, pos := "outright.go:86", after := #[{ on := 7, ground := Ground.guard }], guard := some (7, true) }) (v := undef) rfl (by kernel_rfl) (by kernel_rfl) (by kernel_rfl) (fun _ _ _ h => h) (Or.inr ⟨by rfl, rfl⟩) (by assumption) ?_
                        try simp only [Act.put, List.setIfInBounds_toArray, List.set_cons_zero, List.set_cons_succ]
                        refine wpAnyH_at (l' := #[true, true, true, true, true, true, true, true, true, false, false, false, false, false, false, false, false, false, false, false, false, false, false, false, false, false, false, false, false, false, false]) (by kernel_rfl) ?_
                        refine wpAnyH_take (i := 9) (oi := { dst := some 193, op := Op.load 5 (Operand.tmp 192), type := 5, pos := "outright.go:86", after := #[{ on := 8, ground := Ground.data }, { on := 7, ground := Ground.guard }], guard := some (7, true) }) (v := undef) rfl (by kernel_rfl) (by kernel_rfl) (by kernel_rfl) (fun _ _ _ h => h) (Or.inr ⟨by rfl, rfl⟩) (by assumption) ?_
                        try simp only [Act.put, List.setIfInBounds_toArray, List.set_cons_zero, List.set_cons_succ]
                        refine wpAnyH_at (l' := #[true, true, true, true, true, true, true, true, true, true, false, false, false, false, false, false, false, false, false, false, false, false, false, false, false, false, false, false, false, false, false]) (by kernel_rfl) ?_
                        refine wpAnyH_take (i := 10) (oi := { dst := some 194, op := Op.binOp BinOp.neq 5 (Operand.tmp 193) (Operand.const (Value.int IntKind.u8 0)) 5, type := 4, pos := "outright.go:86", after := #[{ on := 9, ground := Ground.data }, { on := 7, ground := Ground.guard }], guard := some (7, true) }) (v := undef) rfl (by kernel_rfl) (by kernel_rfl) (by kernel_rfl) (fun _ _ _ h => h) (Or.inr ⟨by rfl, rfl⟩) (by assumption) ?_
                        try simp only [Act.put, List.setIfInBounds_toArray, List.set_cons_zero, List.set_cons_succ]
                        refine wpAnyH_at (l' := #[true, true, true, true, true, true, true, true, true, true, true, false, false, false, false, false, false, false, false, false, false, false, false, false, false, false, false, false, false, false, false]) (by kernel_rfl) ?_
                        refine wpAnyH_take (i := 11) (oi := { dst := some 195, op := Op.move (Operand.tmp 194), type := 4, pos := "outright.go:86", after := #[{ on := 10, ground := Ground.data }, { on := 7, ground := Ground.chain }, { on := 7, ground := Ground.guard }], guard := some (7, true) }) (v := undef) rfl (by kernel_rfl) (by kernel_rfl) (by kernel_rfl) (fun _ _ _ h => h) (Or.inr ⟨by rfl, rfl⟩) (by assumption) ?_
                        try simp only [Act.put, List.setIfInBounds_toArray, List.set_cons_zero, List.set_cons_succ]
                        refine wpAnyH_at (l' := #[true, true, true, true, true, true, true, true, true, true, true, true, false, false, false, false, false, false, false, false, false, false, false, false, false, false, false, false, false, false, false]) (by kernel_rfl) ?_
                        refine wpAnyH_take (i := 12) (oi := { dst := some 196, op := Op.move (Operand.tmp 11), type := 26, pos := "outright.go:86", after := #[{ on := 11, ground := Ground.guard }], guard := some (11, false) }) (v := undef) rfl (by kernel_rfl) (by kernel_rfl) (by kernel_rfl) (fun _ _ _ h => h) (Or.inr ⟨by rfl, rfl⟩) (by assumption) ?_
                        try simp only [Act.put, List.setIfInBounds_toArray, List.set_cons_zero, List.set_cons_succ]
                        refine wpAnyH_at (l' := #[true, true, true, true, true, true, true, true, true, true, true, true, true, false, false, false, false, false, false, false, false, false, false, false, false, false, false, false, false, false, false]) (by kernel_rfl) ?_
                        refine wpAnyH_take (i := 13) (oi := { dst := some 197, op := Op.move (Operand.tmp 15), type := 3, pos := "outright.go:86", after := #[{ on := 11, ground := Ground.guard }], guard := some (11, false) }) (v := undef) rfl (by kernel_rfl) (by kernel_rfl) (by kernel_rfl) (fun _ _ _ h => h) (Or.inr ⟨by rfl, rfl⟩) (by assumption) ?_
                        try simp only [Act.put, List.setIfInBounds_toArray, List.set_cons_zero, List.set_cons_succ]
                        refine wpAnyH_at (l' := #[true, true, true, true, true, true, true, true, true, true, true, true, true, true, false, false, false, false, false, false, false, false, false, false, false, false, false, false, false, false, false]) (by kernel_rfl) ?_
                        refine wpAnyH_take (i := 14) (oi := { dst := some 198, op := Op.indexAddr 26 (Operand.tmp 196) (Operand.tmp 197), type := 0, pos := "outright.go:86", after := #[{ on := 12, ground := Ground.data }, { on := 13, ground := Ground.data }, { on := 11, ground := Ground.guard }], guard := some (11, false) }) (v := undef) rfl (by kernel_rfl) (by kernel_rfl) (by kernel_rfl) (fun _ _ _ h => h) (Or.inr ⟨by rfl, rfl⟩) (by assumption) ?_
                        try simp only [Act.put, List.setIfInBounds_toArray, List.set_cons_zero, List.set_cons_succ]
                        refine wpAnyH_at (l' := #[true, true, true, true, true, true, true, true, true, true, true, true, true, true, true, false, false, false, false, false, false, false, false, false, false, false, false, false, false, false, false]) (by kernel_rfl) ?_
                        refine wpAnyH_take (i := 15) (oi := { dst := some 199, op := Op.load 3 (Operand.tmp 198), type := 3, pos := "outright.go:86", after := #[{ on := 14, ground := Ground.data }, { on := 11, ground := Ground.guard }], guard := some (11, false) }) (v := undef) rfl (by kernel_rfl) (by kernel_rfl) (by kernel_rfl) (fun _ _ _ h => h) (Or.inr ⟨by rfl, rfl⟩) (by assumption) ?_
                        try simp only [Act.put, List.setIfInBounds_toArray, List.set_cons_zero, List.set_cons_succ]
                        refine wpAnyH_at (l' := #[true, true, true, true, true, true, true, true, true, true, true, true, true, true, true, true, false, false, false, false, false, false, false, false, false, false, false, false, false, false, false]) (by kernel_rfl) ?_
                        refine wpAnyH_take (i := 16) (oi := { dst := some 200, op := Op.fieldAddr 29 (Operand.tmp 6) 2, type := 0, pos := "outright.go:86", after := #[{ on := 11, ground := Ground.guard }], guard := some (11, false) }) (v := undef) rfl (by kernel_rfl) (by kernel_rfl) (by kernel_rfl) (fun _ _ _ h => h) (Or.inr ⟨by rfl, rfl⟩) (by assumption) ?_
                        try simp only [Act.put, List.setIfInBounds_toArray, List.set_cons_zero, List.set_cons_succ]
                        refine wpAnyH_at (l' := #[true, true, true, true, true, true, true, true, true, true, true, true, true, true, true, true, true, false, false, false, false, false, false, false, false, false, false, false, false, false, false]) (by kernel_rfl) ?_
                        refine wpAnyH_take (i := 17) (oi := { dst := some 201, op := Op.load 3 (Operand.tmp 200), type := 3, pos := "outright.go:86", after := #[{ on := 16, ground := Ground.data }, { on := 11, ground := Ground.guard }], guard := some (11, false) }) (v := undef) rfl (by kernel_rfl) (by kernel_rfl) (by kernel_rfl) (fun _ _ _ h => h) (Or.inr ⟨by rfl, rfl⟩) (by assumption) ?_
                        try simp only [Act.put, List.setIfInBounds_toArray, List.set_cons_zero, List.set_cons_succ]
                        refine wpAnyH_at (l' := #[true, true, true, true, true, true, true, true, true, true, true, true, true, true, true, true, true, true, false, false, false, false, false, false, false, false, false, false, false, false, false]) (by kernel_rfl) ?_
                        refine wpAnyH_take (i := 18) (oi := { dst := some 202, op := Op.binOp BinOp.neq 3 (Operand.tmp 199) (Operand.tmp 201) 3, type := 4, pos := "outright.go:86", after := #[{ on := 15, ground := Ground.data }, { on := 17, ground := Ground.data }, { on := 11, ground := Ground.guard }], guard := some (11, false) }) (v := undef) rfl (by kernel_rfl) (by kernel_rfl) (by kernel_rfl) (fun _ _ _ h => h) (Or.inr ⟨by rfl, rfl⟩) (by assumption) ?_
                        try simp only [Act.put, List.setIfInBounds_toArray, List.set_cons_zero, List.set_cons_succ]
                        refine wpAnyH_at (l' := #[true, true, true, true, true, true, true, true, true, true, true, true, true, true, true, true, true, true, true, false, false, false, false, false, false, false, false, false, false, false, false]) (by kernel_rfl) ?_
                        refine wpAnyH_take (i := 19) (oi := { dst := some 203, op := Op.pick (Operand.tmp 195) (Operand.const (Value.bool true)) (Operand.tmp 202), type := 4, pos := "outright.go:86", after := #[{ on := 11, ground := Ground.data }, { on := 18, ground := Ground.data }, { on := 7, ground := Ground.guard }], guard := some (7, true) }) (v := undef) rfl (by kernel_rfl) (by kernel_rfl) (by kernel_rfl) (fun _ _ _ h => h) (Or.inr ⟨by rfl, rfl⟩) (by assumption) ?_
                        try simp only [Act.put, List.setIfInBounds_toArray, List.set_cons_zero, List.set_cons_succ]
                        refine wpAnyH_at (l' := #[true, true, true, true, true, true, true, true, true, true, true, true, true, true, true, true, true, true, true, true, false, false, false, false, false, false, false, false, false, false, false]) (by kernel_rfl) ?_
                        refine wpAnyH_take (i := 20) (oi := { dst := some 204, op := Op.pick (Operand.tmp 191) (Operand.tmp 203) (Operand.const (Value.bool false)), type := 4, pos := "outright.go:86", after := #[{ on := 7, ground := Ground.data }, { on := 19, ground := Ground.data }], guard := none }) (v := ?_) rfl (by kernel_rfl) (by kernel_rfl) (by kernel_rfl) (fun _ _ _ h => h) (Or.inl ⟨by rfl, ?_⟩) (by assumption) ?_
                        rotate_left
                        · (intro w hSw; (try dsimp only at hSw); go_simp; try with_reducible rfl)
                        try simp only [Act.put, List.setIfInBounds_toArray, List.set_cons_zero, List.set_cons_succ]
                        refine wpAnyH_at (l' := #[true, true, true, true, true, true, true, true, true, true, true, true, true, true, true, true, true, true, true, true, true, false, false, false, false, false, false, false, false, false, false]) (by kernel_rfl) ?_
                        refine wpAnyH_take (i := 21) (oi := { dst := some 205, op := Op.move (Operand.tmp 204), type := 4, pos := "outright.go:86", after := #[{ on := 20, ground := Ground.data }, { on := 11, ground := Ground.chain }], guard := none }) (v := ?_) rfl (by kernel_rfl) (by kernel_rfl) (by kernel_rfl) (fun _ _ _ h => h) (Or.inl ⟨by rfl, ?_⟩) (by assumption) ?_
                        rotate_left
                        · (intro w hSw; (try dsimp only at hSw); go_simp; try with_reducible rfl)
                        try simp only [Act.put, List.setIfInBounds_toArray, List.set_cons_zero, List.set_cons_succ]
                        refine wpAnyH_at (l' := #[true, true, true, true, true, true, true, true, true, true, true, true, true, true, true, true, true, true, true, true, true, true, false, false, false, false, false, false, false, false, false]) (by kernel_rfl) ?_
                        refine wpAnyH_take (i := 22) (oi := { dst := some 206, op := Op.move (Operand.tmp 3), type := 24, pos := "outright.go:86", after := #[{ on := 21, ground := Ground.guard }], guard := some (21, false) }) (v := ?_) rfl (by kernel_rfl) (by kernel_rfl) (by kernel_rfl) (fun _ _ _ h => h) (Or.inl ⟨by rfl, ?_⟩) (by assumption) ?_
                        rotate_left
                        · (intro w hSw; (try dsimp only at hSw); go_simp; try with_reducible rfl)
                        try simp only [Act.put, List.setIfInBounds_toArray, List.set_cons_zero, List.set_cons_succ]
                        refine wpAnyH_at (l' := #[true, true, true, true, true, true, true, true, true, true, true, true, true, true, true, true, true, true, true, true, true, true, true, false, false, false, false, false, false, false, false]) (by kernel_rfl) ?_
                        refine wpAnyH_take (i := 23) (oi := { dst := some 207, op := Op.move (Operand.tmp 11), type := 26, pos := "outright.go:86", after := #[{ on := 21, ground := Ground.guard }], guard := some (21, false) }) (v := ?_) rfl (by kernel_rfl) (by kernel_rfl) (by kernel_rfl) (fun _ _ _ h => h) (Or.inl ⟨by rfl, ?_⟩) (by assumption) ?_
                        rotate_left
                        · (intro w hSw; (try dsimp only at hSw); go_simp; try with_reducible rfl)
                        try simp only [Act.put, List.setIfInBounds_toArray, List.set_cons_zero, List.set_cons_succ]
                        refine wpAnyH_at (l' := #[true, true, true, true, true, true, true, true, true, true, true, true, true, true, true, true, true, true, true, true, true, true, true, true, false, false, false, false, false, false, false]) (by kernel_rfl) ?_
                        refine wpAnyH_take (i := 24) (oi := { dst := some 208, op := Op.move (Operand.tmp 15), type := 3, pos := "outright.go:86", after := #[{ on := 21, ground := Ground.guard }], guard := some (21, false) }) (v := ?_) rfl (by kernel_rfl) (by kernel_rfl) (by kernel_rfl) (fun _ _ _ h => h) (Or.inl ⟨by rfl, ?_⟩) (by assumption) ?_
                        rotate_left
                        · (intro w hSw; (try dsimp only at hSw); go_simp; try with_reducible rfl)
                        try simp only [Act.put, List.setIfInBounds_toArray, List.set_cons_zero, List.set_cons_succ]
                        refine wpAnyH_at (l' := #[true, true, true, true, true, true, true, true, true, true, true, true, true, true, true, true, true, true, true, true, true, true, true, true, true, false, false, false, false, false, false]) (by kernel_rfl) ?_
                        refine wpAnyH_take (i := 25) (oi := { dst := some 209, op := Op.indexAddr 26 (Operand.tmp 207) (Operand.tmp 208), type := 0, pos := "outright.go:86", after := #[{ on := 23, ground := Ground.data }, { on := 24, ground := Ground.data }, { on := 21, ground := Ground.guard }], guard := some (21, false) }) (v := ?_) rfl (by kernel_rfl) (by kernel_rfl) (by kernel_rfl) (fun _ _ _ h => h) (Or.inl ⟨by rfl, ?_⟩) (by assumption) ?_
                        rotate_left
                        · (intro w hSw; (try dsimp only at hSw); go_simp; try with_reducible rfl)
                        try simp only [Act.put, List.setIfInBounds_toArray, List.set_cons_zero, List.set_cons_succ]
                        refine wpAnyH_at (l' := #[true, true, true, true, true, true, true, true, true, true, true, true, true, true, true, true, true, true, true, true, true, true, true, true, true, true, false, false, false, false, false]) (by kernel_rfl) ?_
                        refine wpAnyH_take (i := 26) (oi := { dst := some 210, op := Op.load 3 (Operand.tmp 209), type := 3, pos := "outright.go:86", after := #[{ on := 25, ground := Ground.data }, { on := 21, ground := Ground.guard }], guard := some (21, false) }) (v := ?_) rfl (by kernel_rfl) (by kernel_rfl) (by kernel_rfl) (fun _ _ _ h => h) (Or.inl ⟨by rfl, ?_⟩) (by assumption) ?_
                        rotate_left
                        · (intro w hSw; (try dsimp only at hSw); go_simp; try with_reducible rfl)
                        try simp only [Act.put, List.setIfInBounds_toArray, List.set_cons_zero, List.set_cons_succ]
                        refine wpAnyH_at (l' := #[true, true, true, true, true, true, true, true, true, true, true, true, true, true, true, true, true, true, true, true, true, true, true, true, true, true, true, false, false, false, false]) (by kernel_rfl) ?_
                        refine wpAnyH_ready (rs := [27]) (by kernel_rfl) (by simp) ?_
                        refine AllReadyH.cons (o := { dst := some 211, op := Op.call { callee := Callee.value (Operand.func 15), args := #[Operand.tmp 206, Operand.tmp 210], argTypes := #[24, 3] }, type := 26, pos := "outright.go:86", after := #[{ on := 22, ground := Ground.data }, { on := 26, ground := Ground.data }, { on := 21, ground := Ground.chain }, { on := 21, ground := Ground.guard }], guard := some (21, false) }) rfl (fun K hK => ?_) AllReadyH.nil
                        go_simp
                        go_at_call 15
                        refine (n3 _ hHeld.2.2.2).mono ?_
                        rintro e w' ⟨A3, c3, m3, rfl, hm3, hm0, hb⟩
                        refine hK.out _ _ (by first | assumption | exact ⟨keep1 hb hHeld.1, keep1 hb hHeld.2.1, keep1 hb hHeld.2.2.1, hHeld.2.2.2.trans (hb.mono hHeld.2.2.2.size)⟩) (fun hHeld => ?_)
                        clear hK K
                        try simp only [List.setIfInBounds_toArray, List.set_cons_zero, List.set_cons_succ]
                        refine wpAnyH_at (l' := #[true, true, true, true, true, true, true, true, true, true, true, true, true, true, true, true, true, true, true, true, true, true, true, true, true, true, true, true, false, false, false]) (by kernel_rfl) ?_
                        refine wpAnyH_take (i := 28) (oi := { dst := some 212, op := Op.call { callee := Callee.builtin Builtin.len, args := #[Operand.tmp 211], argTypes := #[26] }, type := 3, pos := "outright.go:86", after := #[{ on := 27, ground := Ground.data }, { on := 21, ground := Ground.guard }], guard := some (21, false) }) (v := ?_) rfl (by kernel_rfl) (by kernel_rfl) (by kernel_rfl) (fun _ _ _ h => h) (Or.inl ⟨by rfl, ?_⟩) (by assumption) ?_
                        rotate_left
                        · (intro w hSw; (try dsimp only at hSw); go_simp; try with_reducible rfl)
                        try simp only [Act.put, List.setIfInBounds_toArray, List.set_cons_zero, List.set_cons_succ]
                        refine wpAnyH_at (l' := #[true, true, true, true, true, true, true, true, true, true, true, true, true, true, true, true, true, true, true, true, true, true, true, true, true, true, true, true, true, false, false]) (by kernel_rfl) ?_
                        refine wpAnyH_take (i := 29) (oi := { dst := some 213, op := Op.binOp BinOp.eql 3 (Operand.tmp 212) (Operand.const (Value.int IntKind.i64 0)) 3, type := 4, pos := "outright.go:86", after := #[{ on := 28, ground := Ground.data }, { on := 21, ground := Ground.guard }], guard := some (21, false) }) (v := ?_) rfl (by kernel_rfl) (by kernel_rfl) (by kernel_rfl) (fun _ _ _ h => h) (Or.inl ⟨by rfl, ?_⟩) (by assumption) ?_
                        rotate_left
                        · (intro w hSw; (try dsimp only at hSw); go_simp; try with_reducible rfl)
                        try simp only [Act.put, List.setIfInBounds_toArray, List.set_cons_zero, List.set_cons_succ]
                        refine wpAnyH_at (l' := #[true, true, true, true, true, true, true, true, true, true, true, true, true, true, true, true, true, true, true, true, true, true, true, true, true, true, true, true, true, true, false]) (by kernel_rfl) ?_
                        refine wpAnyH_take (i := 30) (oi := { dst := some 214, op := Op.pick (Operand.tmp 205) (Operand.const (Value.bool true)) (Operand.tmp 213), type := 4, pos := "outright.go:86", after := #[{ on := 21, ground := Ground.data }, { on := 29, ground := Ground.data }], guard := none }) (v := ?_) rfl (by kernel_rfl) (by kernel_rfl) (by kernel_rfl) (fun _ _ _ h => h) (Or.inl ⟨by rfl, ?_⟩) (by assumption) ?_
                        rotate_left
                        · (intro w hSw; (try dsimp only at hSw); go_simp; try with_reducible rfl)
                        try simp only [Act.put, List.setIfInBounds_toArray, List.set_cons_zero, List.set_cons_succ]
                        refine wpAnyH_at (l' := #[true, true, true, true, true, true, true, true, true, true, true, true, true, true, true, true, true, true, true, true, true, true, true, true, true, true, true, true, true, true, true]) (by kernel_rfl) ?_
                        refine wpAnyH_done (by kernel_rfl) ?_ _
                        have HBe := Lib.hid hHeld.2.2.2
                        clear n1 n3 H0 hHeld
                        go_wp2_with fail
                        go_roundw
                        case rel => exact ⟨j + 1, by omega, by go_num, hB.out.trans (HBe.out.mono hB.out.size)⟩
                        case measure => simp [intOf]; omega
                      · obtain ⟨rfl, rfl⟩ := f1.resolve_left hin
                        rw [show decide (x ∈ was) = false from by simpa using hin] at n1
                        clear hin
                        go_wp2_with fail
                        refine wp_region_held_drew (S := fun W => W.cell? ⟨nb, no + j, none⟩ = some (.int .i64 x) ∧ W.cell? ⟨bx, 0, none⟩ = some (.int .u8 (0 : Nat)) ∧ W.cell? ⟨bx, 2, none⟩ = some (.int .i64 x) ∧ Below wr.heap.size wr W) (by kernel_rfl) (H0) (fun hHeld => ?_)
                        refine wpAnyH_from (n' := 31) (l' := #[false, false, false, false, false, false, false, false, false, false, false, false, false, false, false, false, false, false, false, false, false, false, false, false, false, false, false, false, false, false, false]) (by kernel_rfl) (by kernel_rfl) ?_
                        refine wpAnyH_take (i := 0) (oi := { dst := some 184, op := Op.move (Operand.tmp 7), type := 26, pos := "outright.go:86", after := #[], guard := none }) (v := ?_) rfl (by kernel_rfl) (by kernel_rfl) (by kernel_rfl) (fun _ _ _ h => h) (Or.inl ⟨by rfl, ?_⟩) (by assumption) ?_
                        rotate_left
                        · (intro w hSw; (try dsimp only at hSw); go_simp; try with_reducible rfl)
                        try simp only [Act.put, List.setIfInBounds_toArray, List.set_cons_zero, List.set_cons_succ]
                        refine wpAnyH_at (l' := #[true, false, false, false, false, false, false, false, false, false, false, false, false, false, false, false, false, false, false, false, false, false, false, false, false, false, false, false, false, false, false]) (by kernel_rfl) ?_
                        refine wpAnyH_take (i := 1) (oi := { dst := some 185, op := Op.move (Operand.tmp 11), type := 26, pos := "outright.go:86", after := #[], guard := none }) (v := ?_) rfl (by kernel_rfl) (by kernel_rfl) (by kernel_rfl) (fun _ _ _ h => h) (Or.inl ⟨by rfl, ?_⟩) (by assumption) ?_
                        rotate_left
                        · (intro w hSw; (try dsimp only at hSw); go_simp; try with_reducible rfl)
                        try simp only [Act.put, List.setIfInBounds_toArray, List.set_cons_zero, List.set_cons_succ]
                        refine wpAnyH_at (l' := #[true, true, false, false, false, false, false, false, false, false, false, false, false, false, false, false, false, false, false, false, false, false, false, false, false, false, false, false, false, false, false]) (by kernel_rfl) ?_
                        refine wpAnyH_take (i := 2) (oi := { dst := some 186, op := Op.move (Operand.tmp 15), type := 3, pos := "outright.go:86", after := #[], guard := none }) (v := ?_) rfl (by kernel_rfl) (by kernel_rfl) (by kernel_rfl) (fun _ _ _ h => h) (Or.inl ⟨by rfl, ?_⟩) (by assumption) ?_
                        rotate_left
                        · (intro w hSw; (try dsimp only at hSw); go_simp; try with_reducible rfl)
                        try simp only [Act.put, List.setIfInBounds_toArray, List.set_cons_zero, List.set_cons_succ]
                        refine wpAnyH_at (l' := #[true, true, true, false, false, false, false, false, false, false, false, false, false, false, false, false, false, false, false, false, false, false, false, false, false, false, false, false, false, false, false]) (by kernel_rfl) ?_
                        refine wpAnyH_take (i := 3) (oi := { dst := some 187, op := Op.indexAddr 26 (Operand.tmp 185) (Operand.tmp 186), type := 0, pos := "outright.go:86", after := #[{ on := 1, ground := Ground.data }, { on := 2, ground := Ground.data }], guard := none }) (v := ?_) rfl (by kernel_rfl) (by kernel_rfl) (by kernel_rfl) (fun _ _ _ h => h) (Or.inl ⟨by rfl, ?_⟩) (by assumption) ?_
                        rotate_left
                        · (intro w hSw; (try dsimp only at hSw); go_simp; try with_reducible rfl)
                        try simp only [Act.put, List.setIfInBounds_toArray, List.set_cons_zero, List.set_cons_succ]
                        refine wpAnyH_at (l' := #[true, true, true, true, false, false, false, false, false, false, false, false, false, false, false, false, false, false, false, false, false, false, false, false, false, false, false, false, false, false, false]) (by kernel_rfl) ?_
                        refine wpAnyH_take (i := 4) (oi := { dst := some 188, op := Op.load 3 (Operand.tmp 187), type := 3, pos := "outright.go:86", after := #[{ on := 3, ground := Ground.data }], guard := none }) (v := ?_) rfl (by kernel_rfl) (by kernel_rfl) (by kernel_rfl) (fun _ _ _ h => h) (Or.inl ⟨by rfl, ?_⟩) (by assumption) ?_
                        rotate_left
                        · (intro w hSw; (try dsimp only at hSw); go_simp; try with_reducible rfl)
                        try simp only [Act.put, List.setIfInBounds_toArray, List.set_cons_zero, List.set_cons_succ]
                        refine wpAnyH_at (l' := #[true, true, true, true, true, false, false, false, false, false, false, false, false, false, false, false, false, false, false, false, false, false, false, false, false, false, false, false, false, false, false]) (by kernel_rfl) ?_
                        refine wpAnyH_ready (rs := [5]) (by kernel_rfl) (by simp) ?_
                        refine AllReadyH.cons (o := { dst := some 189, op := Op.call { callee := Callee.value (Operand.func 14), args := #[Operand.tmp 184, Operand.tmp 188], argTypes := #[26, 3] }, type := 4, pos := "outright.go:86", after := #[{ on := 0, ground := Ground.data }, { on := 4, ground := Ground.data }], guard := none }) rfl (fun K hK => ?_) AllReadyH.nil
                        go_simp
                        go_at_call 14
                        refine (n1 _ hHeld.2.2.2).mono ?_
                        rintro e w' ⟨rfl, rfl⟩
                        refine hK.out _ _ (by first | assumption | exact ⟨keep1 hb hHeld.1, keep1 hb hHeld.2.1, keep1 hb hHeld.2.2.1, hHeld.2.2.2.trans (hb.mono hHeld.2.2.2.size)⟩) (fun hHeld => ?_)
                        clear hK K
                        try simp only [List.setIfInBounds_toArray, List.set_cons_zero, List.set_cons_succ]
                        refine wpAnyH_at (l' := #[true, true, true, true, true, true, false, false, false, false, false, false, false, false, false, false, false, false, false, false, false, false, false, false, false, false, false, false, false, false, false]) (by kernel_rfl) ?_
                        refine wpAnyH_take (i := 6) (oi := { dst := some 190, op := Op.unOp UnOp.not 4 (Operand.tmp 189), type := 4, pos := "outright.go:86", after := #[{ on := 5, ground := Ground.data }], guard := none }) (v := ?_) rfl (by kernel_rfl) (by kernel_rfl) (by kernel_rfl) (fun _ _ _ h => h) (Or.inl ⟨by rfl, ?_⟩) (by assumption) ?_
                        rotate_left
                        · (intro w hSw; (try dsimp only at hSw); go_simp; try with_reducible rfl)
                        try simp only [Act.put, List.setIfInBounds_toArray, List.set_cons_zero, List.set_cons_succ]
                        refine wpAnyH_at (l' := #[true, true, true, true, true, true, true, false, false, false, false, false, false, false, false, false, false, false, false, false, false, false, false, false, false, false, false, false, false, false, false]) (by kernel_rfl) ?_
                        refine wpAnyH_take (i := 7) (oi := { dst := some 191, op := Op.move (Operand.tmp 190), type := 4, pos := "outright.go:86", after := #[{ on := 6, ground := Ground.data }, { on := 5, ground := Ground.chain }], guard := none }) (v := ?_) rfl (by kernel_rfl) (by kernel_rfl) (by kernel_rfl) (fun _ _ _ h => h) (Or.inl ⟨by rfl, ?_⟩) (by assumption) ?_
                        rotate_left
                        · (intro w hSw; (try dsimp only at hSw); go_simp; try with_reducible rfl)
                        try simp only [Act.put, List.setIfInBounds_toArray, List.set_cons_zero, List.set_cons_succ]
                        refine wpAnyH_at (l' := #[true, true, true, true, true, true, true, true, false, false, false, false, false, false, false, false, false, false, false, false, false, false, false, false, false, false, false, false, false, false, false]) (by kernel_rfl) ?_
                        refine wpAnyH_take (i := 8) (oi := { dst := some 192, op := Op.fieldAddr 29 (Operand.tmp 6) 0, type := 0, pos := "outright.go:86", after := #[{ on := 7, ground := Ground.guard }], guard := some (7, true) }) (v := ?_) rfl (by kernel_rfl) (by kernel_rfl) (by kernel_rfl) (fun _ _ _ h => h) (Or.inl ⟨by rfl, ?_⟩) (by assumption) ?_
                        rotate_left
                        · (intro w hSw; (try dsimp only at hSw); go_simp; try with_reducible rfl)
                        try simp only [Act.put, List.setIfInBounds_toArray, List.set_cons_zero, List.set_cons_succ]
                        refine wpAnyH_at (l' := #[true, true, true, true, true, true, true, true, true, false, false, false, false, false, false, false, false, false, false, false, false, false, false, false, false, false, false, false, false, false, false]) (by kernel_rfl) ?_
                        refine wpAnyH_take (i := 9) (oi := { dst := some 193, op := Op.load 5 (Operand.tmp 192), type := 5, pos := "outright.go:86", after := #[{ on := 8, ground := Ground.data }, { on := 7, ground := Ground.guard }], guard := some (7, true) }) (v := ?_) rfl (by kernel_rfl) (by kernel_rfl) (by kernel_rfl) (fun _ _ _ h => h) (Or.inl ⟨by rfl, ?_⟩) (by assumption) ?_
                        rotate_left
                        · (intro w hSw; (try dsimp only at hSw); go_simp; try with_reducible rfl)
                        try simp only [Act.put, List.setIfInBounds_toArray, List.set_cons_zero, List.set_cons_succ]
                        refine wpAnyH_at (l' := #[true, true, true, true, true, true, true, true, true, true, false, false, false, false, false, false, false, false, false, false, false, false, false, false, false, false, false, false, false, false, false]) (by kernel_rfl) ?_
                        refine wpAnyH_take (i := 10) (oi := { dst := some 194, op := Op.binOp BinOp.neq 5 (Operand.tmp 193) (Operand.const (Value.int IntKind.u8 0)) 5, type := 4, pos := "outright.go:86", after := #[{ on := 9, ground := Ground.data }, { on := 7, ground := Ground.guard }], guard := some (7, true) }) (v := ?_) rfl (by kernel_rfl) (by kernel_rfl) (by kernel_rfl) (fun _ _ _ h => h) (Or.inl ⟨by rfl, ?_⟩) (by assumption) ?_
                        rotate_left
                        · (intro w hSw; (try dsimp only at hSw); go_simp; try with_reducible rfl)
                        try simp only [Act.put, List.setIfInBounds_toArray, List.set_cons_zero, List.set_cons_succ]
                        refine wpAnyH_at (l' := #[true, true, true, true, true, true, true, true, true, true, true, false, false, false, false, false, false, false, false, false, false, false, false, false, false, false, false, false, false, false, false]) (by kernel_rfl) ?_
                        refine wpAnyH_take (i := 11) (oi := { dst := some 195, op := Op.move (Operand.tmp 194), type := 4, pos := "outright.go:86", after := #[{ on := 10, ground := Ground.data }, { on := 7, ground := Ground.chain }, { on := 7, ground := Ground.guard }], guard := some (7, true) }) (v := ?_) rfl (by kernel_rfl) (by kernel_rfl) (by kernel_rfl) (fun _ _ _ h => h) (Or.inl ⟨by rfl, ?_⟩) (by assumption) ?_
                        rotate_left
                        · (intro w hSw; (try dsimp only at hSw); go_simp; try with_reducible rfl)
                        try simp only [Act.put, List.setIfInBounds_toArray, List.set_cons_zero, List.set_cons_succ]
                        refine wpAnyH_at (l' := #[true, true, true, true, true, true, true, true, true, true, true, true, false, false, false, false, false, false, false, false, false, false, false, false, false, false, false, false, false, false, false]) (by kernel_rfl) ?_
                        refine wpAnyH_take (i := 12) (oi := { dst := some 196, op := Op.move (Operand.tmp 11), type := 26, pos := "outright.go:86", after := #[{ on := 11, ground := Ground.guard }], guard := some (11, false) }) (v := ?_) rfl (by kernel_rfl) (by kernel_rfl) (by kernel_rfl) (fun _ _ _ h => h) (Or.inl ⟨by rfl, ?_⟩) (by assumption) ?_
                        rotate_left
                        · (intro w hSw; (try dsimp only at hSw); go_simp; try with_reducible rfl)
                        try simp only [Act.put, List.setIfInBounds_toArray, List.set_cons_zero, List.set_cons_succ]
                        refine wpAnyH_at (l' := #[true, true, true, true, true, true, true, true, true, true, true, true, true, false, false, false, false, false, false, false, false, false, false, false, false, false, false, false, false, false, false]) (by kernel_rfl) ?_
                        refine wpAnyH_take (i := 13) (oi := { dst := some 197, op := Op.move (Operand.tmp 15), type := 3, pos := "outright.go:86", after := #[{ on := 11, ground := Ground.guard }], guard := some (11, false) }) (v := ?_) rfl (by kernel_rfl) (by kernel_rfl) (by kernel_rfl) (fun _ _ _ h => h) (Or.inl ⟨by rfl, ?_⟩) (by assumption) ?_
                        rotate_left
                        · (intro w hSw; (try dsimp only at hSw); go_simp; try with_reducible rfl)
                        try simp only [Act.put, List.setIfInBounds_toArray, List.set_cons_zero, List.set_cons_succ]
                        refine wpAnyH_at (l' := #[true, true, true, true, true, true, true, true, true, true, true, true, true, true, false, false, false, false, false, false, false, false, false, false, false, false, false, false, false, false, false]) (by kernel_rfl) ?_
                        refine wpAnyH_take (i := 14) (oi := { dst := some 198, op := Op.indexAddr 26 (Operand.tmp 196) (Operand.tmp 197), type := 0, pos := "outright.go:86", after := #[{ on := 12, ground := Ground.data }, { on := 13, ground := Ground.data }, { on := 11, ground := Ground.guard }], guard := some (11, false) }) (v := ?_) rfl (by kernel_rfl) (by kernel_rfl) (by kernel_rfl) (fun _ _ _ h => h) (Or.inl ⟨by rfl, ?_⟩) (by assumption) ?_
                        rotate_left
                        · (intro w hSw; (try dsimp only at hSw); go_simp; try with_reducible rfl)
                        try simp only [Act.put, List.setIfInBounds_toArray, List.set_cons_zero, List.set_cons_succ]
                        refine wpAnyH_at (l' := #[true, true, true, true, true, true, true, true, true, true, true, true, true, true, true, false, false, false, false, false, false, false, false, false, false, false, false, false, false, false, false]) (by kernel_rfl) ?_
                        refine wpAnyH_take (i := 15) (oi := { dst := some 199, op := Op.load 3 (Operand.tmp 198), type := 3, pos := "outright.go:86", after := #[{ on := 14, ground := Ground.data }, { on := 11, ground := Ground.guard }], guard := some (11, false) }) (v := ?_) rfl (by kernel_rfl) (by kernel_rfl) (by kernel_rfl) (fun _ _ _ h => h) (Or.inl ⟨by rfl, ?_⟩) (by assumption) ?_
                        rotate_left
                        · (intro w hSw; (try dsimp only at hSw); go_simp; try with_reducible rfl)
                        try simp only [Act.put, List.setIfInBounds_toArray, List.set_cons_zero, List.set_cons_succ]
                        refine wpAnyH_at (l' := #[true, true, true, true, true, true, true, true, true, true, true, true, true, true, true, true, false, false, false, false, false, false, false, false, false, false, false, false, false, false, false]) (by kernel_rfl) ?_
                        refine wpAnyH_take (i := 16) (oi := { dst := some 200, op := Op.fieldAddr 29 (Operand.tmp 6) 2, type := 0, pos := "outright.go:86", after := #[{ on := 11, ground := Ground.guard }], guard := some (11, false) }) (v := ?_) rfl (by kernel_rfl) (by kernel_rfl) (by kernel_rfl) (fun _ _ _ h => h) (Or.inl ⟨by rfl, ?_⟩) (by assumption) ?_
                        rotate_left
                        · (intro w hSw; (try dsimp only at hSw); go_simp; try with_reducible rfl)
                        try simp only [Act.put, List.setIfInBounds_toArray, List.set_cons_zero, List.set_cons_succ]
                        refine wpAnyH_at (l' := #[true, true, true, true, true, true, true, true, true, true, true, true, true, true, true, true, true, false, false, false, false, false, false, false, false, false, false, false, false, false, false]) (by kernel_rfl) ?_
                        refine wpAnyH_take (i := 17) (oi := { dst := some 201, op := Op.load 3 (Operand.tmp 200), type := 3, pos := "outright.go:86", after := #[{ on := 16, ground := Ground.data }, { on := 11, ground := Ground.guard }], guard := some (11, false) }) (v := ?_) rfl (by kernel_rfl) (by kernel_rfl) (by kernel_rfl) (fun _ _ _ h => h) (Or.inl ⟨by rfl, ?_⟩) (by assumption) ?_
                        rotate_left
                        · (intro w hSw; (try dsimp only at hSw); go_simp; try with_reducible rfl)
                        try simp only [Act.put, List.setIfInBounds_toArray, List.set_cons_zero, List.set_cons_succ]
                        refine wpAnyH_at (l' := #[true, true, true, true, true, true, true, true, true, true, true, true, true, true, true, true, true, true, false, false, false, false, false, false, false, false, false, false, false, false, false]) (by kernel_rfl) ?_
                        refine wpAnyH_take (i := 18) (oi := { dst := some 202, op := Op.binOp BinOp.neq 3 (Operand.tmp 199) (Operand.tmp 201) 3, type := 4, pos := "outright.go:86", after := #[{ on := 15, ground := Ground.data }, { on := 17, ground := Ground.data }, { on := 11, ground := Ground.guard }], guard := some (11, false) }) (v := ?_) rfl (by kernel_rfl) (by kernel_rfl) (by kernel_rfl) (fun _ _ _ h => h) (Or.inl ⟨by rfl, ?_⟩) (by assumption) ?_
                        rotate_left
                        · (intro w hSw; (try dsimp only at hSw); go_simp; try with_reducible rfl)
                        try simp only [Act.put, List.setIfInBounds_toArray, List.set_cons_zero, List.set_cons_succ]
                        refine wpAnyH_at (l' := #[true, true, true, true, true, true, true, true, true, true, true, true, true, true, true, true, true, true, true, false, false, false, false, false, false, false, false, false, false, false, false]) (by kernel_rfl) ?_
                        refine wpAnyH_take (i := 19) (oi := { dst := some 203, op := Op.pick (Operand.tmp 195) (Operand.const (Value.bool true)) (Operand.tmp 202), type := 4, pos := "outright.go:86", after := #[{ on := 11, ground := Ground.data }, { on := 18, ground := Ground.data }, { on := 7, ground := Ground.guard }], guard := some (7, true) }) (v := ?_) rfl (by kernel_rfl) (by kernel_rfl) (by kernel_rfl) (fun _ _ _ h => h) (Or.inl ⟨by rfl, ?_⟩) (by assumption) ?_
                        rotate_left
                        · (intro w hSw; (try dsimp only at hSw); go_simp; try with_reducible rfl)
                        try simp only [Act.put, List.setIfInBounds_toArray, List.set_cons_zero, List.set_cons_succ]
                        refine wpAnyH_at (l' := #[true, true, true, true, true, true, true, true, true, true, true, true, true, true, true, true, true, true, true, true, false, false, false, false, false, false, false, false, false, false, false]) (by kernel_rfl) ?_
                        refine wpAnyH_take (i := 20) (oi := { dst := some 204, op := Op.pick (Operand.tmp 191) (Operand.tmp 203) (Operand.const (Value.bool false)), type := 4, pos := "outright.go:86", after := #[{ on := 7, ground := Ground.data }, { on := 19, ground := Ground.data }], guard := none }) (v := ?_) rfl (by kernel_rfl) (by kernel_rfl) (by kernel_rfl) (fun _ _ _ h => h) (Or.inl ⟨by rfl, ?_⟩) (by assumption) ?_
                        rotate_left
                        · (intro w hSw; (try dsimp only at hSw); go_simp; try with_reducible rfl)
                        try simp only [Act.put, List.setIfInBounds_toArray, List.set_cons_zero, List.set_cons_succ]
                        refine wpAnyH_at (l' := #[true, true, true, true, true, true, true, true, true, true, true, true, true, true, true, true, true, true, true, true, true, false, false, false, false, false, false, false, false, false, false]) (by kernel_rfl) ?_
                        refine wpAnyH_take (i := 21) (oi := { dst := some 205, op := Op.move (Operand.tmp 204), type := 4, pos := "outright.go:86", after := #[{ on := 20, ground := Ground.data }, { on := 11, ground := Ground.chain }], guard := none }) (v := ?_) rfl (by kernel_rfl) (by kernel_rfl) (by kernel_rfl) (fun _ _ _ h => h) (Or.inl ⟨by rfl, ?_⟩) (by assumption) ?_
                        rotate_left
                        · (intro w hSw; (try dsimp only at hSw); go_simp; try with_reducible rfl)
                        try simp only [Act.put, List.setIfInBounds_toArray, List.set_cons_zero, List.set_cons_succ]
                        refine wpAnyH_at (l' := #[true, true, true, true, true, true, true, true, true, true, true, true, true, true, true, true, true, true, true, true, true, true, false, false, false, false, false, false, false, false, false]) (by kernel_rfl) ?_
                        refine wpAnyH_take (i := 22) (oi := { dst := some 206, op := Op.move (Operand.tmp 3), type := 24, pos := "outright.go:86", after := #[{ on := 21, ground := Ground.guard }], guard := some (21, false) }) (v := ?_) rfl (by kernel_rfl) (by kernel_rfl) (by kernel_rfl) (fun _ _ _ h => h) (Or.inl ⟨by rfl, ?_⟩) (by assumption) ?_
                        rotate_left
                        · (intro w hSw; (try dsimp only at hSw); go_simp; try with_reducible rfl)
                        try simp only [Act.put, List.setIfInBounds_toArray, List.set_cons_zero, List.set_cons_succ]
                        refine wpAnyH_at (l' := #[true, true, true, true, true, true, true, true, true, true, true, true, true, true, true, true, true, true, true, true, true, true, true, false, false, false, false, false, false, false, false]) (by kernel_rfl) ?_
                        refine wpAnyH_take (i := 23) (oi := { dst := some 207, op := Op.move (Operand.tmp 11), type := 26, pos := "outright.go:86", after := #[{ on := 21, ground := Ground.guard }], guard := some (21, false) }) (v := ?_) rfl (by kernel_rfl) (by kernel_rfl) (by kernel_rfl) (fun _ _ _ h => h) (Or.inl ⟨by rfl, ?_⟩) (by assumption) ?_
                        rotate_left
                        · (intro w hSw; (try dsimp only at hSw); go_simp; try with_reducible rfl)
                        try simp only [Act.put, List.setIfInBounds_toArray, List.set_cons_zero, List.set_cons_succ]
                        refine wpAnyH_at (l' := #[true, true, true, true, true, true, true, true, true, true, true, true, true, true, true, true, true, true, true, true, true, true, true, true, false, false, false, false, false, false, false]) (by kernel_rfl) ?_
                        refine wpAnyH_take (i := 24) (oi := { dst := some 208, op := Op.move (Operand.tmp 15), type := 3, pos := "outright.go:86", after := #[{ on := 21, ground := Ground.guard }], guard := some (21, false) }) (v := ?_) rfl (by kernel_rfl) (by kernel_rfl) (by kernel_rfl) (fun _ _ _ h => h) (Or.inl ⟨by rfl, ?_⟩) (by assumption) ?_
                        rotate_left
                        · (intro w hSw; (try dsimp only at hSw); go_simp; try with_reducible rfl)
                        try simp only [Act.put, List.setIfInBounds_toArray, List.set_cons_zero, List.set_cons_succ]
                        refine wpAnyH_at (l' := #[true, true, true, true, true, true, true, true, true, true, true, true, true, true, true, true, true, true, true, true, true, true, true, true, true, false, false, false, false, false, false]) (by kernel_rfl) ?_
                        refine wpAnyH_take (i := 25) (oi := { dst := some 209, op := Op.indexAddr 26 (Operand.tmp 207) (Operand.tmp 208), type := 0, pos := "outright.go:86", after := #[{ on := 23, ground := Ground.data }, { on := 24, ground := Ground.data }, { on := 21, ground := Ground.guard }], guard := some (21, false) }) (v := ?_) rfl (by kernel_rfl) (by kernel_rfl) (by kernel_rfl) (fun _ _ _ h => h) (Or.inl ⟨by rfl, ?_⟩) (by assumption) ?_
                        rotate_left
                        · (intro w hSw; (try dsimp only at hSw); go_simp; try with_reducible rfl)
                        try simp only [Act.put, List.setIfInBounds_toArray, List.set_cons_zero, List.set_cons_succ]
                        refine wpAnyH_at (l' := #[true, true, true, true, true, true, true, true, true, true, true, true, true, true, true, true, true, true, true, true, true, true, true, true, true, true, false, false, false, false, false]) (by kernel_rfl) ?_
                        refine wpAnyH_take (i := 26) (oi := { dst := some 210, op := Op.load 3 (Operand.tmp 209), type := 3, pos := "outright.go:86", after := #[{ on := 25, ground := Ground.data }, { on := 21, ground := Ground.guard }], guard := some (21, false) }) (v := ?_) rfl (by kernel_rfl) (by kernel_rfl) (by kernel_rfl) (fun _ _ _ h => h) (Or.inl ⟨by rfl, ?_⟩) (by assumption) ?_
                        rotate_left
                        · (intro w hSw; (try dsimp only at hSw); go_simp; try with_reducible rfl)
                        try simp only [Act.put, List.setIfInBounds_toArray, List.set_cons_zero, List.set_cons_succ]
                        refine wpAnyH_at (l' := #[true, true, true, true, true, true, true, true, true, true, true, true, true, true, true, true, true, true, true, true, true, true, true, true, true, true, true, false, false, false, false]) (by kernel_rfl) ?_
                        refine wpAnyH_ready (rs := [27]) (by kernel_rfl) (by simp) ?_
                        refine AllReadyH.cons (o := { dst := some 211, op := Op.call { callee := Callee.value (Operand.func 15), args := #[Operand.tmp 206, Operand.tmp 210], argTypes := #[24, 3] }, type := 26, pos := "outright.go:86", after := #[{ on := 22, ground := Ground.data }, { on := 26, ground := Ground.data }, { on := 21, ground := Ground.chain }, { on := 21, ground := Ground.guard }], guard := some (21, false) }) rfl (fun K hK => ?_) AllReadyH.nil
                        go_simp
                        go_at_call 15
                        refine (n3 _ hHeld.2.2.2).mono ?_
                        rintro e w' ⟨A3, c3, m3, rfl, hm3, hm0, hb⟩
                        refine hK.out _ _ (by first | assumption | exact ⟨keep1 hb hHeld.1, keep1 hb hHeld.2.1, keep1 hb hHeld.2.2.1, hHeld.2.2.2.trans (hb.mono hHeld.2.2.2.size)⟩) (fun hHeld => ?_)
                        clear hK K
                        try simp only [List.setIfInBounds_toArray, List.set_cons_zero, List.set_cons_succ]
                        refine wpAnyH_at (l' := #[true, true, true, true, true, true, true, true, true, true, true, true, true, true, true, true, true, true, true, true, true, true, true, true, true, true, true, true, false, false, false]) (by kernel_rfl) ?_
                        refine wpAnyH_take (i := 28) (oi := { dst := some 212, op := Op.call { callee := Callee.builtin Builtin.len, args := #[Operand.tmp 211], argTypes := #[26] }, type := 3, pos := "outright.go:86", after := #[{ on := 27, ground := Ground.data }, { on := 21, ground := Ground.guard }], guard := some (21, false) }) (v := ?_) rfl (by kernel_rfl) (by kernel_rfl) (by kernel_rfl) (fun _ _ _ h => h) (Or.inl ⟨by rfl, ?_⟩) (by assumption) ?_
                        rotate_left
                        · (intro w hSw; (try dsimp only at hSw); go_simp; try with_reducible rfl)
                        try simp only [Act.put, List.setIfInBounds_toArray, List.set_cons_zero, List.set_cons_succ]
                        refine wpAnyH_at (l' := #[true, true, true, true, true, true, true, true, true, true, true, true, true, true, true, true, true, true, true, true, true, true, true, true, true, true, true, true, true, false, false]) (by kernel_rfl) ?_
                        refine wpAnyH_take (i := 29) (oi := { dst := some 213, op := Op.binOp BinOp.eql 3 (Operand.tmp 212) (Operand.const (Value.int IntKind.i64 0)) 3, type := 4, pos := "outright.go:86", after := #[{ on := 28, ground := Ground.data }, { on := 21, ground := Ground.guard }], guard := some (21, false) }) (v := ?_) rfl (by kernel_rfl) (by kernel_rfl) (by kernel_rfl) (fun _ _ _ h => h) (Or.inl ⟨by rfl, ?_⟩) (by assumption) ?_
                        rotate_left
                        · (intro w hSw; (try dsimp only at hSw); go_simp; try with_reducible rfl)
                        try simp only [Act.put, List.setIfInBounds_toArray, List.set_cons_zero, List.set_cons_succ]
                        refine wpAnyH_at (l' := #[true, true, true, true, true, true, true, true, true, true, true, true, true, true, true, true, true, true, true, true, true, true, true, true, true, true, true, true, true, true, false]) (by kernel_rfl) ?_
                        refine wpAnyH_take (i := 30) (oi := { dst := some 214, op := Op.pick (Operand.tmp 205) (Operand.const (Value.bool true)) (Operand.tmp 213), type := 4, pos := "outright.go:86", after := #[{ on := 21, ground := Ground.data }, { on := 29, ground := Ground.data }], guard := none }) (v := ?_) rfl (by kernel_rfl) (by kernel_rfl) (by kernel_rfl) (fun _ _ _ h => h) (Or.inl ⟨by rfl, ?_⟩) (by assumption) ?_
                        rotate_left
                        · (intro w hSw; (try dsimp only at hSw); go_simp; try with_reducible rfl)
                        try simp only [Act.put, List.setIfInBounds_toArray, List.set_cons_zero, List.set_cons_succ]
                        refine wpAnyH_at (l' := #[true, true, true, true, true, true, true, true, true, true, true, true, true, true, true, true, true, true, true, true, true, true, true, true, true, true, true, true, true, true, true]) (by kernel_rfl) ?_
                        refine wpAnyH_done (by kernel_rfl) ?_ _
                        have HBe := Lib.hid hHeld.2.2.2
                        clear n1 n3 H0 hHeld
                        go_wp2_with fail
                        go_roundw
                        case rel => exact ⟨j + 1, by omega, by go_num, hB.out.trans (HBe.out.mono hB.out.size)⟩
                        case measure => simp [intOf]; omega
                    · obtain rfl : j = now.length := by omega
                      have hs3 := Lib.hid (F3.out.below hB).1
                      clear hB hF F3
                      go_wp2_with fail
                      go_roundw
                      case rel => exact ⟨k + 1, S', K', by omega, by go_num, hs3.out⟩
                      case measure => simp [intOf]; omega
    · have hke : k = l.length := by omega
      subst hke
      have HB := Lib.hid hs.2.2.2.2.2.2.2.2.2
      clear hs
      go_wp2_with fail
      go_ret
      exact ⟨rfl, HB.out⟩
end Go.Proofs.Ytdiejjhlgacbdaa
