/- WALK of layer 22: Cut. -/
import Derived.Test.YtpkapichblpdfaaDoorE
set_option linter.unusedVariables false
namespace Go.Proofs.YtpkapichblpdfaaDoor
open Go.RowKit Go.ChangeShapes Go.WideShapes Go.ChangeAt

/-- What is left of a write before a size. -/
def cutP (s : Int) (p : Pt) : Option Pt := if p.1 < s then some (p.1, p.2.extract 0 (min (p.2.size : Int) (s - p.1)).toNat) else none
def cutL (s : Int) (l : List Pt) : List Pt := l.filterMap (cutP s)
theorem cutL_snoc_in (s : Int) (l : List Pt) (p : Pt) (h : p.1 < s) : cutL s (l ++ [p]) = cutL s l ++ [(p.1, p.2.extract 0 (min (p.2.size : Int) (s - p.1)).toNat)] := by unfold cutL; rw [List.filterMap_append]; simp [cutP, h]
theorem cutL_snoc_out (s : Int) (l : List Pt) (p : Pt) (h : ¬ p.1 < s) : cutL s (l ++ [p]) = cutL s l := by unfold cutL; rw [List.filterMap_append]; simp [cutP, h]
theorem cutL_len (s : Int) (l : List Pt) : (cutL s l).length ≤ l.length := List.length_filterMap_le _ _
theorem updL_same (L : Int → List Pt) (ino : Int) (l : List Pt) : updL L ino l ino = l := by simp [updL]
theorem updL_updL (L : Int → List Pt) (ino : Int) (l l' : List Pt) : updL (updL L ino l) ino l' = updL L ino l' := by funext i; simp only [updL]; split <;> rfl
theorem sumL_cut (s : Int) (l : List Pt) (hg : Good l) : ∀ k, k ≤ l.length → 0 ≤ sumL (cutL s (l.take k)) ∧ sumL (cutL s (l.take k)) ≤ sumL (l.take k)
  | 0, _ => by simp [sumL, cutL]
  | k + 1, h => by
    obtain ⟨h1, h2⟩ := sumL_cut s l hg k (by omega)
    rw [take_snoc l k (by omega), sumL_snoc]
    obtain ⟨g0, g1, g2⟩ := hg l[k] (List.getElem_mem (by omega))
    by_cases hc : l[k].1 < s
    · rw [cutL_snoc_in _ _ _ hc, sumL_snoc]
      have : (l[k].2.extract 0 (min (l[k].2.size : Int) (s - l[k].1)).toNat).size ≤ l[k].2.size := by simp [ByteArray.size_extract]; omega
      constructor <;> (simp only []; omega)
    · rw [cutL_snoc_out _ _ _ hc]
      constructor <;> omega
/-- What Cut does. -/
def CPost (O : Nat → Prop) (w : World) (r n : Nat) (L : Int → List Pt) (h ino s : Int) (e : Ending) (w' : World) : Prop := e = .returned (.int .i64 0) ∧
  Buf (Grow O w w') w' r (n + (L ino).length) (updL L ino (cutL s (L ino))) (h - sumL (L ino) + sumL (cutL s (L ino))) ∧ Off O w w'
set_option maxRecDepth 20000 in
set_option maxHeartbeats 600000 in
theorem cut_any (O : Nat → Prop) (r n : Nat) (L : Int → List Pt) (h ino s : Int) (w : World) (hb : Buf O w r n L h) (h0 : -9223372036854775808 ≤ ino) (h1 : ino ≤ 9223372036854775807) (hs0 : 0 ≤ s) (hs1 : s ≤ 9223372036854775807) (hg : Good (L ino)) (hl : (L ino).length ≤ 10000) (hn : n ≤ 100000) (hh0 : -1000000000 ≤ h) (hh1 : h ≤ 65536) :
    Calls Tryd.prog 16 #[.pointer (some ⟨r, 0, none⟩), .int .i64 ino, .int .i64 s] w (CPost O w r n L h ino s) := by
  have TK := Lib.hid (take_any O r n L h ino w hb h0 h1 hg (by omega) (by omega) hh1)
  clear hb
  have HS := Lib.hid (sumL_take (L ino) hg)
  have HC := Lib.hid (sumL_cut s (L ino) hg)
  replace hg := Lib.hid hg
  go_enter Tryd.func16, Tryd.ntmps16
  go_wp2_with fail
  refine TK.out.mono ?_
  rintro e w1 ⟨A, c, rfl, hR, hB, hO⟩
  replace hR := Lib.hid hR
  replace hB := Lib.hid hB
  replace hO := Lib.hid hO
  clear TK
  go_wp2_with fail
  generalize hLi : L ino = l at *
  replace hLi := Lib.hid hLi
  go_loopw [19] (fun i wr => ∃ k : Nat, k ≤ l.length ∧ i = .int .i64 k ∧ Off (fun k => O k ∧ (Value.slice A l.length c).ownBlock ≠ some k) w1 wr ∧ RdP wr A l ∧ Buf (Grow (fun k => O k ∧ (Value.slice A l.length c).ownBlock ≠ some k) w1 wr) wr r (n + k) (updL L ino (cutL s (l.take k))) (h - sumL l + sumL (cutL s (l.take k)))) (fun i _ => l.length - (intOf i).toNat)
  case atStart => exact ⟨0, Nat.zero_le _, rfl, Off.refl _ _, hR.out, by simpa [sumL, cutL] using hB.out.more (fun k hk => .inl hk) (Nat.le_refl _)⟩
  case round =>
    obtain ⟨k, hk, rfl, hbw, hrp, hgk⟩ := hrel
    replace hgk := Lib.hid hgk
    by_cases hlt : k < l.length
    · obtain ⟨g, rfl, hgl, hcs⟩ := hrp (by intro h; subst h; simp at hlt)
      obtain ⟨d0, d1⟩ := hcs k hlt
      obtain ⟨g0, g1, g2⟩ := hg.out l[k] (List.getElem_mem hlt)
      have HK := Lib.hid (take_snoc l k hlt)
      obtain ⟨s0, s1⟩ := HS.out l.length (Nat.le_refl _)
      rw [List.take_length] at s0 s1
      obtain ⟨s2, s3⟩ := HC.out k hk
      obtain ⟨s4, s5⟩ := HS.out k hk
      have HB := Lib.hid hbw
      have hrp' := Lib.hid (show RdP wr (some ⟨g, 0, none⟩) l from fun _ => ⟨g, rfl, hgl, hcs⟩)
      clear hbw hcs hrp
      have hI := Lib.hid (fun (hc : l[k].1 < s) => cutL_snoc_in s (l.take k) l[k] hc)
      have hU := Lib.hid (fun (hc : ¬ l[k].1 < s) => cutL_snoc_out s (l.take k) l[k] hc)
      generalize ht : l[k].2 = t at *
      have Ht := Lib.hid ht
      clear ht
      generalize hx : l[k].1 = x at *
      have Hx := Lib.hid hx
      clear hx
      go_wp2_with fail
      · have hxs : x < s := by assumption
        have HI := Lib.hid (hI.out hxs)
        have hts : (t.extract 0 (min (t.size : Int) (s - x)).toNat).size ≤ t.size := by simp [ByteArray.size_extract]; omega
        clear hI hU d0 d1
        generalize t.extract 0 (min (t.size : Int) (s - x)).toNat = tt at *
        have hbz : Below wr.heap.size wr (wr.alloc (.cells #[.int .i64 x, .string tt] 51)) := (Below.refl _ _).alloc (Nat.le_refl _) _
        have hzz : (wr.alloc (.cells #[.int .i64 x, .string tt] 51)).heap.size = wr.heap.size + 1 := by simp
        have hpn := heap_alloc_new wr (.cells #[.int .i64 x, .string tt] 51)
        have HBf := hgk.out.trim.below hbz
        have HB3 := Lib.hid (HB.out.trans (Off.of_below (fun _ => False) hbz) (fun x hx => hx.elim))
        have hR3 := Lib.hid (RdP.below hrp'.out hbz)
        have hgw1 : g < w1.heap.size := by
          obtain ⟨g', e, h', _⟩ := hR.out (by intro h; subst h; simp at hlt)
          cases e
          exact h'
        have hwz := HB.out.size
        clear hgk hbz
        generalize hw2 : wr.alloc (.cells #[.int .i64 x, .string tt] 51) = w2 at *
        clear hw2
        obtain ⟨bm, D, F, hb⟩ := HBf
        have hcl : (cutL s (l.take k)).length ≤ 10000 := by
          have := cutL_len s (l.take k)
          simp at this
          omega
        obtain ⟨v', w3, w4, hap, hup, hr2, hr3, hkp, hfin⟩ := buf_put hb ino x tt h0 h1 (by rw [updL_same]; omega) (by omega)
        rw [updL_same] at hfin
        have hlk1 := (hb.below (Below.refl _ w2).drew).look ino h0 h1
        have hlk2 : (Instr.lookup 52 (.map (some bm)) (.int .i64 ino) false).run Tryd.prog (w2.alloc (.cells #[.int .i64 x, .string tt] 51)).drew = .ok (F ino) (w2.alloc (.cells #[.int .i64 x, .string tt] 51)).drew := (hb.below ((Below.refl _ w2).drew.alloc (Nat.le_refl _) (.cells #[.int .i64 x, .string tt] 51))).look ino h0 h1
        replace hap : (Builtin.append_ #[42, 42] 42 #[F ino, .slice (some ⟨w2.heap.size, 0, none⟩) 1 1]).run Tryd.prog (w2.alloc (.cells #[.int .i64 x, .string tt] 51)).drew = .ok v' w3 := hap
        obtain ⟨c0, c1, cf⟩ := cell_two hb.1
        obtain ⟨p0, p1, pf⟩ := cell_two hpn
        have hpk := hkp wr.heap.size (by omega) (fun h => by have := h.2; omega)
        have cA : (w2.alloc (.cells #[.int .i64 x, .string tt] 51)).drew.cell? ⟨r, 0, none⟩ = some (.map (some bm)) := keep1 ((Below.refl _ w2).drew.alloc (Nat.le_refl _) _) c0
        have pA0 : (w2.alloc (.cells #[.int .i64 x, .string tt] 51)).drew.cell? ⟨wr.heap.size, 0, none⟩ = some (.int .i64 x) := keep1 ((Below.refl _ w2).drew.alloc (Nat.le_refl _) _) p0
        have pA1 : (w2.alloc (.cells #[.int .i64 x, .string tt] 51)).drew.cell? ⟨wr.heap.size, 1, none⟩ = some (.string tt) := keep1 ((Below.refl _ w2).drew.alloc (Nat.le_refl _) _) p1
        have c2 : w3.cell? ⟨r, 0, none⟩ = some (.map (some bm)) := (World.cell?_of_block hr2).trans c0
        have c3 : w4.cell? ⟨r, 0, none⟩ = some (.map (some bm)) := (World.cell?_of_block hr3).trans c0
        have p20 : w3.cell? ⟨wr.heap.size, 0, none⟩ = some (.int .i64 x) := (World.cell?_of_block hpk.1).trans p0
        have p21 : w3.cell? ⟨wr.heap.size, 1, none⟩ = some (.string tt) := (World.cell?_of_block hpk.1).trans p1
        have p30 : w4.cell? ⟨wr.heap.size, 0, none⟩ = some (.int .i64 x) := (World.cell?_of_block hpk.2).trans p0
        have p31 : w4.cell? ⟨wr.heap.size, 1, none⟩ = some (.string tt) := (World.cell?_of_block hpk.2).trans p1
        have cD : w2.drew.cell? ⟨r, 0, none⟩ = some (.map (some bm)) := c0
        have pD0 : w2.drew.cell? ⟨wr.heap.size, 0, none⟩ = some (.int .i64 x) := p0
        have pD1 : w2.drew.cell? ⟨wr.heap.size, 1, none⟩ = some (.string tt) := p1
        have HE := Lib.hid (hr3.trans hb.1)
        obtain ⟨_, e1, ef⟩ := cell_two HE.out
        have HF := Lib.hid hfin
        clear hfin hb hkp hpk hpn hr2 hr3 c1 cf pf
        have HV := Lib.hid (show -1000000000000 ≤ (h - sumL l + sumL (cutL s (l.take k))) ∧ (h - sumL l + sumL (cutL s (l.take k))) ≤ 1000000000000 ∧ tt.size ≤ 32768 ∧ g < w1.heap.size ∧ w1.heap.size ≤ wr.heap.size ∧ w2.heap.size = wr.heap.size + 1 from ⟨by omega, by omega, by omega, hgw1, hwz, hzz⟩)
        clear s0 s1 s2 s3 s4 s5 g0 g1 g2 hzz hwz hgw1 hts hcl hgl
        generalize hwq : wr.heap.size = q at *
        go_region_held3 (fun w' => w'.cell? ⟨r, 0, none⟩ = some (.map (some bm)) ∧ w'.cell? ⟨q, 0, none⟩ = some (.int .i64 x) ∧ w'.cell? ⟨q, 1, none⟩ = some (.string tt))
          (first | with_reducible exact ⟨c0, p0, p1⟩ | with_reducible exact ⟨cD, pD0, pD1⟩ | with_reducible exact ⟨cA, pA0, pA1⟩ | with_reducible exact ⟨c2, p20, p21⟩ | with_reducible exact ⟨c3, p30, p31⟩ | (trace_state; fail))
          (first | (refine Go.Lib.wp_append_run_sl _ _ _ _ rfl _ _ rfl rfl hap ?_) | (rw [hlk1]) | (rw [hlk2]) | rw [hup])
        all_goals (clear hlk1 hlk2 hap hup cA c0 c2 p0 p1 pA0 pA1 p20 p21)
        all_goals (have hvv := And.intro HV.out.1 (And.intro HV.out.2.1 HV.out.2.2.1); obtain ⟨v0, v1, v2⟩ := hvv)
        all_goals (go_wp2_with fail)
        all_goals (go_region)
        all_goals (
          have hQ := held_store (h' := h - sumL l + sumL (cutL s (l.take k)) + (tt.size : Int)) HE.out
          have HQ := Lib.hid (HF.out _ _ (show (w4.setCell ⟨r, 1, none⟩ (.int .i64 (h - sumL l + sumL (cutL s (l.take k)) + (tt.size : Int)))).drew.heap[r]? = _ from hQ.1) hQ.2.drew)
          clear hQ HF HE c3 cD pD0 pD1 p30 p31 e1 ef
          generalize (w4.setCell ⟨r, 1, none⟩ (.int .i64 (h - sumL l + sumL (cutL s (l.take k)) + (tt.size : Int)))).drew = w5 at *
          go_wp2_with fail
          go_roundw)
        all_goals (first | (show l.length - (intOf (Value.int IntKind.i64 ((k : Int) + 1))).toNat < _; simp [intOf]; omega) | skip)
        all_goals (
          obtain ⟨_, _, _, y1, y2, y3⟩ := HV.out
          have hoff := HQ.out.2
          have hz5 := hoff.size
          have hgn : ¬ Grow (fun k => O k ∧ (Value.slice (some ⟨g, 0, none⟩) l.length c).ownBlock ≠ some k) w1 wr g := fun hx => hx.elim (fun e => e.2 rfl) (fun e => by omega)
          refine ⟨k + 1, by omega, by go_num, HB3.out.trans hoff (fun x hx => hx.1.elim .inl (fun e => .inr e.1)), RdP.off hR3.out hoff (fun g' e hx => by cases e; exact hgn hx.1), ?_⟩
          rw [HK.out, HI.out, sumL_snoc, ← updL_updL L ino (cutL s (l.take k)), show h - sumL l + (sumL (cutL s (l.take k)) + (tt.size : Int)) = h - sumL l + sumL (cutL s (l.take k)) + (tt.size : Int) from by omega]
          refine HQ.out.1.more (fun k hk => ?_) (by omega)
          rcases hk with ⟨e | e, e2⟩ | e
          · exact .inl e
          · exact .inr ⟨e.1, by omega⟩
          · exact .inr ⟨by omega, e.2⟩)
      · have hxs : ¬ x < s := by omega
        have HU := Lib.hid (hU.out hxs)
        have hbz : Below wr.heap.size wr (wr.alloc (.cells #[.int .i64 x, .string t] 51)) := (Below.refl _ _).alloc (Nat.le_refl _) _
        have hzz := hbz.size
        refine ⟨⟨k + 1, by omega, by go_num, HB.out.trans (Off.of_below (fun _ => False) hbz) (fun x hx => hx.elim), RdP.below hrp'.out hbz, ?_⟩, by simp [intOf]; omega⟩
        rw [HK.out, HU.out]
        exact (hgk.out.below hbz).more (fun k hk => hk.elim .inl (fun h => .inr ⟨h.1, by omega⟩)) (by omega)
    · have hkl : k = l.length := by omega
      subst hkl
      rw [List.take_length] at hgk
      go_wp2_with fail
      go_ret
      have hz := hO.out.size
      exact ⟨rfl, by rw [hLi.out]; exact hgk.out.more (fun k hk => hk.elim (fun h => .inl h.1) (fun h => .inr ⟨by omega, h.2⟩)) (Nat.le_refl _), hO.out.trans hbw (fun x hx => .inl hx.1)⟩
end Go.Proofs.YtpkapichblpdfaaDoor
