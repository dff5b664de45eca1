/- WALK of layer 22: Take. -/
import Derived.Test.YtpkapichblpdfaaDoorD
import Derived.Maps.OwnSet
set_option linter.unusedVariables false
namespace Go.Proofs.YtpkapichblpdfaaDoor
open Go.RowKit Go.ChangeShapes Go.WideShapes Go.ChangeAt

theorem RdP.off {O : Nat → Prop} {w w' : World} {A : Option Addr} {l : List Pt} (h : RdP w A l) (ho : Off O w w') (hn : ∀ g, A = some ⟨g, 0, none⟩ → ¬ O g) : RdP w' A l := fun hne => by
  obtain ⟨g, hA, hlt, hc⟩ := h hne
  have hk := ho.block g hlt (hn g hA)
  exact ⟨g, hA, Nat.lt_of_lt_of_le hlt ho.size, fun k h => ⟨(World.cell?_of_block hk).trans (hc k h).1, (World.cell?_of_block hk).trans (hc k h).2⟩⟩
theorem Off.drew {O : Nat → Prop} {w w' : World} (h : Off O w w') : Off O w w'.drew := ⟨h.os, h.tape, h.output, h.size, h.block⟩
/-- How many bytes writes have. -/
def sumL (l : List Pt) : Int := l.foldl (fun s p => s + (p.2.size : Int)) 0
theorem sumL_snoc (l : List Pt) (p : Pt) : sumL (l ++ [p]) = sumL l + p.2.size := by unfold sumL; simp [List.foldl_append]
theorem sumL_take (l : List Pt) (hg : Good l) : ∀ k, k ≤ l.length → 0 ≤ sumL (l.take k) ∧ sumL (l.take k) ≤ 32768 * k
  | 0, _ => by simp [sumL]
  | k + 1, h => by
    obtain ⟨h1, h2⟩ := sumL_take l hg k (by omega)
    rw [take_snoc l k (by omega), sumL_snoc]
    obtain ⟨g0, g1, g2⟩ := hg l[k] (List.getElem_mem (by omega))
    constructor <;> omega
theorem keys_del {D : DataW Unit} {L : Int → List Pt} {ino : Int} (h2 : ∀ i, Go.Maps.has D (.int .i64 i) = decide (L i ≠ [])) : ∀ i, Go.Maps.has (D.del (.int .i64 ino)) (.int .i64 i) = decide (updL L ino [] i ≠ []) := fun i => by
  unfold updL
  by_cases hi : i = ino
  · subst hi
    rw [Go.Maps.has_del_same, if_pos rfl]
    simp
  · rw [Go.Maps.has_del_other (by simp; exact hi), if_neg hi, h2]
set_option maxHeartbeats 1000000 in
theorem buf_del {O : Nat → Prop} {w : World} {r bm n : Nat} {D : DataW Unit} {F : Int → Value} {L : Int → List Pt} {h : Int} (hb : BufAt O w r bm n D F L h) (ino : Int) (h0 : -9223372036854775808 ≤ ino) (h1 : ino ≤ 9223372036854775807) (ty : TypeId) :
    ∃ w1 A c, F ino = .slice A (L ino).length c ∧ (Builtin.delete_ #[52, 3] ty #[.map (some bm), .int .i64 ino]).run Tryd.prog w = .ok (.tuple #[]) w1 ∧ w1.heap[r]? = w.heap[r]? ∧ RdP w1 A (L ino) ∧ (∀ g, A = some ⟨g, 0, none⟩ → g ≠ r) ∧
      ∀ w4 h', w4.heap[r]? = some (.cells #[.map (some bm), .int .i64 h'] 54 (0, 0)) → Off (fun k => k = r) w1 w4 → Buf (fun k => O k ∧ (F ino).ownBlock ≠ some k) w4 r n (updL L ino []) h' ∧ Off O w w4 := by
  obtain ⟨c1, c2, c3, c4, c5, c6, c7, c8, c9⟩ := hb
  have hrlt : r < w.heap.size := (Array.getElem?_eq_some_iff.1 c1).1
  have hFr : ∀ i, (F i).ownBlock ≠ some r := fun i hg => by
    obtain ⟨cs, hcs⟩ := row_lt (c5 i) hg
    rw [c1] at hcs
    simp at hcs
  obtain ⟨es, ck, hmb⟩ := own_map_at c2
  have hFm : ∀ i, (F i).ownBlock ≠ some bm := fun i hg => by
    obtain ⟨cs, hcs⟩ := row_lt (c5 i) hg
    rw [hmb] at hcs
    simp at hcs
  have hrm : r ≠ bm := fun hg => by
    rw [hg, hmb] at c1
    simp at c1
  obtain ⟨w1, hd, m1, ht⟩ := c2.drop int_keys Tryd.underlying52 (key_int h0 h1) ty
  have hg1 := ht.grown
  have o1 : Off (fun k => k = bm) w w1 := Off.of_grown hg1 (fun k e => by simpa using e.symm)
  obtain ⟨A, c, hF, hR, _, _⟩ := row_rdp (c5 ino)
  have hAb : ∀ g, A = some ⟨g, 0, none⟩ → (F ino).ownBlock = some g := fun g e => by rw [hF, e]; rfl
  refine ⟨w1, A, c, hF, hd, o1.block r hrlt hrm, RdP.off hR o1 (fun g e hx => hFm ino (hx ▸ hAb g e)), fun g e hx => hFr ino (hx ▸ hAb g e), fun w4 h' hw4 ho4 => ?_⟩
  have o4 : Off (fun k => k = bm ∨ k = r) w w4 := (Off.trans (O := fun k => k = bm ∨ k = r) ⟨o1.os, o1.tape, o1.output, o1.size, fun k hk hn => o1.block k hk (fun hx => hn (.inl hx))⟩ ho4 (fun x hx => .inl (.inr hx)))
  refine ⟨⟨bm, _, fun i => if i = ino then .slice none 0 0 else F i, hw4, map_off m1 ho4 (fun e => hrm e.symm), ⟨c3.1.del _, keys_del c3.2⟩, fun i => ?_, fun i => ?_, fun i j g hi' hj' => ?_, ⟨c7, hFr ino⟩, ⟨c8, hFm ino⟩, fun i g hg => ?_⟩, ?_⟩
  · by_cases hi' : i = ino
    · subst hi'
      show encS (if i = i then _ else F i) = _
      rw [if_pos rfl, Go.Maps.atKey_del_same]
      rfl
    · show encS (if i = ino then _ else F i) = _
      rw [if_neg hi', Go.Maps.atKey_del_other (by simp; exact hi')]
      exact c4 i
  · by_cases hi' : i = ino
    · subst hi'
      simp only [if_pos, updL]
      exact World.ownsRow_nil _ _ _ _
    · simp only [if_neg hi', updL]
      exact row_off (c5 i) o4 (fun g hg hx => by
        rcases hx with rfl | rfl
        · exact hFm _ hg
        · exact hFr _ hg)
  · by_cases hi1 : i = ino
    · simp only [if_pos hi1] at hi'
      cases hi'
    · by_cases hj1 : j = ino
      · simp only [if_pos hj1] at hj'
        cases hj'
      · simp only [if_neg hi1, if_neg hj1] at hi' hj'
        exact c6 i j g hi' hj'
  · by_cases hi1 : i = ino
    · simp only [if_pos hi1] at hg
      cases hg
    · simp only [if_neg hi1] at hg
      exact ⟨c9 i g hg, fun e => hi1 (c6 i ino g hg e)⟩
  · exact ⟨o4.os, o4.tape, o4.output, o4.size, fun k hk hn => o4.block k hk (fun hx => by
      rcases hx with rfl | rfl
      · exact hn c8
      · exact hn c7)⟩
/-- What Take does. -/
def TPost (O : Nat → Prop) (w : World) (r n : Nat) (L : Int → List Pt) (h ino : Int) (e : Ending) (w' : World) : Prop := ∃ A c, e = .returned (.slice A (L ino).length c) ∧ RdP w' A (L ino) ∧
  Buf (fun k => O k ∧ (Value.slice A (L ino).length c).ownBlock ≠ some k) w' r n (updL L ino []) (h - sumL (L ino)) ∧ Off O w w'
set_option maxRecDepth 20000 in
set_option maxHeartbeats 2000000 in
theorem take_any (O : Nat → Prop) (r n : Nat) (L : Int → List Pt) (h ino : Int) (w : World) (hb : Buf O w r n L h) (h0 : -9223372036854775808 ≤ ino) (h1 : ino ≤ 9223372036854775807) (hg : Good (L ino)) (hl : (L ino).length ≤ 1000000) (hh0 : -1000000000000 ≤ h) (hh1 : h ≤ 65536) :
    Calls Tryd.prog 17 #[.pointer (some ⟨r, 0, none⟩), .int .i64 ino] w (TPost O w r n L h ino) := by
  obtain ⟨bm, D, F, hb⟩ := hb
  have hlk := hb.look ino h0 h1
  obtain ⟨c0, c1, cf⟩ := cell_two hb.1
  have hbH := Lib.hid hb.1
  obtain ⟨w1, A, c, hF, hdl, hr1, hR, hAr, hfin⟩ := buf_del hb ino h0 h1 0
  rw [hF] at hlk hfin
  have hw1 : w1.heap[r]? = some (.cells #[.map (some bm), .int .i64 h] 54 (0, 0)) := hr1.trans hbH.out
  replace hR := Lib.hid hR
  replace hfin := Lib.hid hfin
  replace hAr := Lib.hid hAr
  have HS := Lib.hid (sumL_take (L ino) hg)
  replace hg := Lib.hid hg
  replace hw1 := Lib.hid hw1
  clear hb hF hbH
  go_enter Tryd.func17, Tryd.ntmps17
  go_wp2_with fail
  clear hlk hdl c0 c1 cf
  generalize hLi : L ino = l at *
  replace hLi := Lib.hid hLi
  go_loopw [23] (fun i wr => ∃ k : Nat, k ≤ l.length ∧ i = .int .i64 k ∧ Off (fun k => k = r) w1 wr ∧ RdP wr A l ∧ wr.heap[r]? = some (.cells #[.map (some bm), .int .i64 (h - sumL (l.take k))] 54 (0, 0))) (fun i _ => l.length - (intOf i).toNat)
  case atStart => exact ⟨0, Nat.zero_le _, rfl, Off.refl _ _, hR.out, by simpa [sumL] using hw1.out⟩
  case round =>
    obtain ⟨k, hk, rfl, hbw, hrp, hgk⟩ := hrel
    by_cases hlt : k < l.length
    · obtain ⟨g, rfl, hgl, hcs⟩ := hrp (by intro h; subst h; simp at hlt)
      obtain ⟨d0, d1⟩ := hcs k hlt
      obtain ⟨g0, g1, g2⟩ := hg.out l[k] (List.getElem_mem hlt)
      have HK := Lib.hid (take_snoc l k hlt)
      have HO := Lib.hid (sumL_snoc (l.take k) l[k])
      obtain ⟨s0, s1⟩ := HS.out k hk
      have HB := Lib.hid hbw
      have hrp' := Lib.hid (show RdP wr (some ⟨g, 0, none⟩) l from fun _ => ⟨g, rfl, hgl, hcs⟩)
      have hgr := Lib.hid (hAr.out g rfl)
      have hrl : r < wr.heap.size := (Array.getElem?_eq_some_iff.1 hgk).1
      clear hbw hcs hrp
      generalize ht : l[k].2 = t at *
      have Ht := Lib.hid ht
      clear ht
      generalize hu : sumL (l.take k) = u at *
      have Hu := Lib.hid hu
      clear hu
      generalize hx : l[k].1 = x at *
      have Hx := Lib.hid hx
      clear hx
      replace hgk := Lib.hid hgk
      go_wp2_with fail
      have b1 : (wr.alloc (.cells #[.int .i64 x, .string t] 51)).cell? ⟨wr.heap.size, 1, none⟩ = some (.string t) := by rw [World.cell?_alloc_new]; rfl
      have hb3 : Below wr.heap.size wr (wr.alloc (.cells #[.int .i64 x, .string t] 51)) := (Below.refl _ _).alloc (Nat.le_refl _) _
      have hgk3 : (wr.alloc (.cells #[.int .i64 x, .string t] 51)).heap[r]? = some (.cells #[.map (some bm), .int .i64 (h - u)] 54 (0, 0)) := (hb3.block r hrl).trans hgk.out
      have HB3 := Lib.hid (HB.out.trans (Off.of_below (fun k => k = r) hb3) (fun x hx => .inl hx))
      have hR3 := Lib.hid (RdP.below hrp'.out hb3)
      clear hgk hb3 d0 d1
      generalize wr.alloc (.cells #[.int .i64 x, .string t] 51) = w3 at *
      obtain ⟨e0, e1, ef⟩ := cell_two hgk3
      have HE := Lib.hid hgk3
      clear hgk3 e0
      go_region
      obtain ⟨q1, q2⟩ := held_store (h' := h - u - (t.size : Int)) HE.out
      have HQ1 := Lib.hid q1
      have HQ2 := Lib.hid (HB3.out.trans q2.drew (fun x hx => .inl hx))
      have HQ3 := Lib.hid (RdP.off hR3.out q2.drew (fun g' e hx => by cases e; exact hgr.out hx))
      clear q1 q2 b1 e1 ef
      go_wp2_with fail
      go_roundw
      case rel => exact ⟨k + 1, by omega, by go_num, HQ2.out, HQ3.out, by rw [HK.out, HO.out, show h - (u + (t.size : Int)) = h - u - t.size from by omega]; exact HQ1.out⟩
      case measure => simp [intOf]; omega
    · have hkl : k = l.length := by omega
      subst hkl
      rw [List.take_length] at hgk
      go_wp2_with fail
      go_ret
      exact ⟨A, c, by rw [hLi.out]; rfl, by rw [hLi.out]; exact hrp, by rw [hLi.out]; exact hfin.out _ _ hgk hbw⟩
end Go.Proofs.YtpkapichblpdfaaDoor
