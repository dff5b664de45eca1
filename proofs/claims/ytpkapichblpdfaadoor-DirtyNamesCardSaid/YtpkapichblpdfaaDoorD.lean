/- WALK of layer 22: Write. -/
import Derived.Test.YtpkapichblpdfaaDoorC
import Derived.Lib.SlFresh
import Derived.Deep.RegionHeld3
set_option linter.unusedVariables false
namespace Go.Proofs.YtpkapichblpdfaaDoor
open Go.RowKit Go.ChangeShapes Go.WideShapes Go.ChangeAt

/-- What is a buffer's own behind a step. -/
def Grow (O : Nat → Prop) (w w' : World) : Nat → Prop := fun k => O k ∨ (w.heap.size ≤ k ∧ k < w'.heap.size)
theorem Buf.more {O O' : Nat → Prop} {w : World} {r n n' : Nat} {L : Int → List Pt} {h : Int} (hb : Buf O w r n L h) (hO : ∀ k, O k → O' k) (hn : n ≤ n') : Buf O' w r n' L h := by
  obtain ⟨bm, D, F, h1, h2, h3, h4, h5, h6, h7, h8, h9⟩ := hb
  exact ⟨bm, D, F, h1, h2.mono hn, h3, h4, h5, h6, hO _ h7, hO _ h8, fun i g hg => hO _ (h9 i g hg)⟩
theorem Buf.trim {O : Nat → Prop} {w : World} {r n : Nat} {L : Int → List Pt} {h : Int} (hb : Buf O w r n L h) : Buf (fun k => O k ∧ k < w.heap.size) w r n L h := by
  obtain ⟨bm, D, F, h1, h2, h3, h4, h5, h6, h7, h8, h9⟩ := hb
  refine ⟨bm, D, F, h1, h2, h3, h4, h5, h6, ⟨h7, (Array.getElem?_eq_some_iff.1 h1).1⟩, ⟨h8, h2.lt⟩, fun i g hg => ⟨h9 i g hg, ?_⟩⟩
  rcases (h5 i).2 with ⟨e, _⟩ | ⟨g', cap, cur, e, _, h3, _⟩
  · rw [e] at hg; cases hg
  · rw [e] at hg
    simp [Value.ownBlock] at hg
    subst hg
    exact (Array.getElem?_eq_some_iff.1 h3).1
def updL (L : Int → List Pt) (ino : Int) (l : List Pt) : Int → List Pt := fun i => if i = ino then l else L i
theorem info_put : (Tryd.prog.info? 51).map (fun i => (i.zero, i.size, i.bytes)) = some (some (.agg #[.int .i64 0, .string ⟨#[]⟩]), 2, 24) := by kernel_rfl
theorem row_lt {w : World} {base : Nat} {e : TypeId} {size : Nat} {v : Value} {n : Nat} {xs : List Value} (h : w.ownsRow base e size v n xs) {g : Nat} (hg : v.ownBlock = some g) : ∃ cs, w.heap[g]? = some (.cells cs e (0, 0)) := by
  rcases h.2 with ⟨rfl, _⟩ | ⟨g', cap, cur, rfl, _, h3, _⟩
  · cases hg
  · simp [Value.ownBlock] at hg
    subst hg
    exact ⟨_, h3⟩
theorem own_map_at {w : World} {P : Program} {k : TypeId} {R : Value → Option (DataW Unit × List MemPlace)} {b n : Nat} {D : DataW Unit} (h : w.ownsMap P k R b n D) : ∃ es c, w.heap[b]? = some (.map es c) := by
  obtain ⟨es, clock, hb, _⟩ := h
  exact ⟨_, _, hb⟩
set_option maxHeartbeats 1000000 in
theorem keys_put {D : DataW Unit} {L : Int → List Pt} {ino : Int} {p : Pt} {d : DataW Unit} (h1 : Go.Maps.IsMap D) (h2 : ∀ i, Go.Maps.has D (.int .i64 i) = decide (L i ≠ [])) : ∀ i, Go.Maps.has (D.put (.int .i64 ino) d) (.int .i64 i) = decide (updL L ino (L ino ++ [p]) i ≠ []) := fun i => by
  unfold updL
  by_cases hi : i = ino
  · subst hi
    rw [Go.Maps.has_put_same h1 (by simp [WideAt.IsKeyLit]), if_pos rfl]
    simp
  · rw [Go.Maps.has_put_other (by simp; exact hi), if_neg hi, h2]
theorem buf_put {O : Nat → Prop} {w : World} {r bm n : Nat} {D : DataW Unit} {F : Int → Value} {L : Int → List Pt} {h : Int} (hb : BufAt O w r bm n D F L h) (ino a : Int) (text : ByteArray) (h0 : -9223372036854775808 ≤ ino) (h1 : ino ≤ 9223372036854775807) (hl : (L ino).length ≤ 1000000) (hn : n ≤ 1000000) :
    ∃ v' w2 w3, (Builtin.append_ #[42, 42] 42 #[F ino, .slice (some ⟨w.heap.size, 0, none⟩) 1 1]).run Tryd.prog (w.drew.alloc (.cells #[.int .i64 a, .string text] 51)) = .ok v' w2 ∧
      (Instr.mapUpdate 52 (.map (some bm)) (.int .i64 ino) v').run Tryd.prog w2 = .ok () w3 ∧ w2.heap[r]? = w.heap[r]? ∧ w3.heap[r]? = w.heap[r]? ∧ (∀ k, k < w.heap.size → ¬ O k → w2.heap[k]? = w.heap[k]? ∧ w3.heap[k]? = w.heap[k]?) ∧
      ∀ w4 h', w4.heap[r]? = some (.cells #[.map (some bm), .int .i64 h'] 54 (0, 0)) → Off (fun k => k = r) w3 w4 → Buf (Grow O w w4) w4 r (n + 1) (updL L ino (L ino ++ [(a, text)])) h' ∧ Off O w w4 := by
  have hbw : Below w.heap.size w (w.drew.alloc (.cells #[.int .i64 a, .string text] 51)) := (Below.refl _ _).drew.alloc (Nat.le_refl _) _
  have hbB := hb.below hbw
  have hnew : ∀ j u, [Value.int .i64 a, Value.string text][j]? = some u → (w.drew.alloc (.cells #[.int .i64 a, .string text] 51)).cell? ((⟨w.heap.size, 0, none⟩ : Addr).add j) = some u := by
    intro j u hj
    match j, hj with
    | 0, hj =>
      simp at hj
      subst hj
      exact (World.cell?_alloc_new w.drew _ _ 0).trans rfl
    | 1, hj =>
      simp at hj
      subst hj
      exact (World.cell?_alloc_new w.drew _ _ 1).trans rfl
  have hz1 : (w.drew.alloc (.cells #[.int .i64 a, .string text] 51)).heap.size = w.heap.size + 1 := by
    show (w.heap.push _).size = _
    simp
  generalize w.drew.alloc (.cells #[.int .i64 a, .string text] 51) = w1 at *
  obtain ⟨i0, hi, hz0, hz2, hz3⟩ := info_parts info_put
  obtain ⟨c1, c2, c3, c4, c5, c6, c7, c8, c9⟩ := hbB
  have hrlt : r < w.heap.size := (Array.getElem?_eq_some_iff.1 hb.1).1
  have hblt : bm < w.heap.size := hb.2.1.lt
  have hFlt : ∀ i g, (F i).ownBlock = some g → g < w.heap.size := fun i g hg => by
    obtain ⟨cs, hcs⟩ := row_lt (hb.2.2.2.2.1 i) hg
    exact (Array.getElem?_eq_some_iff.1 hcs).1
  have hFr : ∀ i, (F i).ownBlock ≠ some r := fun i hg => by
    obtain ⟨cs, hcs⟩ := row_lt (c5 i) hg
    rw [c1] at hcs
    simp at hcs
  obtain ⟨es, ck, hmb⟩ := own_map_at c2
  have hFm : ∀ i, (F i).ownBlock ≠ some bm := fun i hg => by
    obtain ⟨cs, hcs⟩ := row_lt (c5 i) hg
    rw [hmb] at hcs
    simp at hcs
  have hrm : r ≠ bm := fun hg => by
    rw [hg, hmb] at c1
    simp at c1
  obtain ⟨v', w2, hr, hown, hgrow, hnil, hat⟩ := run_append_own_at (P := Tryd.prog) w1 0 42 42 51 i0 _ 2 24 Tryd.underlying42 hi hz0 hz2 hz3 rfl (by omega) (F ino) _ _ (c5 ino) ⟨w.heap.size, 0, none⟩ 1 1 [.int .i64 a, .string text] rfl hnew (by simp [Value.oneCell']) (by unfold maxLen; omega) (by omega) (Nat.zero_le _)
  have m2 := c2.kept hgrow (fun e => hFm ino e.symm)
  obtain ⟨d, hd⟩ := encS_row hown
  obtain ⟨w3, hu, m3, hg3⟩ := m2.update int_keys Tryd.underlying52 (by unfold maxLen; omega) (key_int h0 h1) hd
  have hv' : ∀ g, v'.ownBlock = some g → (F ino).ownBlock = some g ∨ g = w.heap.size + 1 := fun g hg => by
    rcases hat with e | e
    · exact .inl (e ▸ hg)
    · rw [hg] at e
      simp at e
      exact .inr (by omega)
  have r2 : w2.heap[r]? = w1.heap[r]? := hgrow.block r (by omega) (fun e => hFr ino e.symm)
  have r3 : w3.heap[r]? = w2.heap[r]? := hg3.block r (by have := hgrow.size; omega) (by simpa using hrm)
  have r1 : w1.heap[r]? = w.heap[r]? := hbw.block r hrlt
  refine ⟨v', w2, w3, hr, hu, r2.trans r1, r3.trans (r2.trans r1), fun k hk hn => by
    have b1 := hbw.block k hk
    have b2 := hgrow.block k (by omega) (fun e => hn (c9 ino k e.symm))
    have b3 := hg3.block k (by have := hgrow.size; omega) (fun e => hn (by cases e; exact c8))
    exact ⟨b2.trans b1, b3.trans (b2.trans b1)⟩, fun w4 h' hw4 ho4 => ?_⟩
  have s2 := hgrow.size
  have s3 := hg3.size
  have s4 := ho4.size
  have o24 : Off (fun k => k = bm ∨ k = r) w2 w4 := (Off.of_grown (O := fun k => k = bm ∨ k = r) hg3 (fun k e => .inl (by simpa using e.symm))).trans ho4 (fun x hx => .inl (.inr hx))
  have o12 : Off (fun k => (F ino).ownBlock = some k) w1 w2 := Off.of_grown hgrow (fun k e => e)
  have o14 : Off (fun k => (F ino).ownBlock = some k ∨ k = bm ∨ k = r) w1 w4 := ⟨o24.os.trans o12.os, o24.tape.trans o12.tape, o24.output.trans o12.output, by omega, fun k hk hn => (o24.block k (by omega) (fun hx => hn (.inr hx))).trans (o12.block k hk (fun hx => hn (.inl hx)))⟩
  refine ⟨⟨bm, _, fun i => if i = ino then v' else F i, hw4, map_off m3 ho4 (fun e => hrm e.symm), ⟨c3.1.put _ _, keys_put c3.1 c3.2⟩, fun i => ?_, fun i => ?_, fun i j g hi' hj' => ?_, .inl c7, .inl c8, fun i g hg => ?_⟩, ?_⟩
  · by_cases hi' : i = ino
    · subst hi'
      show encS (if i = i then v' else F i) = _
      rw [if_pos rfl, hd, Go.Maps.atKey_put_same c3.1 (by simp [WideAt.IsKeyLit])]
    · show encS (if i = ino then v' else F i) = _
      rw [if_neg hi', Go.Maps.atKey_put_other (by simp; exact hi')]
      exact c4 i
  · by_cases hi' : i = ino
    · subst hi'
      simp only [if_pos, updL, List.length_append, List.length_cons, List.length_nil, putCells_snoc]
      exact row_off hown o24 (fun g hg hx => by
        rcases hv' g hg with e | e
        · rcases hx with rfl | rfl
          · exact hFm _ e
          · exact hFr _ e
        · rcases hx with rfl | rfl <;> omega)
    · simp only [if_neg hi', updL]
      exact row_off (c5 i) o14 (fun g hg hx => by
        rcases hx with e | rfl | rfl
        · exact hi' (c6 i ino g hg e)
        · exact hFm _ hg
        · exact hFr _ hg)
  · by_cases hi1 : i = ino <;> by_cases hj1 : j = ino
    · rw [hi1, hj1]
    · simp only [if_pos hi1, if_neg hj1] at hi' hj'
      rcases hv' g hi' with e | e
      · rw [hi1]; exact c6 ino j g e hj'
      · have := hFlt j g hj'; omega
    · simp only [if_neg hi1, if_pos hj1] at hi' hj'
      rcases hv' g hj' with e | e
      · rw [hj1]; exact c6 i ino g hi' e
      · have := hFlt i g hi'; omega
    · simp only [if_neg hi1, if_neg hj1] at hi' hj'
      exact c6 i j g hi' hj'
  · by_cases hi' : i = ino
    · simp only [if_pos hi'] at hg
      rcases hv' g hg with e | e
      · exact .inl (c9 ino g e)
      · refine .inr ⟨by omega, ?_⟩
        obtain ⟨cs, hcs⟩ := row_lt hown hg
        have := (Array.getElem?_eq_some_iff.1 hcs).1
        omega
    · simp only [if_neg hi'] at hg
      exact .inl (c9 i g hg)
  · refine ⟨o14.os.trans hbw.os, o14.tape.trans hbw.tape, o14.output.trans hbw.output, by omega, fun k hk hn => (o14.block k (by omega) (fun hx => ?_)).trans (hbw.block k hk)⟩
    rcases hx with e | rfl | rfl
    · exact hn (c9 ino k e)
    · exact hn c8
    · exact hn c7
/-- The code that Write gives. -/
def wCode (h ino a : Int) (s : Nat) : Int := if ino < 1 ∨ a < 0 then 1 else if a > 32768 ∨ (s : Int) > 32768 - a then 40 else if (s : Int) > 65536 - h then 3 else 0
/-- What Write does. -/
def WPost (O : Nat → Prop) (w : World) (r n : Nat) (L : Int → List Pt) (h ino a : Int) (text : ByteArray) (e : Ending) (w' : World) : Prop := e = .returned (.int .i64 (wCode h ino a text.size)) ∧
  Buf (Grow O w w') w' r (n + 1) (if wCode h ino a text.size = 0 ∧ text ≠ ⟨#[]⟩ then updL L ino (L ino ++ [(a, text)]) else L) (if wCode h ino a text.size = 0 then h + text.size else h) ∧ Off O w w'
theorem WPost.err {O : Nat → Prop} {w : World} {r n : Nat} {L : Int → List Pt} {h ino a : Int} {text : ByteArray} (hb : Buf O w r n L h) {k : Int} (hk : wCode h ino a text.size = k) (h0 : k ≠ 0 ∨ text = ⟨#[]⟩) : WPost O w r n L h ino a text (.returned (.int .i64 k)) w := by
  unfold WPost
  rw [hk]
  refine ⟨rfl, ?_, Off.refl _ _⟩
  have e2 : (if k = 0 then h + (text.size : Int) else h) = h := by
    split
    · rcases h0 with h0 | rfl
      · contradiction
      · simp [ByteArray.size]
    · rfl
  rw [if_neg (by rintro ⟨h1, h2⟩; exact h0.elim (fun h => h h1) (fun h => h2 h)), e2]
  exact hb.more (fun k hk => .inl hk) (by omega)
theorem WPost.ok {O : Nat → Prop} {w w4 : World} {r n : Nat} {L : Int → List Pt} {h ino a : Int} {text : ByteArray} (hne : text ≠ ⟨#[]⟩) (hk : wCode h ino a text.size = 0) (hb : Buf (Grow O w w4) w4 r (n + 1) (updL L ino (L ino ++ [(a, text)])) (h + text.size) ∧ Off O w w4) : WPost O w r n L h ino a text (.returned (.int .i64 0)) w4 := by
  unfold WPost
  rw [hk, if_pos ⟨rfl, hne⟩, if_pos rfl]
  exact ⟨rfl, hb⟩
/-- The store to 'held'. -/
theorem held_store {w : World} {r : Nat} {b : Value} {h h' : Int} {t : TypeId} (hr : w.heap[r]? = some (.cells #[b, .int .i64 h] t (0, 0))) : (w.setCell ⟨r, 1, none⟩ (.int .i64 h')).heap[r]? = some (.cells #[b, .int .i64 h'] t (0, 0)) ∧ Off (fun k => k = r) w (w.setCell ⟨r, 1, none⟩ (.int .i64 h')) := by
  refine ⟨?_, rfl, rfl, rfl, by simp [World.setCell], fun k hk hn => ?_⟩
  · simp only [World.setCell, Array.getElem?_modify, if_pos, hr]
    rfl
  · simp only [World.setCell, Array.getElem?_modify]
    rw [if_neg (fun e => hn e.symm)]
theorem empty_of {t : ByteArray} (h : (!t.toList.isEmpty) = false) : t = ⟨#[]⟩ := by
  rw [ByteArray.toList_eq] at h
  apply bytes_inj
  simpa using h
theorem not_empty_of {t : ByteArray} (h : (!t.toList.isEmpty) = true) : t ≠ ⟨#[]⟩ := by
  rintro rfl
  rw [ByteArray.toList_eq] at h
  simp at h
set_option maxRecDepth 20000 in
set_option maxHeartbeats 2000000 in
theorem write_any (O : Nat → Prop) (r n : Nat) (L : Int → List Pt) (h ino a : Int) (text : ByteArray) (w : World) (hb : Buf O w r n L h) (h0 : -9223372036854775808 ≤ ino) (h1 : ino ≤ 9223372036854775807) (a0 : -9223372036854775808 ≤ a) (a1 : a ≤ 9223372036854775807)
    (hl : (L ino).length ≤ 1000000) (hn : n ≤ 1000000) (hh0 : 0 ≤ h) (hh1 : h ≤ 65536) (ht : text.size ≤ 1000000) :
    Calls Tryd.prog 13 #[.pointer (some ⟨r, 0, none⟩), .int .i64 ino, .int .i64 a, .string text] w (WPost O w r n L h ino a text) := by
  have HB := Lib.hid hb
  obtain ⟨bm, D, F, hb⟩ := hb
  have hlk := hb.look ino h0 h1
  obtain ⟨c0, c1, cf⟩ := cell_two hb.1
  obtain ⟨v', w2, w3, hap, hup, hr2, hr3, _, hfin⟩ := buf_put hb ino a text h0 h1 hl hn
  replace hfin := Lib.hid hfin
  have hlk1 := (hb.below (Below.refl _ w).drew).look ino h0 h1
  have hlk2 := (hb.below ((Below.refl _ w).drew.alloc (Nat.le_refl _) (.cells #[.int .i64 a, .string text] 51))).look ino h0 h1
  have c2 : w2.cell? ⟨r, 0, none⟩ = some (.map (some bm)) := (World.cell?_of_block hr2).trans c0
  have c3 : w3.cell? ⟨r, 0, none⟩ = some (.map (some bm)) := (World.cell?_of_block hr3).trans c0
  have cA : (w.alloc (.cells #[.int .i64 a, .string text] 51)).drew.cell? ⟨r, 0, none⟩ = some (.map (some bm)) := keep1 ((Below.refl _ w).drew.alloc (Nat.le_refl _) _) c0
  have d3 : w3.cell? ⟨r, 1, none⟩ = some (.int .i64 h) := (World.cell?_of_block hr3).trans c1
  have df : ∀ i, w3.frozen? ⟨r, i, none⟩ = false := (cell_two (hr3.trans hb.1)).2.2
  replace hlk2 : (Instr.lookup 52 (.map (some bm)) (.int .i64 ino) false).run Tryd.prog (w.alloc (.cells #[.int .i64 a, .string text] 51)).drew = .ok (F ino) (w.alloc (.cells #[.int .i64 a, .string text] 51)).drew := hlk2
  replace hap : (Builtin.append_ #[42, 42] 42 #[F ino, .slice (some ⟨w.heap.size, 0, none⟩) 1 1]).run Tryd.prog (w.alloc (.cells #[.int .i64 a, .string text] 51)).drew = .ok v' w2 := hap
  have hbH := Lib.hid hb.1
  clear hb
  go_enter Tryd.func13, Tryd.ntmps13
  go_wp2_with fail
  all_goals first | (go_ret; exact WPost.err HB.out (by unfold wCode; split <;> (try split) <;> (try split) <;> first | rfl | (exfalso; omega)) (.inl (by decide))) | skip
  · have hne : text ≠ ⟨#[]⟩ := not_empty_of (by assumption)
    clear hlk
    go_region_held3 (fun w' => w'.cell? ⟨r, 0, none⟩ = some (.map (some bm)))
      (first | assumption | exact c0 | exact cA | exact c2 | exact c3)
      (first | (refine Go.Lib.wp_append_run_sl _ _ _ _ rfl _ _ rfl rfl hap ?_) | (rw [hlk1]) | (rw [hlk2]) | rw [hup])
    all_goals (clear hlk1 hlk2 hap hup cA c2 c3 c0 c1 cf; have hte : (h : Int) + text.size ≤ 65536 := by omega)
    all_goals (go_wp2_with fail; go_ret; exact WPost.ok hne (by unfold wCode; rw [if_neg (by omega), if_neg (by omega), if_neg (by omega)]) (hfin.out _ _ (held_store (hr3.trans hbH.out)).1 (held_store (hr3.trans hbH.out)).2))
  · rename_i k1 k2 k3 k4 k5 k6
    have he := empty_of k6
    go_ret
    exact WPost.err HB.out (by unfold wCode; rw [if_neg (by omega), if_neg (by omega), if_neg (by omega)]) (.inr he)
end Go.Proofs.YtpkapichblpdfaaDoor
