/- LAYER 22: 'long'; the state of DirtyReads' loop and what each step does to it. -/
import Derived.Test.YtpkapichblpdfaaDoorSb
import Derived.Test.YtpkapichblpdfaaDoorH
set_option linter.unusedVariables false
namespace Go.Proofs.YtpkapichblpdfaaDoor
open Go.RowKit Go.ChangeShapes Go.WideShapes Go.ChangeAt Go.Deep

/-! ### 'long' -/
def sumO (l : List OpD) : Nat := (l.map fun o => o.text.size).sum
theorem sumO_snoc (l : List OpD) (o : OpD) : sumO (l ++ [o]) = sumO l + o.text.size := by unfold sumO; simp
theorem sumO_le : ∀ (l : List OpD), (∀ o ∈ l, o.text.size ≤ 40000) → sumO l ≤ 40000 * l.length
  | [], _ => Nat.zero_le _
  | o :: l, h => by
    have h1 := sumO_le l (fun o ho => h o (List.mem_cons_of_mem _ ho))
    have h2 := h o (List.mem_cons_self ..)
    show o.text.size + sumO l ≤ 40000 * (l.length + 1)
    omega
/-- What 'long' tells: if no, then few steps and short texts. -/
def LongPost (l : List OpD) (w : World) (e : Ending) (w' : World) : Prop := ∃ b : Bool, e = .returned (.bool b) ∧ (b = false → l.length ≤ 40 ∧ ∀ o ∈ l, o.text.size ≤ 40000) ∧ w = w'
set_option maxHeartbeats 1000000 in
theorem long_any (A : Option Addr) (c : Nat) (l : List OpD) (w : World) (hR : RdO w A l) (hlm : l.length ≤ maxLen) (hok : ∀ o ∈ l, OkOp o) :
    Calls Tryd.prog 10 #[.slice A l.length c] w (LongPost l w) := by
  have HR := Lib.hid hR
  have HO := Lib.hid hok
  clear hR hok
  unfold maxLen at hlm
  by_cases h40 : 40 < l.length
  · go_enter Tryd.func10, Tryd.ntmps10
    go_wp2_with fail
    go_ret
    exact ⟨true, rfl, (fun h => by cases h), rfl⟩
  · go_enter Tryd.func10, Tryd.ntmps10
    go_wp2_with fail
    go_loop [3, 4] (fun n i => ∃ k : Nat, k ≤ l.length ∧ i = .int .i64 k ∧ n = .int .i64 (sumO (l.take k) : Nat) ∧ (∀ o ∈ l.take k, o.text.size ≤ 40000)) (fun _ i => l.length - (intOf i).toNat)
    case atStart => exact ⟨0, Nat.zero_le _, rfl, rfl, fun o ho => by simp at ho⟩
    case round =>
      obtain ⟨k, hk, rfl, rfl, hall⟩ := hrel
      have hs := sumO_le (l.take k) hall
      have hlt' : (l.take k).length ≤ k := List.length_take_le _ _
      have HA := Lib.hid hall
      clear hall
      by_cases hlt : k < l.length
      · obtain ⟨b, off, rfl, hbl, hcs⟩ := HR.out (by intro h; subst h; simp at hlt)
        obtain ⟨_, _, _, d3⟩ := hcs k hlt
        have HK := Lib.hid (take_snoc l k hlt)
        have HS := Lib.hid (sumO_snoc (l.take k) l[k])
        clear hcs
        generalize hn : sumO (l.take k) = n at *
        replace hn := Lib.hid hn
        have hts := (HO.out l[k] (List.getElem_mem hlt)).2.2.2
        generalize ht : l[k].text = t at *
        replace ht := Lib.hid ht
        by_cases hbig : 40000 < t.size
        · unfold maxLen at hts
          go_wp2_with fail
          go_ret
          exact ⟨true, rfl, (fun h => by cases h), rfl⟩
        · go_wp2_with fail
          go_round
          case rel =>
            refine ⟨k + 1, by omega, by go_num, by rw [HK.out, HS.out]; go_num, fun o ho => ?_⟩
            rw [HK.out] at ho
            rcases List.mem_append.1 ho with h | h
            · exact HA.out o h
            · simp at h
              subst h
              rw [ht.out]; omega
          case measure => simp [intOf]; omega
      · have hkl : k = l.length := by omega
        subst hkl
        go_wp2_with fail
        go_ret
        exact ⟨_, rfl, fun _ => ⟨by omega, fun o ho => HA.out o (by simpa using ho)⟩, rfl⟩

/-! ### The state -/
/-- The buffer, the row 'mine', and what the buffer has for two objects. -/
def RS (w wr : World) (r bo : Nat) (ino apart : Int) (k : Nat) (Li La : List Pt) (g cap : Nat) (M : List UInt8) : Prop :=
  ∃ O L n h, Buf O wr r n L h ∧ n ≤ k ∧ (∀ i, (L i).length ≤ k ∧ Good (L i)) ∧ 0 ≤ h ∧ h ≤ 65536 ∧ (∀ b, O b → w.heap.size ≤ b ∧ b ≠ g ∧ b ≠ bo) ∧ w.heap.size ≤ g ∧ g ≠ bo ∧ MB wr g cap M ∧ L ino = Li ∧ L apart = La ∧ Below w.heap.size w wr
section
variable {w wr : World} {r bo : Nat} {ino apart : Int} {k : Nat} {Li La : List Pt} {g cap : Nat} {M : List UInt8}
theorem RS.frame (s : RS w wr r bo ino apart k Li La g cap M) : Below w.heap.size w wr := by
  obtain ⟨O, L, n, h, a1, a2, a3, a4, a5, a6, a7, a8, a9, a10, a11, a12⟩ := s
  exact a12
theorem RS.mb (s : RS w wr r bo ino apart k Li La g cap M) : MB wr g cap M := by
  obtain ⟨O, L, n, h, a1, a2, a3, a4, a5, a6, a7, a8, a9, a10, a11, a12⟩ := s
  exact a9
theorem RS.far (s : RS w wr r bo ino apart k Li La g cap M) : g ≠ bo ∧ w.heap.size ≤ g ∧ g < wr.heap.size := by
  obtain ⟨O, L, n, h, a1, a2, a3, a4, a5, a6, a7, a8, a9, a10, a11, a12⟩ := s
  exact ⟨a8, a7, a9.2.2.1⟩
theorem RS.goodI (s : RS w wr r bo ino apart k Li La g cap M) : Good Li ∧ Li.length ≤ k := by
  obtain ⟨O, L, n, h, a1, a2, a3, a4, a5, a6, a7, a8, a9, a10, a11, a12⟩ := s
  rw [← a10]
  exact ⟨(a3 _).2, (a3 _).1⟩
theorem RS.below {w' : World} (s : RS w wr r bo ino apart k Li La g cap M) (hb : Below wr.heap.size wr w') : RS w w' r bo ino apart k Li La g cap M := by
  obtain ⟨O, L, n, h, a1, a2, a3, a4, a5, a6, a7, a8, a9, a10, a11, a12⟩ := s
  exact ⟨O, L, n, h, a1.below hb, a2, a3, a4, a5, a6, a7, a8, a9.below hb, a10, a11, a12.trans (hb.mono a12.size)⟩
theorem RS.later {k' : Nat} (s : RS w wr r bo ino apart k Li La g cap M) (hk : k ≤ k') : RS w wr r bo ino apart k' Li La g cap M := by
  obtain ⟨O, L, n, h, a1, a2, a3, a4, a5, a6, a7, a8, a9, a10, a11, a12⟩ := s
  exact ⟨O, L, n, h, a1, by omega, fun i => ⟨Nat.le_trans (a3 i).1 hk, (a3 i).2⟩, a4, a5, a6, a7, a8, a9, a10, a11, a12⟩
/-- A box that is laid now is none of the buffer's, nor the row. -/
theorem RS.box (s : RS w wr r bo ino apart k Li La g cap M) (o : Obj) : RS w (wr.alloc o) r wr.heap.size ino apart k Li La g cap M := by
  obtain ⟨O, L, n, h, a1, a2, a3, a4, a5, a6, a7, a8, a9, a10, a11, a12⟩ := s
  have hb : Below wr.heap.size wr (wr.alloc o) := (Below.refl _ _).alloc (Nat.le_refl _) _
  exact ⟨_, L, n, h, a1.trim.below hb, a2, a3, a4, a5, fun b hx => ⟨(a6 b hx.1).1, (a6 b hx.1).2.1, by have := hx.2; omega⟩, a7, by have := a9.2.2.1; omega, a9.below hb, a10, a11, a12.trans (hb.mono a12.size)⟩
/-- The row has grown, or was written. -/
theorem RS.mine {w' : World} {g' cap' : Nat} {M' : List UInt8} (s : RS w wr r bo ino apart k Li La g cap M) (ho : Off (fun b => b = g) wr w') (hm : MB w' g' cap' M') (hg : g' = g ∨ wr.heap.size ≤ g') (hbo : bo < wr.heap.size) : RS w w' r bo ino apart k Li La g' cap' M' := by
  obtain ⟨O, L, n, h, a1, a2, a3, a4, a5, a6, a7, a8, a9, a10, a11, a12⟩ := s
  have hz := a12.size
  refine ⟨_, L, n, h, a1.trim.off ho (fun x hx hy => (a6 x hx.1).2.1 hy), a2, a3, a4, a5, fun b hx => ⟨(a6 b hx.1).1, ?_, (a6 b hx.1).2.2⟩, ?_, ?_, hm, a10, a11, a12.trans (ho.below hz (fun x hx => by subst hx; exact a7))⟩
  · rcases hg with rfl | hg
    · exact (a6 b hx.1).2.1
    · have := hx.2; omega
  · rcases hg with rfl | hg <;> omega
  · rcases hg with rfl | hg <;> omega
end
theorem rs_over_apart {w w1 : World} {r bo : Nat} {ino apart : Int} {k : Nat} {Li La : List Pt} {g cap : Nat} {M : List UInt8} (s : RS w w1 r bo ino apart k Li La g cap M) (file : ByteArray) (h0 : -9223372036854775808 ≤ apart) (h1 : apart ≤ 9223372036854775807) (hk : k ≤ 1000) (hf : file.size ≤ 100000) :
    Calls Tryd.prog 12 #[.pointer (some ⟨r, 0, none⟩), .int .i64 apart, .string file] w1 fun e w' => e = .returned (.string ⟨(overL La file.data.toList).toArray⟩) ∧ Below w1.heap.size w1 w' := by
  obtain ⟨O, L, n, h, a1, a2, a3, a4, a5, a6, a7, a8, a9, a10, rfl, a12⟩ := s
  exact over_any O r n L h apart file w1 a1 h0 h1 (a3 _).2 (by have := (a3 apart).1; omega) hf
theorem rs_over_ino {w w1 : World} {r bo : Nat} {ino apart : Int} {k : Nat} {Li La : List Pt} {g cap : Nat} {M : List UInt8} (s : RS w w1 r bo ino apart k Li La g cap M) (file : ByteArray) (h0 : -9223372036854775808 ≤ ino) (h1 : ino ≤ 9223372036854775807) (hk : k ≤ 1000) (hf : file.size ≤ 100000) :
    Calls Tryd.prog 12 #[.pointer (some ⟨r, 0, none⟩), .int .i64 ino, .string file] w1 fun e w' => e = .returned (.string ⟨(overL Li file.data.toList).toArray⟩) ∧ Below w1.heap.size w1 w' := by
  obtain ⟨O, L, n, h, a1, a2, a3, a4, a5, a6, a7, a8, a9, rfl, a11, a12⟩ := s
  exact over_any O r n L h ino file w1 a1 h0 h1 (a3 _).2 (by have := (a3 ino).1; omega) hf
theorem rs_size {w w1 : World} {r bo : Nat} {ino apart : Int} {k : Nat} {Li La : List Pt} {g cap : Nat} {M : List UInt8} (s : RS w w1 r bo ino apart k Li La g cap M) (size : Int) (h0 : -9223372036854775808 ≤ ino) (h1 : ino ≤ 9223372036854775807) (hk : k ≤ 1000) :
    Calls Tryd.prog 14 #[.pointer (some ⟨r, 0, none⟩), .int .i64 ino, .int .i64 size] w1 fun e w' => e = .returned (.int .i64 (sizeL Li size)) ∧ Below w1.heap.size w1 w' := by
  obtain ⟨O, L, n, h, a1, a2, a3, a4, a5, a6, a7, a8, a9, rfl, a11, a12⟩ := s
  exact size_any O r n L h ino size w1 a1 h0 h1 (a3 _).2 (by have := (a3 ino).1; omega)
theorem good_snoc {l : List Pt} {a : Int} {t : ByteArray} {h ino : Int} (hg : Good l) (hc : wCode h ino a t.size = 0) (hne : t ≠ ⟨#[]⟩) : Good (l ++ [(a, t)]) := fun p hp => by
  rcases List.mem_append.1 hp with hp | hp
  · exact hg p hp
  · simp at hp
    subst hp
    have ht : 0 < t.size := by
      rcases Nat.eq_zero_or_pos t.size with h0 | h0
      · exact absurd (by apply bytes_inj; exact List.eq_nil_of_length_eq_zero h0) hne
      · exact h0
    unfold wCode at hc
    split at hc
    · omega
    · split at hc
      · omega
      · exact ⟨by omega, by simp only; omega, ht⟩
/-- A Write of the loop: whatever it tells. -/
def RWPost (w w1 : World) (r bo : Nat) (ino apart : Int) (k : Nat) (Li La : List Pt) (g cap : Nat) (M : List UInt8) (i a : Int) (text : ByteArray) (e : Ending) (w' : World) : Prop :=
  ∃ c : Int, e = .returned (.int .i64 c) ∧ (c = 0 → 0 ≤ a ∧ a + text.size ≤ 32768) ∧
    RS w w' r bo ino apart (k + 1) (if c = 0 ∧ text ≠ ⟨#[]⟩ ∧ i = ino then Li ++ [(a, text)] else Li) (if c = 0 ∧ text ≠ ⟨#[]⟩ ∧ i = apart then La ++ [(a, text)] else La) g cap M ∧ ∀ p v, p.block = bo → w1.cell? p = some v → w'.cell? p = some v
theorem rs_write {w w1 : World} {r bo : Nat} {ino apart : Int} {k : Nat} {Li La : List Pt} {g cap : Nat} {M : List UInt8} (s : RS w w1 r bo ino apart k Li La g cap M) (i a : Int) (text : ByteArray) (h0 : -9223372036854775808 ≤ i) (h1 : i ≤ 9223372036854775807) (a0 : -9223372036854775808 ≤ a) (a1' : a ≤ 9223372036854775807) (hk : k ≤ 1000) (ht : text.size ≤ 1000000) (hbo : bo < w1.heap.size) :
    Calls Tryd.prog 13 #[.pointer (some ⟨r, 0, none⟩), .int .i64 i, .int .i64 a, .string text] w1 (RWPost w w1 r bo ino apart k Li La g cap M i a text) := by
  obtain ⟨O, L, n, h, a1, a2, a3, a4, a5, a6, a7, a8, a9, rfl, rfl, a12⟩ := s
  refine (write_any O r n L h i a text w1 a1 h0 h1 a0 a1' (by have := (a3 i).1; omega) (by omega) a4 a5 ht).mono fun e w' ⟨he, hB, ho⟩ => ?_
  have hz := a12.size
  have hgl := a9.2.2.1
  have hGr : ∀ b, Grow O w1 w' b → w.heap.size ≤ b ∧ b ≠ g ∧ b ≠ bo := fun b hb => hb.elim (a6 b) (fun hb => ⟨by omega, by omega, by omega⟩)
  have hM := a9.off ho (fun hx => (a6 g hx).2.1 rfl)
  have hF := a12.trans (ho.below hz (fun x hx => (a6 x hx).1))
  refine ⟨_, he, fun hc => ?_, ?_, fun p v hp hv => (World.cell?_of_block (ho.block p.block (World.block_lt_of_cell? w1 _ hv) (fun hx => (a6 _ hx).2.2 hp))).trans hv⟩
  · unfold wCode at hc
    split at hc
    · omega
    · split at hc <;> omega
  · by_cases hc : wCode h i a text.size = 0 ∧ text ≠ ⟨#[]⟩
    · rw [if_pos hc, if_pos hc.1] at hB
      have hh : h + text.size ≤ 65536 := by
        have := hc.1
        unfold wCode at this
        split at this
        · omega
        · split at this
          · omega
          · split at this <;> omega
      refine ⟨_, _, _, _, hB, by omega, fun j => ?_, by omega, hh, hGr, a7, a8, hM, ?_, ?_, hF⟩
      · unfold updL
        by_cases hj : j = i
        · rw [if_pos hj]
          exact ⟨by simp; exact (a3 i).1, good_snoc (a3 i).2 hc.1 hc.2⟩
        · rw [if_neg hj]
          exact ⟨Nat.le_succ_of_le (a3 j).1, (a3 j).2⟩
      · unfold updL
        by_cases hj : i = ino
        · rw [if_pos hj.symm, if_pos ⟨hc.1, hc.2, hj⟩, hj]
        · rw [if_neg (fun h => hj h.symm), if_neg (fun h => hj h.2.2)]
      · unfold updL
        by_cases hj : i = apart
        · rw [if_pos hj.symm, if_pos ⟨hc.1, hc.2, hj⟩, hj]
        · rw [if_neg (fun h => hj h.symm), if_neg (fun h => hj h.2.2)]
    · rw [if_neg hc] at hB
      have hh : (if wCode h i a text.size = 0 then h + (text.size : Int) else h) = h := by
        split
        · rename_i h1
          have : text = ⟨#[]⟩ := by
            apply Classical.byContradiction
            exact fun h2 => hc ⟨h1, h2⟩
          subst this
          simp [ByteArray.size]
        · rfl
      rw [hh] at hB
      refine ⟨_, _, _, _, hB, by omega, fun j => ⟨Nat.le_succ_of_le (a3 j).1, (a3 j).2⟩, a4, a5, hGr, a7, a8, hM, ?_, ?_, hF⟩
      · rw [if_neg (fun h => hc ⟨h.1, h.2.1⟩)]
      · rw [if_neg (fun h => hc ⟨h.1, h.2.1⟩)]
end Go.Proofs.YtpkapichblpdfaaDoor
