/- WALKS of layer 22: New, Held, end, Size. -/
import Derived.Test.YtpkapichblpdfaaDoorA
import Derived.Carry
set_option linter.unusedVariables false
namespace Go.Proofs.YtpkapichblpdfaaDoor
open Go.RowKit Go.ChangeShapes Go.WideShapes Go.ChangeAt

theorem zero_puts (w : World) : (zeroValue 42).run Tryd.prog w = .ok (.slice none 0 0) w := by kernel_rfl
theorem int_keys : Go.Maps.Keyed Tryd.prog 3 := Go.Maps.int_keyed Tryd.underlying3
theorem key_int {n : Int} (h0 : -9223372036854775808 ≤ n) (h1 : n ≤ 9223372036854775807) : keyOf Tryd.prog 3 (.int .i64 n) = some (.int .i64 n) := Go.Maps.keyOf_int_mk Tryd.underlying3 (by simp [Lit.wf, IntKind.min, IntKind.max, IntKind.signed, IntKind.bits]; omega)
/-- The writes that lie in a row. -/
def RdP (w : World) (A : Option Addr) (l : List Pt) : Prop := l ≠ [] → ∃ g, A = some ⟨g, 0, none⟩ ∧ g < w.heap.size ∧ ∀ k, (h : k < l.length) → w.cell? ⟨g, k * 2, none⟩ = some (.int .i64 l[k].1) ∧ w.cell? ⟨g, k * 2 + 1, none⟩ = some (.string l[k].2)
theorem RdP.below {w w' : World} {A : Option Addr} {l : List Pt} (h : RdP w A l) (hb : Below w.heap.size w w') : RdP w' A l := fun hne => by
  obtain ⟨g, hA, hlt, hc⟩ := h hne
  exact ⟨g, hA, Nat.lt_of_lt_of_le hlt hb.size, fun k hk => ⟨keep1 hb (hc k hk).1, keep1 hb (hc k hk).2⟩⟩
theorem row_rdp {w : World} {v : Value} {l : List Pt} (h : w.ownsRow 0 51 2 v l.length (putCells l)) : ∃ A c, v = .slice A l.length c ∧ RdP w A l ∧ l.length ≤ c ∧ (A = none → c = 0) := by
  rcases h.2 with ⟨rfl, h0⟩ | ⟨g, cap, cur, rfl, _, hg, hc, _, _, ht⟩
  · exact ⟨none, 0, by rw [h0], fun hne => absurd (List.eq_nil_of_length_eq_zero h0) hne, by omega, fun _ => rfl⟩
  · refine ⟨some ⟨g, 0, none⟩, cap, rfl, fun hne => ⟨g, rfl, (Array.getElem?_eq_some_iff.1 hg).1, fun k hk => ?_⟩, hc, fun h => by cases h⟩
    have hp := putCells_at l k hk
    rw [Nat.mul_comm 2 k] at hp
    rw [← ht] at hp
    rw [List.getElem?_take_of_lt (by omega), List.getElem?_take_of_lt (by omega)] at hp
    unfold World.cell?
    rw [hg]
    exact ⟨by rw [← hp.1]; exact (Array.getElem?_toList ..).symm, by rw [← hp.2]; exact (Array.getElem?_toList ..).symm⟩
theorem BufAt.look {O : Nat → Prop} {w : World} {r bm n : Nat} {D : DataW Unit} {F : Int → Value} {L : Int → List Pt} {h : Int} (hb : BufAt O w r bm n D F L h) (ino : Int) (h0 : -9223372036854775808 ≤ ino) (h1 : ino ≤ 9223372036854775807) :
    (Instr.lookup 52 (.map (some bm)) (.int .i64 ino) false).run Tryd.prog w = .ok (F ino) w := by
  obtain ⟨_, h2, _, h4, _⟩ := hb
  obtain ⟨v, ps, hr, hv⟩ := h2.lookup int_keys Tryd.underlying52 (zero_puts w) (zd := .nil) (zp := []) rfl (key_int h0 h1)
  rw [hr, encS_inj hv (h4 ino)]
theorem cell_two {w : World} {r : Nat} {a b : Value} {t : TypeId} (h : w.heap[r]? = some (.cells #[a, b] t (0, 0))) : w.cell? ⟨r, 0, none⟩ = some a ∧ w.cell? ⟨r, 1, none⟩ = some b ∧ ∀ i, w.frozen? ⟨r, i, none⟩ = false := by
  refine ⟨?_, ?_, fun i => ?_⟩
  · unfold World.cell?
    rw [h]
    rfl
  · unfold World.cell?
    rw [h]
    rfl
  · unfold World.frozen?
    simp only [h]
    simp
theorem new_buf (w : World) : Buf (fun k => k = w.heap.size ∨ k = w.heap.size + 1) ((w.alloc (.map #[] 0)).alloc (.cells #[.map (some w.heap.size), .int .i64 0] 54)) (w.heap.size + 1) 0 (fun _ => []) 0 := by
  have h1 := heap_alloc_new (w.alloc (.map #[] 0)) (.cells #[.map (some w.heap.size), .int .i64 0] 54)
  rw [show (w.alloc (.map #[] 0)).heap.size = w.heap.size + 1 from by simp] at h1
  refine ⟨w.heap.size, .map [], fun _ => .slice none 0 0, h1, ((World.ownsMap_made w Tryd.prog 3 encS).alloc _), ⟨Go.Maps.isMap_empty, fun i => by simp [Go.Maps.has_eq]⟩, fun i => rfl, fun i => World.ownsRow_nil _ _ _ _, (fun i j g h => by cases h), .inr rfl, .inl rfl, (fun i g h => by cases h)⟩

theorem new_any (w : World) : Calls Tryd.prog 11 #[] w fun e w' => e = .returned (.pointer (some ⟨w.heap.size + 1, 0, none⟩)) ∧ Buf (fun k => k = w.heap.size ∨ k = w.heap.size + 1) w' (w.heap.size + 1) 0 (fun _ => []) 0 ∧ Below w.heap.size w w' := by
  have hmm := @run_makeMap Tryd.prog
  go_enter Tryd.func11, Tryd.ntmps11
  go_wp2_with fail
  go_ret
  exact ⟨rfl, new_buf w, ((Below.refl _ _).alloc (Nat.le_refl _) _).alloc (by simp) _⟩
theorem held_any (O : Nat → Prop) (r n : Nat) (L : Int → List Pt) (h : Int) (w : World) (hb : Buf O w r n L h) : Calls Tryd.prog 15 #[.pointer (some ⟨r, 0, none⟩)] w fun e w' => e = .returned (.int .i64 h) ∧ w = w' := by
  obtain ⟨bm, D, F, hb⟩ := hb
  obtain ⟨c0, c1, cf⟩ := cell_two hb.1
  clear hb
  go_enter Tryd.func15, Tryd.ntmps15
  go_wp2
  go_ret
  exact ⟨rfl, rfl⟩
theorem end_any (a : Int) (t : ByteArray) (w : World) (h0 : 0 ≤ a) (h1 : a + t.size ≤ 32768) : Calls Tryd.prog 25 #[.agg #[.int .i64 a, .string t]] w fun e w' => e = .returned (.int .i64 (a + t.size)) ∧ Below w.heap.size w w' := by
  go_enter Tryd.func25, Tryd.ntmps25
  go_wp2
  go_ret
  exact ⟨rfl, (Below.refl _ _).alloc (Nat.le_refl _) _⟩
/-- A file's size behind writes. -/
def sizeL (l : List Pt) (n : Int) : Int := l.foldl (fun s p => max s (p.1 + p.2.size)) n
theorem sizeL_snoc (l : List Pt) (p : Pt) (n : Int) : sizeL (l ++ [p]) n = max (sizeL l n) (p.1 + p.2.size) := by unfold sizeL; simp [List.foldl_append]
/-- Writes that may be. -/
def Good (l : List Pt) : Prop := ∀ p ∈ l, 0 ≤ p.1 ∧ p.1 + p.2.size ≤ 32768 ∧ 0 < p.2.size
theorem sizeL_ge : ∀ (l : List Pt) (n : Int), n ≤ sizeL l n
  | [], n => Int.le_refl _
  | p :: l, n => by
    have := sizeL_ge l (max n (p.1 + p.2.size))
    show n ≤ sizeL l (max n (p.1 + p.2.size))
    omega
theorem take_snoc {α : Type} (l : List α) (k : Nat) (h : k < l.length) : l.take (k + 1) = l.take k ++ [l[k]] := by
  rw [List.take_add_one, List.getElem?_eq_getElem h]; rfl
set_option maxHeartbeats 1000000 in
theorem size_any (O : Nat → Prop) (r n : Nat) (L : Int → List Pt) (h : Int) (ino size : Int) (w : World) (hb : Buf O w r n L h) (h0 : -9223372036854775808 ≤ ino) (h1 : ino ≤ 9223372036854775807) (hg : Good (L ino)) (hl : (L ino).length ≤ 1000000) :
    Calls Tryd.prog 14 #[.pointer (some ⟨r, 0, none⟩), .int .i64 ino, .int .i64 size] w fun e w' => e = .returned (.int .i64 (sizeL (L ino) size)) ∧ Below w.heap.size w w' := by
  obtain ⟨bm, D, F, hb⟩ := hb
  obtain ⟨c0, c1, cf⟩ := cell_two hb.1
  have hlk := hb.look ino h0 h1
  obtain ⟨A, c, hF, hR, hc, _⟩ := row_rdp (hb.2.2.2.2.1 ino)
  rw [hF] at hlk
  replace hR := Lib.hid hR
  replace hg := Lib.hid hg
  clear hb hF c1 cf
  generalize L ino = l at *
  go_enter Tryd.func14, Tryd.ntmps14
  go_wp2_with fail
  clear hlk c0
  go_loopw [2, 19] (fun s i wr => ∃ k : Nat, k ≤ l.length ∧ i = .int .i64 k ∧ s = .int .i64 (sizeL (l.take k) size) ∧ Below w.heap.size w wr) (fun _ i _ => l.length - (intOf i).toNat)
  case atStart => exact ⟨0, Nat.zero_le _, rfl, rfl, Below.refl _ _⟩
  case round =>
    obtain ⟨k, hk, rfl, rfl, hbw⟩ := hrel
    by_cases hlt : k < l.length
    · obtain ⟨g, rfl, hgl, hcs⟩ := (RdP.below hR.out hbw) (by intro h; subst h; simp at hlt)
      obtain ⟨d0, d1⟩ := hcs k hlt
      obtain ⟨g0, g1, g2⟩ := hg.out l[k] (List.getElem_mem hlt)
      have HS := Lib.hid (sizeL_snoc (l.take k) l[k] size)
      have HK := Lib.hid (take_snoc l k hlt)
      have HB := Lib.hid hbw
      have hbz := hbw.size
      clear hcs hbw
      have hgl1 : g < wr.heap.size + 1 := by omega
      go_wp2_with fail
      refine (end_any _ _ _ g0 g1).mono ?_
      rintro e w2 ⟨rfl, hb2⟩
      have HB2 := Lib.hid ((HB.out.alloc hbz _).trans (hb2.mono (by simp; omega)))
      clear hb2
      go_wp2_with fail
      go_roundw
      case rel => exact ⟨k + 1, by omega, by go_num, by rw [HK.out, HS.out]; congr 1; split <;> omega, HB2.out⟩
      case measure => simp [intOf]; omega
    · have hkl : k = l.length := by omega
      subst hkl
      go_wp2_with fail
      go_ret
      exact ⟨ret_i64 (by simp), hbw⟩
end Go.Proofs.YtpkapichblpdfaaDoor
