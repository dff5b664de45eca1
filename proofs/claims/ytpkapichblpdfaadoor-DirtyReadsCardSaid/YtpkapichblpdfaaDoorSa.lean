/- LAYER 22, PLAIN LAW: a file behind one write more; a row of bytes that grows. -/
import Derived.Test.YtpkapichblpdfaaDoorM
import Derived.Deep.Slices
import Derived.Deep.Fields
import Derived.ChangeSame
import Derived.ArgAppend
import Derived.Laws.IdiomStrings
import Derived.Deep.AppendLies
set_option linter.unusedVariables false
namespace Go.Proofs.YtpkapichblpdfaaDoor
open Go.RowKit Go.ChangeShapes Go.WideShapes Go.ChangeAt Go.Deep

/-! ### A file behind one write more -/
theorem poke_app (M Z t : List UInt8) (a : Nat) (h : a + t.length ≤ M.length) : poke (M ++ Z) a t = poke M a t ++ Z := by
  unfold poke
  rw [List.take_append_of_le_length (by omega), List.drop_append_of_le_length (by omega)]; simp [List.append_assoc]
theorem overF_app : ∀ (l : List Pt) (M Z : List UInt8), (∀ p ∈ l, 0 ≤ p.1 ∧ p.1 + p.2.size ≤ M.length) → overF l (M ++ Z) = overF l M ++ Z
  | [], M, Z, _ => rfl
  | q :: l, M, Z, h => by
    have hq := h q (List.mem_cons_self ..)
    have hs : q.2.data.toList.length = q.2.size := rfl
    have hp := poke_len M q.1.toNat q.2.data.toList (by omega)
    show overF l (poke (M ++ Z) q.1.toNat q.2.data.toList) = overF l (poke M q.1.toNat q.2.data.toList) ++ Z
    rw [poke_app _ _ _ _ (by omega)]
    exact overF_app l _ Z (fun p hp' => by rw [hp]; exact h p (List.mem_cons_of_mem _ hp'))
theorem overL_len (l : List Pt) (f : List UInt8) (hg : Good l) : ((overL l f).length : Int) = sizeL l f.length := by
  have h1 := sizeL_ge l f.length
  rw [overL_F, overF_len]
  · simp; omega
  · intro p hp
    have q1 := hg p hp
    have q2 := sizeL_le l f.length p hp
    simp
    omega
theorem over_snoc (l : List Pt) (p : Pt) (f : List UInt8) (hg : Good (l ++ [p])) :
    overL (l ++ [p]) f = poke (overL l f ++ List.replicate ((p.1 + p.2.size).toNat - (overL l f).length) 0) p.1.toNat p.2.data.toList := by
  have hgl : Good l := fun q hq => hg q (by simp [hq])
  have h1 := sizeL_ge l f.length
  have h2 := overL_len l f hgl
  have hgp := hg p (by simp)
  rw [overL_F, sizeL_snoc, overF_snoc]
  have e : f ++ List.replicate ((max (sizeL l f.length) (p.1 + p.2.size)).toNat - f.length) (0 : UInt8) = (f ++ List.replicate ((sizeL l f.length).toNat - f.length) 0) ++ List.replicate ((p.1 + p.2.size).toNat - (overL l f).length) 0 := by
    rw [List.append_assoc, List.replicate_append_replicate]
    congr 2
    omega
  rw [e, overF_app]
  · rfl
  · intro q hq
    have q1 := hgl q hq
    have q2 := sizeL_le l f.length q hq
    simp
    omega
theorem overL_nil (f : List UInt8) : overL [] f = f := by simp [overL, sizeL]

/-! ### A row of bytes that the call made -/
def MB (w : World) (g cap : Nat) (M : List UInt8) : Prop := M.length ≤ cap ∧ cap ≤ maxLen ∧ g < w.heap.size ∧ (∀ k, (h : k < M.length) → w.cell? ⟨g, k, none⟩ = some (.int .u8 ((M[k].toNat : Nat) : Int))) ∧
  ∀ k, k < cap → (w.cell? ⟨g, k, none⟩).isSome = true ∧ w.frozen? ⟨g, k, none⟩ = false
theorem MB.off {O : Nat → Prop} {w w' : World} {g cap : Nat} {M : List UInt8} (h : MB w g cap M) (ho : Off O w w') (hn : ¬ O g) : MB w' g cap M := by
  obtain ⟨h1, h2, h3, h4, h5⟩ := h
  have hb := ho.block g h3 hn
  have hc : ∀ k, w'.cell? ⟨g, k, none⟩ = w.cell? ⟨g, k, none⟩ := fun k => World.cell?_of_block (a := ⟨g, k, none⟩) hb
  have hf : ∀ k, w'.frozen? ⟨g, k, none⟩ = w.frozen? ⟨g, k, none⟩ := fun k => by unfold World.frozen?; rw [show w'.heap[(⟨g, k, none⟩ : Addr).block]? = w.heap[(⟨g, k, none⟩ : Addr).block]? from hb]
  exact ⟨h1, h2, Nat.lt_of_lt_of_le h3 ho.size, fun k hk => (hc k).trans (h4 k hk), fun k hk => by rw [hc, hf]; exact h5 k hk⟩
theorem MB.below {w w' : World} {g cap : Nat} {M : List UInt8} (h : MB w g cap M) (ho : Below w.heap.size w w') : MB w' g cap M := h.off (Off.of_below (fun _ => False) ho) (fun h => h)
theorem setCell_off (w : World) (g k : Nat) (v : Value) : Off (fun b => b = g) w (w.setCell ⟨g, k, none⟩ v) :=
  ⟨rfl, rfl, rfl, by simp [World.setCell], fun b hb hn => by
    simp only [World.setCell, Array.getElem?_modify]
    rw [if_neg (fun e => hn e.symm)]⟩
theorem MB.set {w : World} {g cap : Nat} {M : List UInt8} (h : MB w g cap M) (k : Nat) (b : UInt8) (hk : k < M.length) : MB (w.setCell ⟨g, k, none⟩ (.int .u8 ((b.toNat : Nat) : Int))) g cap (M.set k b) := by
  obtain ⟨h1, h2, h3, h4, h5⟩ := h
  have hsame : (w.setCell ⟨g, k, none⟩ (.int .u8 ((b.toNat : Nat) : Int))).cell? ⟨g, k, none⟩ = some (.int .u8 ((b.toNat : Nat) : Int)) := World.cell?_setCell_same' _ _ _ (h5 k (by omega)).1
  have hoth : ∀ j, j ≠ k → (w.setCell ⟨g, k, none⟩ (.int .u8 ((b.toNat : Nat) : Int))).cell? ⟨g, j, none⟩ = w.cell? ⟨g, j, none⟩ := fun j hj => World.cell?_setCell_other w _ _ _ (fun e => by simp at e; first | done | omega)
  refine ⟨by simpa using h1, h2, by simpa [World.setCell] using h3, fun j hj => ?_, fun j hj => ?_⟩
  · simp only [List.length_set] at hj
    by_cases e : j = k
    · subst e; rw [hsame]; simp
    · rw [hoth j e, h4 j hj, List.getElem_set_ne (fun h => e h.symm)]
  · rw [World.frozen?_setCell]
    refine ⟨?_, (h5 j hj).2⟩
    by_cases e : j = k
    · subst e; rw [hsame]; rfl
    · rw [hoth j e]; exact (h5 j hj).1
theorem info_u8' : (Tryd.prog.info? 5).map (fun i => (i.zero, i.size, i.bytes)) = some (some (.int .u8 0), 1, 1) := by kernel_rfl
/-- One byte more. -/
theorem MB.append {w : World} {g cap : Nat} {M : List UInt8} (h : MB w g cap M) (A : Addr) (c : Nat) (b : UInt8) (ha : w.cell? A = some (.int .u8 ((b.toNat : Nat) : Int))) (hlen : M.length ≤ 1000000) :
    ∃ g' cap' w', (Builtin.append_ #[30, 30] 30 #[.slice (some ⟨g, 0, none⟩) M.length cap, .slice (some A) 1 c]).run Tryd.prog w = .ok (.slice (some ⟨g', 0, none⟩) (M.length + 1) cap') w' ∧
      MB w' g' cap' (M ++ [b]) ∧ Off (fun k => k = g) w w' ∧ (g' = g ∨ w.heap.size ≤ g') := by
  obtain ⟨i0, hi, hz0, hz1, hz2⟩ := info_parts info_u8'
  obtain ⟨h1, h2, h3, h4, h5⟩ := h
  have hnews : ∀ j u, [Value.int .u8 ((b.toNat : Nat) : Int)][j]? = some u → w.cell? (A.add j) = some u := fun j u hj => by
    match j, hj with
    | 0, hj => simp at hj; subst hj; simpa [Addr.add] using ha
  by_cases hroom : M.length + 1 ≤ cap
  · have hr := run_append_room_cells (P := Tryd.prog) w 30 30 5 i0 Tryd.underlying30 hi g 0 M.length cap A 1 c [.int .u8 ((b.toNat : Nat) : Int)] (by simp [hz1]) hnews (by simp [Value.oneCell']) hroom
      (fun j hj => by simp at hj; subst hj; rw [hz1]; simpa using (h5 M.length (by omega)).1) (fun j hj => by simp at hj; subst hj; rw [hz1]; simpa using (h5 M.length (by omega)).2)
    rw [hz1, Nat.mul_one, Nat.zero_add] at hr
    have hset : w.setCells g M.length [.int .u8 ((b.toNat : Nat) : Int)] = w.setCell ⟨g, M.length, none⟩ (.int .u8 ((b.toNat : Nat) : Int)) := rfl
    rw [hset] at hr
    have hsame : (w.setCell ⟨g, M.length, none⟩ (.int .u8 ((b.toNat : Nat) : Int))).cell? ⟨g, M.length, none⟩ = some (.int .u8 ((b.toNat : Nat) : Int)) := World.cell?_setCell_same' _ _ _ (h5 M.length (by omega)).1
    have hoth : ∀ j, j ≠ M.length → (w.setCell ⟨g, M.length, none⟩ (.int .u8 ((b.toNat : Nat) : Int))).cell? ⟨g, j, none⟩ = w.cell? ⟨g, j, none⟩ := fun j hj => World.cell?_setCell_other w _ _ _ (fun e => by simp at e; first | done | omega)
    refine ⟨g, cap, _, hr, ⟨by simpa using hroom, h2, by simpa [World.setCell] using h3, fun j hj => ?_, fun j hj => ?_⟩, setCell_off _ _ _ _, .inl rfl⟩
    · simp only [List.length_append, List.length_cons, List.length_nil] at hj
      by_cases e : j = M.length
      · subst e; rw [hsame]; simp
      · rw [hoth j e, h4 j (by omega), List.getElem_append_left (by omega)]
    · rw [World.frozen?_setCell]
      refine ⟨?_, (h5 j hj).2⟩
      by_cases e : j = M.length
      · subst e; rw [hsame]; rfl
      · rw [hoth j e]; exact (h5 j hj).1
  · obtain ⟨v', w', hr, hown, hgr⟩ := run_append_arg_grows (P := Tryd.prog) w 30 30 5 i0 _ 1 1 Tryd.underlying30 hi hz0 hz1 hz2 rfl (by omega) ⟨g, 0, none⟩ M.length cap (bcells M) (by simp [bcells])
      (fun j u hj => by
        have hj' := hj
        simp only [bcells, List.getElem?_map] at hj'
        by_cases hlt : j < M.length
        · rw [List.getElem?_eq_getElem hlt] at hj'
          simp at hj'
          rw [← hj']
          have := h4 j hlt
          simpa [Addr.add, show (if j = 0 then (⟨g, 0, none⟩ : Addr) else ⟨g, j, none⟩) = ⟨g, j, none⟩ from by split <;> simp_all] using this
        · rw [List.getElem?_eq_none (by omega)] at hj'
          simp at hj')
      A 1 c [.int .u8 ((b.toNat : Nat) : Int)] (by simp) hnews (by omega) (by unfold maxLen; omega) (by omega)
    obtain ⟨g', cap', hv, hb', hlt'⟩ := hown.form (by omega)
    subst hv
    rcases hown.2 with ⟨h', _⟩ | ⟨g2, cap2, cur, h', _, hg2, hnc, hcm, hcs, htake⟩
    · simp at h'
    · simp only [Value.slice.injEq, Option.some.injEq, Addr.mk.injEq, and_true, true_and] at h'
      obtain ⟨rfl, rfl⟩ := h'
      refine ⟨g', cap', w', hr, ⟨by simpa using hnc, hcm, hlt', fun j hj => ?_, fun j hj => ⟨?_, frozen_of_row w' g' j cur _ hg2⟩⟩, Off.of_grown hgr (fun k e => by cases e), .inr hb'⟩
      · simp only [List.length_append, List.length_cons, List.length_nil] at hj
        rw [hown.cellAt j (by omega)]
        by_cases e : j = M.length
        · subst e; simp [bcells]
        · rw [List.getElem?_append_left (by rw [bcells_len]; omega)]
          simp only [bcells, List.getElem?_map]
          rw [List.getElem?_eq_getElem (by omega), List.getElem_append_left (by omega)]
          rfl
      · rw [cell_of_row w' g' j cur _ (0, 0) hg2]
        simp [Array.getElem?_eq_getElem (show j < cur.size by rw [hcs]; omega)]
end Go.Proofs.YtpkapichblpdfaaDoor
