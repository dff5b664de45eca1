/- LAYER 24: a map of numbers by what it gives; the walk of slices.Backward. -/
import Derived.Test.YtajopaljiondlaaA
import Derived.Maps.OwnSet
set_option linter.unusedVariables false
namespace Go.Proofs.Ytajopaljiondlaa
open Go.RowKit Go.ChangeShapes Go.WideShapes Go.ChangeAt Go.Shelf
attribute [local go_sem] Oper.semAt_some

theorem keep1 {w w' : World} {p : Addr} {v : Value} (hb : Below w.heap.size w w') (h : w.cell? p = some v) : w'.cell? p = some v := (hb.cell (World.block_lt_of_cell? w _ h)).trans h
theorem ret_bool {a b : Bool} (h : a = b) : Ending.returned (.bool a) = .returned (.bool b) := by rw [h]
theorem zero_int (w : World) : (zeroValue 3).run Try.prog w = .ok (.int .i64 0) w := by kernel_rfl
theorem int_keys : Go.Maps.Keyed Try.prog 3 := Go.Maps.int_keyed Try.underlying3
def In64 (n : Int) : Prop := -9223372036854775808 ≤ n ∧ n ≤ 9223372036854775807
theorem key_int {n : Int} (h : In64 n) : keyOf Try.prog 3 (.int .i64 n) = some (.int .i64 n) := Go.Maps.keyOf_int_mk Try.underlying3 (by unfold In64 at h; simp [Lit.wf, IntKind.min, IntKind.max, IntKind.signed, IntKind.bits]; omega)
/-- A map of numbers, by what it gives. -/
def PMap (w : World) (b n : Nat) (f : Int → Option Int) : Prop := ∃ D : DataW Unit, w.ownsMap Try.prog 3 (plainElem Try.prog 3) b n D ∧
  ∀ x, Go.Maps.has D (.int .i64 x) = (f x).isSome ∧ D.atKey (.int .i64 x) (.lit (.int .i64 0)) = .lit (.int .i64 ((f x).getD 0))
theorem PMap.lt {w : World} {b n : Nat} {f : Int → Option Int} (h : PMap w b n f) : b < w.heap.size := by
  obtain ⟨D, h1, _⟩ := h
  exact h1.lt
theorem PMap.off {O : Nat → Prop} {w w' : World} {b n : Nat} {f : Int → Option Int} (h : PMap w b n f) (ho : Off O w w') (hn : ¬ O b) : PMap w' b n f := by
  obtain ⟨D, ⟨es, clock, hb, F, hs, hD⟩, h2⟩ := h
  exact ⟨D, ⟨es, clock, ho.obj hb hn, F, hs, hD⟩, h2⟩
theorem pmap_made (w : World) : PMap (w.alloc (.map #[] 0)) w.heap.size 0 (fun _ => none) :=
  ⟨.map [], World.ownsMap_made w _ _ _, fun x => ⟨rfl, rfl⟩⟩
theorem PMap.look {w : World} {b n : Nat} {f : Int → Option Int} (h : PMap w b n f) (x : Int) (hx : In64 x) : (Instr.lookup 58 (.map (some b)) (.int .i64 x) true).run Try.prog w = .ok (.tuple #[.int .i64 ((f x).getD 0), .bool (f x).isSome]) w := by
  obtain ⟨D, h1, h2⟩ := h
  obtain ⟨v, ps, hr, hv⟩ := h1.look_ok int_keys Try.underlying58 (zero_int w) (zd := .lit (.int .i64 0)) (zp := []) (plainElem_int Try.underlying3 (by decide)) (key_int hx)
  rw [(h2 x).2] at hv
  obtain ⟨c, rfl, hc, _⟩ := plainElem_int_inv Try.underlying3 hv
  rw [hr, (h2 x).1]
  simp only [Prod.mk.injEq, DataW.lit.injEq, Lit.int.injEq, true_and] at hc
  rw [hc.1]
theorem PMap.put {w : World} {b n : Nat} {f : Int → Option Int} (h : PMap w b n f) (x p : Int) (hx : In64 x) (hp : In64 p) (hn : n ≤ 1000000) :
    ∃ w', (Instr.mapUpdate 58 (.map (some b)) (.int .i64 x) (.int .i64 p)).run Try.prog w = .ok () w' ∧ PMap w' b (n + 1) (fun y => if y = x then some p else f y) ∧ Off (fun k => k = b) w w' := by
  obtain ⟨D, h1, h2⟩ := h
  obtain ⟨w', hr, h3, hg⟩ := h1.update int_keys Try.underlying58 (by unfold maxLen; omega) (key_int hx) (plainElem_int (a := p) Try.underlying3 (by unfold In64 at hp; simp [Lit.wf, IntKind.min, IntKind.max, IntKind.signed, IntKind.bits]; omega))
  have hD := h1.isMap
  refine ⟨w', hr, ⟨_, h3, fun y => ?_⟩, Off.of_grown hg (fun k e => by simpa using e.symm)⟩
  show _ = (if y = x then some p else f y).isSome ∧ _ = DataW.lit (Lit.int IntKind.i64 ((if y = x then some p else f y).getD 0))
  by_cases hy : y = x
  · subst hy
    rw [if_pos rfl, Go.Maps.has_put_same hD (by simp [WideAt.IsKeyLit]), Go.Maps.atKey_put_same hD (by simp [WideAt.IsKeyLit])]
    exact ⟨rfl, rfl⟩
  · rw [if_neg hy, Go.Maps.has_put_other (by simp; exact hy), Go.Maps.atKey_put_other (by simp; exact hy)]
    exact h2 y
/-- Pairs that lie in a row. -/
def RdU (w : World) (A : Option Addr) (l : List (Int × Int)) : Prop := l ≠ [] → ∃ b off, A = some ⟨b, off, none⟩ ∧ ∀ k, (h : k < l.length) → w.cell? ⟨b, off + k * 2, none⟩ = some (.int .i64 l[k].1) ∧ w.cell? ⟨b, off + k * 2 + 1, none⟩ = some (.int .i64 l[k].2)
theorem RdU.below {w w' : World} {A : Option Addr} {l : List (Int × Int)} (h : RdU w A l) (hb : Below w.heap.size w w') : RdU w' A l := fun hne => by
  obtain ⟨b, off, hA, hc⟩ := h hne
  exact ⟨b, off, hA, fun k hk => ⟨keep1 hb (hc k hk).1, keep1 hb (hc k hk).2⟩⟩
theorem RdU.off {O : Nat → Prop} {w w' : World} {A : Option Addr} {l : List (Int × Int)} (h : RdU w A l) (ho : Off O w w') (hn : ∀ a, A = some a → ¬ O a.block) : RdU w' A l := fun hne => by
  obtain ⟨b, off, rfl, hc⟩ := h hne
  exact ⟨b, off, rfl, fun k hk => ⟨ho.cell (hc k hk).1 (hn ⟨b, off, none⟩ rfl), ho.cell (hc k hk).2 (hn ⟨b, off, none⟩ rfl)⟩⟩
/-- slices.Backward: the rounds' arguments. -/
def backArgs (l : List (Int × Int)) (k : Nat) : Array Value := #[.int .i64 ((l.length - 1 - k : Nat) : Int), .agg #[.int .i64 (l.getD (l.length - 1 - k) (0, 0)).1, .int .i64 (l.getD (l.length - 1 - k) (0, 0)).2]]
set_option maxHeartbeats 1000000 in
theorem back_gives (n : Nat) (A : Option Addr) (c : Nat) (l : List (Int × Int)) (Bl : Nat) (Bod : Nat → Prop) (w : World) (hl : l.length ≤ 1000000) (hB : w.cell? ⟨Bl, 0, none⟩ = some (.slice A l.length c)) (hR : RdU w A l)
    (hb1 : ¬ Bod Bl) (hb2 : ∀ a, A = some a → ¬ Bod a.block ∧ a.block < w.heap.size) :
    Gives n Try.prog 38 #[.pointer (some ⟨Bl, 0, none⟩)] (fun _ => False) Bod l.length (backArgs l) w := by
  intro rec J Jx W hW hWz hrec hJ hJx hY h0
  have hBl := World.block_lt_of_cell? w _ hB
  have hBl' : Bl < w.heap.size := hBl
  have hB1 : W.cell? ⟨Bl, 0, none⟩ = some (.slice A l.length c) := keep1 hW hB
  have hR1 : RdU W A l := hR.below hW
  have hOff : ∀ (W1 W' : World), Off (fun b => Bod b ∨ b = rec) W1 W' → W1.cell? ⟨Bl, 0, none⟩ = some (.slice A l.length c) → RdU W1 A l → W'.cell? ⟨Bl, 0, none⟩ = some (.slice A l.length c) ∧ RdU W' A l := fun W1 W' ho h1 h2 =>
    ⟨ho.cell h1 (fun hx => hx.elim hb1 (fun e => by simp at e; omega)), h2.off ho (fun a ha hx => hx.elim (hb2 a ha).1 (fun e => by have := (hb2 a ha).2; omega))⟩
  replace hOff := Lib.hid hOff
  replace hb2 := Lib.hid hb2
  clear hB hR hJ hJx hW hWz hrec hBl
  refine callsIn_of_wp Try.func38 rfl trivial ?_ rfl
  simp only [Try.ntmps38, List.size_toArray, List.length_cons, List.length_nil, Nat.reduceAdd, Nat.reduceSub, Array.replicate_succ, Array.replicate_zero, List.push_toArray, List.append_toArray, List.nil_append, List.cons_append]
  gi_wp2
  gi_loopw [3] (fun i wr => ∃ k : Nat, k ≤ l.length ∧ i = .int .i64 ((l.length : Int) - 1 - k) ∧ J k wr ∧ wr.cell? ⟨Bl, 0, none⟩ = some (.slice A l.length c) ∧ RdU wr A l) (fun i _ => (intOf i + 1).toNat)
  case atStart => exact ⟨0, Nat.zero_le _, by simp, h0, hB1, hR1⟩
  case round =>
    obtain ⟨k, hk, rfl, hJk, hBw, hRw⟩ := hrel
    by_cases hlt : k < l.length
    · have HYk := hY k wr hlt hJk
      obtain ⟨j, hj⟩ : ∃ j : Nat, l.length - 1 - k = j := ⟨_, rfl⟩
      have hjl : j < l.length := by omega
      have hi : (l.length : Int) - 1 - k = (j : Int) := by omega
      rw [hi]
      unfold backArgs at HYk
      rw [hj, List.getD_eq_getElem?_getD, List.getElem?_eq_getElem hjl] at HYk
      simp only [Option.getD_some] at HYk
      obtain ⟨b, off, rfl, hc⟩ := hRw (by intro h; subst h; simp at hlt)
      obtain ⟨d0, d1⟩ := hc j hjl
      generalize l[j].1 = a at *
      generalize l[j].2 = p at *
      have HR := Lib.hid (show RdU wr (some ⟨b, off, none⟩) l from fun _ => ⟨b, off, rfl, hc⟩)
      have HOF := Lib.hid (hOff.out wr)
      have HY := Lib.hid hY
      clear hc hY hJk hRw hOff
      obtain ⟨fn, tmps, assign, body, hy, hround⟩ := HYk
      replace hround := Lib.hid hround
      replace hi := Lib.hid hi
      replace hj := Lib.hid hj
      gi_wp2
      refine ⟨fun h => by simp [Fence.wide] at h, ?_⟩
      refine hround.out.mono ?_
      rintro e W3 (⟨rfl, hJ3, ho⟩ | ⟨rfl, hJx3, ho⟩)
      · obtain ⟨q1, q2⟩ := HOF.out W3 ho hBw HR.out
        replace q2 := Lib.hid q2
        have HJ3 := Lib.hid hJ3
        clear hJ3 ho hBw HOF HR d0 d1 HY
        gi_wp2
        go_roundw
        case rel => exact ⟨k + 1, by omega, (by have h1 := hi.out; exact congrArg (Value.int .i64) (by omega)), HJ3.out, q1, q2.out⟩
        case measure => simp [intOf] <;> omega
      · have HJ3 := Lib.hid hJx3
        clear hJx3 ho hBw HOF HR d0 d1 HY
        gi_wp2
        refine bodyPost_ret (results_none rfl _ _ _) rfl ?_
        exact ⟨⟨_, rfl⟩, .inr HJ3.out⟩
    · have hkl : k = l.length := by omega
      subst hkl
      clear hY hOff
      gi_wp2
      go_end0
      exact ⟨⟨_, rfl⟩, .inl hJk⟩
end Go.Proofs.Ytajopaljiondlaa
