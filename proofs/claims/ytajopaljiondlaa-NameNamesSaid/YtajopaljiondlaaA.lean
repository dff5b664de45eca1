/- LAYER 24: a range over a function whose iterator keeps state of its own in cells: the law of the walk that these proofs use. -/
import Derived.Test.YtajopaljiondlaaRows
import Derived.WalkKit
import Derived.ProofKit
import Derived.Handy
import Derived.Deep.Light
import Derived.Lib.Hide
import Derived.OwnWalk
import Derived.Maps.Own
import Derived.Maps.OwnIn
import Derived.Maps.AppendAt
import Derived.RangeFuncNested
import Derived.RangeFuncLeaves
import Derived.RangeFuncBound
import Derived.RangeFuncCalls
import Derived.Shelf.Abstract
import Derived.OwnWalkIn
import Derived.TacticsInMore
import Derived.LoopNIn
import Derived.LoopIn
set_option linter.unusedVariables false
namespace Go.Proofs.Ytajopaljiondlaa
open Go.RowKit Go.ChangeShapes Go.WideShapes Go.ChangeAt

/-- But for some blocks the world is as it was. -/
structure Off (O : Nat → Prop) (w w' : World) : Prop where
  os : w'.os = w.os
  tape : w'.tape = w.tape
  output : w'.output = w.output
  size : w.heap.size ≤ w'.heap.size
  block : ∀ k, k < w.heap.size → ¬ O k → w'.heap[k]? = w.heap[k]?
theorem Off.refl (O : Nat → Prop) (w : World) : Off O w w := ⟨rfl, rfl, rfl, Nat.le_refl _, fun _ _ _ => rfl⟩
theorem Off.mono {O O' : Nat → Prop} {w w' : World} (h : Off O w w') (hO : ∀ k, k < w.heap.size → O k → O' k) : Off O' w w' := ⟨h.os, h.tape, h.output, h.size, fun k hk hn => h.block k hk (fun hx => hn (hO k hk hx))⟩
theorem Off.trans {O : Nat → Prop} {a b c : World} (h : Off O a b) (k : Off O b c) : Off O a c :=
  ⟨k.os.trans h.os, k.tape.trans h.tape, k.output.trans h.output, Nat.le_trans h.size k.size, fun i hi hn => (k.block i (Nat.lt_of_lt_of_le hi h.size) hn).trans (h.block i hi hn)⟩
theorem Off.below {O : Nat → Prop} {w w' : World} {B : Nat} (h : Off O w w') (hB : B ≤ w.heap.size) (hO : ∀ x, O x → B ≤ x) : Below B w w' :=
  ⟨h.os, h.tape, h.output, h.size, fun k hk => h.block k (by omega) (fun hx => by have := hO k hx; omega)⟩
theorem Off.of_below {w w' : World} (O : Nat → Prop) (h : Below w.heap.size w w') : Off O w w' := ⟨h.os, h.tape, h.output, h.size, fun k hk _ => h.block k hk⟩
theorem Off.of_grown {O : Nat → Prop} {w w' : World} {row : Option Nat} (h : w.grownBy w' row) (hO : ∀ k, row = some k → O k) : Off O w w' := ⟨h.os, h.tape, h.output, h.size, fun k hk hn => h.block k hk (fun e => hn (hO k e.symm))⟩
theorem Off.alloc {O : Nat → Prop} {w w' : World} (h : Off O w w') (o : Obj) : Off O w (w'.alloc o) := h.trans (Off.of_below O ((Below.refl _ _).alloc (Nat.le_refl _) o))
theorem setCell_off (w : World) (a : Addr) (v : Value) : Off (fun b => b = a.block) w (w.setCell a v) :=
  ⟨rfl, rfl, rfl, by simp [World.setCell], fun b hb hn => Below.heap_setCell w a v b hn⟩
theorem putObj_off (w : World) (r : Nat) (o : Obj) : Off (fun b => b = r) w (w.putObj r o) :=
  ⟨rfl, rfl, rfl, by simp, fun b hb hn => World.putObj_heap_other hn⟩
theorem Off.obj {O : Nat → Prop} {w w' : World} (h : Off O w w') {k : Nat} {o : Obj} (hk : w.heap[k]? = some o) (hn : ¬ O k) : w'.heap[k]? = some o :=
  (h.block k (Array.getElem?_eq_some_iff.1 hk).1 hn).trans hk
theorem Off.cell {O : Nat → Prop} {w w' : World} (h : Off O w w') {a : Addr} {v : Value} (hk : w.cell? a = some v) (hn : ¬ O a.block) : w'.cell? a = some v :=
  (World.cell?_of_block (h.block a.block (World.block_lt_of_cell? w _ hk) hn)).trans hk

/-- How the body of a round may be left. -/
def ownPost (Bod : Nat → Prop) (I : World → Prop) (Ix : Code → World → Prop) (W : World) : Exit → Act → World → Prop
  | .normal, _, W' => Off Bod W W' ∧ I W'
  | .ret, _, W' => Off Bod W W' ∧ Ix .ret W'
  | .exit id, _, W' => Off Bod W W' ∧ Ix (.exit id) W'
  | .goto t, _, W' => Off Bod W W' ∧ Ix (.goto t) W'
  | .panic _, _, _ => False
  | .outgrown, _, _ => False

/-- What a function that is ranged over must do: N rounds at most, the k-th at 'args k'; 'Own': the blocks that it writes, 'Bod': those that a round writes. -/
def Gives (n : Nat) (P : Program) (gf : Nat) (lb : Array Value) (Own Bod : Nat → Prop) (N : Nat) (args : Nat → Array Value) (w : World) : Prop :=
  ∀ (l : Nat) (J : Nat → World → Prop) (Jx : World → Prop) (W : World), Below w.heap.size w W → W.heap.size = w.heap.size + 2 → l = w.heap.size + 1 →
    (∀ k A B, J k A → Off Own A B → J k B) → (∀ A B, Jx A → Off Own A B → Jx B) →
    (∀ k W1, k < N → J k W1 → YieldAt Fence.wide (n - 1) P l (args k) W1 fun e W' =>
      (e = .returned (.bool true) ∧ J (k + 1) W' ∧ Off (fun b => Bod b ∨ b = l) W1 W') ∨ (e = .returned (.bool false) ∧ Jx W' ∧ Off (fun b => Bod b ∨ b = l) W1 W')) →
    J 0 W → CallsIn Fence.wide n P gf (#[.func (.yield l) #[] #[]] ++ lb) W fun e W' => (∃ v, e = .returned v) ∧ (J N W' ∨ Jx W')

theorem range_own {n : Nat} {P : Program} {g : Operand} {ps : Array Tmp} {assign body : Code} {Q : Exit → Act → World → Prop} {a : Act} {w : World}
    {gf : Nat} {lb : Array Value} (hg : a.eval g = .func (.func gf) #[] lb) (eg : ∀ args w, (callFunc gf args).run P w = .ok (.enter gf args) w)
    (Own Bod : Nat → Prop) (N : Nat) (args : Nat → Array Value) (hOwn : ¬ Own w.heap.size ∧ ¬ Own (w.heap.size + 1)) (hBod : ∀ b, Bod b → b < w.heap.size) (hps : ∀ k, (args k).size = ps.size)
    (hseq : Gives (n - 1) P gf lb Own Bod N args w)
    (I : Nat → World → Prop) (Ix : Code → World → Prop) (hI : ∀ k A B, I k A → Off (fun b => Own b ∨ b = w.heap.size + 1) A B → I k B) (hIx : ∀ c A B, Ix c A → Off (fun b => Own b ∨ b = w.heap.size + 1) A B → Ix c B) (h0 : I 0 w)
    (hround : ∀ (k : Nat) (W : World), k < N → I k W → w.heap.size + 2 ≤ W.heap.size →
      assign.wpIn (Fence.wide.inRound (w.heap.size + 1)) (n - 1 - 1) P (Exit.then (fun a₁ W₁ => Off Bod W W₁ ∧ ∀ W₂, Off (fun b => b = w.heap.size + 1) W₁ W₂ → body.wpIn (Fence.wide.inRound (w.heap.size + 1)) (n - 1 - 1) P (ownPost Bod (I (k + 1)) Ix W₂) a₁ W₂) (fun _ _ _ => False))
        { tmps := (ps.zip (args k)).foldl (fun t (p, v) => t.setIfInBounds p v) a.tmps, defers := [] } W)
    (hdone : ∀ W, I N W → W.heap[w.heap.size]? = some (.deferred (some [])) → Q .normal { a with defers := { target := .collected w.heap.size, args := #[] } :: a.defers } W)
    (hstop : ∀ c W, Ix c W → W.heap[w.heap.size]? = some (.deferred (some [])) → c.wpIn Fence.wide n P Q { a with defers := { target := .collected w.heap.size, args := #[] } :: a.defers } W) :
    (Code.rangeFunc g ps assign body).wpIn Fence.wide n P Q a w := by
  refine wpIn_rangeFunc ?_
  intro fn hfn
  show ∃ l mark w₁ d w₁' f args w₂, (Instr.enterLoop fn a.tmps ps assign body none).run P w = .ok (l, mark) w₁ ∧ _
  obtain ⟨rec, hrec⟩ : ∃ rec : LoopState → Option Code → Loop, rec = fun st pe => { state := st, pending := pe, fn, tmps := a.tmps, params := ps, assign, body, defers := w.heap.size } := ⟨_, rfl⟩
  obtain ⟨W1, hW1⟩ : ∃ W1, (w.alloc (.deferred (some []))).alloc (.loop (rec .ready none)) = W1 := ⟨_, rfl⟩
  have hL1 : W1.heap[w.heap.size + 1]? = some (.loop (rec .ready none)) := by
    rw [← hW1]
    have := World.alloc_heap_new (w.alloc (.deferred (some []))) (.loop (rec .ready none))
    rwa [World.size_alloc] at this
  have hK1 : W1.heap[w.heap.size]? = some (.deferred (some [])) := by
    rw [← hW1]
    exact (Below.heap_alloc _ _ _ (by simp)).trans (World.alloc_heap_new w _)
  have hbl : Below w.heap.size w W1 := by
    rw [← hW1]
    exact ((Below.refl _ w).alloc (Nat.le_refl _) _).alloc (by simp) _
  have hz1 : W1.heap.size = w.heap.size + 2 := by rw [← hW1]; simp
  have hI1 : I 0 W1 := hI 0 _ _ h0 (Off.of_below _ hbl)
  refine ⟨w.heap.size + 1, [{ target := .collected w.heap.size, args := #[] }], W1, { target := .fn (.func gf) lb, args := #[.func (.yield (w.heap.size + 1)) #[] #[]] }, W1, gf,
    #[.func (.yield (w.heap.size + 1)) #[] #[]] ++ lb, W1, ?_, ?_, ?_, ?_, fun h => by simp [Fence.wide] at h, ?_⟩
  · rw [← hW1, hrec]; exact run_enterLoop_outer _ _ _ _ _
  · simp only [resolve, hg]
    simp [go_sem]
  · intro f' _; trivial
  · simp [invoke, go_sem, eg]
  · refine (hseq (w.heap.size + 1)
      (fun k W => I k W ∧ W.heap[w.heap.size + 1]? = some (.loop (rec .ready none)) ∧ W.heap[w.heap.size]? = some (.deferred (some [])))
      (fun W => ∃ c, Ix c W ∧ W.heap[w.heap.size + 1]? = some (.loop (rec .done (some c))) ∧ W.heap[w.heap.size]? = some (.deferred (some [])))
      W1 hbl hz1 rfl
      (fun k A B hs ho => ⟨hI k A B hs.1 (ho.mono fun _ _ h => .inl h), ho.obj hs.2.1 hOwn.2, ho.obj hs.2.2 hOwn.1⟩)
      (fun A B hs ho => by
        obtain ⟨c, hc, hl, hk⟩ := hs
        exact ⟨c, hIx c A B hc (ho.mono fun _ _ h => .inl h), ho.obj hl hOwn.2, ho.obj hk hOwn.1⟩)
      ?_ ⟨hI1, hL1, hK1⟩).mono ?_
    · rintro k W hkN ⟨hi, hl, hk⟩
      have hlt : w.heap.size + 1 < W.heap.size := (Array.getElem?_eq_some_iff.1 hl).1
      have hy := run_yield (P := P) (args := args k) hl (by rw [hrec]; exact hps k)
      rw [hrec] at hy
      refine ⟨fn, _, assign, body, hy, roundIn_of_wpIn trivial (wpIn_mono (hround k W hkN hi hlt) ?_)⟩
      rintro e a₁ W₁ h₁
      cases e with
      | normal =>
        obtain ⟨ho1, hbody⟩ := h₁
        have hl1 : W₁.heap[w.heap.size + 1]? = some (.loop (rec .ready none)) := ho1.obj hl (fun hx => by have := hBod _ hx; omega)
        have hk1 : W₁.heap[w.heap.size]? = some (.deferred (some [])) := ho1.obj hk (fun hx => by have := hBod _ hx; omega)
        have hlt1 : w.heap.size + 1 < W₁.heap.size := (Array.getElem?_eq_some_iff.1 hl1).1
        refine ⟨_, run_beginRound hl1 (by rw [hrec]), ?_⟩
        have hl2 : (W₁.putObj (w.heap.size + 1) (.loop { rec .ready none with state := .busy })).heap[w.heap.size + 1]? = some (.loop { rec .ready none with state := .busy }) := World.putObj_heap_same hlt1
        have hk2 : (W₁.putObj (w.heap.size + 1) (.loop { rec .ready none with state := .busy })).heap[w.heap.size]? = some (.deferred (some [])) := (World.putObj_heap_other (by omega)).trans hk1
        have ho2 := putObj_off W₁ (w.heap.size + 1) (.loop { rec .ready none with state := .busy })
        have hoA : Off (fun b => Bod b ∨ b = w.heap.size + 1) W (W₁.putObj (w.heap.size + 1) (.loop { rec .ready none with state := .busy })) := (ho1.mono fun _ _ h => .inl h).trans (ho2.mono fun _ _ h => .inr h)
        refine wpIn_mono (hbody _ ho2) ?_
        have fin : ∀ (jump : Option Code) (W3 : World), Off Bod (W₁.putObj (w.heap.size + 1) (.loop { rec .ready none with state := .busy })) W3 →
            (Instr.endRound (w.heap.size + 1) jump).run P W3 = .ok (.bool jump.isNone) (W3.putObj (w.heap.size + 1) (.loop (rec (if jump.isNone then .ready else .done) jump))) ∧
            (W3.putObj (w.heap.size + 1) (.loop (rec (if jump.isNone then .ready else .done) jump))).heap[w.heap.size + 1]? = some (.loop (rec (if jump.isNone then .ready else .done) jump)) ∧
            (W3.putObj (w.heap.size + 1) (.loop (rec (if jump.isNone then .ready else .done) jump))).heap[w.heap.size]? = some (.deferred (some [])) ∧
            Off (fun b => b = w.heap.size + 1) W3 (W3.putObj (w.heap.size + 1) (.loop (rec (if jump.isNone then .ready else .done) jump))) ∧
            Off (fun b => Bod b ∨ b = w.heap.size + 1) W (W3.putObj (w.heap.size + 1) (.loop (rec (if jump.isNone then .ready else .done) jump))) := fun jump W3 ho3 => by
          have hl3 := ho3.obj hl2 (fun hx => by have := hBod _ hx; omega)
          have hk3 := ho3.obj hk2 (fun hx => by have := hBod _ hx; omega)
          have : (Instr.endRound (w.heap.size + 1) jump).run P W3 = .ok (.bool jump.isNone) (W3.putObj (w.heap.size + 1) (.loop (rec (if jump.isNone then .ready else .done) jump))) := by
            have := run_endRound (P := P) jump hl3
            rw [hrec] at this ⊢
            exact this
          exact ⟨this, World.putObj_heap_same (Array.getElem?_eq_some_iff.1 hl3).1, (World.putObj_heap_other (by omega)).trans hk3, putObj_off _ _ _, (hoA.trans (ho3.mono fun _ _ h => .inl h)).trans ((putObj_off _ _ _).mono fun _ _ h => .inr h)⟩
        rintro e a3 W3 hp
        cases e with
        | normal =>
          obtain ⟨ho3, hi3⟩ := hp
          obtain ⟨hr, hl4, hk4, hoe, hoo⟩ := fin none W3 ho3
          exact ⟨_, _, hr, .inl ⟨rfl, ⟨hI _ _ _ hi3 (hoe.mono fun _ _ h => .inr h), hl4, hk4⟩, hoo⟩⟩
        | ret =>
          obtain ⟨ho3, hi3⟩ := hp
          obtain ⟨hr, hl4, hk4, hoe, hoo⟩ := fin (some .ret) W3 ho3
          exact ⟨_, _, hr, .inr ⟨rfl, ⟨_, hIx _ _ _ hi3 (hoe.mono fun _ _ h => .inr h), hl4, hk4⟩, hoo⟩⟩
        | exit id =>
          obtain ⟨ho3, hi3⟩ := hp
          obtain ⟨hr, hl4, hk4, hoe, hoo⟩ := fin (some (.exit id)) W3 ho3
          exact ⟨_, _, hr, .inr ⟨rfl, ⟨_, hIx _ _ _ hi3 (hoe.mono fun _ _ h => .inr h), hl4, hk4⟩, hoo⟩⟩
        | goto t =>
          obtain ⟨ho3, hi3⟩ := hp
          obtain ⟨hr, hl4, hk4, hoe, hoo⟩ := fin (some (.goto t)) W3 ho3
          exact ⟨_, _, hr, .inr ⟨rfl, ⟨_, hIx _ _ _ hi3 (hoe.mono fun _ _ h => .inr h), hl4, hk4⟩, hoo⟩⟩
        | panic ch => exact hp.elim
        | outgrown => exact hp.elim
      | exit id => exact h₁.elim
      | goto t => exact h₁.elim
      | ret => exact h₁.elim
      | panic chain => exact h₁.elim
      | outgrown => exact h₁.elim
    · rintro e W2 ⟨⟨v, rfl⟩, (⟨hi, hl, hk⟩ | ⟨c, hi, hl, hk⟩)⟩
      · exact ⟨none, _, by have := run_endLoop (P := P) hl (by rw [hrec]; simp); rw [hrec] at this; exact this, hdone _ (hI _ _ _ hi ((putObj_off _ _ _).mono fun _ _ h => .inr h)) ((World.putObj_heap_other (by omega)).trans hk)⟩
      · exact ⟨some c, _, by have := run_endLoop (P := P) hl (by rw [hrec]; simp); rw [hrec] at this; exact this, hstop c _ (hIx _ _ _ hi ((putObj_off _ _ _).mono fun _ _ h => .inr h)) ((World.putObj_heap_other (by omega)).trans hk)⟩
end Go.Proofs.Ytajopaljiondlaa
