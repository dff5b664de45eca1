/- LAYER 16, the document's table: rows of pairs; where a pair stands. -/
import Derived.Test.YtdiejjhlgacbdaaJ
import Derived.Deep.RegionHeld3
set_option linter.unusedVariables false
namespace Go.Proofs.Ytdiejjhlgacbdaa
open Go.RowKit Go.ChangeShapes Go.WideShapes Go.ChangeAt

/-- A tree, and a block that it needs. -/
abbrev Pr := Int × Int
def pcells (P : List Pr) : List Value := P.flatMap fun p => [.int .i64 p.1, .int .i64 p.2]
theorem pcells_len (P : List Pr) : (pcells P).length = P.length * 2 := by
  induction P with
  | nil => rfl
  | cons p P ih =>
    show (pcells P).length + 1 + 1 = _
    rw [ih, List.length_cons]
    omega
theorem pcells_append (P Q : List Pr) : pcells (P ++ Q) = pcells P ++ pcells Q := by unfold pcells; simp
theorem pcells_at : ∀ (P : List Pr) (k : Nat) (h : k < P.length), (pcells P)[k * 2]? = some (.int .i64 P[k].1) ∧ (pcells P)[k * 2 + 1]? = some (.int .i64 P[k].2)
  | [], k, h => by simp at h
  | p :: P, 0, h => ⟨rfl, rfl⟩
  | p :: P, k + 1, h => by
    have ih := pcells_at P k (by simpa using h)
    have e1 : (k + 1) * 2 = k * 2 + 1 + 1 := by omega
    have e2 : (k + 1) * 2 + 1 = k * 2 + 1 + 1 + 1 := by omega
    rw [e2, e1]
    exact ih
theorem pcells_drop (P : List Pr) (k : Nat) : (pcells P).drop (k * 2) = pcells (P.drop k) := by
  induction k generalizing P with
  | zero => rfl
  | succ k ih =>
    cases P with
    | nil => rfl
    | cons p P =>
      have : (k + 1) * 2 = k * 2 + 1 + 1 := by omega
      rw [this]
      exact ih P
theorem pcells_take (P : List Pr) (k : Nat) : (pcells P).take (k * 2) = pcells (P.take k) := by
  induction k generalizing P with
  | zero => rfl
  | succ k ih =>
    cases P with
    | nil => rfl
    | cons p P =>
      have : (k + 1) * 2 = k * 2 + 1 + 1 := by omega
      rw [this]
      show _ :: _ :: (pcells P).take (k * 2) = _
      rw [ih P]
      rfl
theorem pcells_one (P : List Pr) : ∀ u ∈ pcells P, u.oneCell' = true := by
  intro u hu
  unfold pcells at hu
  rw [List.mem_flatMap] at hu
  obtain ⟨p, _, hp⟩ := hu
  simp at hp
  rcases hp with rfl | rfl <;> rfl
/-- Pairs that lie in a row. -/
def RdP (w : World) (A : Option Addr) (P : List Pr) : Prop := P ≠ [] → ∃ b off, A = some ⟨b, off, none⟩ ∧ ∀ k, (h : k < P.length) → w.cell? ⟨b, off + k * 2, none⟩ = some (.int .i64 P[k].1) ∧ w.cell? ⟨b, off + k * 2 + 1, none⟩ = some (.int .i64 P[k].2)
theorem RdP.off {O : Nat → Prop} {w w' : World} {A : Option Addr} {P : List Pr} (h : RdP w A P) (ho : Off O w w') (hn : ∀ a, A = some a → ¬ O a.block) : RdP w' A P := fun hne => by
  obtain ⟨b, off, rfl, hc⟩ := h hne
  exact ⟨b, off, rfl, fun k hk => ⟨ho.cell (hc k hk).1 (hn ⟨b, off, none⟩ rfl), ho.cell (hc k hk).2 (hn ⟨b, off, none⟩ rfl)⟩⟩
theorem RdP.below {w w' : World} {A : Option Addr} {P : List Pr} (h : RdP w A P) (hb : Below w.heap.size w w') : RdP w' A P := h.off (Off.of_below (fun _ => False) hb) (fun _ _ h => h)
/-- A row of pairs of its own. -/
def OwnP (w : World) (v : Value) (P : List Pr) : Prop := w.ownsRow 0 62 2 v P.length (pcells P)
theorem OwnP.off {O : Nat → Prop} {w w' : World} {v : Value} {P : List Pr} (h : OwnP w v P) (ho : Off O w w') (hn : ∀ g, v.ownBlock = some g → ¬ O g) : OwnP w' v P := by
  refine ⟨h.1, ?_⟩
  rcases h.2 with h2 | ⟨g, cap, cur, rfl, hb, h3, h4⟩
  · exact .inl h2
  · exact .inr ⟨g, cap, cur, rfl, hb, ho.obj h3 (hn g rfl), h4⟩
theorem OwnP.form {w : World} {v : Value} {P : List Pr} (h : OwnP w v P) : ∃ A c, v = .slice A P.length c ∧ (∀ a, A = some a → v.ownBlock = some a.block ∧ a.block < w.heap.size) ∧ RdP w A P ∧ (∀ a, A = some a → ∃ g, a = ⟨g, 0, none⟩) ∧ P.length ≤ c := by
  rcases h.2 with ⟨rfl, hx⟩ | ⟨g, cap, cur, rfl, hb, h3, h4, h5⟩
  · have : P = [] := by simpa using hx
    subst this
    exact ⟨none, 0, rfl, (fun a h => by cases h), (fun h => absurd rfl h), (fun a h => by cases h), Nat.zero_le _⟩
  · refine ⟨_, cap, rfl, (fun a h => by cases h; exact ⟨rfl, (Array.getElem?_eq_some_iff.1 h3).1⟩), (fun hne => ⟨g, 0, rfl, fun k hk => ?_⟩), (fun a h => by cases h; exact ⟨g, rfl⟩), h4⟩
    have hx := pcells_at P k hk
    have hl := pcells_len P
    refine ⟨?_, ?_⟩
    · rw [Nat.zero_add, World.ownsRow.cellAt h (k * 2) (by omega)]
      rw [← hx.1, List.getElem?_eq_getElem (by omega)]
    · rw [Nat.zero_add, World.ownsRow.cellAt h (k * 2 + 1) (by omega)]
      rw [← hx.2, List.getElem?_eq_getElem (by omega)]
theorem info_pair : (Try.prog.info? 62).map (fun i => (i.zero, i.size, i.bytes)) = some (some (.agg #[.int .i64 0, .int .i64 0]), 2, 16) := by kernel_rfl
/-- Where a pair stands. -/
def atP (P : List Pr) (p : Pr) : Int := if p ∈ P then (P.idxOf p : Int) else -1
theorem atP_at {P : List Pr} {p : Pr} {k : Nat} (h : k < P.length) (hp : P[k] = p) (hn : p ∉ P.take k) : atP P p = (k : Int) := by
  unfold atP
  have hm : p ∈ P := hp ▸ List.getElem_mem h
  rw [if_pos hm]
  have h1 : P = P.take k ++ P.drop k := (List.take_append_drop k P).symm
  have h2 : P.drop k = p :: P.drop (k + 1) := by rw [List.drop_eq_getElem_cons h, hp]
  have h3 : P.idxOf p = k := by
    conv => lhs; rw [h1, h2]
    rw [List.idxOf_append, if_neg hn, List.idxOf_cons_self, List.length_take]
    omega
  rw [h3]
theorem atP_none {P : List Pr} {p : Pr} (hn : p ∉ P) : atP P p = -1 := by unfold atP; rw [if_neg hn]
theorem atP_ge {P : List Pr} {p : Pr} : (0 ≤ atP P p) ↔ p ∈ P := by
  unfold atP
  split
  · rename_i h
    exact ⟨fun _ => h, fun _ => by omega⟩
  · rename_i h
    exact ⟨fun h => absurd h (by decide), fun hm => absurd hm h⟩
theorem take_notin {P : List Pr} {p : Pr} {k : Nat} (h : k < P.length) (hn : p ∉ P.take k) (hp : P[k] ≠ p) : p ∉ P.take (k + 1) := by
  rw [List.take_succ_eq_append_getElem h]
  simp only [List.mem_append, List.mem_singleton, not_or]
  exact ⟨hn, fun e => hp e.symm⟩
def AHead (P : List Pr) (p : Pr) (w wr : World) (v : Value) : Prop := ∃ k, k ≤ P.length ∧ v = .int .i64 (k : Nat) ∧ p ∉ P.take k ∧ Below w.heap.size w wr
theorem tree_any (a : Int) (w : World) : Calls Try.prog 39 #[.int .i64 a] w fun e w' => e = .returned (.bool (decide (0 ≤ a ∧ a ≤ 6))) ∧ w' = w := by
  by_cases h0 : 0 ≤ a <;> by_cases h6 : a ≤ 6
  all_goals
    go_enter Try.func39, Try.ntmps39
    go_wp2_with fail
    go_ret
    exact ⟨ret_bool (by simp [h0, h6]), rfl⟩
theorem block_any (a : Int) (w : World) : Calls Try.prog 40 #[.int .i64 a] w fun e w' => e = .returned (.bool (decide (2 ≤ a ∧ a < 8192))) ∧ w' = w := by
  by_cases h0 : 2 ≤ a <;> by_cases h6 : a < 8192
  all_goals
    go_enter Try.func40, Try.ntmps40
    go_wp2_with fail
    go_ret
    exact ⟨ret_bool (by simp [h0, h6]), rfl⟩
set_option maxRecDepth 100000 in
set_option maxHeartbeats 4000000 in
theorem at_any (x : Nat) (A : Option Addr) (c : Nat) (P : List Pr) (p : Pr) (w : World) (hx : w.cell? ⟨x, 0, none⟩ = some (.slice A P.length c)) (hR : RdP w A P) (hl : P.length ≤ 20000000) :
    Calls Try.prog 41 #[.pointer (some ⟨x, 0, none⟩), .agg #[.int .i64 p.1, .int .i64 p.2]] w fun e w' => e = .returned (.int .i64 (atP P p)) ∧ Below w.heap.size w w' := by
  have HR := Lib.hid hR
  clear hR
  have hb : Below w.heap.size w (w.alloc (.cells #[.int .i64 p.1, .int .i64 p.2] 62)) := (Below.refl _ _).alloc (Nat.le_refl _) _
  have HB := Lib.hid hb
  have hq0 : (w.alloc (.cells #[.int .i64 p.1, .int .i64 p.2] 62)).cell? ⟨w.heap.size, 0, none⟩ = some (.int .i64 p.1) := (World.cell?_alloc_new w _ _ 0).trans rfl
  have hq1 : (w.alloc (.cells #[.int .i64 p.1, .int .i64 p.2] 62)).cell? ⟨w.heap.size, 1, none⟩ = some (.int .i64 p.2) := (World.cell?_alloc_new w _ _ 1).trans rfl
  have HQ := Lib.hid (And.intro hq0 hq1)
  clear hb hq0 hq1
  go_enter Try.func41, Try.ntmps41
  go_wp2_with fail
  go_loopw [5] (fun v5 wr => AHead P p (w.alloc (.cells #[.int .i64 p.1, .int .i64 p.2] 62)) wr v5) (fun v5 _ => P.length - (intOf v5).toNat)
  case atStart => exact ⟨0, Nat.zero_le _, rfl, by simp, Below.refl _ _⟩
  case round =>
    obtain ⟨k, hk, rfl, hn, hB⟩ := hrel
    have c0 : wr.cell? ⟨x, 0, none⟩ = some (.slice A P.length c) := keep1 hB (keep1 HB.out hx)
    have q0 := keep1 hB HQ.out.1
    have q1 := keep1 hB HQ.out.2
    have hBr := Lib.hid hB
    replace hB := Lib.hid (HB.out.trans (hB.mono HB.out.size))
    clear HQ hx
    replace hn := Lib.hid hn
    by_cases hlt : k < P.length
    · obtain ⟨b, off, rfl, hc⟩ := HR.out (by intro h; subst h; simp at hlt)
      obtain ⟨d0, d1⟩ := hc k hlt
      replace d0 := keep1 hB.out d0
      replace d1 := keep1 hB.out d1
      obtain ⟨y, hy⟩ : ∃ y, P[k] = y := ⟨_, rfl⟩
      rw [hy] at d0 d1
      obtain ⟨y0, y1⟩ := y
      obtain ⟨p0, p1⟩ := p
      simp only at d0 d1 q0 q1
      replace hy := Lib.hid hy
      clear hc
      have hk0 : (0 : Int) ≤ k := by omega
      have hk1 : (k : Int) < P.length := by omega
      have H0 : wr.drew.cell? ⟨x, 0, none⟩ = some (.slice (some ⟨b, off, none⟩) P.length c) ∧ wr.drew.cell? ⟨b, off + k * 2, none⟩ = some (.int .i64 y0) ∧ wr.drew.cell? ⟨b, off + k * 2 + 1, none⟩ = some (.int .i64 y1) ∧ wr.drew.cell? ⟨w.heap.size, 0, none⟩ = some (.int .i64 p0) ∧ wr.drew.cell? ⟨w.heap.size, 1, none⟩ = some (.int .i64 p1) ∧ Below w.heap.size w wr.drew := ⟨c0, d0, d1, q0, q1, hB.out.trans ((Below.refl _ _).drew)⟩
      by_cases he : (y0, y1) = (p0, p1)
      · obtain ⟨rfl, rfl⟩ : y0 = p0 ∧ y1 = p1 := by simpa using he
        have hat := Lib.hid (atP_at hlt hy.out hn.out)
        go_wp2_with fail
        go_region_held3 (fun W => W.cell? ⟨x, 0, none⟩ = some (.slice (some ⟨b, off, none⟩) P.length c) ∧ W.cell? ⟨b, off + k * 2, none⟩ = some (.int .i64 y0) ∧ W.cell? ⟨b, off + k * 2 + 1, none⟩ = some (.int .i64 y1) ∧ W.cell? ⟨w.heap.size, 0, none⟩ = some (.int .i64 y0) ∧ W.cell? ⟨w.heap.size, 1, none⟩ = some (.int .i64 y1) ∧ Below w.heap.size w W)
          (first | exact H0 | assumption)
          (fail)
        go_split_ands
        have HBe := Lib.hid (show Below w.heap.size w wr.drew by assumption)
        go_wp2_with fail
        go_ret
        exact ⟨by rw [hat.out]; rfl, HBe.out⟩
      · have hstep := Lib.hid (take_notin hlt hn.out (by rw [hy.out]; exact he))
        by_cases h0 : y0 = p0
        · subst h0
          have h1 : ¬ y1 = p1 := fun e => he (by rw [e])
          clear he
          go_wp2_with fail
          go_region_held3 (fun W => W.cell? ⟨x, 0, none⟩ = some (.slice (some ⟨b, off, none⟩) P.length c) ∧ W.cell? ⟨b, off + k * 2, none⟩ = some (.int .i64 y0) ∧ W.cell? ⟨b, off + k * 2 + 1, none⟩ = some (.int .i64 y1) ∧ W.cell? ⟨w.heap.size, 0, none⟩ = some (.int .i64 y0) ∧ W.cell? ⟨w.heap.size, 1, none⟩ = some (.int .i64 p1) ∧ Below w.heap.size w W)
            (first | exact H0 | assumption)
            (fail)
          go_split_ands
          have HBe := Lib.hid (show Below w.heap.size w wr.drew by assumption)
          go_wp2_with fail
          go_roundw
          case rel => exact ⟨k + 1, by omega, by go_num, hstep.out, hBr.out.trans ((Below.refl _ _).drew.mono hBr.out.size)⟩
          case measure => simp [intOf]; omega
        · clear he
          go_wp2_with fail
          go_region_held3 (fun W => W.cell? ⟨x, 0, none⟩ = some (.slice (some ⟨b, off, none⟩) P.length c) ∧ W.cell? ⟨b, off + k * 2, none⟩ = some (.int .i64 y0) ∧ W.cell? ⟨b, off + k * 2 + 1, none⟩ = some (.int .i64 y1) ∧ W.cell? ⟨w.heap.size, 0, none⟩ = some (.int .i64 p0) ∧ W.cell? ⟨w.heap.size, 1, none⟩ = some (.int .i64 p1) ∧ Below w.heap.size w W)
            (first | exact H0 | assumption)
            (fail)
          go_split_ands
          have HBe := Lib.hid (show Below w.heap.size w wr.drew by assumption)
          go_wp2_with fail
          go_roundw
          case rel => exact ⟨k + 1, by omega, by go_num, hstep.out, hBr.out.trans ((Below.refl _ _).drew.mono hBr.out.size)⟩
          case measure => simp [intOf]; omega
    · have hke : k = P.length := by omega
      subst hke
      have hat := atP_none (show p ∉ P from by have := hn.out; rwa [List.take_length] at this)
      replace hat := Lib.hid hat
      go_wp2_with fail
      go_ret
      exact ⟨by rw [hat.out]; rfl, hB.out⟩
end Go.Proofs.Ytdiejjhlgacbdaa
