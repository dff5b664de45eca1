/- WALKS of layer 24: up, Depth, Moves. -/
import Derived.Test.YtajopaljiondlaaC
set_option linter.unusedVariables false
namespace Go.Proofs.Ytajopaljiondlaa
open Go.RowKit Go.ChangeShapes Go.WideShapes Go.ChangeAt Go.Shelf
attribute [local go_sem] Oper.semAt_some

def depthU : List (Int × Int) → Int → Int × Int
  | [], n => (n, 0)
  | q :: T, n => if q.2 = 0 then depthU T (n + 1) else (0, q.2)
def movesU (ino : Int) : List (Int × Int) → Int → Int
  | [], r => r
  | q :: T, r => if q.2 = 0 then movesU ino T (if q.1 = ino then 58 else r) else q.2
/-- What going up a chain from a directory tells. -/
def goUp (l : List (Int × Int)) (ino : Int) : List (Int × Int) := upT (parL l) (l.length + 2) [] ino
theorem upT_len (par : Int → Option Int) : ∀ (f : Nat) (seen : List Int) (x : Int), (upT par f seen x).length ≤ f
  | 0, _, _ => Nat.le_refl _
  | f + 1, seen, x => by
    unfold upT
    simp only [List.length_cons]
    split
    · simp
    · have := upT_len par f (x :: seen) ((par x).getD 0)
      omega
theorem drop_at {α : Type} (T : List α) (k : Nat) (d : α) (h : k < T.length) : T.drop k = T.getD k d :: T.drop (k + 1) := by
  rw [List.drop_eq_getElem_cons h, List.getD_eq_getElem?_getD, List.getElem?_eq_getElem h]; rfl
set_option maxHeartbeats 1000000 in
theorem up_in (n : Nat) (A : Option Addr) (len c : Nat) (ino : Int) (w : World) :
    CallsIn Fence.wide n Try.prog 22 #[.slice A len c, .int .i64 ino] w fun e w' => e = .returned (.func (.func 29) #[] #[.pointer (some ⟨w.heap.size, 0, none⟩), .pointer (some ⟨w.heap.size + 1, 0, none⟩)]) ∧ w' = (w.alloc (.cells #[.slice A len c] 27)).alloc (.cells #[.int .i64 ino] 3) := by
  refine callsIn_of_wp Try.func22 rfl trivial ?_ rfl
  simp only [Try.ntmps22, List.size_toArray, List.length_cons, List.length_nil, Nat.reduceAdd, Nat.reduceSub, Array.replicate_succ, Array.replicate_zero, List.push_toArray, List.append_toArray, List.nil_append, List.cons_append]
  gi_wp2
  go_ret
  exact ⟨rfl, rfl⟩
/-- A variable in a block of its own. -/
def Box (w : World) (b : Nat) (v : Value) (t : TypeId) : Prop := w.heap[b]? = some (.cells #[v] t (0, 0))
theorem Box.cell {w : World} {b : Nat} {v : Value} {t : TypeId} (h : Box w b v t) : w.cell? ⟨b, 0, none⟩ = some v := by
  unfold World.cell?
  rw [show w.heap[(⟨b, 0, none⟩ : Addr).block]? = _ from h]
  rfl
theorem Box.frozen {w : World} {b : Nat} {v : Value} {t : TypeId} (h : Box w b v t) : w.frozen? ⟨b, 0, none⟩ = false := by
  unfold World.frozen?
  rw [show w.heap[(⟨b, 0, none⟩ : Addr).block]? = _ from h]
  rfl
theorem Box.off {O : Nat → Prop} {w w' : World} {b : Nat} {v : Value} {t : TypeId} (h : Box w b v t) (ho : Off O w w') (hn : ¬ O b) : Box w' b v t := ho.obj h hn
theorem Box.below {w w' : World} {b : Nat} {v : Value} {t : TypeId} (h : Box w b v t) (hb : Below w.heap.size w w') : Box w' b v t := h.off (Off.of_below (fun _ => False) hb) (fun h => h)
theorem Box.lt {w : World} {b : Nat} {v : Value} {t : TypeId} (h : Box w b v t) : b < w.heap.size := (Array.getElem?_eq_some_iff.1 h).1
theorem box_new (w : World) (v : Value) (t : TypeId) {k : Nat} (hk : w.heap.size = k) : Box (w.alloc (.cells #[v] t)) k v t := by rw [← hk]; exact heap_alloc_new w _
theorem Box.alloc {w : World} {b : Nat} {v : Value} {t : TypeId} (h : Box w b v t) (o : Obj) : Box (w.alloc o) b v t := h.below ((Below.refl _ _).alloc (Nat.le_refl _) o)
theorem Box.set {w : World} {b : Nat} {v : Value} {t : TypeId} (h : Box w b v t) (u : Value) : Box (w.setCell ⟨b, 0, none⟩ u) b u t := by
  unfold Box at h ⊢
  simp [World.setCell, Array.getElem?_modify, h]
theorem Box.other {w : World} {b : Nat} {v : Value} {t : TypeId} (h : Box w b v t) {g : Nat} (u : Value) (hg : b ≠ g) : Box (w.setCell ⟨g, 0, none⟩ u) b v t := h.off (setCell_off w ⟨g, 0, none⟩ u) hg
set_option maxRecDepth 100000 in
set_option maxHeartbeats 2000000 in
theorem depth_any (A : Option Addr) (c : Nat) (l : List (Int × Int)) (ino : Int) (w : World) (hl : l.length ≤ 100000) (hc : ∀ q ∈ l, In64 q.1 ∧ In64 q.2) (hino : In64 ino) (hR : RdU w A l) (hA : ∀ a, A = some a → a.block < w.heap.size) :
    Calls Try.prog 9 #[.slice A l.length c, .int .i64 ino] w fun e w' => e = .returned (.tuple #[.int .i64 (depthU (goUp l ino) (-1)).1, .int .i64 (depthU (goUp l ino) (-1)).2]) ∧ Below w.heap.size w w' := by
  have HR := Lib.hid hR
  have HA := Lib.hid hA
  have HT := Lib.hid (show (goUp l ino).length ≤ l.length + 2 from upT_len _ _ _ _)
  clear hR hA
  refine (callsIn_wide (n := 5)).1 ?_
  have hdep : Fence.wide.depth = none := rfl
  have hfn : ∀ f, Fence.wide.fn f := fun _ => trivial
  refine callsIn_of_wp_marks Try.func9 rfl trivial ?_ rfl
  simp only [Try.ntmps9, List.size_toArray, List.length_cons, List.length_nil, Nat.reduceAdd, Nat.reduceSub, Array.replicate_succ, Array.replicate_zero, List.push_toArray, List.append_toArray, List.nil_append, List.cons_append]
  gi_wp2_with (gi_at_call 22; refine (up_in _ A l.length c ino _).mono ?_; rintro e w' ⟨rfl, rfl⟩)
  have b4 : Box (((((w.alloc (.cells #[.int .i64 0] 3)).alloc (.cells #[.int .i64 0] 24)).alloc (.cells #[.int .i64 (-1)] 3)).alloc (.cells #[.slice A l.length c] 27)).alloc (.cells #[.int .i64 ino] 3)) w.heap.size (.int .i64 0) 3 := ((((box_new w _ _ rfl).alloc _).alloc _).alloc _).alloc _
  have b5 : Box (((((w.alloc (.cells #[.int .i64 0] 3)).alloc (.cells #[.int .i64 0] 24)).alloc (.cells #[.int .i64 (-1)] 3)).alloc (.cells #[.slice A l.length c] 27)).alloc (.cells #[.int .i64 ino] 3)) (w.heap.size + 1) (.int .i64 0) 24 := (((box_new _ _ _ (by simp)).alloc _).alloc _).alloc _
  have b6 : Box (((((w.alloc (.cells #[.int .i64 0] 3)).alloc (.cells #[.int .i64 0] 24)).alloc (.cells #[.int .i64 (-1)] 3)).alloc (.cells #[.slice A l.length c] 27)).alloc (.cells #[.int .i64 ino] 3)) (w.heap.size + 1 + 1) (.int .i64 (-1)) 3 := ((box_new _ _ _ (by simp)).alloc _).alloc _
  have b7 : Box (((((w.alloc (.cells #[.int .i64 0] 3)).alloc (.cells #[.int .i64 0] 24)).alloc (.cells #[.int .i64 (-1)] 3)).alloc (.cells #[.slice A l.length c] 27)).alloc (.cells #[.int .i64 ino] 3)) (w.heap.size + 1 + 1 + 1) (.slice A l.length c) 27 := (box_new _ _ _ (by simp)).alloc _
  have b8 : Box (((((w.alloc (.cells #[.int .i64 0] 3)).alloc (.cells #[.int .i64 0] 24)).alloc (.cells #[.int .i64 (-1)] 3)).alloc (.cells #[.slice A l.length c] 27)).alloc (.cells #[.int .i64 ino] 3)) (w.heap.size + 1 + 1 + 1 + 1) (.int .i64 ino) 3 := box_new _ _ _ (by simp)
  have hb5 : Below w.heap.size w (((((w.alloc (.cells #[.int .i64 0] 3)).alloc (.cells #[.int .i64 0] 24)).alloc (.cells #[.int .i64 (-1)] 3)).alloc (.cells #[.slice A l.length c] 27)).alloc (.cells #[.int .i64 ino] 3)) := (((((Below.refl _ _).alloc (Nat.le_refl _) _).alloc (by simp) _).alloc (by simp; omega) _).alloc (by simp; omega) _).alloc (by simp; omega) _
  have hz5 : (((((w.alloc (.cells #[.int .i64 0] 3)).alloc (.cells #[.int .i64 0] 24)).alloc (.cells #[.int .i64 (-1)] 3)).alloc (.cells #[.slice A l.length c] 27)).alloc (.cells #[.int .i64 ino] 3)).heap.size = w.heap.size + 5 := by simp
  generalize (((((w.alloc (.cells #[.int .i64 0] 3)).alloc (.cells #[.int .i64 0] 24)).alloc (.cells #[.int .i64 (-1)] 3)).alloc (.cells #[.slice A l.length c] 27)).alloc (.cells #[.int .i64 ino] 3)) = W5 at *
  have HZ := Lib.hid hz5
  have hz5' : w.heap.size + 5 ≤ W5.heap.size := by omega
  have hz5'' : W5.heap.size ≤ w.heap.size + 5 := by omega
  clear hz5
  refine range_own (gf := 29) (lb := #[.pointer (some ⟨w.heap.size + 1 + 1 + 1, 0, none⟩), .pointer (some ⟨w.heap.size + 1 + 1 + 1 + 1, 0, none⟩)]) rfl (enters_of Try.func29 (by kernel_rfl) rfl)
    (fun b => b = w.heap.size + 1 + 1 + 1 + 1 ∨ W5.heap.size + 2 ≤ b) (fun b => w.heap.size ≤ b ∧ b < w.heap.size + 3) (goUp l ino).length (upArgs (goUp l ino)) ⟨by omega, by omega⟩ (fun b hb => by omega) (fun _ => rfl)
    (up1_gives (5 - 1) A c l ino (w.heap.size + 1 + 1 + 1) (w.heap.size + 1 + 1 + 1 + 1) _ W5 hl hc hino b7.cell b8.cell b8.frozen (HR.out.below hb5) (by omega) (by omega) (fun a ha => by have := HA.out a ha; omega) (fun b hb => by omega) (by omega))
    (fun k V => Box V w.heap.size (.int .i64 0) 3 ∧ Box V (w.heap.size + 1) (.int .i64 0) 24 ∧ Box V (w.heap.size + 1 + 1) (.int .i64 ((k : Int) - 1)) 3 ∧ depthU (goUp l ino) (-1) = depthU ((goUp l ino).drop k) ((k : Int) - 1) ∧ Below w.heap.size w V)
    (fun c V => c = .ret ∧ ∃ e : Int, Box V w.heap.size (.int .i64 0) 3 ∧ Box V (w.heap.size + 1) (.int .i64 e) 24 ∧ depthU (goUp l ino) (-1) = (0, e) ∧ Below w.heap.size w V)
    ?_ ?_ ⟨b4, b5, b6, rfl, hb5⟩ ?_ ?_ ?_
  · rintro k V V' ⟨i1, i2, i3, i4, i5⟩ ho
    exact ⟨i1.off ho (by omega), i2.off ho (by omega), i3.off ho (by omega), i4, i5.trans (ho.below i5.size (fun x hx => by omega))⟩
  · rintro cd V V' ⟨rfl, e, i1, i2, i3, i5⟩ ho
    exact ⟨rfl, e, i1.off ho (by omega), i2.off ho (by omega), i3, i5.trans (ho.below i5.size (fun x hx => by omega))⟩
  · rintro k V hk ⟨i1, i2, i3, i4, i5⟩ hsz
    have hd := drop_at (goUp l ino) k (0, 0) hk
    unfold upArgs
    rw [hd] at i4
    have hTl := HT.out
    generalize (goUp l ino).getD k (0, 0) = q at *
    obtain ⟨x, e⟩ := q
    have hk2 : k ≤ 100002 := by omega
    replace i4 := Lib.hid i4
    replace hd := Lib.hid hd
    have HI5 := Lib.hid i5
    clear i5 b4 b5 b6 b7 b8 hb5
    gi_wp2
    refine ⟨Off.refl _ _, fun W₂ ho2 => ?_⟩
    have j1 := i1.off ho2 (by omega)
    have j2 := i2.off ho2 (by omega)
    have j3 := i3.off ho2 (by omega)
    have j5 := Lib.hid (HI5.out.trans (ho2.below HI5.out.size (fun x hx => by omega)))
    clear ho2 i1 i2 i3
    have c1 := j1.cell
    have c2 := j2.cell
    have c3 := j3.cell
    have f1 := j1.frozen
    have f2 := j2.frozen
    have f3 := j3.frozen
    by_cases he : e = 0
    · subst he
      have o3 := setCell_off W₂ ⟨w.heap.size + 1 + 1, 0, none⟩ (.int .i64 (k : Int))
      have k1 := Lib.hid (j1.off o3 (by show ¬ w.heap.size = w.heap.size + 1 + 1; omega))
      have k2 := Lib.hid (j2.off o3 (by show ¬ w.heap.size + 1 = w.heap.size + 1 + 1; omega))
      have k3 := Lib.hid (j3.set (.int .i64 (k : Int)))
      have k5 := Lib.hid (j5.out.trans (o3.below j5.out.size (fun x hx => by have : x = w.heap.size + 1 + 1 := hx; omega)))
      have k6 := Lib.hid (o3.mono (O' := fun b => w.heap.size ≤ b ∧ b < w.heap.size + 3) (fun b _ hb => by have : b = w.heap.size + 1 + 1 := hb; omega))
      clear o3
      gi_wp2
      refine ⟨k6.out, k1.out, k2.out, ?_, ?_, k5.out⟩
      · have := k3.out
        rwa [show (((k + 1 : Nat) : Int) - 1) = (k : Int) from by omega]
      · rw [i4.out, show (((k + 1 : Nat) : Int) - 1) = (k : Int) - 1 + 1 from by omega]
        rfl
    · have he' : (e != 0) = true := by simpa using he
      have o1 := setCell_off W₂ ⟨w.heap.size, 0, none⟩ (.int .i64 0)
      have o2 := setCell_off (W₂.setCell ⟨w.heap.size, 0, none⟩ (.int .i64 0)) ⟨w.heap.size + 1, 0, none⟩ (.int .i64 e)
      have k1 := Lib.hid ((j1.set (.int .i64 0)).off o2 (by show ¬ w.heap.size = w.heap.size + 1; omega))
      have k2 := Lib.hid ((j2.off o1 (by show ¬ w.heap.size + 1 = w.heap.size; omega)).set (.int .i64 e))
      have k6 := Lib.hid ((o1.mono (O' := fun b => w.heap.size ≤ b ∧ b < w.heap.size + 3) (fun b _ hb => by have : b = w.heap.size := hb; omega)).trans (o2.mono (fun b _ hb => by have : b = w.heap.size + 1 := hb; omega)))
      have k5 := Lib.hid (j5.out.trans (k6.out.below j5.out.size (fun x hx => hx.1)))
      clear o1 o2
      gi_wp2
      refine ⟨k6.out, rfl, e, k1.out, k2.out, ?_, k5.out⟩
      rw [i4.out]
      show (if e = 0 then _ else _) = _
      rw [if_neg he]
  · rintro V ⟨i1, i2, i3, i4, i5⟩ hK
    have hTl := HT.out
    have c3 := i3.cell
    have c1 := i1.cell
    have c2 := i2.cell
    have f1 := i1.frozen
    have f2 := i2.frozen
    rw [List.drop_length] at i4
    replace i4 := Lib.hid i4
    generalize (goUp l ino).length = N at *
    have o1 := setCell_off V ⟨w.heap.size, 0, none⟩ (.int .i64 ((N : Int) - 1))
    have o2 := setCell_off (V.setCell ⟨w.heap.size, 0, none⟩ (.int .i64 ((N : Int) - 1))) ⟨w.heap.size + 1, 0, none⟩ (.int .i64 0)
    have hK2 := (o2.obj (o1.obj hK (by show ¬ W5.heap.size = w.heap.size; omega)) (by show ¬ W5.heap.size = w.heap.size + 1; omega))
    have k1 := ((i1.set (.int .i64 ((N : Int) - 1))).off o2 (by show ¬ w.heap.size = w.heap.size + 1; omega))
    have k2 := ((i2.off o1 (by show ¬ w.heap.size + 1 = w.heap.size; omega)).set (.int .i64 0))
    have o12 := (o1.mono (O' := fun b => w.heap.size ≤ b) (fun b _ hb => by have : b = w.heap.size := hb; omega)).trans (o2.mono (fun b _ hb => by have : b = w.heap.size + 1 := hb; omega))
    have k5 := Lib.hid (i5.trans (o12.below i5.size (fun x hx => hx)))
    clear i5
    clear o1 o2 o12
    gi_wp2
    generalize (V.setCell ⟨w.heap.size, 0, none⟩ (.int .i64 ((N : Int) - 1))).setCell ⟨w.heap.size + 1, 0, none⟩ (.int .i64 0) = V2 at *
    have o3 := putObj_off V2 W5.heap.size (.deferred none)
    have m1 := (k1.off o3 (by omega)).cell
    have m2 := (k2.off o3 (by omega)).cell
    have hfin : Below w.heap.size w (V2.putObj W5.heap.size (.deferred none)) := k5.out.trans (o3.below k5.out.size (fun x hx => by omega))
    refine ⟨by simp, .inl ⟨_, _, rfl, run_takeDeferred hK2, ?_⟩⟩
    refine ⟨.tuple #[.int .i64 ((N : Int) - 1), .int .i64 0], ?_, ?_, hfin⟩
    · simp [results, Try.results9, go_sem, m1, m2]
    · rw [i4.out]; rfl
  · rintro cd V ⟨rfl, e, i1, i2, i3, i5⟩ hK
    have o3 := putObj_off V W5.heap.size (.deferred none)
    have m1 := (i1.off o3 (by omega)).cell
    have m2 := (i2.off o3 (by omega)).cell
    have hfin : Below w.heap.size w (V.putObj W5.heap.size (.deferred none)) := i5.trans (o3.below i5.size (fun x hx => by omega))
    clear o3
    gi_wp2
    refine ⟨by simp, .inl ⟨_, _, rfl, run_takeDeferred hK, ?_⟩⟩
    refine ⟨.tuple #[.int .i64 0, .int .i64 e], ?_, ?_, hfin⟩
    · simp [results, Try.results9, go_sem, m1, m2]
    · rw [i3]
set_option maxRecDepth 100000 in
set_option maxHeartbeats 2000000 in
theorem moves_any (A : Option Addr) (c : Nat) (l : List (Int × Int)) (ino to_ : Int) (w : World) (hl : l.length ≤ 100000) (hc : ∀ q ∈ l, In64 q.1 ∧ In64 q.2) (hino : In64 to_) (hR : RdU w A l) (hA : ∀ a, A = some a → a.block < w.heap.size) :
    Calls Try.prog 12 #[.slice A l.length c, .int .i64 ino, .int .i64 to_] w fun e w' => e = .returned (.int .i64 (movesU ino (goUp l to_) 0)) ∧ Below w.heap.size w w' := by
  have HR := Lib.hid hR
  have HA := Lib.hid hA
  have HT := Lib.hid (show (goUp l to_).length ≤ l.length + 2 from upT_len _ _ _ _)
  clear hR hA
  refine (callsIn_wide (n := 5)).1 ?_
  have hdep : Fence.wide.depth = none := rfl
  have hfn : ∀ f, Fence.wide.fn f := fun _ => trivial
  refine callsIn_of_wp_marks Try.func12 rfl trivial ?_ rfl
  simp only [Try.ntmps12, List.size_toArray, List.length_cons, List.length_nil, Nat.reduceAdd, Nat.reduceSub, Array.replicate_succ, Array.replicate_zero, List.push_toArray, List.append_toArray, List.nil_append, List.cons_append]
  gi_wp2_with (gi_at_call 22; refine (up_in _ A l.length c to_ _).mono ?_; rintro e w' ⟨rfl, rfl⟩)
  have b4 : Box (((((w.alloc (.cells #[.int .i64 ino] 3)).alloc (.cells #[.int .i64 0] 24)).alloc (.cells #[.int .i64 0] 24)).alloc (.cells #[.slice A l.length c] 27)).alloc (.cells #[.int .i64 to_] 3)) w.heap.size (.int .i64 ino) 3 := ((((box_new w _ _ rfl).alloc _).alloc _).alloc _).alloc _
  have b5 : Box (((((w.alloc (.cells #[.int .i64 ino] 3)).alloc (.cells #[.int .i64 0] 24)).alloc (.cells #[.int .i64 0] 24)).alloc (.cells #[.slice A l.length c] 27)).alloc (.cells #[.int .i64 to_] 3)) (w.heap.size + 1) (.int .i64 0) 24 := (((box_new _ _ _ (by simp)).alloc _).alloc _).alloc _
  have b6 : Box (((((w.alloc (.cells #[.int .i64 ino] 3)).alloc (.cells #[.int .i64 0] 24)).alloc (.cells #[.int .i64 0] 24)).alloc (.cells #[.slice A l.length c] 27)).alloc (.cells #[.int .i64 to_] 3)) (w.heap.size + 1 + 1) (.int .i64 0) 24 := ((box_new _ _ _ (by simp)).alloc _).alloc _
  have b7 : Box (((((w.alloc (.cells #[.int .i64 ino] 3)).alloc (.cells #[.int .i64 0] 24)).alloc (.cells #[.int .i64 0] 24)).alloc (.cells #[.slice A l.length c] 27)).alloc (.cells #[.int .i64 to_] 3)) (w.heap.size + 1 + 1 + 1) (.slice A l.length c) 27 := (box_new _ _ _ (by simp)).alloc _
  have b8 : Box (((((w.alloc (.cells #[.int .i64 ino] 3)).alloc (.cells #[.int .i64 0] 24)).alloc (.cells #[.int .i64 0] 24)).alloc (.cells #[.slice A l.length c] 27)).alloc (.cells #[.int .i64 to_] 3)) (w.heap.size + 1 + 1 + 1 + 1) (.int .i64 to_) 3 := box_new _ _ _ (by simp)
  have hb5 : Below w.heap.size w (((((w.alloc (.cells #[.int .i64 ino] 3)).alloc (.cells #[.int .i64 0] 24)).alloc (.cells #[.int .i64 0] 24)).alloc (.cells #[.slice A l.length c] 27)).alloc (.cells #[.int .i64 to_] 3)) := (((((Below.refl _ _).alloc (Nat.le_refl _) _).alloc (by simp) _).alloc (by simp; omega) _).alloc (by simp; omega) _).alloc (by simp; omega) _
  have hz5 : (((((w.alloc (.cells #[.int .i64 ino] 3)).alloc (.cells #[.int .i64 0] 24)).alloc (.cells #[.int .i64 0] 24)).alloc (.cells #[.slice A l.length c] 27)).alloc (.cells #[.int .i64 to_] 3)).heap.size = w.heap.size + 5 := by simp
  generalize (((((w.alloc (.cells #[.int .i64 ino] 3)).alloc (.cells #[.int .i64 0] 24)).alloc (.cells #[.int .i64 0] 24)).alloc (.cells #[.slice A l.length c] 27)).alloc (.cells #[.int .i64 to_] 3)) = W5 at *
  have HZ := Lib.hid hz5
  have hz5' : w.heap.size + 5 ≤ W5.heap.size := by omega
  have hz5'' : W5.heap.size ≤ w.heap.size + 5 := by omega
  clear hz5
  refine range_own (gf := 29) (lb := #[.pointer (some ⟨w.heap.size + 1 + 1 + 1, 0, none⟩), .pointer (some ⟨w.heap.size + 1 + 1 + 1 + 1, 0, none⟩)]) rfl (enters_of Try.func29 (by kernel_rfl) rfl)
    (fun b => b = w.heap.size + 1 + 1 + 1 + 1 ∨ W5.heap.size + 2 ≤ b) (fun b => w.heap.size ≤ b ∧ b < w.heap.size + 3) (goUp l to_).length (upArgs (goUp l to_)) ⟨by omega, by omega⟩ (fun b hb => by omega) (fun _ => rfl)
    (up1_gives (5 - 1) A c l to_ (w.heap.size + 1 + 1 + 1) (w.heap.size + 1 + 1 + 1 + 1) _ W5 hl hc hino b7.cell b8.cell b8.frozen (HR.out.below hb5) (by omega) (by omega) (fun a ha => by have := HA.out a ha; omega) (fun b hb => by omega) (by omega))
    (fun k V => ∃ r : Int, Box V w.heap.size (.int .i64 ino) 3 ∧ Box V (w.heap.size + 1) (.int .i64 0) 24 ∧ Box V (w.heap.size + 1 + 1) (.int .i64 r) 24 ∧ movesU ino (goUp l to_) 0 = movesU ino ((goUp l to_).drop k) r ∧ Below w.heap.size w V)
    (fun c V => c = .ret ∧ ∃ e : Int, Box V (w.heap.size + 1) (.int .i64 e) 24 ∧ movesU ino (goUp l to_) 0 = e ∧ Below w.heap.size w V)
    ?_ ?_ ⟨0, b4, b5, b6, rfl, hb5⟩ ?_ ?_ ?_
  · rintro k V V' ⟨r, i1, i2, i3, i4, i5⟩ ho
    exact ⟨r, i1.off ho (by omega), i2.off ho (by omega), i3.off ho (by omega), i4, i5.trans (ho.below i5.size (fun x hx => by omega))⟩
  · rintro cd V V' ⟨rfl, e, i2, i3, i5⟩ ho
    exact ⟨rfl, e, i2.off ho (by omega), i3, i5.trans (ho.below i5.size (fun x hx => by omega))⟩
  · rintro k V hk ⟨r, i1, i2, i3, i4, i5⟩ hsz
    have hd := drop_at (goUp l to_) k (0, 0) hk
    unfold upArgs
    rw [hd] at i4
    generalize (goUp l to_).getD k (0, 0) = q at *
    obtain ⟨x, e⟩ := q
    replace i4 := Lib.hid i4
    replace hd := Lib.hid hd
    have HI5 := Lib.hid i5
    clear i5 b4 b5 b6 b7 b8 hb5
    gi_wp2
    refine ⟨Off.refl _ _, fun W₂ ho2 => ?_⟩
    have j1 := i1.off ho2 (by omega)
    have j2 := i2.off ho2 (by omega)
    have j3 := i3.off ho2 (by omega)
    have j5 := Lib.hid (HI5.out.trans (ho2.below HI5.out.size (fun x hx => by omega)))
    clear ho2 i1 i2 i3
    have c1 := j1.cell
    have c2 := j2.cell
    have c3 := j3.cell
    have f2 := j2.frozen
    have f3 := j3.frozen
    by_cases he : e = 0
    · subst he
      by_cases hx : x = ino
      · subst hx
        have o3 := setCell_off W₂ ⟨w.heap.size + 1 + 1, 0, none⟩ (.int .i64 58)
        have k1 := Lib.hid (j1.off o3 (by show ¬ w.heap.size = w.heap.size + 1 + 1; omega))
        have k2 := Lib.hid (j2.off o3 (by show ¬ w.heap.size + 1 = w.heap.size + 1 + 1; omega))
        have k3 := Lib.hid (j3.set (.int .i64 58))
        have k5 := Lib.hid (j5.out.trans (o3.below j5.out.size (fun x hx => by have : x = w.heap.size + 1 + 1 := hx; omega)))
        have k6 := Lib.hid (o3.mono (O' := fun b => w.heap.size ≤ b ∧ b < w.heap.size + 3) (fun b _ hb => by have : b = w.heap.size + 1 + 1 := hb; omega))
        clear o3
        gi_wp2
        refine ⟨k6.out, 58, k1.out, k2.out, k3.out, ?_, k5.out⟩
        rw [i4.out]
        show (if (0 : Int) = 0 then movesU x _ (if x = x then 58 else r) else _) = _
        rw [if_pos rfl, if_pos rfl]
      · have hxB : (x == ino) = false := by simpa using hx
        have k1 := Lib.hid j1
        have k2 := Lib.hid j2
        have k3 := Lib.hid j3
        clear j1 j2 j3
        gi_wp2
        refine ⟨Off.refl _ _, r, k1.out, k2.out, k3.out, ?_, j5.out⟩
        rw [i4.out]
        show (if (0 : Int) = 0 then movesU ino _ (if x = ino then 58 else r) else _) = _
        rw [if_pos rfl, if_neg hx]
    · have he' : (e != 0) = true := by simpa using he
      have o2 := setCell_off W₂ ⟨w.heap.size + 1, 0, none⟩ (.int .i64 e)
      have k2 := Lib.hid (j2.set (.int .i64 e))
      have k6 := Lib.hid (o2.mono (O' := fun b => w.heap.size ≤ b ∧ b < w.heap.size + 3) (fun b _ hb => by have : b = w.heap.size + 1 := hb; omega))
      have k5 := Lib.hid (j5.out.trans (k6.out.below j5.out.size (fun x hx => hx.1)))
      clear o2
      gi_wp2
      refine ⟨k6.out, rfl, e, k2.out, ?_, k5.out⟩
      rw [i4.out]
      show (if e = 0 then _ else _) = _
      rw [if_neg he]
  · rintro V ⟨r, i1, i2, i3, i4, i5⟩ hK
    have c3 := i3.cell
    have c2 := i2.cell
    have f2 := i2.frozen
    rw [List.drop_length] at i4
    replace i4 := Lib.hid i4
    have o2 := setCell_off V ⟨w.heap.size + 1, 0, none⟩ (.int .i64 r)
    have hK2 := (o2.obj hK (by show ¬ W5.heap.size = w.heap.size + 1; omega))
    have k2 := i2.set (.int .i64 r)
    have k5 := Lib.hid (i5.trans (o2.below i5.size (fun x hx => by have : x = w.heap.size + 1 := hx; omega)))
    clear i5 o2
    gi_wp2
    generalize V.setCell ⟨w.heap.size + 1, 0, none⟩ (.int .i64 r) = V2 at *
    have o3 := putObj_off V2 W5.heap.size (.deferred none)
    have m2 := (k2.off o3 (by omega)).cell
    have hfin : Below w.heap.size w (V2.putObj W5.heap.size (.deferred none)) := k5.out.trans (o3.below k5.out.size (fun x hx => by omega))
    refine ⟨by simp, .inl ⟨_, _, rfl, run_takeDeferred hK2, ?_⟩⟩
    refine ⟨.int .i64 r, ?_, ?_, hfin⟩
    · simp [results, Try.results12, go_sem, m2]
    · rw [i4.out]; rfl
  · rintro cd V ⟨rfl, e, i2, i3, i5⟩ hK
    have o3 := putObj_off V W5.heap.size (.deferred none)
    have m2 := (i2.off o3 (by omega)).cell
    have hfin : Below w.heap.size w (V.putObj W5.heap.size (.deferred none)) := i5.trans (o3.below i5.size (fun x hx => by omega))
    clear o3
    gi_wp2
    refine ⟨by simp, .inl ⟨_, _, rfl, run_takeDeferred hK, ?_⟩⟩
    refine ⟨.int .i64 e, ?_, ?_, hfin⟩
    · simp [results, Try.results12, go_sem, m2]
    · rw [i3]
end Go.Proofs.Ytajopaljiondlaa
