/- LAYER 24: going up, as plain lists; the walk of up's function. -/
import Derived.Test.YtajopaljiondlaaB
set_option linter.unusedVariables false
namespace Go.Proofs.Ytajopaljiondlaa
open Go.RowKit Go.ChangeShapes Go.WideShapes Go.ChangeAt Go.Shelf
attribute [local go_sem] Oper.semAt_some

/-- The parent that a chain tells: its first entry. -/
def parL : List (Int × Int) → Int → Option Int
  | [], _ => none
  | q :: l, x => if x = q.1 then some q.2 else parL l x
/-- What is wrong at a directory. -/
def codeU (par : Int → Option Int) (seen : List Int) (x : Int) : Int := if x ∈ seen then 50 else if (par x).isSome then 0 else 5
/-- What going up tells. -/
def upT (par : Int → Option Int) : Nat → List Int → Int → List (Int × Int)
  | 0, _, _ => []
  | f + 1, seen, x => (x, codeU par seen x) :: (if codeU par seen x ≠ 0 ∨ par x = some x then [] else upT par f (x :: seen) ((par x).getD 0))
theorem nodup_le : ∀ (s t : List Int), s.Nodup → (∀ x ∈ s, x ∈ t) → s.length ≤ t.length
  | [], t, _, _ => Nat.zero_le _
  | x :: s, t, hn, h => by
    have hx := h x (List.mem_cons_self ..)
    rw [List.nodup_cons] at hn
    have ih := nodup_le s (t.erase x) hn.2 (fun y hy => (List.mem_erase_of_ne (fun e => hn.1 (by rw [← e]; exact hy))).2 (h y (List.mem_cons_of_mem _ hy)))
    rw [List.length_erase_of_mem hx] at ih
    have := List.length_pos_of_mem hx
    simp only [List.length_cons]
    omega
theorem parL_mem : ∀ (l : List (Int × Int)) (x : Int), (parL l x).isSome = true → x ∈ l.map (·.1)
  | [], x, h => by simp [parL] at h
  | q :: l, x, h => by
    unfold parL at h
    split at h
    · rename_i e
      simp [e]
    · have := parL_mem l x h
      simp only [List.map_cons, List.mem_cons]
      exact .inr this
theorem parL_in (l : List (Int × Int)) (hl : ∀ q ∈ l, In64 q.1 ∧ In64 q.2) : ∀ (x p : Int), parL l x = some p → In64 p := by
  induction l with
  | nil => intro x p h; simp [parL] at h
  | cons q l ih =>
    intro x p h
    unfold parL at h
    split at h
    · simp at h
      subst h
      exact (hl q (List.mem_cons_self ..)).2
    · exact ih (fun q hq => hl q (List.mem_cons_of_mem _ hq)) x p h
/-- How far going up may go. -/
theorem seen_le (l : List (Int × Int)) (seen : List Int) (hn : seen.Nodup) (h : ∀ y ∈ seen, (parL l y).isSome = true) : seen.length ≤ l.length := by
  have := nodup_le seen (l.map (·.1)) hn (fun x hx => parL_mem l x (h x hx))
  simpa using this

set_option maxHeartbeats 1000000 in
theorem backward_in (n : Nat) (A : Option Addr) (len c : Nat) (w : World) :
    CallsIn Fence.wide n Try.prog 30 #[.slice A len c] w fun e w' => e = .returned (.func (.func 38) #[] #[.pointer (some ⟨w.heap.size, 0, none⟩)]) ∧ w' = w.alloc (.cells #[.slice A len c] 27) := by
  refine callsIn_of_wp Try.func30 rfl trivial ?_ rfl
  simp only [Try.ntmps30, List.size_toArray, List.length_cons, List.length_nil, Nat.reduceAdd, Nat.reduceSub, Array.replicate_succ, Array.replicate_zero, List.push_toArray, List.append_toArray, List.nil_append, List.cons_append]
  gi_wp2
  go_ret
  exact ⟨rfl, rfl⟩
theorem frozen_off {O : Nat → Prop} {w w' : World} {b i : Nat} (ho : Off O w w') (hb : b < w.heap.size) (hn : ¬ O b) (h : w.frozen? ⟨b, i, none⟩ = false) : w'.frozen? ⟨b, i, none⟩ = false := by
  have := ho.block b hb hn
  unfold World.frozen? at h ⊢
  rw [show w'.heap[(⟨b, i, none⟩ : Addr).block]? = w.heap[(⟨b, i, none⟩ : Addr).block]? from this]
  exact h
theorem drop_head {α : Type} {T R : List α} {y d : α} {k : Nat} (h : T.drop k = y :: R) : k < T.length ∧ T.getD k d = y ∧ T.drop (k + 1) = R ∧ (R = [] → T.length = k + 1) := by
  have hk : k < T.length := by
    rcases Nat.lt_or_ge k T.length with h1 | h1
    · exact h1
    · rw [List.drop_eq_nil_of_le h1] at h; cases h
  rw [List.drop_eq_getElem_cons hk] at h
  simp only [List.cons.injEq] at h
  refine ⟨hk, by rw [List.getD_eq_getElem?_getD, List.getElem?_eq_getElem hk]; exact h.1, h.2, fun hR => ?_⟩
  have h2 := h.2
  rw [hR] at h2
  have := List.drop_eq_nil_iff.1 h2
  omega
/-- At the head of the loop that goes up. -/
structure UHead (l : List (Int × Int)) (ino : Int) (bm bs b4 Bi D2 : Nat) (J : Nat → World → Prop) (k : Nat) (seen : List Int) (x : Int) (f : Int → Option Int) (wr : World) : Prop where
  tr : (upT (parL l) (l.length + 2) [] ino).drop k = upT (parL l) (l.length + 2 - k) seen x
  nd : seen.Nodup
  len : seen.length = k
  has : ∀ y ∈ seen, (parL l y).isSome = true
  rng : In64 x
  pm : PMap wr bm l.length (parL l)
  sm : PMap wr bs k f
  fs : ∀ y, (f y).isSome = decide (y ∈ seen)
  c4 : wr.cell? ⟨b4, 0, none⟩ = some (.map (some bm))
  ci : wr.cell? ⟨Bi, 0, none⟩ = some (.int .i64 x)
  fi : wr.frozen? ⟨Bi, 0, none⟩ = false
  j : J k wr
  dd : wr.heap[D2]? = some (.deferred (some []))
/-- The rounds' arguments. -/
def upArgs (T : List (Int × Int)) (k : Nat) : Array Value := #[.int .i64 (T.getD k (0, 0)).1, .int .i64 (T.getD k (0, 0)).2]
set_option maxRecDepth 100000 in
set_option maxHeartbeats 2000000 in
theorem up1_gives (n : Nat) (A : Option Addr) (c : Nat) (l : List (Int × Int)) (ino : Int) (Bl Bi : Nat) (Bod : Nat → Prop) (w : World) (hl : l.length ≤ 100000) (hc : ∀ q ∈ l, In64 q.1 ∧ In64 q.2) (hino : In64 ino)
    (hBl : w.cell? ⟨Bl, 0, none⟩ = some (.slice A l.length c)) (hBi : w.cell? ⟨Bi, 0, none⟩ = some (.int .i64 ino)) (hfi : w.frozen? ⟨Bi, 0, none⟩ = false) (hR : RdU w A l)
    (hb1 : ¬ Bod Bl) (hb2 : ¬ Bod Bi) (hb3 : ∀ a, A = some a → ¬ Bod a.block ∧ a.block < w.heap.size ∧ a.block ≠ Bi) (hb4 : ∀ b, Bod b → b < w.heap.size) (hb5 : Bl ≠ Bi) :
    Gives n Try.prog 29 #[.pointer (some ⟨Bl, 0, none⟩), .pointer (some ⟨Bi, 0, none⟩)] (fun b => b = Bi ∨ w.heap.size + 2 ≤ b) Bod (upT (parL l) (l.length + 2) [] ino).length (upArgs (upT (parL l) (l.length + 2) [] ino)) w := by
  intro rec J Jx W hW hWz hrec hJ hJx hY h0
  have hmm := @run_makeMap Try.prog
  have hBl1 := keep1 hW hBl
  have hBi1 := keep1 hW hBi
  have hfi1 : W.frozen? ⟨Bi, 0, none⟩ = false := (hW.frozen (p := ⟨Bi, 0, none⟩) (World.block_lt_of_cell? w _ hBi)).trans hfi
  have HR := Lib.hid (hR.below hW)
  have hBlt := World.block_lt_of_cell? W _ hBl1
  have hBit := World.block_lt_of_cell? W _ hBi1
  have hBiw := World.block_lt_of_cell? w _ hBi
  have HW := Lib.hid (And.intro hW (And.intro hWz hrec))
  have HJ := Lib.hid hJ
  have HJx := Lib.hid hJx
  have HY := Lib.hid hY
  have H3 := Lib.hid (And.intro hb3 hb4)
  have HC := Lib.hid hc
  clear hW hWz hrec hJ hJx hY hb3 hb4 hBl hBi hfi hR hc
  refine callsIn_of_wp_marks Try.func29 rfl trivial ?_ rfl
  simp only [Try.ntmps29, List.size_toArray, List.length_cons, List.length_nil, Nat.reduceAdd, Nat.reduceSub, Array.replicate_succ, Array.replicate_zero, List.push_toArray, List.append_toArray, List.nil_append, List.cons_append]
  have hdep : Fence.wide.depth = none := rfl
  have hfn : ∀ f, Fence.wide.fn f := fun _ => trivial
  gi_wp2_with (gi_at_call 30; refine (backward_in (n - 1) A l.length c _).mono ?_; rintro e w' ⟨rfl, rfl⟩)
  have hm0 : PMap (W.alloc (.map #[] 0)) W.heap.size 0 (fun _ => none) := pmap_made W
  have c40 : ((W.alloc (.map #[] 0)).alloc (.cells #[.map (some W.heap.size)] 58)).cell? ⟨W.heap.size + 1, 0, none⟩ = some (.map (some W.heap.size)) := by
    have := World.cell?_alloc_new (W.alloc (.map #[] 0)) #[.map (some W.heap.size)] 58 0
    rwa [World.size_alloc] at this
  have c27 : (((W.alloc (.map #[] 0)).alloc (.cells #[.map (some W.heap.size)] 58)).alloc (.cells #[.slice A l.length c] 27)).cell? ⟨W.heap.size + 1 + 1, 0, none⟩ = some (.slice A l.length c) := by
    have := World.cell?_alloc_new ((W.alloc (.map #[] 0)).alloc (.cells #[.map (some W.heap.size)] 58)) #[.slice A l.length c] 27 0
    rwa [World.size_alloc, World.size_alloc] at this
  have bA : Below W.heap.size W (W.alloc (.map #[] 0)) := (Below.refl _ _).alloc (Nat.le_refl _) _
  have bB : Below (W.alloc (.map #[] 0)).heap.size (W.alloc (.map #[] 0)) ((W.alloc (.map #[] 0)).alloc (.cells #[.map (some W.heap.size)] 58)) := (Below.refl _ _).alloc (Nat.le_refl _) _
  have bC : Below ((W.alloc (.map #[] 0)).alloc (.cells #[.map (some W.heap.size)] 58)).heap.size ((W.alloc (.map #[] 0)).alloc (.cells #[.map (some W.heap.size)] 58)) (((W.alloc (.map #[] 0)).alloc (.cells #[.map (some W.heap.size)] 58)).alloc (.cells #[.slice A l.length c] 27)) := (Below.refl _ _).alloc (Nat.le_refl _) _
  have hm5 := (hm0.off (Off.of_below (fun _ => False) bB) (fun h => h)).off (Off.of_below (fun _ => False) bC) (fun h => h)
  have c45 := keep1 bC c40
  have bW : Below W.heap.size W (((W.alloc (.map #[] 0)).alloc (.cells #[.map (some W.heap.size)] 58)).alloc (.cells #[.slice A l.length c] 27)) := (bA.trans (bB.mono (by simp))).trans (bC.mono (by simp; omega))
  have hz5 : (((W.alloc (.map #[] 0)).alloc (.cells #[.map (some W.heap.size)] 58)).alloc (.cells #[.slice A l.length c] 27)).heap.size = W.heap.size + 1 + 1 + 1 := by simp
  clear hm0 c40 bA bB bC hmm
  generalize (((W.alloc (.map #[] 0)).alloc (.cells #[.map (some W.heap.size)] 58)).alloc (.cells #[.slice A l.length c] 27)) = W5 at *
  have cBi5 := keep1 bW hBi1
  have fBi5 : W5.frozen? ⟨Bi, 0, none⟩ = false := (bW.frozen (p := ⟨Bi, 0, none⟩) hBit).trans hfi1
  have HR5 := Lib.hid (HR.out.below bW)
  have hWz : w.heap.size + 2 = W.heap.size := HW.out.2.1.symm
  have J5 : J 0 W5 := HJ.out 0 _ _ h0 (Off.of_below _ bW)
  replace J5 := Lib.hid J5
  have HA : ∀ a, A = some a → a.block ≠ W.heap.size ∧ a.block < W5.heap.size := fun a ha => by have := H3.out.1 a ha; omega
  replace HA := Lib.hid HA
  have hz5' : W.heap.size + 3 ≤ W5.heap.size := by omega
  have HZ := Lib.hid (And.intro hWz hz5)
  have hdone5 := hm5
  clear hz5 hWz bW h0 hBl1 hBi1 hfi1
  refine range_own (gf := 38) (lb := #[.pointer (some ⟨W.heap.size + 1 + 1, 0, none⟩)]) rfl (enters_of Try.func38 (by kernel_rfl) rfl)
    (fun _ => False) (fun b => b = W.heap.size) l.length (backArgs l) ⟨fun h => h, fun h => h⟩ (fun b hb => by subst hb; omega) (fun _ => rfl)
    (back_gives (n - 1) A c l (W.heap.size + 1 + 1) _ W5 (by omega) c27 HR5.out (by omega) (fun a ha => (HA.out a ha)))
    (fun k V => PMap V W.heap.size k (parL (l.drop (l.length - k))) ∧ V.cell? ⟨W.heap.size + 1, 0, none⟩ = some (.map (some W.heap.size)) ∧ V.cell? ⟨Bi, 0, none⟩ = some (.int .i64 ino) ∧ V.frozen? ⟨Bi, 0, none⟩ = false ∧ J 0 V ∧ W5.heap.size ≤ V.heap.size)
    (fun _ _ => False) ?_ (fun _ _ _ h _ => h) ⟨by simpa [parL] using hm5, c45, cBi5, fBi5, J5.out, Nat.le_refl _⟩ ?_ ?_ (fun _ _ h _ => h.elim)
  · rintro k V V' ⟨i1, i2, i3, i4, i5, i6⟩ ho
    have hne : ∀ b, b < W5.heap.size → ¬ (False ∨ b = W5.heap.size + 1) := fun b hb h => by rcases h with h | h; exact h; omega
    refine ⟨i1.off ho (hne _ (by omega)), ho.cell i2 (hne _ (by show W.heap.size + 1 < _; omega)), ho.cell i3 (hne _ (by show Bi < _; omega)), ?_, HJ.out 0 _ _ i5 (ho.mono fun b _ hb => by rcases hb with hb | hb; exact hb.elim; have := HZ.out.1; omega), Nat.le_trans i6 ho.size⟩
    have hb := ho.block Bi (World.block_lt_of_cell? V _ i3) (hne _ (by omega))
    unfold World.frozen? at i4 ⊢
    rw [show V'.heap[(⟨Bi, 0, none⟩ : Addr).block]? = V.heap[(⟨Bi, 0, none⟩ : Addr).block]? from hb]
    exact i4
  · rintro k V hk ⟨i1, i2, i3, i4, i5, i6⟩ hsz
    obtain ⟨j, hj⟩ : ∃ j : Nat, l.length - 1 - k = j := ⟨_, rfl⟩
    have hjl : j < l.length := by omega
    have hdrop : parL (l.drop (l.length - (k + 1))) = fun y => if y = l[j].1 then some l[j].2 else parL (l.drop (l.length - k)) y := by
      rw [show l.length - (k + 1) = j from by omega, List.drop_eq_getElem_cons hjl, show j + 1 = l.length - k from by omega]
      funext y
      rfl
    obtain ⟨hq1, hq2⟩ := HC.out l[j] (List.getElem_mem hjl)
    unfold backArgs
    rw [hj, List.getD_eq_getElem?_getD, List.getElem?_eq_getElem hjl]
    simp only [Option.getD_some]
    generalize l[j].1 = a at *
    generalize l[j].2 = p at *
    replace hdrop := Lib.hid hdrop
    have HI1 := Lib.hid i1
    have HI5 := Lib.hid i5
    replace hj := Lib.hid hj
    clear i1 i5 hdone5 hm5
    gi_wp2
    refine ⟨(Off.refl _ _).alloc _, fun W₂ ho2 => ?_⟩
    have hne : ∀ b, b < W5.heap.size → ¬ b = W5.heap.size + 1 := fun b hb h => by omega
    have bV : Below V.heap.size V (V.alloc (.cells #[.int .i64 a, .int .i64 p] 34)) := (Below.refl _ _).alloc (Nat.le_refl _) _
    have x0 : (V.alloc (.cells #[.int .i64 a, .int .i64 p] 34)).cell? ⟨V.heap.size, 0, none⟩ = some (.int .i64 a) := by rw [World.cell?_alloc_new]; rfl
    have x1 : (V.alloc (.cells #[.int .i64 a, .int .i64 p] 34)).cell? ⟨V.heap.size, 1, none⟩ = some (.int .i64 p) := by rw [World.cell?_alloc_new]; rfl
    have y0 := ho2.cell x0 (by show ¬ V.heap.size = W5.heap.size + 1; omega)
    have y1 := ho2.cell x1 (by show ¬ V.heap.size = W5.heap.size + 1; omega)
    have y2 := ho2.cell (keep1 bV i2) (hne _ (by show W.heap.size + 1 < _; omega))
    have y3 := ho2.cell (keep1 bV i3) (hne _ (by show Bi < _; omega))
    have oV := (Off.of_below (fun b => b = W5.heap.size + 1) bV).trans ho2
    have y4 : W₂.frozen? ⟨Bi, 0, none⟩ = false := by
      have hb := oV.block Bi (World.block_lt_of_cell? V _ i3) (hne _ (by omega))
      unfold World.frozen? at i4 ⊢
      rw [show W₂.heap[(⟨Bi, 0, none⟩ : Addr).block]? = V.heap[(⟨Bi, 0, none⟩ : Addr).block]? from hb]
      exact i4
    have y5 := HJ.out 0 _ _ HI5.out (oV.mono fun b _ hb => by have := HZ.out.1; omega)
    have m2 := HI1.out.off oV (hne _ (by omega))
    have hz2 := oV.size
    replace y5 := Lib.hid y5
    obtain ⟨W3, hup, m3, o3⟩ := m2.put a p hq1 hq2 (by omega)
    have P3 := Lib.hid (show PMap W3 W.heap.size (k + 1) (parL (l.drop (l.length - (k + 1)))) from by rw [hdrop.out]; exact m3)
    have O3 := Lib.hid o3
    have z2 := o3.cell y2 (by show ¬ W.heap.size + 1 = W.heap.size; omega)
    have z3 := o3.cell y3 (by show ¬ Bi = W.heap.size; omega)
    have z4 : W3.frozen? ⟨Bi, 0, none⟩ = false := by
      have hb := o3.block Bi (World.block_lt_of_cell? W₂ _ y3) (by omega)
      unfold World.frozen? at y4 ⊢
      rw [show W3.heap[(⟨Bi, 0, none⟩ : Addr).block]? = W₂.heap[(⟨Bi, 0, none⟩ : Addr).block]? from hb]
      exact y4
    have z5 := Lib.hid (HJ.out 0 _ _ y5.out (o3.mono fun b _ hb => by have := HZ.out.1; omega))
    have hz3 := o3.size
    clear m2 m3 o3 x0 x1 bV ho2 oV i2 i3 i4
    gi_wp2
    exact ⟨O3.out, P3.out, z2, z3, z4, z5.out, by omega⟩
  · rintro V ⟨i1, i2, i3, i4, i5, i6⟩ hK
    rw [Nat.sub_self, List.drop_zero] at i1
    have hmm := @run_makeMap Try.prog
    have bV : Below V.heap.size V (V.alloc (.map #[] 0)) := (Below.refl _ _).alloc (Nat.le_refl _) _
    have H0 := Lib.hid (show UHead l ino W.heap.size V.heap.size (W.heap.size + 1) Bi W5.heap.size J 0 [] ino (fun _ => none) (V.alloc (.map #[] 0)) from
      ⟨by simp, List.nodup_nil, rfl, fun y hy => by simp at hy, hino, i1.off (Off.of_below (fun _ => False) bV) (fun h => h), pmap_made V, fun y => by simp, keep1 bV i2, keep1 bV i3, frozen_off (Off.of_below (fun _ => False) bV) (World.block_lt_of_cell? V _ i3) (fun h => h) i4,
        HJ.out 0 _ _ i5 (Off.of_below _ bV), (Off.of_below (fun _ => False) bV).obj hK (fun h => h)⟩)
    obtain ⟨bs, hbs⟩ : ∃ bs, V.heap.size = bs := ⟨_, rfl⟩
    rw [hbs] at H0
    have hDb : W5.heap.size < bs := by rw [← hbs]; exact (Array.getElem?_eq_some_iff.1 hK).1
    replace hbs := Lib.hid hbs
    clear i1 i2 i3 i4 i5 i6 hK bV hdone5 hm5
    gi_wp2
    rw [hbs.out]
    clear hmm
    gi_loopw [8] (fun n wr => ∃ k seen x f, n = .int .i64 (k : Nat) ∧ UHead l ino W.heap.size bs (W.heap.size + 1) Bi W5.heap.size J k seen x f wr) (fun n _ => l.length + 2 - (intOf n).toNat)
    case atStart => exact ⟨0, [], ino, _, rfl, H0.out⟩
    case round =>
      obtain ⟨k, seen, x, f, rfl, hu⟩ := hrel
      have hkl : k ≤ l.length := by have := seen_le l seen hu.nd hu.has; rw [hu.len] at this; exact this
      obtain ⟨tr, nd, len, has, rng, pm, sm, fs, c4, ci, fi, j, dd⟩ := hu
      have look1 := pm.look x rng
      have look2 := sm.look x rng
      rw [fs x] at look2
      generalize (f x).getD 0 = q0 at look2
      obtain ⟨w3, hup, sm3, o3⟩ := sm.put x k rng ⟨by omega, by omega⟩ (by omega)
      have hrw := HW.out.2
      have hnb : ∀ b, b < bs → ¬ b = bs := fun b hb h => by omega
      have hno : ∀ b, W.heap.size ≤ b → ¬ (Bod b ∨ b = rec) := fun b hb h => h.elim (fun h => by have := H3.out.2 b h; omega) (fun h => by omega)
      have hnoBi : ¬ (Bod Bi ∨ Bi = rec) := fun h => h.elim hb2 (fun h => by omega)
      have fs3 : ∀ y, (if y = x then some (k : Int) else f y).isSome = decide (y ∈ x :: seen) := fun y => by
        by_cases hy : y = x
        · rw [if_pos hy]; simp [hy]
        · rw [if_neg hy, fs y]; simp [hy]
      have pm3 := pm.off o3 (hnb _ (by omega))
      have e4 := o3.cell c4 (hnb _ (by show W.heap.size + 1 < bs; omega))
      have ei := o3.cell ci (hnb _ (by show Bi < bs; omega))
      have efi := frozen_off (b := Bi) o3 (World.block_lt_of_cell? wr _ ci) (hnb Bi (by omega)) fi
      have j3 := HJ.out k _ _ j (o3.mono fun b _ hb => by omega)
      have d3 := o3.obj dd (hnb _ hDb)
      have htr := tr
      rw [show l.length + 2 - k = (l.length + 1 - k) + 1 from by omega] at htr
      obtain ⟨hkT, hgT, hdT, hlT⟩ := drop_head (d := ((0 : Int), (0 : Int))) (show _ = (x, codeU (parL l) seen x) :: _ from htr)
      have HYk := HY.out k w3 hkT j3
      unfold upArgs at HYk
      rw [hgT] at HYk
      have hparIn := parL_in l HC.out x
      have rng' := rng
      replace rng := Lib.hid rng
      replace hno := Lib.hid hno
      replace nd := Lib.hid nd
      replace len := Lib.hid len
      replace has := Lib.hid has
      replace fs3 := Lib.hid fs3
      replace pm3 := Lib.hid pm3
      replace sm3 := Lib.hid sm3
      replace j3 := Lib.hid j3
      replace d3 := Lib.hid d3
      replace hparIn := Lib.hid hparIn
      replace htr := Lib.hid htr
      clear tr pm sm fs j dd o3 hnb hrw rng' hgT
      by_cases hs : x ∈ seen
      · have hE : codeU (parL l) seen x = 50 := by unfold codeU; rw [if_pos hs]
        rw [hE] at HYk hlT hdT
        rw [decide_eq_true hs] at look2
        rw [has.out x hs] at look1
        generalize (parL l x).getD 0 = p at look1
        replace hE := Lib.hid hE
        replace hs := Lib.hid hs
        obtain ⟨fn, tmps, assign, body, hy, hround⟩ := HYk
        replace hround := Lib.hid hround
        have hTl := Lib.hid (hlT (by first | rw [if_pos (.inl (by decide))] | rw [if_pos (.inr (by first | assumption | rfl))]))
        clear hlT hdT
        gi_wp2
        refine hround.out.mono ?_
        rintro e W4 (⟨rfl, hJ4, ho4⟩ | ⟨rfl, hJx4, ho4⟩)
        · have d4 := ho4.obj d3.out (hno.out _ (by omega))
          have g4 := ho4.cell ei hnoBi
          rw [← hTl.out] at hJ4
          replace hJ4 := Lib.hid (HJ.out _ _ _ hJ4 ((putObj_off W4 W5.heap.size (.deferred none)).mono fun b _ hb => by have := HZ.out.1; omega))
          clear ho4
          gi_wp2
          refine ⟨by simp, .inl ⟨_, _, rfl, run_takeDeferred d4, ?_⟩⟩
          exact ⟨_, results_none rfl _ _ _, ⟨_, rfl⟩, .inl hJ4.out⟩
        · have d4 := ho4.obj d3.out (hno.out _ (by omega))
          replace hJx4 := Lib.hid (HJx.out _ _ hJx4 ((putObj_off W4 W5.heap.size (.deferred none)).mono fun b _ hb => by have := HZ.out.1; omega))
          clear ho4
          gi_wp2
          refine ⟨by simp, .inl ⟨_, _, rfl, run_takeDeferred d4, ?_⟩⟩
          exact ⟨_, results_none rfl _ _ _, ⟨_, rfl⟩, .inr hJx4.out⟩
      · have hpx : parL l x = parL l x := rfl
        rw [decide_eq_false hs] at look2
        cases hp : parL l x with
        | none =>
          have hE : codeU (parL l) seen x = 5 := by unfold codeU; rw [if_neg hs, hp]; rfl
          rw [hE] at HYk hlT hdT
          rw [hp] at look1
          simp only [Option.getD_none, Option.isSome_none] at look1
          replace hE := Lib.hid hE
          replace hs := Lib.hid hs
          obtain ⟨fn, tmps, assign, body, hy, hround⟩ := HYk
          replace hround := Lib.hid hround
          have hTl := Lib.hid (hlT (by first | rw [if_pos (.inl (by decide))] | rw [if_pos (.inr (by first | assumption | rfl))]))
          clear hlT hdT
          gi_wp2
          refine hround.out.mono ?_
          rintro e W4 (⟨rfl, hJ4, ho4⟩ | ⟨rfl, hJx4, ho4⟩)
          · have d4 := ho4.obj d3.out (hno.out _ (by omega))
            have g4 := ho4.cell ei hnoBi
            rw [← hTl.out] at hJ4
            replace hJ4 := Lib.hid (HJ.out _ _ _ hJ4 ((putObj_off W4 W5.heap.size (.deferred none)).mono fun b _ hb => by have := HZ.out.1; omega))
            clear ho4
            gi_wp2
            refine ⟨by simp, .inl ⟨_, _, rfl, run_takeDeferred d4, ?_⟩⟩
            exact ⟨_, results_none rfl _ _ _, ⟨_, rfl⟩, .inl hJ4.out⟩
          · have d4 := ho4.obj d3.out (hno.out _ (by omega))
            replace hJx4 := Lib.hid (HJx.out _ _ hJx4 ((putObj_off W4 W5.heap.size (.deferred none)).mono fun b _ hb => by have := HZ.out.1; omega))
            clear ho4
            gi_wp2
            refine ⟨by simp, .inl ⟨_, _, rfl, run_takeDeferred d4, ?_⟩⟩
            exact ⟨_, results_none rfl _ _ _, ⟨_, rfl⟩, .inr hJx4.out⟩
        | some p =>
          have hE : codeU (parL l) seen x = 0 := by unfold codeU; rw [if_neg hs, hp]; rfl
          have hp64 := hparIn.out p hp
          rw [hE] at HYk hlT hdT
          rw [hp] at look1
          simp only [Option.getD_some, Option.isSome_some] at look1
          replace hE := Lib.hid hE
          replace hs := Lib.hid hs
          by_cases hpe : p = x
          · subst hpe
            obtain ⟨fn, tmps, assign, body, hy, hround⟩ := HYk
            replace hround := Lib.hid hround
            have hTl := Lib.hid (hlT (by first | rw [if_pos (.inl (by decide))] | rw [if_pos (.inr (by first | assumption | rfl))]))
            clear hlT hdT
            gi_wp2
            refine hround.out.mono ?_
            rintro e W4 (⟨rfl, hJ4, ho4⟩ | ⟨rfl, hJx4, ho4⟩)
            · have d4 := ho4.obj d3.out (hno.out _ (by omega))
              have g4 := ho4.cell ei hnoBi
              rw [← hTl.out] at hJ4
              replace hJ4 := Lib.hid (HJ.out _ _ _ hJ4 ((putObj_off W4 W5.heap.size (.deferred none)).mono fun b _ hb => by have := HZ.out.1; omega))
              clear ho4
              gi_wp2
              refine ⟨by simp, .inl ⟨_, _, rfl, run_takeDeferred d4, ?_⟩⟩
              exact ⟨_, results_none rfl _ _ _, ⟨_, rfl⟩, .inl hJ4.out⟩
            · have d4 := ho4.obj d3.out (hno.out _ (by omega))
              replace hJx4 := Lib.hid (HJx.out _ _ hJx4 ((putObj_off W4 W5.heap.size (.deferred none)).mono fun b _ hb => by have := HZ.out.1; omega))
              clear ho4
              gi_wp2
              refine ⟨by simp, .inl ⟨_, _, rfl, run_takeDeferred d4, ?_⟩⟩
              exact ⟨_, results_none rfl _ _ _, ⟨_, rfl⟩, .inr hJx4.out⟩
          · obtain ⟨fn, tmps, assign, body, hy, hround⟩ := HYk
            replace hround := Lib.hid hround
            have hR := hdT
            rw [if_neg (by rw [hp]; intro h; rcases h with h | h; exact h rfl; exact hpe (Option.some.inj h)), hp] at hR
            replace hR := Lib.hid hR
            replace hp := Lib.hid hp
            clear hlT hdT
            gi_wp2
            refine hround.out.mono ?_
            rintro e W4 (⟨rfl, hJ4, ho4⟩ | ⟨rfl, hJx4, ho4⟩)
            · have d4 := ho4.obj d3.out (hno.out _ (by omega))
              have g4 := ho4.cell ei hnoBi
              have gf := frozen_off (b := Bi) ho4 (World.block_lt_of_cell? w3 _ ei) hnoBi efi
              have gc := ho4.cell e4 (hno.out _ (by show W.heap.size ≤ W.heap.size + 1; omega))
              have gp := pm3.out.off ho4 (hno.out _ (Nat.le_refl _))
              have gs := sm3.out.off ho4 (hno.out _ (by omega))
              have ho5 := setCell_off W4 ⟨Bi, 0, none⟩ (.int .i64 p)
              have H5 := Lib.hid (show UHead l ino W.heap.size bs (W.heap.size + 1) Bi W5.heap.size J (k + 1) (x :: seen) p _ (W4.setCell ⟨Bi, 0, none⟩ (.int .i64 p)) from
                ⟨by rw [hR.out, show l.length + 2 - (k + 1) = l.length + 1 - k from by omega]; rfl, List.nodup_cons.2 ⟨hs.out, nd.out⟩, by rw [List.length_cons, len.out], fun y hy => by
                  rcases List.mem_cons.1 hy with rfl | hy
                  · rw [hp.out]; rfl
                  · exact has.out y hy, hp64, gp.off ho5 (by show ¬ W.heap.size = Bi; omega), gs.off ho5 (by show ¬ bs = Bi; omega), fs3.out, ho5.cell gc (by show ¬ W.heap.size + 1 = Bi; omega), World.cell?_setCell_same' _ _ _ (by rw [g4]; rfl), by rw [World.frozen?_setCell]; exact gf,
                  HJ.out _ _ _ hJ4 (ho5.mono fun b _ hb => .inl hb), ho5.obj d4 (by show ¬ W5.heap.size = Bi; omega)⟩)
              clear ho4 ho5 gc gp gs d4 hJ4 e4 ei efi look1 look2 hup hy
              gi_wp2
              go_roundw
              case rel => exact ⟨k + 1, _, p, _, by go_num, H5.out⟩
              case measure => simp [intOf]; omega
            · have d4 := ho4.obj d3.out (hno.out _ (by omega))
              replace hJx4 := Lib.hid (HJx.out _ _ hJx4 ((putObj_off W4 W5.heap.size (.deferred none)).mono fun b _ hb => by have := HZ.out.1; omega))
              clear ho4
              gi_wp2
              refine ⟨by simp, .inl ⟨_, _, rfl, run_takeDeferred d4, ?_⟩⟩
              exact ⟨_, results_none rfl _ _ _, ⟨_, rfl⟩, .inr hJx4.out⟩
end Go.Proofs.Ytajopaljiondlaa
