/- LAYER 6: what the rows' condition on the listed variables gives the walks; the tied cards' frame. -/
import Derived.Test.YtiegocnmijheoaaDoorJ
import Derived.LaidLaws
import Derived.LaidMore
import Derived.MakeChecks
import Derived.SliceStrings
import Derived.SizedLaws
import Derived.Lib.LaidTab
import Derived.Test.YtiegocnmijheoaaDoorL
set_option linter.unusedVariables false
namespace Go.Proofs.YtiegocnmijheoaaDoor
open Go.RowKit Go.ChangeShapes Go.WideShapes Go.ChangeAt

/-- The five variables, as the rows list them. -/
abbrev laidAll : List (String × DataW Unit) := [("math/bits.deBruijn32tab", Rows.laid_math_bits_deBruijn32tab), ("math/bits.deBruijn64tab", Rows.laid_math_bits_deBruijn64tab), ("internal/strconv.uint64pow10", Rows.laid_internal_strconv_uint64pow10), ("strconv.ErrRange", Rows.laid_strconv_ErrRange), ("strconv.ErrSyntax", Rows.laid_strconv_ErrSyntax)]
theorem g1 : Tryd.prog.globalNamed "math/bits.deBruijn64tab" = some 5 := by kernel_rfl
theorem g3 : Tryd.prog.globalNamed "strconv.ErrRange" = some 1 := by kernel_rfl
theorem g4 : Tryd.prog.globalNamed "strconv.ErrSyntax" = some 0 := by kernel_rfl
theorem y1 : (Tryd.prog.globals[5]?).map (·.type) = some 104 := by kernel_rfl
theorem y3 : (Tryd.prog.globals[1]?).map (·.type) = some 44 := by kernel_rfl
theorem y4 : (Tryd.prog.globals[0]?).map (·.type) = some 44 := by kernel_rfl
theorem libs_of_laid {W : World} (h : laidMetH Tryd.prog laidAll W) : Libs W := by
  rw [MakeChecks.laidMetH_plain _ _ _ (by kernel_rfl)] at h
  obtain ⟨ps, ⟨g0, t0, cs0, f0, p0, q0, hg0, ht0, hv0, hd0, ⟨h1g, t1, cs1, f1, p1, q1, hg1, ht1, hv1, hd1, ⟨h2g, t2, cs2, f2, p2, q2, hg2, ht2, hv2, hd2, ⟨h3g, t3, cs3, f3, p3, q3, hg3, ht3, hv3, hd3, ⟨h4g, t4, cs4, f4, p4, q4, hg4, ht4, hv4, hd4, _, _⟩, _⟩, _⟩, _⟩, _⟩, _, _⟩ := h
  obtain rfl := Option.some.inj (g1.symm.trans hg1)
  obtain rfl := Option.some.inj (y1.symm.trans ht1)
  obtain rfl := Option.some.inj (g3.symm.trans hg3)
  obtain rfl := Option.some.inj (y3.symm.trans ht3)
  obtain rfl := Option.some.inj (g4.symm.trans hg4)
  obtain rfl := Option.some.inj (y4.symm.trans ht4)
  have ht : Tab W := by
    have hc := Go.Lib.cells_of_tab (zs := [0, 1, 56, 2, 57, 49, 28, 3, 61, 58, 42, 50, 38, 29, 17, 4, 62, 47, 59, 36, 45, 43, 51, 22, 53, 39, 33, 30, 24, 18, 12, 5, 63, 55, 48, 27, 60, 41, 37, 16, 46, 35, 44, 21, 52, 32, 23, 11, 54, 26, 40, 15, 34, 20, 31, 10, 25, 14, 19, 9, 13, 8, 7, 6]) (k := .u8) (n := 64) Tryd.underlying104 Tryd.underlying5 (by kernel_rfl) (by kernel_rfl) hd1
    have := World.var?_cell hg1 hv1 15
    unfold Tab
    rw [this, ← Array.getElem?_toList, hc]
    rfl
  have he : ∀ (g : Nat) (cs : Array Value) (f : Nat) (nm : String) (d : DataW Unit) (p : List MemPlace) (n : String), Tryd.prog.globalNamed n = some g → W.var? Tryd.prog n = some cs → DataW.trod (fun _ => ()) Tryd.prog W 0 (fun _ => true) false f 44 cs.toList = some (.iface nm d, p) → ErrVar W g := by
    intro g cs f nm d p n hg hv hd
    obtain ⟨_, u, v, hcs, _, _⟩ := iface_of_trod Tryd.underlying44 hd
    refine ⟨_, (World.var?_cell hg hv 0).trans ?_, .inr ⟨u, v, rfl⟩⟩
    rw [← Array.getElem?_toList, hcs]
    rfl
  have e3 := he _ cs3 f3 _ _ p3 _ hg3 hv3 hd3
  have e4 := he _ cs4 f4 _ _ p4 _ hg4 hv4 hd4
  exact ⟨by first | exact e3 | exact e4, by first | exact e3 | exact e4, ht, World.block_lt_of_cell? W _ ht⟩
theorem wu64 {n : Int} (h : (Lit.int .u64 n).wf = true) : 0 ≤ n ∧ n < 18446744073709551616 := by
  have : 0 ≤ n ∧ n ≤ 18446744073709551615 := by simpa [Lit.wf, IntKind.min, IntKind.max, IntKind.signed, IntKind.bits] using h
  omega
theorem RdT.below {w w' : World} {A : Option Addr} {l : List ByteArray} (h : RdT w A l) (hb : Below w.heap.size w w') : RdT w' A l := fun hne => by
  obtain ⟨b, off, hA, hlt, hc⟩ := h hne
  exact ⟨b, off, hA, Nat.lt_of_lt_of_le hlt hb.size, fun k hk => keep1 hb (hc k hk)⟩
theorem add_cell {W : World} {a : Addr} {v : Value} (h : W.cell? (a.add 0) = some v) : ∃ b off, a = ⟨b, off, none⟩ := by
  obtain ⟨b, off, spot⟩ := a
  have hspot : spot = none := by simpa [Addr.add] using World.cell?_spot h
  subst hspot
  exact ⟨b, off, rfl⟩
/-- A slice of texts that came in. -/
theorem open_rdt {H : Type} {enc : TypeId × Value → H} {W : World} {base : Nat} {v : Value} {d : DataW H} {p : List MemPlace} (hval : Value.okWide Tryd.prog W .any base 22 v) (h : DataW.Trod enc Tryd.prog W 0 (fun _ => true) true 22 v d p) :
    ∃ (A : Option Addr) (c : Nat) (l : List ByteArray), v = .slice A l.length c ∧ RdT W A l ∧ l.length ≤ c ∧ c ≤ maxLen ∧ ∀ s ∈ l, s.size ≤ maxLen := by
  obtain ⟨a0, len, cap, rfl⟩ := okWide_slice Tryd.underlying22 hval
  obtain ⟨fuel, hf⟩ := h
  rcases open_strings Tryd.underlying22 Tryd.underlying9 (show Tryd.prog.cellsOf 9 = 1 by kernel_rfl) hf with ⟨hcs, hx⟩ | ⟨a1, len', cap', zs, hcs, _, hl, hm, hz, hx, hcell, hwz⟩
  · simp [Value.cells] at hcs
    obtain ⟨rfl, rfl, rfl⟩ := hcs
    exact ⟨none, 0, [], rfl, fun h => absurd rfl h, Nat.le_refl _, Nat.zero_le _, fun s hs => by simp at hs⟩
  · simp [Value.cells] at hcs
    obtain ⟨rfl, rfl, rfl⟩ := hcs
    simp only [if_true] at hz
    have hlen : (zs.take len).length = len := by rw [List.length_take]; omega
    refine ⟨some a1, cap, zs.take len, by rw [hlen], fun hne => ?_, by omega, hm, fun s hs => hwz s (List.mem_of_mem_take hs)⟩
    have hp : 0 < zs.length := by
      rcases Nat.eq_zero_or_pos zs.length with h | h
      · have : zs = [] := List.eq_nil_of_length_eq_zero h
        subst this; simp at hne
      · exact h
    obtain ⟨b, off, rfl⟩ := add_cell (hcell 0 hp)
    refine ⟨b, off, rfl, World.block_lt_of_cell? W _ (hcell 0 hp), fun k hk => ?_⟩
    rw [hlen] at hk
    have := hcell k (by omega)
    rw [Go.WideShapes.add_plain] at this
    rw [this]
    congr 2
    simp [List.getD, show k < zs.length by omega]
theorem weightsAll_mem {H : Type} {P : Program} {e : TypeId} : ∀ {ds : List (DataW H)} {d : DataW H} {n : Nat}, d ∈ ds → n ∈ d.weights P e → n ∈ DataW.weightsAll P e ds
  | x :: r, d, n, hd, hn => by
    simp only [DataW.weightsAll, List.mem_append]
    rcases List.mem_cons.1 hd with rfl | h
    · exact .inl hn
    · exact .inr (weightsAll_mem h hn)
/-- A slice of texts that came in, within the form's reach. -/
theorem open_rdt_sz {H : Type} {enc : TypeId × Value → H} {W : World} {base : Nat} {v : Value} {d : DataW H} {p : List MemPlace} (hval : Value.okWide Tryd.prog W .any base 22 v) (h : DataW.Trod enc Tryd.prog W 0 (fun _ => true) true 22 v d p) (hw : ∀ n ∈ d.weights Tryd.prog 22, n ≤ reachBytes) :
    ∃ (A : Option Addr) (c : Nat) (l : List ByteArray), v = .slice A l.length c ∧ RdT W A l ∧ l.length ≤ c ∧ c ≤ maxLen ∧ (∀ s ∈ l, s.size ≤ reachBytes) ∧ l.length * 16 ≤ reachBytes ∧ (A = none → c = 0) := by
  obtain ⟨a0, len, cap, rfl⟩ := okWide_slice Tryd.underlying22 hval
  have h' := h
  obtain ⟨fuel, hf⟩ := h
  rcases open_strings Tryd.underlying22 Tryd.underlying9 (show Tryd.prog.cellsOf 9 = 1 by kernel_rfl) hf with ⟨hcs, hx⟩ | ⟨a1, len', cap', zs, hcs, _, hl, hm, hz, hx, hcell, hwz⟩
  · simp [Value.cells] at hcs
    obtain ⟨rfl, rfl, rfl⟩ := hcs
    exact ⟨none, 0, [], rfl, fun h => absurd rfl h, Nat.le_refl _, Nat.zero_le _, fun s hs => (by simp at hs), by simp, fun _ => rfl⟩
  · simp [Value.cells] at hcs
    obtain ⟨rfl, rfl, rfl⟩ := hcs
    simp only [if_true] at hz
    simp only [Prod.mk.injEq] at hx
    obtain ⟨rfl, rfl⟩ := hx
    have hlen : (zs.take len).length = len := by rw [List.length_take]; omega
    have hu : Tryd.prog.underlying 22 = some (.slice 9) := Tryd.underlying22
    have hb : Tryd.prog.bytesOf 9 = 16 := by kernel_rfl
    refine ⟨some a1, cap, zs.take len, by rw [hlen], fun hne => ?_, by omega, hm, fun s hs => ?_, ?_, fun h => by cases h⟩
    · have hp : 0 < zs.length := by
        rcases Nat.eq_zero_or_pos zs.length with h | h
        · have : zs = [] := List.eq_nil_of_length_eq_zero h
          subst this; simp at hne
        · exact h
      obtain ⟨b, off, rfl⟩ := add_cell (hcell 0 hp)
      refine ⟨b, off, rfl, World.block_lt_of_cell? W _ (hcell 0 hp), fun k hk => ?_⟩
      rw [hlen] at hk
      have := hcell k (by omega)
      rw [Go.WideShapes.add_plain] at this
      rw [this]
      congr 2
      simp [List.getD, show k < zs.length by omega]
    · have := hw s.data.toList.length (by
        simp only [DataW.weights, hu, List.mem_cons, List.mem_append]
        refine .inr (.inl (weightsAll_mem (d := .lit (.string s.data.toList)) (List.mem_map.2 ⟨s, hs, rfl⟩) (by simp [DataW.weights])))
        )
      exact this
    · have := hw _ (by
        simp only [DataW.weights, hu, List.mem_cons]
        exact .inl rfl)
      rw [hb] at this
      rw [hlen]
      simp [strs] at this
      omega
/-- The bytes that lie in a row. -/
def RdB (w : World) (A : Option Addr) (l : List UInt8) : Prop := l ≠ [] → ∃ b off, A = some ⟨b, off, none⟩ ∧ b < w.heap.size ∧ ∀ k, (h : k < l.length) → w.cell? ⟨b, off + k, none⟩ = some (.int .u8 ((l[k].toNat : Nat) : Int))
theorem RdB.below {w w' : World} {A : Option Addr} {l : List UInt8} (h : RdB w A l) (hb : Below w.heap.size w w') : RdB w' A l := fun hne => by
  obtain ⟨b, off, hA, hlt, hc⟩ := h hne
  exact ⟨b, off, hA, Nat.lt_of_lt_of_le hlt hb.size, fun k hk => keep1 hb (hc k hk)⟩
/-- A slice of bytes that came in. -/
theorem open_rdb {H : Type} {enc : TypeId × Value → H} {W : World} {base : Nat} {v : Value} {d : DataW H} {p : List MemPlace} (hval : Value.okWide Tryd.prog W .any base 35 v) (h : DataW.Trod enc Tryd.prog W 0 (fun _ => true) true 35 v d p) :
    ∃ (A : Option Addr) (c : Nat) (l : List UInt8), v = .slice A l.length c ∧ RdB W A l ∧ l.length ≤ c ∧ c ≤ maxLen := by
  obtain ⟨a0, len, cap, rfl⟩ := okWide_slice Tryd.underlying35 hval
  obtain ⟨fuel, hf⟩ := h
  rcases open_ints Tryd.underlying35 Tryd.underlying5 (show Tryd.prog.cellsOf 5 = 1 by kernel_rfl) hf with ⟨hcs, hx⟩ | ⟨a1, len', cap', zs, hcs, _, hl, hm, hz, hx, hcell, hwz⟩
  · simp [Value.cells] at hcs
    obtain ⟨rfl, rfl, rfl⟩ := hcs
    exact ⟨none, 0, [], rfl, fun h => absurd rfl h, Nat.le_refl _, Nat.zero_le _⟩
  · simp [Value.cells] at hcs
    obtain ⟨rfl, rfl, rfl⟩ := hcs
    simp only [if_true] at hz
    have hlen : ((zs.take len).map fun n => UInt8.ofNat n.toNat).length = len := by rw [List.length_map, List.length_take]; omega
    refine ⟨some a1, cap, (zs.take len).map fun n => UInt8.ofNat n.toNat, by rw [hlen], fun hne => ?_, by omega, hm⟩
    have hp : 0 < zs.length := by
      rcases Nat.eq_zero_or_pos zs.length with h | h
      · have : zs = [] := List.eq_nil_of_length_eq_zero h
        subst this; simp at hne
      · exact h
    obtain ⟨b, off, rfl⟩ := add_cell (hcell 0 hp)
    refine ⟨b, off, rfl, World.block_lt_of_cell? W _ (hcell 0 hp), fun k hk => ?_⟩
    rw [hlen] at hk
    have hkz : k < zs.length := by omega
    have := hcell k hkz
    rw [Go.WideShapes.add_plain] at this
    rw [this]
    have hw := wfu8 (hwz zs[k] (List.getElem_mem hkz))
    congr 2
    simp [List.getD, hkz]
    omega
/-- The door's own heap meets the condition. -/
theorem door_met (os : Os) (args : Array Value) : laidMetH Tryd.prog laidAll ((World.doorLaid Tryd.prog 400 os).forCall (fun _ _ => 0) ⟨#[], args, []⟩).memory := by
  rw [MakeChecks.laidMetH_plain _ _ _ (by kernel_rfl)]
  exact laidMet_of_run' 8 (by kernel_rfl) (by kernel_rfl)
end Go.Proofs.YtiegocnmijheoaaDoor
