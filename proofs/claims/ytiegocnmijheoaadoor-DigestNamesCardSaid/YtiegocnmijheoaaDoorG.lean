/- WALKS of layer 6: Parse. -/
import Derived.Test.YtiegocnmijheoaaDoorF
import Derived.Test.YtiegocnmijheoaaDoorSh
set_option linter.unusedVariables false
namespace Go.Proofs.YtiegocnmijheoaaDoor
open Go.RowKit Go.ChangeShapes Go.WideShapes Go.ChangeAt

/-- What the library's two errors hold. -/
def ErrVar (w : World) (g : Nat) : Prop := ∃ ev, w.cell? ⟨g, 0, none⟩ = some ev ∧ (ev = .nilIface ∨ ∃ te pe, ev = .iface te pe)
theorem ErrVar.below {w w' : World} {g : Nat} (h : ErrVar w g) (hb : Below w.heap.size w w') : ErrVar w' g := by
  obtain ⟨ev, h1, h2⟩ := h
  exact ⟨ev, keep1 hb h1, h2⟩
/-- What strconv.ParseUint gives. -/
def SpuPost (s : ByteArray) (e : Ending) : Prop := ∃ (x : Int) (er : Value), e = .returned (.tuple #[.int .u64 x, er]) ∧ 0 ≤ x ∧ x < 18446744073709551616 ∧ (∀ v : Int, 0 ≤ v → v < 18446744073709551616 → s = strOfNums (hexL v 15) → x = v ∧ er = .nilIface) ∧ (er = .nilIface ∨ ∃ te pe, er = .iface te pe)
set_option maxRecDepth 20000 in
set_option maxHeartbeats 1000000 in
theorem spu_any (s : ByteArray) (w : World) (hs : s.size ≤ 20000) (v0 : ErrVar w 0) (v1 : ErrVar w 1) : Calls Tryd.prog 24 #[.string s, .int .i64 16, .int .i64 64] w fun e w' => SpuPost s e ∧ Below w.heap.size w w' := by
  have F := pu_any s w hs
  go_enter Tryd.func24, Tryd.ntmps24
  go_wp2_with fail
  refine F.mono ?_
  rintro e w1 ⟨⟨x, er, rfl, hx0, hx1, hv, hk⟩, hb⟩
  replace v0 := v0.below hb
  replace v1 := v1.below hb
  rcases hk with rfl | ⟨k, rfl, rfl | rfl⟩
  · replace hv := Lib.hid (fun v a b c => (hv v a b c).1)
    go_wp2_with fail
    go_ret2
    exact ⟨⟨x, _, rfl, hx0, hx1, fun v a b c => ⟨hv.out v a b c, rfl⟩, .inl rfl⟩, hb⟩
  · obtain ⟨ev, h1, h2⟩ := v1
    have hv' := Lib.hid (fun (v : Int) (a : 0 ≤ v) (b : v < 18446744073709551616) (c : s = strOfNums (hexL v 15)) => show False from by have := (hv v a b c).2; simp at this)
    clear v0 hv
    go_wp2_with fail
    refine (Tryd.strconv_toError_range _ s _ _ ev _ (by omega) h1 h2).mono ?_
    rintro e w2 ⟨N, rfl, _, _, hb2⟩
    have hb' := hb.trans (hb2.mono hb.size)
    go_wp2_with fail
    go_ret2
    exact ⟨⟨x, _, rfl, hx0, hx1, fun v a b c => hv'.out v a b c |>.elim, .inr ⟨_, _, rfl⟩⟩, hb'⟩
  · obtain ⟨ev, h1, h2⟩ := v0
    have hv' := Lib.hid (fun (v : Int) (a : 0 ≤ v) (b : v < 18446744073709551616) (c : s = strOfNums (hexL v 15)) => show False from by have := (hv v a b c).2; simp at this)
    clear v1 hv
    go_wp2_with fail
    refine (Tryd.strconv_toError_syntax _ s _ _ ev _ (by omega) h1 h2).mono ?_
    rintro e w2 ⟨N, rfl, _, _, hb2⟩
    have hb' := hb.trans (hb2.mono hb.size)
    go_wp2_with fail
    go_ret2
    exact ⟨⟨x, _, rfl, hx0, hx1, fun v a b c => hv'.out v a b c |>.elim, .inr ⟨_, _, rfl⟩⟩, hb'⟩

/-- What Parse gives: of a sum's text the sum; of all else an error. -/
def PaPost (s : ByteArray) (e : Ending) : Prop := (∃ v : Int, 0 ≤ v ∧ v < 18446744073709551616 ∧ s = strOfNums (hexL v 15) ∧ e = .returned (.tuple #[.int .u64 v, .int .i64 0])) ∨
  ((∀ v : Int, 0 ≤ v → v < 18446744073709551616 → s ≠ strOfNums (hexL v 15)) ∧ e = .returned (.tuple #[.int .u64 0, .int .i64 4]))
theorem Tab.below {w w' : World} (h : Tab w) (hb : Below w.heap.size w w') : Tab w' := keep1 hb h
set_option maxRecDepth 20000 in
set_option maxHeartbeats 1000000 in
theorem parse_any (s : ByteArray) (w : World) (hs : s.size ≤ 20000) (v0 : ErrVar w 0) (v1 : ErrVar w 1) (ht : Tab w) (hz : 5 < w.heap.size) : Calls Tryd.prog 12 #[.string s] w fun e w' => PaPost s e ∧ Below w.heap.size w w' := by
  have F := spu_any s w hs v0 v1
  clear v0 v1
  go_enter Tryd.func12, Tryd.ntmps12
  go_wp2_with fail
  refine F.mono ?_
  rintro e w1 ⟨⟨x, er, rfl, hx0, hx1, hv, hk⟩, hb⟩
  replace ht := ht.below hb
  have hz1 : 5 < w1.heap.size := Nat.lt_of_lt_of_le hz hb.size
  rcases hk with rfl | ⟨te, pe, rfl⟩
  · replace hv := Lib.hid (fun v a b c => (hv v a b c).1)
    have HX := Lib.hid (text_any x w1 hx0 hx1 ht hz1)
    clear F ht
    go_wp2_with fail
    refine HX.out.mono ?_
    rintro e w2 ⟨rfl, hb2⟩
    have hb' := hb.trans (hb2.mono hb.size)
    by_cases hq : s = strOfNums (hexL x 15)
    · have hc : ((strOfNums (hexL x 15)).toList == s.toList) = true := by rw [← hq]; simp
      have HQ := Lib.hid hq
      clear hq
      go_wp2_with fail
      go_ret2
      exact ⟨.inl ⟨x, hx0, hx1, HQ.out, rfl⟩, hb'⟩
    · have hc : ((strOfNums (hexL x 15)).toList == s.toList) = false := by
        rw [beq_eq_false_iff_ne]
        intro h
        rw [ByteArray.toList_eq, ByteArray.toList_eq] at h
        exact hq (bytes_inj h).symm
      have HQ := Lib.hid hq
      clear hq
      go_wp2_with fail
      go_ret2
      exact ⟨.inr ⟨fun v a b c => HQ.out (by rw [hv.out v a b c]; exact c), rfl⟩, hb'⟩
  · replace hv := Lib.hid (fun (v : Int) (a : 0 ≤ v) (b : v < 18446744073709551616) (c : s = strOfNums (hexL v 15)) => show False from by have := (hv v a b c).2; simp at this)
    clear F ht
    go_wp2_with fail
    go_ret2
    exact ⟨.inr ⟨fun v a b c => (hv.out v a b c).elim, rfl⟩, hb⟩
end Go.Proofs.YtiegocnmijheoaaDoor
