/- THE ROW of InodeBytes: whatever the input, the law returns true, and each argument reads as it did. -/
import Derived.Test.YtlkjgnnnamkfeaaT
import Derived.Test.YtlkjgnnnamkfeaaL
set_option linter.unusedVariables false
namespace Go.Proofs.Ytlkjgnnnamkfeaa.lawInodeBytes
open Go.RowKit Go.WideShapes Go.ChangeShapes Go.ChangeAt Go.Joins Go.Deep Go.WideMaps Go.WideElems
open Go.ChangeMaps (open_string shut_string)

set_option maxRecDepth 100000 in
theorem params_ok : ∀ t ∈ Try.f5.params.toList, Try.prog.readableRec t = true ∧ t < Try.prog.types.size := by
  rw [Try.params5]
  intro t ht
  simp only [List.mem_cons, List.not_mem_nil, or_false] at ht
  have key : ∀ t ∈ [37, 43, 9], Try.prog.readableRec t = true ∧ t < Try.prog.types.size := by
    intro t ht
    simp only [List.mem_cons, List.not_mem_nil, or_false] at ht
    rcases ht with rfl | rfl | rfl
    · exact ⟨by kernel_rfl, of_decide_eq_true (by kernel_rfl)⟩
    · exact ⟨by kernel_rfl, of_decide_eq_true (by kernel_rfl)⟩
    · exact ⟨by kernel_rfl, of_decide_eq_true (by kernel_rfl)⟩
  rcases ht with rfl | rfl | rfl | rfl
  all_goals exact key _ (by simp)

set_option maxRecDepth 100000 in
set_option maxHeartbeats 1000000 in
theorem lifted (os : Os) (started : os.Started) (H : Type) (enc : TypeId × Value → H) :
    ReturnsInHanded {} Try.checked os 5 .any (Rows.inodeBytesSpec.pre6 enc Try.prog Try.f5 Rows.inodeBytesRow.domain false) (Rows.inodeBytesSpec.post enc Try.prog Try.f5 false true false false) := by
  refine returnsInHanded_of_change (C := Try.checked) own started (by kernel_rfl) Try.func5
    (ChangeSpec.witness6 (enc := enc) (C := Try.checked) false ⟨#[], #[.agg #[.int .u8 0, .int .i64 0, .int .i64 0, .int .i64 0, .int .i64 0, .int .i64 0, .int .i64 0, .int .i64 0], .agg #[.int .i64 0, .int .i64 0], .string ByteArray.empty, .string ByteArray.empty], []⟩ 8 (by kernel_rfl) (by kernel_rfl) (by kernel_rfl) (by kernel_rfl)) ?_
  intro W base args ds gs before hval hW hcnd _
  have hW' := hW
  obtain ⟨p, q, hA0, hV, hbe, hfz, hnd⟩ := hW
  have hlt : ∀ x ∈ before, x.block < W.heap.size := fun x hx => hW'.lt x hx
  have hA : DataW.TrodAll enc Try.prog W 0 (fun _ => true) true Try.f5.params.toList args.toList ds p := hA0
  rw [Try.params5] at hA hval
  obtain ⟨v0, vs0, d0, ds0, p0, q0, hargs, rfl, rfl, h0, r0⟩ := trodAll_cons hA
  obtain ⟨v1, vs1, d1, ds1, p1, q1, rfl, rfl, rfl, h1, r1⟩ := trodAll_cons r0
  obtain ⟨v2, vs2, d2, ds2, p2, q2, rfl, rfl, rfl, h2, r2⟩ := trodAll_cons r1
  obtain ⟨v3, vs3, d3, ds3, p3, q3, rfl, rfl, rfl, h3, r3⟩ := trodAll_cons r2
  obtain ⟨rfl, rfl, rfl⟩ := trodAll_nil r3
  obtain rfl : args = #[v0, v1, v2, v3] := by cases args; simp_all
  obtain ⟨rfl, rfl⟩ := trodVars_none hV
  obtain ⟨c0_0, c0_1, c0_2, c0_3, c0_4, c0_5, c0_6, c0_7, y0_0, y0_1, y0_2, y0_3, y0_4, y0_5, y0_6, y0_7, m0, rfl, rfl, rfl, t0_0, t0_1, t0_2, t0_3, t0_4, t0_5, t0_6, t0_7⟩ := open_agg8 Try.underlying37 (by kernel_rfl) (show Try.prog.cellsOf 37 = 8 by kernel_rfl) (hval 0 37 v0 rfl rfl) h0
  obtain ⟨k1, e0_0, rfl, w_k1⟩ := DataW.trod_int Try.underlying5 t0_0
  obtain ⟨mo1, e0_1, rfl, w_mo1⟩ := DataW.trod_int Try.underlying3 t0_1
  obtain ⟨li1, e0_2, rfl, w_li1⟩ := DataW.trod_int Try.underlying3 t0_2
  obtain ⟨sz1, e0_3, rfl, w_sz1⟩ := DataW.trod_int Try.underlying3 t0_3
  obtain ⟨mt1, e0_4, rfl, w_mt1⟩ := DataW.trod_int Try.underlying3 t0_4
  obtain ⟨ct1, e0_5, rfl, w_ct1⟩ := DataW.trod_int Try.underlying3 t0_5
  obtain ⟨ino1, e0_6, rfl, w_ino1⟩ := DataW.trod_int Try.underlying3 t0_6
  obtain ⟨gn1, e0_7, rfl, w_gn1⟩ := DataW.trod_int Try.underlying3 t0_7
  simp only [List.cons.injEq, and_true] at e0_0 e0_1 e0_2 e0_3 e0_4 e0_5 e0_6 e0_7
  subst e0_0 e0_1 e0_2 e0_3 e0_4 e0_5 e0_6 e0_7
  obtain ⟨c1_0, c1_1, y1_0, y1_1, m1, rfl, rfl, rfl, t1_0, t1_1⟩ := open_agg2 Try.underlying43 (by kernel_rfl) (show Try.prog.cellsOf 43 = 2 by kernel_rfl) (hval 1 43 v1 rfl rfl) h1
  obtain ⟨g, e1_0, rfl, w_g⟩ := DataW.trod_int Try.underlying3 t1_0
  obtain ⟨bt, e1_1, rfl, w_bt⟩ := DataW.trod_int Try.underlying3 t1_1
  simp only [List.cons.injEq, and_true] at e1_0 e1_1
  subst e1_0 e1_1
  obtain ⟨s, rfl, rfl, rfl, w_s⟩ := open_string Try.underlying9 (hval 2 9 v2 rfl rfl) h2
  obtain ⟨t, rfl, rfl, rfl, w_t⟩ := open_string Try.underlying9 (hval 3 9 v3 rfl rfl) h3
  clear hA0 hV
  have fin : ∀ (e : Ending) (W' : World), e = .returned (.bool true) → Below W.heap.size W W' → ∃ v, e = .returned v ∧ Rows.inodeBytesSpec.post enc Try.prog Try.f5 false true false false W _ v W' :=
    fun e W' he hb => ⟨_, he, law_post laid params_ok hW' rfl rfl Try.underlying4 rfl hb⟩
  have w64 : ∀ {n : Int}, (Lit.int .i64 n).wf = true → n.natAbs < 2 ^ 64 ∧ -9223372036854775808 ≤ n ∧ n ≤ 9223372036854775807 := fun h => by have := wf64 h; omega
  exact (bytes_walk _ _ _ _ _ _ _ _ _ _ _ _ W (w64 w_mo1).2.1 (w64 w_mo1).2.2 (w64 w_li1).2.1 (w64 w_li1).2.2 (w64 w_sz1).2.1 (w64 w_sz1).2.2 (w64 w_mt1).2.1 (w64 w_mt1).2.2 (w64 w_ct1).2.1 (w64 w_ct1).2.2 (w64 w_ino1).2.1 (w64 w_ino1).2.2 (w64 w_gn1).2.1 (w64 w_gn1).2.2 (w64 w_g).2.1 (w64 w_g).2.2 (w64 w_bt).2.1 (w64 w_bt).2.2 (by assumption) (by assumption)).mono fun e W' ⟨he, hb⟩ => fin e W' he hb

theorem holds : Rows.InodeBytesSaid :=
  OpenClaim.holds_of_wide 5 Try.f5 rfl rfl rfl rfl rfl rfl rfl ⟨rfl, rfl, rfl, rfl, rfl⟩ rfl rfl rfl rfl rfl (by kernel_rfl) Try.func5 (by kernel_rfl)
    (of_decide_eq_true (by kernel_rfl)) (by unfold Func.isWrapper; first | (rw [if_pos (by decide +kernel)]; kernel_rfl) | (rw [if_neg (by decide +kernel)]; exact ⟨rfl, rfl⟩))
    (fun os started H enc _ => lifted os started H enc)

#print axioms holds
end Go.Proofs.Ytlkjgnnnamkfeaa.lawInodeBytes
