/- WALK of DirtyVerf. -/
import Derived.Test.YtpkapichblpdfaaDoorI
set_option linter.unusedVariables false
namespace Go.Proofs.YtpkapichblpdfaaDoor
open Go.RowKit Go.ChangeShapes Go.WideShapes Go.ChangeAt
theorem refverf_any (n : Int) (h0 : -9223372036854775808 ≤ n) (h1 : n ≤ 9223372036854775807) (w : World) :
    Calls Tryd.prog 8 #[.int .i64 n] w fun e w' => e = .returned (.int .u64 (verfT n)) ∧ Below w.heap.size w w' := by
  obtain ⟨V, hV⟩ : ∃ V, verfT n = V := ⟨_, rfl⟩
  rw [hV]
  unfold verfT at hV
  have HI := Lib.hid (digits_any n h0 h1 w)
  have hlen := Lib.itoa_length_le n h0 h1
  go_enter Tryd.func8, Tryd.ntmps8
  go_wp2_with fail
  refine HI.out.mono ?_
  rintro e w1 ⟨rfl, hb1⟩
  clear HI
  generalize hs : (⟨(Lib.itoa n).toArray⟩ : ByteArray) = s at *
  have hss : s.size ≤ 21 := by rw [← hs]; simpa [ByteArray.size] using hlen
  have HB1 := Lib.hid hb1
  have hz1 := hb1.size
  clear hb1 hs
  have HV := Lib.hid hV
  clear hV
  go_wp2_with fail
  refine (Dg.refof_any (some ⟨w1.heap.size, 0, none⟩) 2 [⟨#[106, 101, 116, 116, 121]⟩, s] _ (by simp) (fun p hp => by
    simp at hp
    rcases hp with rfl | rfl
    · decide
    · omega) (two_rdt w1 _ _)).mono ?_
  rw [HV.out]
  rintro e w2 ⟨rfl, hb2⟩
  have HB2 := Lib.hid ((HB1.out.alloc hz1 _).trans (hb2.mono (by simp; omega)))
  clear hb2
  go_wp2_with fail
  go_ret
  exact ⟨rfl, HB2.out⟩
set_option maxHeartbeats 1000000 in
theorem verf_walk (n : Int) (h0 : -9223372036854775808 ≤ n) (h1 : n ≤ 9223372036854775807) (w : World) (ht : Tabs w) :
    Calls Tryd.prog 3 #[.int .i64 n] w fun e w' => e = .returned (.bool true) ∧ Below w.heap.size w w' := by
  have HT := Lib.hid ht
  have V1 := Lib.hid (verf_any n h0 h1 w ht)
  have V2 := Lib.hid (refverf_any n h0 h1)
  clear ht
  generalize verfT n = V at *
  go_enter Tryd.func3, Tryd.ntmps3
  go_wp2_with fail
  refine V1.out.mono ?_
  rintro e w1 ⟨rfl, hb1⟩
  replace hb1 := Lib.hid hb1
  go_wp2_with fail
  refine (V2.out w1).mono ?_
  rintro e w2 ⟨rfl, hb2⟩
  have HB2 := Lib.hid (hb1.out.trans (hb2.mono hb1.out.size))
  clear hb1 hb2
  go_wp2_with fail
  refine (awake_any w2 (HT.out.below HB2.out)).mono ?_
  rintro e w3 ⟨rfl, hb3⟩
  have HB3 := Lib.hid (HB2.out.trans (hb3.mono HB2.out.size))
  clear hb3
  go_wp2_with fail
  go_ret
  exact ⟨rfl, HB3.out⟩
end Go.Proofs.YtpkapichblpdfaaDoor
