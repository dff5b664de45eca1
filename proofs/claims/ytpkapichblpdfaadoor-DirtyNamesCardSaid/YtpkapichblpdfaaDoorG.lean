/- WALK of layer 22: Verf. -/
import Derived.Test.YtpkapichblpdfaaDoorF
import Derived.Test.YtpkapichblpdfaaDoorGB
import Derived.Test.YtpkapichblpdfaaDoorSh
import Derived.Lib.ItoaLen
set_option linter.unusedVariables false
namespace Go.Proofs.YtpkapichblpdfaaDoor
open Go.RowKit Go.ChangeShapes Go.WideShapes Go.ChangeAt

/-- What the library's table gives. -/
def Tabs (w : World) : Prop := Lib.TabIs Tryd.prog w "internal/strconv.uint64pow10" .u64 Lib.pow10Tab
theorem below_gr (w : World) (k : Nat) (os : Array Obj) : Below w.heap.size w (Go.Sort.grow (w.drewN k) os) := by
  refine ⟨rfl, rfl, rfl, ?_, fun i hi => ?_⟩
  · show w.heap.size ≤ (w.heap ++ os).size
    simp
  · show (w.heap ++ os)[i]? = _
    rw [Array.getElem?_append_left hi]
/-- A boot's verifier. -/
def verfT (n : Int) : Int := Dg.foldT Dg.begin_ [⟨#[106, 101, 116, 116, 121]⟩, ⟨(Lib.itoa n).toArray⟩]
theorem two_rdt (w : World) (a b : ByteArray) : Dg.RdT (w.alloc (.cells #[.string a, .string b] 9)) (some ⟨w.heap.size, 0, none⟩) [a, b] := fun _ => ⟨w.heap.size, 0, rfl, by simp, fun k hk => by
  rw [World.cell?_alloc_new]
  match k, hk with
  | 0, _ => rfl
  | 1, _ => rfl⟩
theorem verf_any (n : Int) (h0 : -9223372036854775808 ≤ n) (h1 : n ≤ 9223372036854775807) (w : World) (ht : Tabs w) :
    Calls Tryd.prog 7 #[.int .i64 n] w fun e w' => e = .returned (.int .u64 (verfT n)) ∧ Below w.heap.size w w' := by
  obtain ⟨V, hV⟩ : ∃ V, verfT n = V := ⟨_, rfl⟩
  rw [hV]
  unfold verfT at hV
  have HI := Lib.hid (Tryd.strconv_Itoa n h0 h1 w ht)
  have hlen := Lib.itoa_length_le n h0 h1
  go_enter Tryd.func7, Tryd.ntmps7
  go_wp2_with fail
  refine HI.out.mono ?_
  rintro e w1 ⟨rfl, k, os, hw1⟩
  have hb1 : Below w.heap.size w w1 := hw1 ▸ below_gr w k os
  clear hw1 k os HI
  generalize hs : (⟨(Lib.itoa n).toArray⟩ : ByteArray) = s at *
  have hss : s.size ≤ 21 := by rw [← hs]; simpa [ByteArray.size] using hlen
  have HB1 := Lib.hid hb1
  have hz1 := hb1.size
  clear hb1 hs
  have HV := Lib.hid hV
  clear hV
  go_wp2_with fail
  refine (Dg.of_any (some ⟨w1.heap.size, 0, none⟩) 2 [⟨#[106, 101, 116, 116, 121]⟩, s] _ (by simp) (fun p hp => by
    simp at hp
    rcases hp with rfl | rfl
    · decide
    · omega) (two_rdt w1 _ _)).mono ?_
  rw [HV.out]
  rintro e w2 ⟨rfl, hb2⟩
  have HB2 := Lib.hid ((HB1.out.alloc hz1 _).trans (hb2.mono (by simp; omega)))
  clear hb2
  go_wp2_with fail
  go_ret
  exact ⟨rfl, HB2.out⟩
end Go.Proofs.YtpkapichblpdfaaDoor
