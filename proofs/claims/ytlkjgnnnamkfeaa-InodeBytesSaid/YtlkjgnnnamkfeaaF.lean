/- WALKS of layer 20: the counted, handles. -/
import Derived.Test.YtlkjgnnnamkfeaaD
import Derived.Lib.SmallJoins
import Derived.Deep.RegionHeld3
set_option linter.unusedVariables false
namespace Go.Proofs.Ytlkjgnnnamkfeaa
open Go.RowKit Go.ChangeShapes Go.WideShapes Go.ChangeAt

theorem cellN (w : World) (cs : Array Value) (t : TypeId) (b : Nat) (h : w.heap.size = b) (i : Nat) : (w.alloc (.cells cs t)).cell? ⟨b, i, none⟩ = cs[i]? := by
  subst h; rw [World.cell?_alloc_new]

theorem counts_two (n m : Int) (b : Nat) (w : World) (t : TypeId) (h : w.heap.size = b) :
    Calls Try.prog 36 #[.slice (some ⟨b, 0, none⟩) 2 2] (w.alloc (.cells #[.int .i64 n, .int .i64 m] t)) fun e w' => e = .returned (.bool (cnt n && cnt m)) ∧ w.alloc (.cells #[.int .i64 n, .int .i64 m] t) = w' := by
  subst h
  go_enter Try.func36, Try.ntmps36
  go_wp2
  go_rounds 3
  all_goals go_ret
  all_goals exact ⟨ret_bool (by unfold cnt; simp; try omega), rfl⟩

def mencL (g b : Int) : List Int := [109] ++ by4 g ++ by4 b
def mencR (g b : Int) : Value := if (cnt g && cnt b) = true then .tuple #[.string (strOfNums (mencL g b)), .int .i64 0] else .tuple #[.string ByteArray.empty, .int .i64 4]

set_option maxHeartbeats 1000000 in
theorem encmeta_any (g b : Int) (w : World) (b1 : -9223372036854775808 ≤ g) (b2 : g ≤ 9223372036854775807) (b3 : -9223372036854775808 ≤ b) (b4 : b ≤ 9223372036854775807) :
    Calls Try.prog 27 #[.agg #[.int .i64 g, .int .i64 b]] w fun e w' => e = .returned (mencR g b) ∧ Below w.heap.size w w' := by
  have kc := Go.Joins.run_convert_bytes_const_at (P := Try.prog) ((w.alloc (.cells #[.int .i64 g, .int .i64 b] 49)).alloc (.cells #[.int .i64 g, .int .i64 b] 3)) 23 5 #[.int .u8 109] 1 1 (w.heap.size + 1 + 1) (by simp) Try.underlying23 Try.underlying5
  cases hm : (cnt g && cnt b) with
  | false =>
    have H := Lib.hid (show mencR g b = .tuple #[.string ByteArray.empty, .int .i64 4] from by unfold mencR; rw [hm]; rfl)
    have HM := Lib.hid hm
    clear hm
    go_enter Try.func27, Try.ntmps27
    go_wp2_with fail
    refine (counts_two _ _ _ _ _ (by simp)).mono ?_
    rintro e w1 ⟨rfl, rfl⟩
    rw [HM.out]
    go_wp2_with fail
    go_ret2
    exact ⟨congrArg Ending.returned H.out.symm, by go_grown⟩
  | true =>
    have H := Lib.hid (show mencR g b = .tuple #[.string (strOfNums (mencL g b)), .int .i64 0] from by unfold mencR; rw [hm]; rfl)
    have HM := Lib.hid hm
    clear hm
    go_enter Try.func27, Try.ntmps27
    go_wp2_with fail
    refine (counts_two _ _ _ _ _ (by simp)).mono ?_
    rintro e w1 ⟨rfl, rfl⟩
    rw [HM.out]
    go_wp2_with fail
    refine (put2_full g b (w.heap.size + 1 + 1 + 1) 0 2 ⟨w.heap.size + 1 + 1, 0, none⟩ 1 [109] _ b1 b2 b3 b4 ?_ ?_ rfl (by omega) ?_ ?_).mono ?_
    · exact (cellN _ _ _ _ (by simp) _).trans rfl
    · exact (cellN _ _ _ _ (by simp) _).trans rfl
    · have := news_old (w := ((w.alloc (.cells #[.int .i64 g, .int .i64 b] 49)).alloc (.cells #[.int .i64 g, .int .i64 b] 3)).alloc (.cells #[.int .u8 109] 5 (1, 2))) (.cells #[.int .i64 g, .int .i64 b] 3) (heap_alloc_new ((w.alloc (.cells #[.int .i64 g, .int .i64 b] 49)).alloc (.cells #[.int .i64 g, .int .i64 b] 3)) _) (by simp)
      simpa using this
    · simp; try omega
    rintro e w2 ⟨v, rfl, hown, hb⟩
    have hs := own_str hown (by omega) 23 Try.underlying23
    have HB := Lib.hid (show Below w.heap.size w w2 from by refine Below.trans ?_ (hb.mono (by simp; omega)); go_grown)
    clear hown hb
    go_wp2_with fail
    go_ret2
    exact ⟨congrArg Ending.returned H.out.symm, HB.out⟩

theorem is_any (k mo li sz mt ct ino gen snap : Int) (w : World) :
    Calls Try.prog 37 #[.agg #[.int .u8 k, .int .i64 mo, .int .i64 li, .int .i64 sz, .int .i64 mt, .int .i64 ct, .int .i64 ino, .int .i64 gen], .agg #[.int .i64 snap, .int .i64 ino, .int .i64 gen]] w fun e w' => e = .returned (.bool true) ∧ Below w.heap.size w w' := by
  go_enter Try.func37, Try.ntmps37
  go_wp2_with fail
  have ha := (Held8.new w [.int .u8 k, .int .i64 mo, .int .i64 li, .int .i64 sz, .int .i64 mt, .int .i64 ct, .int .i64 ino, .int .i64 gen] 37).alloc (by simp) (.cells #[.int .i64 snap, .int .i64 ino, .int .i64 gen] 71)
  obtain ⟨a0, a1, a2, a3, a4, a5, a6, a7⟩ := cells8 ha
  have c0 : ((w.alloc (.cells #[.int .u8 k, .int .i64 mo, .int .i64 li, .int .i64 sz, .int .i64 mt, .int .i64 ct, .int .i64 ino, .int .i64 gen] 37)).alloc (.cells #[.int .i64 snap, .int .i64 ino, .int .i64 gen] 71)).cell? ⟨w.heap.size + 1, 0, none⟩ = some (.int .i64 snap) := (cellN _ _ _ _ (by simp) _).trans rfl
  have c1 : ((w.alloc (.cells #[.int .u8 k, .int .i64 mo, .int .i64 li, .int .i64 sz, .int .i64 mt, .int .i64 ct, .int .i64 ino, .int .i64 gen] 37)).alloc (.cells #[.int .i64 snap, .int .i64 ino, .int .i64 gen] 71)).cell? ⟨w.heap.size + 1, 1, none⟩ = some (.int .i64 ino) := (cellN _ _ _ _ (by simp) _).trans rfl
  have c2 : ((w.alloc (.cells #[.int .u8 k, .int .i64 mo, .int .i64 li, .int .i64 sz, .int .i64 mt, .int .i64 ct, .int .i64 ino, .int .i64 gen] 37)).alloc (.cells #[.int .i64 snap, .int .i64 ino, .int .i64 gen] 71)).cell? ⟨w.heap.size + 1, 2, none⟩ = some (.int .i64 gen) := (cellN _ _ _ _ (by simp) _).trans rfl
  have HB : Below w.heap.size w ((w.alloc (.cells #[.int .u8 k, .int .i64 mo, .int .i64 li, .int .i64 sz, .int .i64 mt, .int .i64 ct, .int .i64 ino, .int .i64 gen] 37)).alloc (.cells #[.int .i64 snap, .int .i64 ino, .int .i64 gen] 71)) := by go_grown
  go_region_held3 (fun w' => w'.cell? ⟨w.heap.size, 0, none⟩ = some (.int .u8 k) ∧ w'.cell? ⟨w.heap.size, 1, none⟩ = some (.int .i64 mo) ∧ w'.cell? ⟨w.heap.size, 2, none⟩ = some (.int .i64 li) ∧ w'.cell? ⟨w.heap.size, 3, none⟩ = some (.int .i64 sz) ∧ w'.cell? ⟨w.heap.size, 4, none⟩ = some (.int .i64 mt) ∧ w'.cell? ⟨w.heap.size, 5, none⟩ = some (.int .i64 ct) ∧ w'.cell? ⟨w.heap.size, 6, none⟩ = some (.int .i64 ino) ∧ w'.cell? ⟨w.heap.size, 7, none⟩ = some (.int .i64 gen) ∧ w'.cell? ⟨w.heap.size + 1, 0, none⟩ = some (.int .i64 snap) ∧ w'.cell? ⟨w.heap.size + 1, 1, none⟩ = some (.int .i64 ino) ∧ w'.cell? ⟨w.heap.size + 1, 2, none⟩ = some (.int .i64 gen) ∧ Below w.heap.size w w')
    (first | exact ⟨a0, a1, a2, a3, a4, a5, a6, a7, c0, c1, c2, HB.drew⟩ | (go_split_ands; refine ⟨?_, ?_, ?_, ?_, ?_, ?_, ?_, ?_, ?_, ?_, ?_, ?_⟩; (iterate 11 (exact keep1 hb (by assumption))); all_goals exact Below.trans (by assumption) (hb.mono (by have := Below.size (by assumption); omega))))
    (first | (go_at_call 38; refine (handle_any _ _ _ _ _ _ _ _ _ _).mono ?_; rintro e w4 ⟨rfl, hb⟩))
  go_split_ands
  go_wp2_with fail
  go_ret
  exact ⟨rfl, by assumption⟩
end Go.Proofs.Ytlkjgnnnamkfeaa
