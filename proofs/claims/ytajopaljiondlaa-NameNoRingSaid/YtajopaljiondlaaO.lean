/- WALK of NameChains. -/
import Derived.Test.YtajopaljiondlaaN
set_option linter.unusedVariables false
namespace Go.Proofs.Ytajopaljiondlaa
open Go.RowKit Go.ChangeShapes Go.WideShapes Go.ChangeAt

set_option maxRecDepth 100000 in
set_option maxHeartbeats 2000000 in
theorem chains_walk (A : Option Addr) (c : Nat) (l : List (Int × Int)) (ino to_ : Int) (w : World) (hlm : l.length ≤ maxLen) (hc : ∀ q ∈ l, In64 q.1 ∧ In64 q.2) (hi : In64 ino) (ht : In64 to_) (hR : RdU w A l) :
    Calls Try.prog 3 #[.slice A l.length c, .int .i64 ino, .int .i64 to_] w fun e w' => e = .returned (.bool true) ∧ Below w.heap.size w w' := by
  unfold maxLen at hlm
  by_cases hl : 150 < l.length
  · go_enter Try.func3, Try.ntmps3
    go_wp2_with fail
    refine (awake_any w).mono ?_
    rintro e w1 ⟨rfl, hb⟩
    replace hb := Lib.hid hb
    go_wp2_with fail
    go_ret
    exact ⟨rfl, hb.out⟩
  · have HR := Lib.hid hR
    have HC := Lib.hid hc
    have Hi := Lib.hid hi
    have Ht := Lib.hid ht
    clear hR hc
    unfold In64 at hi ht
    generalize hD : depthU (goUp l ino) (-1) = D at *
    generalize hM : movesU ino (goUp l to_) 0 = M at *
    replace hD := Lib.hid hD
    replace hM := Lib.hid hM
    go_enter Try.func3, Try.ntmps3
    go_wp2_with fail
    refine (given_any A c l w (by omega) HR.out).mono ?_
    rintro e w1 ⟨A1, c1, rfl, ho, hb⟩
    obtain ⟨A', c', e', hr1, ha1⟩ := ho.form
    simp only [Value.slice.injEq, true_and] at e'
    obtain ⟨rfl, rfl⟩ := e'
    have R1 := Lib.hid (HR.out.below hb)
    have B1 := Lib.hid hb
    have DD := Lib.hid (depth_any A1 c1 l ino w1 (by omega) HC.out Hi.out hr1 (fun a ha => (ha1 a ha).2))
    rw [hD.out] at DD
    clear ho hr1 ha1 hb
    go_wp2_with fail
    refine DD.out.mono ?_
    rintro e w2 ⟨rfl, hb⟩
    have R2 := Lib.hid (R1.out.below hb)
    have B2 := Lib.hid (B1.out.trans (hb.mono B1.out.size))
    clear hb DD R1 B1
    have DR := Lib.hid (refdepth_any A c l ino w2 (by omega) R2.out)
    rw [hD.out] at DR
    go_wp2_with fail
    refine DR.out.mono ?_
    rintro e w3 ⟨rfl, hb⟩
    have R3 := Lib.hid (R2.out.below hb)
    have B3 := Lib.hid (B2.out.trans (hb.mono B2.out.size))
    clear hb DR R2 B2
    go_wp2_with fail
    refine (given_any A c l w3 (by omega) R3.out).mono ?_
    rintro e w4 ⟨A4, c4, rfl, ho, hb⟩
    obtain ⟨A', c', e', hr1, ha1⟩ := ho.form
    simp only [Value.slice.injEq, true_and] at e'
    obtain ⟨rfl, rfl⟩ := e'
    have R4 := Lib.hid (R3.out.below hb)
    have B4 := Lib.hid (B3.out.trans (hb.mono B3.out.size))
    have MM := Lib.hid (moves_any A4 c4 l ino to_ w4 (by omega) HC.out Ht.out hr1 (fun a ha => (ha1 a ha).2))
    rw [hM.out] at MM
    clear ho hr1 ha1 hb R3 B3
    go_wp2_with fail
    refine MM.out.mono ?_
    rintro e w5 ⟨rfl, hb⟩
    have R5 := Lib.hid (R4.out.below hb)
    have B5 := Lib.hid (B4.out.trans (hb.mono B4.out.size))
    clear hb MM R4 B4
    have MR := Lib.hid (refmoves_any A c l ino to_ w5 (by omega) R5.out)
    rw [hM.out] at MR
    go_wp2_with fail
    refine MR.out.mono ?_
    rintro e w6 ⟨rfl, hb⟩
    have B6 := Lib.hid (B5.out.trans (hb.mono B5.out.size))
    clear hb MR R5 B5
    go_wp2_with fail
    refine (awake_any w6).mono ?_
    rintro e w7 ⟨rfl, hb⟩
    have B7 := Lib.hid (B6.out.trans (hb.mono B6.out.size))
    clear hb B6
    go_wp2_with fail
    go_ret
    exact ⟨rfl, B7.out⟩
end Go.Proofs.Ytajopaljiondlaa
