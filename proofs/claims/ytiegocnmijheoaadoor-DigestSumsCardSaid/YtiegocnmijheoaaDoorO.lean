/- WALK of DigestSums. -/
import Derived.Test.YtiegocnmijheoaaDoorK
set_option linter.unusedVariables false
namespace Go.Proofs.YtiegocnmijheoaaDoor
open Go.RowKit Go.ChangeShapes Go.WideShapes Go.ChangeAt

/-- Some bool, the world as it was. -/
def SomeBool (w : World) (e : Ending) (w' : World) : Prop := (∃ b, e = .returned (.bool b)) ∧ w = w'
theorem lawlong_any (A : Option Addr) (c : Nat) (l : List ByteArray) (w : World) (hl : l.length ≤ 9223372036854775807) (hp : ∀ p ∈ l, p.size ≤ 9223372036854775807) (h : RdT w A l) :
    Calls Tryd.prog 10 #[.slice A l.length c] w (SomeBool w) := by
  by_cases h0 : l = []
  · subst h0
    clear h hp hl
    go_enter Tryd.func10, Tryd.ntmps10
    go_wp2_with fail
    refine wp_loop_rounds 1 ?_
    rw [rounds_succ]
    go_wp2_with fail
    go_ret
    exact ⟨⟨_, rfl⟩, rfl⟩
  by_cases hbig : 100 < l.length
  · clear hp h h0
    go_enter Tryd.func10, Tryd.ntmps10
    go_wp2_with fail
    go_ret
    exact ⟨⟨_, rfl⟩, rfl⟩
  · obtain ⟨b, off, rfl, hb, hc⟩ := h h0
    have HC := Lib.hid hc
    have HP := Lib.hid hp
    clear hc hp h h0
    go_enter Tryd.func10, Tryd.ntmps10
    go_wp2_with fail
    go_loop [3] (fun i => ∃ k : Nat, k ≤ l.length ∧ i = .int .i64 k) (fun i => l.length - (intOf i).toNat)
    case atStart => exact ⟨0, Nat.zero_le _, rfl⟩
    case round =>
      obtain ⟨k, hk, rfl⟩ := hrel
      by_cases hlt : k < l.length
      · have hcell := HC.out k hlt
        have hps := HP.out l[k] (List.getElem_mem hlt)
        by_cases hq : 2000 < l[k].size
        · go_wp2_with fail
          go_ret
          exact ⟨⟨_, rfl⟩, rfl⟩
        · go_wp2_with fail
          go_round
          case rel => exact ⟨k + 1, by omega, by go_num⟩
          case measure => simp [intOf]; omega
      · have hkl : k = l.length := by omega
        subst hkl
        go_wp2_with fail
        go_ret
        exact ⟨⟨_, rfl⟩, rfl⟩
theorem PaPost.uniq {s : ByteArray} {e e' : Ending} (h : PaPost s e) (h' : PaPost s e') : e' = e := by
  rcases h with ⟨v, v0, v1, h1, h2⟩ | ⟨h1, h2⟩
  · rw [h2]; exact h'.text v0 v1 h1
  · rcases h' with ⟨v, v0, v1, h3, h4⟩ | ⟨h3, h4⟩
    · exact absurd h3 (h1 v v0 v1)
    · rw [h2, h4]
theorem PaPost.nums {s : ByteArray} {e : Ending} (h : PaPost s e) : ∃ a b : Int, e = .returned (.tuple #[.int .u64 a, .int .i64 b]) := by
  rcases h with ⟨v, _, _, _, h2⟩ | ⟨_, h2⟩
  · exact ⟨_, _, h2⟩
  · exact ⟨_, _, h2⟩
set_option maxHeartbeats 1000000 in
theorem sums_walk (A : Option Addr) (c : Nat) (l : List ByteArray) (u : Int) (s : ByteArray) (w : World) (hl : Libs w) (hll : l.length ≤ maxLen) (hp : ∀ p ∈ l, p.size ≤ maxLen) (h : RdT w A l) (u0 : 0 ≤ u) (u1 : u < 18446744073709551616) (hs : s.size ≤ maxLen) :
    Calls Tryd.prog 3 #[.slice A l.length c, .int .u64 u, .string s] w fun e w' => e = .returned (.bool true) ∧ Below w.heap.size w w' := by
  have AW := Lib.hid (fun w (h : Libs w) => awake06 w h)
  have hl0 := Lib.hid hl
  unfold maxLen at hs hll hp
  have HP := Lib.hid (fun p hm => show p.size ≤ 9223372036854775807 from hp p hm)
  have HR := Lib.hid h
  have LG := Lib.hid (lawlong_any A c l w hll HP.out h)
  clear hp h hl
  go_enter Tryd.func3, Tryd.ntmps3
  go_wp2_with fail
  refine LG.out.mono ?_
  rintro e w1 ⟨⟨b, rfl⟩, rfl⟩
  cases b
  case true =>
    go_wp2_with fail
    refine (AW.out _ hl0.out).mono ?_
    rintro e w1 ⟨rfl, hb1⟩
    go_wp2_with fail
    go_ret
    exact ⟨rfl, hb1⟩
  case false =>
  by_cases h20 : 20000 < s.size
  · go_wp2_with fail
    refine (AW.out _ hl0.out).mono ?_
    rintro e w1 ⟨rfl, hb1⟩
    go_wp2_with fail
    go_ret
    exact ⟨rfl, hb1⟩
  have PA := Lib.hid (parse_any s w (by omega) hl0.out.1 hl0.out.2.1 hl0.out.2.2.1 hl0.out.2.2.2)
  go_wp2_with fail
  refine PA.out.mono ?_
  rintro e w1 ⟨hp1, hb1⟩
  obtain ⟨a, er, rfl⟩ := hp1.nums
  have HP1 := Lib.hid hp1
  have hl1 := Lib.hid (hl0.out.below hb1)
  have HR1 := Lib.hid (RdT.below HR.out hb1)
  have HB1 := Lib.hid hb1
  clear hp1 hb1 PA LG hl0 HR
  go_wp2_with fail
  refine (refparse_any s w1 (by omega)).mono ?_
  rintro e w2 ⟨hp2, rfl⟩
  rw [HP1.out.uniq hp2]
  clear hp2 HP1
  go_wp2_with fail
  refine (sum_any s _ hs).mono ?_
  rintro e w2 ⟨rfl, rfl⟩
  go_wp2_with fail
  refine (refsum_any s _ hs).mono ?_
  rintro e w2 ⟨rfl, rfl⟩
  go_wp2_with fail
  refine (of_any A c l _ hll HP.out HR1.out).mono ?_
  rintro e w2 ⟨rfl, hb2⟩
  have hl2 := Lib.hid (hl1.out.below hb2)
  have HR2 := Lib.hid (RdT.below HR1.out hb2)
  have HB2 := Lib.hid (HB1.out.trans (hb2.mono HB1.out.size))
  clear hb2 hl1 HR1 HB1
  go_wp2_with fail
  refine (refof_any A c l _ hll HP.out HR2.out).mono ?_
  rintro e w3 ⟨rfl, hb3⟩
  have hl3 := Lib.hid (hl2.out.below hb3)
  have HB3 := Lib.hid (HB2.out.trans (hb3.mono HB2.out.size))
  clear hb3 hl2 HR2 HB2
  go_wp2_with fail
  refine (text_any u _ u0 u1 hl3.out.2.2.1 hl3.out.2.2.2).mono ?_
  rintro e w4 ⟨rfl, hb4⟩
  have hl4 := Lib.hid (hl3.out.below hb4)
  have HB4 := Lib.hid (HB3.out.trans (hb4.mono HB3.out.size))
  clear hb4 hl3 HB3
  go_wp2_with fail
  refine (reftext_any u _ u0 u1).mono ?_
  rintro e w5 ⟨rfl, hb5⟩
  have hl5 := Lib.hid (hl4.out.below hb5)
  have HB5 := Lib.hid (HB4.out.trans (hb5.mono HB4.out.size))
  clear hb5 hl4 HB4
  go_wp2_with fail
  refine (AW.out _ hl5.out).mono ?_
  rintro e w6 ⟨rfl, hb6⟩
  have HB6 := Lib.hid (HB5.out.trans (hb6.mono HB5.out.size))
  clear hb6
  go_wp2_with fail
  go_ret
  exact ⟨rfl, HB6.out⟩
end Go.Proofs.YtiegocnmijheoaaDoor
