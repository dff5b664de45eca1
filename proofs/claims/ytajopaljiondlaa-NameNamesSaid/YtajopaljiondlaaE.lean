/- WALKS of layer 24: the document's parent, Passed, Depth, Moves. -/
import Derived.Test.YtajopaljiondlaaD
set_option linter.unusedVariables false
namespace Go.Proofs.Ytajopaljiondlaa
open Go.RowKit Go.ChangeShapes Go.WideShapes Go.ChangeAt

theorem take_snoc {α : Type} (l : List α) (k : Nat) (h : k < l.length) : l.take (k + 1) = l.take k ++ [l[k]] := by
  rw [List.take_add_one, List.getElem?_eq_getElem h]; rfl
theorem parL_none : ∀ (l : List (Int × Int)) (x : Int), (∀ q ∈ l, q.1 ≠ x) → parL l x = none
  | [], x, _ => rfl
  | q :: l, x, h => by
    unfold parL
    rw [if_neg (fun e => h q (List.mem_cons_self ..) e.symm)]
    exact parL_none l x (fun q hq => h q (List.mem_cons_of_mem _ hq))
theorem parL_app : ∀ (l r : List (Int × Int)) (x : Int), (∀ q ∈ l, q.1 ≠ x) → parL (l ++ r) x = parL r x
  | [], r, x, _ => rfl
  | q :: l, r, x, h => by
    show (if x = q.1 then some q.2 else parL (l ++ r) x) = _
    rw [if_neg (fun e => h q (List.mem_cons_self ..) e.symm)]
    exact parL_app l r x (fun q hq => h q (List.mem_cons_of_mem _ hq))
theorem parL_at (l : List (Int × Int)) (k : Nat) (x : Int) (hk : k < l.length) (h : ∀ q ∈ l.take k, q.1 ≠ x) (he : l[k].1 = x) : parL l x = some l[k].2 := by
  have e : l = l.take k ++ l[k] :: l.drop (k + 1) := by rw [← List.drop_eq_getElem_cons hk, List.take_append_drop]
  have := parL_app (l.take k) (l[k] :: l.drop (k + 1)) x h
  rw [← e] at this
  rw [this]
  unfold parL
  rw [if_pos he.symm]
def ParPost (l : List (Int × Int)) (x : Int) (w : World) (e : Ending) (w' : World) : Prop := e = .returned (.tuple #[.int .i64 ((parL l x).getD 0), .bool (parL l x).isSome]) ∧ w = w'
set_option maxHeartbeats 1000000 in
theorem parent_any (A : Option Addr) (c : Nat) (l : List (Int × Int)) (x : Int) (w : World) (hl : l.length ≤ 100000) (hR : RdU w A l) :
    Calls Try.prog 31 #[.slice A l.length c, .int .i64 x] w (ParPost l x w) := by
  have HR := Lib.hid hR
  clear hR
  go_enter Try.func31, Try.ntmps31
  go_wp2_with fail
  go_loop [6] (fun i => ∃ k : Nat, k ≤ l.length ∧ i = .int .i64 k ∧ ∀ q ∈ l.take k, q.1 ≠ x) (fun i => l.length - (intOf i).toNat)
  case atStart => exact ⟨0, Nat.zero_le _, rfl, fun q hq => by simp at hq⟩
  case round =>
    obtain ⟨k, hk, rfl, hall⟩ := hrel
    by_cases hlt : k < l.length
    · obtain ⟨b, off, rfl, hc⟩ := HR.out (by intro h; subst h; simp at hlt)
      obtain ⟨d0, d1⟩ := hc k hlt
      have HK := Lib.hid (take_snoc l k hlt)
      by_cases he : l[k].1 = x
      · have hp := Lib.hid (parL_at l k x hlt hall he)
        rw [he] at d0
        generalize l[k].2 = p at *
        clear hc he
        replace hall := Lib.hid hall
        go_wp2_with fail
        go_ret2
        refine ⟨?_, rfl⟩
        rw [hp.out]
        rfl
      · have heB : (l[k].1 == x) = false := by simpa using he
        have HE := Lib.hid he
        have HA := Lib.hid hall
        clear hc he hall
        generalize hq : l[k] = q at *
        replace hq := Lib.hid hq
        go_wp2_with fail
        go_round
        case rel =>
          refine ⟨k + 1, by omega, by go_num, fun q' hq' => ?_⟩
          rw [HK.out] at hq'
          rcases List.mem_append.1 hq' with h | h
          · exact HA.out q' h
          · simp at h
            rw [h]
            exact HE.out
        case measure => simp [intOf]; omega
    · have hkl : k = l.length := by omega
      subst hkl
      rw [List.take_length] at hall
      have hp := Lib.hid (parL_none l x hall)
      clear hall
      go_wp2_with fail
      go_ret2
      refine ⟨?_, rfl⟩
      rw [hp.out]
      rfl
end Go.Proofs.Ytajopaljiondlaa
