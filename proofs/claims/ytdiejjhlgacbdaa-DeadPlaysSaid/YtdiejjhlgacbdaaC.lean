/- LAYER 16 (dead): Give. -/
import Derived.Test.YtdiejjhlgacbdaaB
set_option linter.unusedVariables false
namespace Go.Proofs.Ytdiejjhlgacbdaa
open Go.RowKit Go.ChangeShapes Go.WideShapes Go.ChangeAt

/-- Give's answer, its code, and what is needed then. -/
def giveB (S : Int → Nat) (a b : Int) : Bool := mayB a b && (S b).testBit a.toNat && decide (clrB (S b) a.toNat = 0)
def giveE (S : Int → Nat) (a b : Int) : Int := if mayB a b then if (S b).testBit a.toNat then 0 else 5 else 1
def giveS (S : Int → Nat) (a b : Int) : Int → Nat := if mayB a b then if (S b).testBit a.toNat then updS S b (clrB (S b) a.toNat) else S else S
theorem giveS_good {S : Int → Nat} (h : Good S) (a b : Int) : Good (giveS S a b) := by
  unfold giveS
  split
  · rename_i hm
    rw [mayB_iff] at hm
    split
    · exact h.upd ⟨hm.2.2.1, hm.2.2.2⟩ (clr_lt (h b).1 (by omega))
    · exact h
  · exact h
/-- What Give does. -/
def GivePost (B : Bool) (E : Int) (S' : Int → Nat) (r bm n : Nat) (w : World) (e : Ending) (w' : World) : Prop := e = .returned (.tuple #[.bool B, .int .i64 E]) ∧ Tab w' r bm (n + 1) S' ∧ Off (fun k => k = bm) w w'
set_option maxHeartbeats 2000000 in
theorem give_any (r bm n : Nat) (S : Int → Nat) (a b : Int) (w : World) (hT : Tab w r bm n S) (hG : Good S) (hn : n ≤ 10000000) :
    Calls Try.prog 10 #[.pointer (some ⟨r, 0, none⟩), .int .i64 a, .int .i64 b] w (GivePost (giveB S a b) (giveE S a b) (giveS S a b) r bm n w) := by
  have hM := may_any a b w
  have hE := Lib.hid (show giveE S a b = if mayB a b then if (S b).testBit a.toNat then 0 else 5 else 1 from rfl)
  have hS := Lib.hid (show giveS S a b = if mayB a b then if (S b).testBit a.toNat then updS S b (clrB (S b) a.toNat) else S else S from rfl)
  have hB := Lib.hid (show giveB S a b = (mayB a b && (S b).testBit a.toNat && decide (clrB (S b) a.toNat = 0)) from rfl)
  generalize giveE S a b = E at *
  generalize giveS S a b = S' at *
  generalize giveB S a b = B at *
  have c0 := hT.cell
  have HT := Lib.hid hT
  cases hm : mayB a b with
  | false =>
    rw [hm] at hM
    have hE' := hE.out; have hS' := hS.out; have hB' := hB.out
    rw [hm] at hE' hS' hB'
    simp only [Bool.false_eq_true, if_false, Bool.false_and] at hE' hS' hB'
    subst hE'; subst hS'; subst hB'
    clear hE hS hT hB
    go_enter Try.func10, Try.ntmps10
    go_wp2_with (go_at_call 23; refine hM.mono ?_; rintro e w1 ⟨rfl, rfl⟩)
    go_ret2
    exact ⟨rfl, HT.out.mono (Nat.le_succ _), Off.refl _ _⟩
  | true =>
    rw [hm] at hM
    have hmm := mayB_iff.1 hm
    obtain ⟨t, rfl⟩ : ∃ t : Nat, a = (t : Int) := ⟨a.toNat, by omega⟩
    have ht : t < 7 := by omega
    have hs := (hG b).1
    have hb : In64 b := by unfold In64; omega
    have hlk := hT.2.look b hb
    have hlk1 : (Instr.lookup 48 (.map (some bm)) (.int .i64 b) false).run Try.prog w.drew = .ok (.int .u8 (S b)) w.drew := (hT.2.off (Off.of_below (fun _ => False) ((Below.refl _ _).drew)) (fun h => h)).look b hb
    have hH := has_any (S b) t w hs ht
    cases hbit : (S b).testBit t with
    | false =>
      rw [hbit] at hH
      have hE' := hE.out; have hS' := hS.out; have hB' := hB.out
      rw [hm, Int.toNat_natCast, hbit] at hE' hS' hB'
      simp only [if_true, Bool.false_eq_true, if_false, Bool.and_false, Bool.false_and] at hE' hS' hB'
      subst hE'; subst hS'; subst hB'
      clear hE hS hT hlk1 hB
      go_enter Try.func10, Try.ntmps10
      go_wp2_with (first | (go_at_call 23; refine hM.mono ?_; rintro e w1 ⟨rfl, rfl⟩) | (go_at_call 24; refine hH.mono ?_; rintro e w1 ⟨rfl, rfl⟩))
      go_ret2
      exact ⟨rfl, HT.out.mono (Nat.le_succ _), Off.refl _ _⟩
    | true =>
      rw [hbit] at hH
      have hE' := hE.out; have hS' := hS.out; have hB' := hB.out
      rw [hm, Int.toNat_natCast, hbit] at hE' hS' hB'
      simp only [if_true, Bool.true_and] at hE' hS' hB'
      subst hE'; subst hS'
      have hTD : TMap w.drew bm n S := hT.2.off (Off.of_below (fun _ => False) ((Below.refl _ _).drew)) (fun h => h)
      have hcl := clr_lt hs ht
      have cD : w.drew.cell? ⟨r, 0, none⟩ = some (.map (some bm)) := c0
      by_cases hz : clrB (S b) t = 0
      · obtain ⟨w2, hup, ho2, hl2, hdel⟩ := hTD.kill b hb hn
        obtain ⟨w3, hd3, hT3, ho3⟩ := hdel w2 rfl
        have ho2' : Off (fun k => k = bm) w w2 := (Off.of_below (fun k => k = bm) ((Below.refl _ w).drew)).trans ho2
        have ho3' := ho2'.trans ho3
        have hB2 : B = true := by rw [hB', hz]; rfl
        subst hB2
        have hfin := Lib.hid (⟨HT.out.map ho3' (by rw [hz]; exact hT3), ho3'⟩ : Tab w3 r bm (n + 1) (updS S b (clrB (S b) t)) ∧ Off (fun k => k = bm) w w3)
        have c2 : w2.cell? ⟨r, 0, none⟩ = some (.map (some bm)) := ho2'.cell c0 HT.out.ne
        have hW := without_any (S b) t w.drew hs ht
        rw [hz] at hW
        have hd3' := hd3 0
        have hd4 := fun ty => hd3 ty
        clear hE hS hT hB hB' hT3 ho2 ho2' ho3 ho3' hdel hd3
        generalize clrB (S b) t = c at *
        clear hz hcl
        go_enter Try.func10, Try.ntmps10
        go_wp2_with (first | (go_at_call 23; refine hM.mono ?_; rintro e w1 ⟨rfl, rfl⟩) | (go_at_call 24; refine hH.mono ?_; rintro e w1 ⟨rfl, rfl⟩))
        clear hlk
        go_region_held3 (fun w' => w'.cell? ⟨r, 0, none⟩ = some (.map (some bm)))
          (first | assumption | exact c0 | exact cD | exact c2)
          (first | (refine hW.mono ?_; rintro e w1 ⟨rfl, rfl⟩) | (rw [hlk1]) | rw [hup])
        all_goals (clear hlk1 hup c0 cD; go_wp2_with fail; go_ret2; exact ⟨rfl, hfin.out⟩)
      · obtain ⟨w2, hup, hT2, ho2⟩ := hTD.put b (clrB (S b) t) hb hcl hz hn
        have ho2' : Off (fun k => k = bm) w w2 := (Off.of_below (fun k => k = bm) ((Below.refl _ w).drew)).trans ho2
        have hB2 : B = false := by rw [hB']; simpa using hz
        subst hB2
        have hfin := Lib.hid (⟨HT.out.map ho2' hT2, ho2'⟩ : Tab w2 r bm (n + 1) (updS S b (clrB (S b) t)) ∧ Off (fun k => k = bm) w w2)
        have c2 := hfin.out.1.cell
        have hl2 := hT2.look b hb
        have hup2 : updS S b (clrB (S b) t) b = clrB (S b) t := by simp [updS]
        rw [hup2] at hl2
        have hW := without_any (S b) t w.drew hs ht
        have hz' : (((clrB (S b) t : Nat) : Int) == 0) = false := by
          simp
          omega
        clear hE hS hT hB hB' hT2 ho2 ho2' hup2
        replace hz := Lib.hid hz
        go_enter Try.func10, Try.ntmps10
        go_wp2_with (first | (go_at_call 23; refine hM.mono ?_; rintro e w1 ⟨rfl, rfl⟩) | (go_at_call 24; refine hH.mono ?_; rintro e w1 ⟨rfl, rfl⟩))
        clear hlk
        go_region_held3 (fun w' => w'.cell? ⟨r, 0, none⟩ = some (.map (some bm)))
          (first | assumption | exact c0 | exact cD | exact c2)
          (first | (refine hW.mono ?_; rintro e w1 ⟨rfl, rfl⟩) | (rw [hlk1]) | rw [hup])
        all_goals (clear hlk1 hup c0 cD; go_wp2_with fail; go_ret2; exact ⟨rfl, hfin.out⟩)
end Go.Proofs.Ytdiejjhlgacbdaa
