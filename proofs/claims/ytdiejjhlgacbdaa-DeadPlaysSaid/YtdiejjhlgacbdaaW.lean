/- LAYER 16, the document's table: Give. -/
import Derived.Test.YtdiejjhlgacbdaaV
import Derived.Test.YtdiejjhlgacbdaaM
set_option linter.unusedVariables false
namespace Go.Proofs.Ytdiejjhlgacbdaa
open Go.RowKit Go.ChangeShapes Go.WideShapes Go.ChangeAt

theorem rt_pack {O : Nat → Prop} {w w2 w3 w4 : World} {x : Nat} {P : List Pr} (hO : ∀ k, O k → k < w.heap.size) (hb : Below w.heap.size w w2) (h : RT (grow O w2 w3) w3 x P) (ho : Off O w2 w3) (hb4 : Below w3.heap.size w3 w4) : RT (grow O w w4) w4 x P ∧ Off O w w4 := by
  have s1 := hb.size
  have s2 := ho.size
  have s3 := hb4.size
  refine ⟨(h.below hb4).wide ?_ (grow_lt hO (Nat.le_trans s1 (Nat.le_trans s2 s3))), ((Off.of_below O hb).trans ho).trans (Off.of_below O hb4)⟩
  rintro k (hk | ⟨k1, k2⟩)
  · exact .inl hk
  · exact .inr ⟨Nat.le_trans s1 k1, Nat.lt_of_lt_of_le k2 s3⟩
theorem atP_idx {P : List Pr} {p : Pr} (h : p ∈ P) : ∃ k, k < P.length ∧ atP P p = (k : Int) ∧ P = P.take k ++ p :: P.drop (k + 1) := by
  have hk := List.idxOf_lt_length_of_mem h
  refine ⟨P.idxOf p, hk, by unfold atP; rw [if_pos h], ?_⟩
  conv => lhs; rw [← List.take_append_drop (P.idxOf p) P]
  rw [List.drop_eq_getElem_cons hk]
  congr 2
  exact List.getElem_idxOf hk
theorem Rel.give {S : Int → Nat} {P : List Pr} (hG : Good S) (h : Rel S P) {a b : Int} (hm : mayB a b = true) (hbit : (S b).testBit a.toNat = true) {A B : List Pr} (hP : P = A ++ (a, b) :: B) : Rel (giveS S a b) (A ++ B) := by
  have h2 := mayB_iff.1 hm
  have hn := h.1
  rw [hP] at hn
  rw [List.nodup_append] at hn
  obtain ⟨n1, n2, n3⟩ := hn
  rw [List.nodup_cons] at n2
  have hmem : ∀ q, q ∈ A ++ B ↔ q ∈ P ∧ q ≠ (a, b) := fun q => by
    rw [hP]
    simp only [List.mem_append, List.mem_cons]
    constructor
    · rintro (h | h)
      · exact ⟨.inl h, fun e => n3 q h (a, b) (by simp) e⟩
      · exact ⟨.inr (.inr h), fun e => n2.1 (e ▸ h)⟩
    · rintro ⟨h | h | h, hne⟩
      · exact .inl h
      · exact absurd h hne
      · exact .inr h
  refine ⟨?_, fun c d => ?_⟩
  · rw [List.nodup_append]
    exact ⟨n1, n2.2, fun p hp q hq => n3 p hp q (by simp [hq])⟩
  · rw [hmem, h.2]
    unfold giveS
    rw [if_pos hm, if_pos hbit]
    unfold updS
    by_cases hd : d = b
    · subst hd
      rw [if_pos rfl]
      constructor
      · rintro ⟨⟨p1, p2, p3⟩, hne⟩
        refine ⟨p1, p2, ?_⟩
        rw [clr_bit (hG d).1 (by omega) (by omega), p3]
        have : c ≠ a := fun e => hne (by rw [e])
        simp
        omega
      · rintro ⟨p1, p2, p3⟩
        rw [clr_bit (hG d).1 (by omega) (by omega)] at p3
        simp at p3
        refine ⟨⟨p1, p2, p3.1⟩, fun e => p3.2 ?_⟩
        simp at e
        rw [e]
    · rw [if_neg hd]
      simp [hd]
theorem giveB_who {S : Int → Nat} (hG : Good S) {a b : Int} (hm : mayB a b = true) (hbit : (S b).testBit a.toNat = true) : giveB S a b = true ↔ whoU (giveS S a b b) 7 = [] := by
  have h2 := mayB_iff.1 hm
  rw [giveB_spec]
  have : giveS S a b b = clrB (S b) a.toNat := by
    unfold giveS updS
    rw [if_pos hm, if_pos hbit, if_pos rfl]
  rw [this, who_nil (clr_lt (hG b).1 (by omega))]
  exact ⟨fun h => h.2.2, fun h => ⟨hm, hbit, h⟩⟩
theorem who_len (x : Nat) (A0 : Option Addr) (c0 : Nat) (P : List Pr) (b : Int) (w : World) (hx : w.cell? ⟨x, 0, none⟩ = some (.slice A0 P.length c0)) (hR : RdP w A0 P) (hl : P.length ≤ 20000000) : Calls Try.prog 35 #[.pointer (some ⟨x, 0, none⟩), .int .i64 b] w fun e w' => (∃ A c n, e = .returned (.slice A n c) ∧ n ≤ 7 ∧ (((n : Nat) : Int) == 0) = decide (whoL P b 7 = [])) ∧ Below w.heap.size w w' := by
  refine (who_ref x A0 c0 P b w hx hR hl).mono ?_
  rintro e w' ⟨A, c, rfl, hown, hb⟩
  refine ⟨⟨A, c, _, rfl, whoL_len _ _ _, ?_⟩, hb⟩
  rw [Bool.eq_iff_iff]
  simp
set_option maxRecDepth 20000 in
set_option maxHeartbeats 2000000 in
theorem give_ref (O : Nat → Prop) (x n : Nat) (S : Int → Nat) (a b : Int) (w : World) (hX : XS O w x n S) (hG : Good S) (hn : n ≤ 10000000) : Calls Try.prog 30 #[.pointer (some ⟨x, 0, none⟩), .int .i64 a, .int .i64 b] w (RefPost O x n (giveS S a b) (.tuple #[.bool (giveB S a b), .int .i64 (giveE S a b)]) w) := by
  have HT := tree_any a w
  have HK := block_any b w
  by_cases ht : 0 ≤ a ∧ a ≤ 6
  · by_cases hb : 2 ≤ b ∧ b < 8192
    · have hm : mayB a b = true := mayB_iff.2 ⟨ht.1, ht.2, hb.1, hb.2⟩
      have hOl := hX.lt
      obtain ⟨P, hRT, hRel, hPn⟩ := hX
      obtain ⟨A, c, hx, hR⟩ := hRT.look
      have HA := at_any x A c P (a, b) w hx hR (by omega)
      rw [decide_eq_true ht] at HT
      rw [decide_eq_true hb] at HK
      by_cases hin : (a, b) ∈ P
      · have hbit := (rel_in hRel hm).1 hin
        have hE : giveE S a b = 0 := by unfold giveE; rw [if_pos hm, if_pos hbit]
        obtain ⟨k, hk, hat, hPk⟩ := atP_idx hin
        have hRel' := Rel.give hG hRel hm hbit hPk
        have hBW := giveB_who hG hm hbit
        rw [← whoL_eq hRel' b] at hBW
        rw [hat] at HA
        rw [hE]
        generalize giveS S a b = S' at *
        have hlen : (P.take k ++ P.drop (k + 1)).length ≤ n := by rw [List.length_append, List.length_take, List.length_drop]; omega
        have HB := Lib.hid hBW
        replace hRel' := Lib.hid hRel'
        have HRT := Lib.hid hRT
        have HC := Lib.hid (fun (W : World) (h : RT O W x P) => cut_ref O x k P W h hk (by omega))
        have hk0 : ¬ ((k : Int) < 0) := by omega
        clear hx hR hRT hRel hE hbit hin hBW hPk hat
        generalize P.take k ++ P.drop (k + 1) = P' at *
        generalize giveB S a b = B at *
        replace ht := Lib.hid ht
        replace hb := Lib.hid hb
        go_enter Try.func30, Try.ntmps30
        go_wp2_with fail
        refine HT.mono ?_
        rintro e w1 ⟨rfl, rfl⟩
        go_wp2_with fail
        refine HK.mono ?_
        rintro e w1 ⟨rfl, rfl⟩
        go_wp2_with fail
        refine HA.mono ?_
        rintro e w2 ⟨rfl, hb2⟩
        clear HA HT HK
        go_wp2_with fail
        refine (HC.out w2 (HRT.out.below hb2)).mono ?_
        rintro e w3 ⟨rfl, hrt3, ho3⟩
        obtain ⟨A3, c3, hx3, hR3⟩ := hrt3.look
        have HW := who_len x A3 c3 P' b w3 hx3 hR3 (by omega)
        have H3 := Lib.hid (And.intro hb2 (And.intro hrt3 ho3))
        clear hx3 hR3 hrt3 ho3 hb2
        go_wp2_with fail
        refine HW.mono ?_
        rintro e w4 ⟨⟨A4, c4, m4, rfl, hm4, hm40⟩, hb4⟩
        have HP := Lib.hid (rt_pack hOl H3.out.1 H3.out.2.1 H3.out.2.2 hb4)
        have hres : (((m4 : Nat) : Int) == 0) = B := by
          rw [hm40]
          rw [Bool.eq_iff_iff, decide_eq_true_iff]
          exact HB.out.symm
        clear hm40 H3 hb4 HW HB
        go_wp2_with fail
        go_ret2
        exact ⟨by rw [← hres]; rfl, ⟨P', HP.out.1, hRel'.out, hlen⟩, HP.out.2⟩
      · have hbit : ¬ (S b).testBit a.toNat = true := fun e => hin ((rel_in hRel hm).2 e)
        have hE : giveE S a b = 5 := by unfold giveE; rw [if_pos hm, if_neg hbit]
        have hS : giveS S a b = S := by unfold giveS; rw [if_pos hm, if_neg hbit]
        have hB : giveB S a b = false := by
          rw [← Bool.not_eq_true, giveB_spec]
          exact fun h => hbit h.2.1
        rw [hE, hS, hB]
        rw [atP_none hin] at HA
        have HX := Lib.hid (show XS O w x n S from ⟨P, hRT, hRel, hPn⟩)
        clear hx hR hRT hRel hE hS hB hbit hin
        replace ht := Lib.hid ht
        replace hb := Lib.hid hb
        go_enter Try.func30, Try.ntmps30
        go_wp2_with fail
        refine HT.mono ?_
        rintro e w1 ⟨rfl, rfl⟩
        go_wp2_with fail
        refine HK.mono ?_
        rintro e w1 ⟨rfl, rfl⟩
        go_wp2_with fail
        refine HA.mono ?_
        rintro e w2 ⟨rfl, hb2⟩
        clear HA HT HK
        have HP := Lib.hid (And.intro (HX.out.grown hb2 (Nat.le_refl n)) (Off.of_below O hb2))
        go_wp2_with fail
        go_ret2
        exact ⟨rfl, HP.out⟩
    · have hm : mayB a b = false := by
        rw [← Bool.not_eq_true, mayB_iff]
        exact fun h => hb ⟨h.2.2.1, h.2.2.2⟩
      have hE : giveE S a b = 1 := by unfold giveE; rw [hm]; rfl
      have hS : giveS S a b = S := by unfold giveS; rw [hm]; rfl
      have hB : giveB S a b = false := by unfold giveB; rw [hm]; rfl
      rw [hE, hS, hB]
      rw [decide_eq_true ht] at HT
      rw [decide_eq_false hb] at HK
      have HX := Lib.hid (And.intro (hX.grown (Below.refl _ w) (Nat.le_refl n)) (Off.refl O w))
      clear hX hE hS hB hm
      replace ht := Lib.hid ht
      replace hb := Lib.hid hb
      go_enter Try.func30, Try.ntmps30
      go_wp2_with fail
      refine HT.mono ?_
      rintro e w1 ⟨rfl, rfl⟩
      go_wp2_with fail
      refine HK.mono ?_
      rintro e w1 ⟨rfl, rfl⟩
      go_wp2_with fail
      go_ret2
      exact ⟨rfl, HX.out⟩
  · have hm : mayB a b = false := by
      rw [← Bool.not_eq_true, mayB_iff]
      exact fun h => ht ⟨h.1, h.2.1⟩
    have hE : giveE S a b = 1 := by unfold giveE; rw [hm]; rfl
    have hS : giveS S a b = S := by unfold giveS; rw [hm]; rfl
    have hB : giveB S a b = false := by unfold giveB; rw [hm]; rfl
    rw [hE, hS, hB]
    rw [decide_eq_false ht] at HT
    have HX := Lib.hid (And.intro (hX.grown (Below.refl _ w) (Nat.le_refl n)) (Off.refl O w))
    clear hX hE hS hB hm
    replace ht := Lib.hid ht
    go_enter Try.func30, Try.ntmps30
    go_wp2_with fail
    refine HT.mono ?_
    rintro e w1 ⟨rfl, rfl⟩
    go_wp2_with fail
    go_ret2
    exact ⟨rfl, HX.out⟩
end Go.Proofs.Ytdiejjhlgacbdaa
