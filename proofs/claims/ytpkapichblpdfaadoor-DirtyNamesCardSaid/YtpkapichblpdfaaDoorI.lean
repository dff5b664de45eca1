/- WALK of layer 22: the document's Digits and Verf. -/
import Derived.Test.YtpkapichblpdfaaDoorH
set_option linter.unusedVariables false
namespace Go.Proofs.YtpkapichblpdfaaDoor
open Go.RowKit Go.ChangeShapes Go.WideShapes Go.ChangeAt
theorem conv1 (w : World) (c : Int) : (convert 30 9 (.slice (some ⟨w.heap.size, 0, none⟩) 1 1)).run Tryd.prog (w.alloc (.cells #[.int .u8 c] 5)) = .ok (.string (strOfNums [c])) (w.alloc (.cells #[.int .u8 c] 5)) :=
  run_convert_bytes_arg (w.alloc (.cells #[.int .u8 c] 5)) 30 5 Tryd.underlying30 Tryd.underlying5 w.heap.size 0 1 1 [c] rfl (fun i hi => by
    rw [Nat.zero_add, World.cell?_alloc_new]
    match i, hi with
    | 0, _ => rfl) 9 Tryd.underlying9
/-- Digits of what is left. -/
def restD (v : Nat) : List UInt8 := if v = 0 then [] else Lib.decDigits v
theorem restD_step (v : Nat) (h : v ≠ 0) : restD v = restD (v / 10) ++ [UInt8.ofNat (48 + v % 10)] := by
  unfold restD
  rw [if_neg h]
  conv => lhs; unfold Lib.decDigits
  by_cases h1 : v < 10
  · rw [dif_pos h1, if_pos (by omega), Nat.mod_eq_of_lt h1]; rfl
  · rw [dif_neg h1, if_neg (by omega)]
theorem decD_step (v : Nat) : Lib.decDigits v = restD (v / 10) ++ [UInt8.ofNat (48 + v % 10)] := by
  by_cases h : v = 0
  · subst h
    simp [Lib.decDigits, restD]
  · rw [← restD_step v h]; unfold restD; rw [if_neg h]
theorem one_str (v : Nat) : strOfNums [48 + (v : Int) % 10] = ⟨#[UInt8.ofNat (48 + v % 10)]⟩ := by
  apply bytes_inj
  rw [strOfNums_data]
  show [UInt8.ofNat (48 + (v : Int) % 10).toNat] = [_]
  rw [show (48 + (v : Int) % 10).toNat = 48 + v % 10 from by omega]
theorem str_cons (b : UInt8) (T : List UInt8) : (⟨#[b]⟩ : ByteArray) ++ ⟨T.toArray⟩ = ⟨(b :: T).toArray⟩ := by
  apply bytes_inj
  rw [ByteArray.data_append]
  simp
set_option maxRecDepth 20000 in
set_option maxHeartbeats 2000000 in
theorem digits_any (n : Int) (h0 : -9223372036854775808 ≤ n) (h1 : n ≤ 9223372036854775807) (w : World) : Calls Tryd.prog 24 #[.int .i64 n] w fun e w' => e = .returned (.string ⟨(Lib.itoa n).toArray⟩) ∧ Below w.heap.size w w' := by
  obtain ⟨u, hu⟩ : ∃ u : Nat, n.natAbs = u := ⟨_, rfl⟩
  have hu2 : u ≤ 9223372036854775808 := by omega
  have hcv := fun (W : World) (c : Int) => conv1 W c
  have hI := Lib.hid (show Lib.itoa n = (if n < 0 then [45] else []) ++ Lib.decDigits u from by
    unfold Lib.itoa
    split
    · rw [hu]; rfl
    · rw [show n.toNat = u from by omega]; rfl)
  have HD := Lib.hid (decD_step u)
  have hlen : (Lib.decDigits u).length ≤ 21 := by
    have := Lib.itoa_length_le n h0 h1
    rw [hI.out, List.length_append] at this
    omega
  have HL := Lib.hid hlen
  clear hlen
  have e1 : n < 0 → IntKind.u64.wrap (-IntKind.u64.wrap n) = (u : Int) := fun h => by simp [IntKind.wrap, IntKind.bits, IntKind.signed]; omega
  have e2 : 0 ≤ n → IntKind.u64.wrap n = (u : Int) := fun h => by simp [IntKind.wrap, IntKind.bits, IntKind.signed]; omega
  have key : ∀ (d : Nat) (T : ByteArray), True := fun _ _ => trivial
  by_cases hn : n < 0
  · have e := e1 hn
    clear e1 e2 key
    go_enter Tryd.func24, Tryd.ntmps24
    go_wp2_with fail
    go_loopw [3, 4] (fun u' s wr => ∃ v : Nat, v ≤ u ∧ u' = .int .u64 v ∧ ∃ T : List UInt8, s = .string ⟨T.toArray⟩ ∧ Lib.decDigits u = restD v ++ T ∧ Below w.heap.size w wr) (fun u' _ _ => (intOf u').toNat)
    case atStart => exact ⟨u / 10, by omega, by go_num, _, by rw [one_str], HD.out, (Below.refl _ _).alloc (Nat.le_refl _) _⟩
    case round =>
      obtain ⟨v, hv, rfl, T, rfl, hT, hbw⟩ := hrel
      have hTl : T.length ≤ 21 := by
        have := HL.out
        rw [hT, List.length_append] at this
        omega
      have hsl : (strOfNums [48 + (v : Int) % 10]).size = 1 := by rw [one_str]; rfl
      by_cases hv0 : v = 0
      · subst hv0
        replace hT : Lib.decDigits u = T := hT
        replace hT := Lib.hid hT
        go_wp2_with fail
        all_goals try (exfalso; omega)
        go_ret
        have hI' := hI.out
        rw [hT.out] at hI'
        first | rw [if_pos hn] at hI' | rw [if_neg (by omega)] at hI'
        refine ⟨?_, hbw⟩
        rw [hI']
        rfl
      · have HS := Lib.hid (restD_step v hv0)
        replace hT := Lib.hid hT
        have hvp : 0 < v := by omega
        have HB := Lib.hid hbw
        have hbz := hbw.size
        clear hbw
        go_wp2_with fail
        refine ⟨⟨v / 10, by omega, by go_num, UInt8.ofNat (48 + v % 10) :: T, by rw [one_str, str_cons], by rw [hT.out, HS.out, List.append_assoc]; rfl, HB.out.alloc hbz _⟩, by simp [intOf]; omega⟩
  · have e := e2 (by omega)
    have en : n = (u : Int) := by omega
    subst en
    clear e1 e2 key e hu
    go_enter Tryd.func24, Tryd.ntmps24
    go_wp2_with fail
    go_loopw [3, 4] (fun u' s wr => ∃ v : Nat, v ≤ u ∧ u' = .int .u64 v ∧ ∃ T : List UInt8, s = .string ⟨T.toArray⟩ ∧ Lib.decDigits u = restD v ++ T ∧ Below w.heap.size w wr) (fun u' _ _ => (intOf u').toNat)
    case atStart => exact ⟨u / 10, by omega, by go_num, _, by rw [one_str], HD.out, (Below.refl _ _).alloc (Nat.le_refl _) _⟩
    case round =>
      obtain ⟨v, hv, rfl, T, rfl, hT, hbw⟩ := hrel
      have hTl : T.length ≤ 21 := by
        have := HL.out
        rw [hT, List.length_append] at this
        omega
      have hsl : (strOfNums [48 + (v : Int) % 10]).size = 1 := by rw [one_str]; rfl
      by_cases hv0 : v = 0
      · subst hv0
        replace hT : Lib.decDigits u = T := hT
        replace hT := Lib.hid hT
        go_wp2_with fail
        all_goals try (exfalso; omega)
        go_ret
        have hI' := hI.out
        rw [hT.out] at hI'
        first | rw [if_pos hn] at hI' | rw [if_neg (by omega)] at hI'
        refine ⟨?_, hbw⟩
        rw [hI']
        rfl
      · have HS := Lib.hid (restD_step v hv0)
        replace hT := Lib.hid hT
        have hvp : 0 < v := by omega
        have HB := Lib.hid hbw
        have hbz := hbw.size
        clear hbw
        go_wp2_with fail
        refine ⟨⟨v / 10, by omega, by go_num, UInt8.ofNat (48 + v % 10) :: T, by rw [one_str, str_cons], by rw [hT.out, HS.out, List.append_assoc]; rfl, HB.out.alloc hbz _⟩, by simp [intOf]; omega⟩
end Go.Proofs.YtpkapichblpdfaaDoor
