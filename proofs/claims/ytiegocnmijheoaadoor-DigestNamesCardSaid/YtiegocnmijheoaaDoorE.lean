/- WALKS of layer 6: Text. -/
import Derived.Test.YtiegocnmijheoaaDoorD
set_option linter.unusedVariables false
namespace Go.Proofs.YtiegocnmijheoaaDoor
open Go.RowKit Go.ChangeShapes Go.WideShapes Go.ChangeAt

theorem app_str (xs ys : List Int) : strOfNums xs ++ strOfNums ys = strOfNums (xs ++ ys) := by
  apply ByteArray.ext
  apply Array.ext'
  simp [strOfNums, ByteArray.data_append]
theorem rep_any (n : Nat) (h : n ≤ 15) (w : World) : Calls Tryd.prog 31 #[.string ⟨#[48]⟩, .int .i64 n] w fun e w' => e = .returned (.string (strOfNums (List.replicate n 48))) ∧ w = w' := by
  match n, h with
  | 0, _ => exact rep_0 w
  | 1, _ => exact rep_1 w
  | 2, _ => exact rep_2 w
  | 3, _ => exact rep_3 w
  | 4, _ => exact rep_4 w
  | 5, _ => exact rep_5 w
  | 6, _ => exact rep_6 w
  | 7, _ => exact rep_7 w
  | 8, _ => exact rep_8 w
  | 9, _ => exact rep_9 w
  | 10, _ => exact rep_10 w
  | 11, _ => exact rep_11 w
  | 12, _ => exact rep_12 w
  | 13, _ => exact rep_13 w
  | 14, _ => exact rep_14 w
  | 15, _ => exact rep_15 w
theorem hex_pad (u : Int) (j : Nat) (h0 : 0 ≤ u) (hj : j ≤ 15) (hu : u < 16 ^ (j + 1)) : List.replicate (15 - j) (48 : Int) ++ hexL u j = hexL u 15 := by
  apply List.ext_getElem
  · simp [hexL]; omega
  · intro i h1 h2
    have hi : i < 16 := by simpa [hexL] using h2
    by_cases hlt : i < 15 - j
    · rw [List.getElem_append_left (by simpa using hlt)]
      simp only [List.getElem_replicate, hexL, List.getElem_map, List.getElem_range]
      have hz : u / 16 ^ (15 - i) = 0 := by
        apply Int.ediv_eq_zero_of_lt h0
        have : (16 : Int) ^ (j + 1) ≤ 16 ^ (15 - i) := by
          exact_mod_cast Nat.pow_le_pow_right (by decide) (by omega)
        omega
      rw [hz]; rfl
    · rw [List.getElem_append_right (by simpa using hlt)]
      simp only [hexL, List.getElem_map, List.getElem_range, List.length_replicate]
      rw [show j - (i - (15 - j)) = 15 - i from by omega]
theorem hexL_len (u : Int) (j : Nat) : (hexL u j).length = j + 1 := by simp [hexL]

set_option maxRecDepth 20000 in
theorem text_any (u : Int) (w : World) (h0 : 0 ≤ u) (h1 : u < 18446744073709551616) (ht : Tab w) (hz : 5 < w.heap.size) : Calls Tryd.prog 18 #[.int .u64 u] w fun e w' => e = .returned (.string (strOfNums (hexL u 15))) ∧ Below w.heap.size w w' := by
  have F := fmtu_any u w h0 h1 ht hz
  go_enter Tryd.func18, Tryd.ntmps18
  go_wp2_with fail
  refine F.mono ?_
  rintro e w1 ⟨⟨j, hj, hu, hj0, rfl⟩, hb⟩
  have hp := hex_pad u j h0 hj hu
  have hsz : (strOfNums (hexL u j)).size = j + 1 := by rw [strOfNums_size, hexL_len]
  have hn : (16 : Int) - ((j + 1 : Nat) : Int) = ((15 - j : Nat) : Int) := by omega
  have hn' : (16 : Int) - ((j : Int) + 1) = ((15 - j : Nat) : Int) := by omega
  have hsr : (strOfNums (List.replicate (15 - j) 48)).size = 15 - j := by rw [strOfNums_size]; simp
  have HP := Lib.hid ((app_str (List.replicate (15 - j) 48) (hexL u j)).trans (congrArg strOfNums hp))
  clear hp hu hj0
  go_wp2_with fail
  refine (rep_any (15 - j) (by omega) _).mono ?_
  rintro e w2 ⟨rfl, rfl⟩
  clear hn hn'
  go_wp2_with fail
  go_ret
  exact ⟨congrArg (fun s => Ending.returned (Value.string s)) HP.out, hb⟩
theorem conv1 (k : Int) (W : World) (b : Nat) (h : W.cell? ⟨b, 0, none⟩ = some (.int .u8 k)) : (convert 35 9 (.slice (some ⟨b, 0, none⟩) 1 1)).run Tryd.prog W = .ok (.string (strOfNums [k])) W :=
  run_convert_bytes_arg W 35 5 Tryd.underlying35 Tryd.underlying5 b 0 1 1 [k] rfl (fun i hi => by
    have : i = 0 := by omega
    subst this; exact h) 9 Tryd.underlying9
/-- The last k digits. -/
def hexK (u : Int) (k : Nat) : List Int := (List.range k).map fun i => dig (u / 16 ^ (k - 1 - i) % 16)
theorem hexK_len (u : Int) (k : Nat) : (hexK u k).length = k := by simp [hexK]
theorem hexK_next (u : Int) (k : Nat) : [dig (u / 16 ^ k % 16)] ++ hexK u k = hexK u (k + 1) := by
  unfold hexK
  rw [List.range_succ_eq_map, List.map_cons, List.map_map, List.singleton_append]
  congr 1
  apply List.map_congr_left
  intro i hi
  have := List.mem_range.1 hi
  show dig _ = dig _
  congr 4
  omega

theorem reftext_any (u : Int) (w : World) (h0 : 0 ≤ u) (h1 : u < 18446744073709551616) : Calls Tryd.prog 19 #[.int .u64 u] w fun e w' => e = .returned (.string (strOfNums (hexL u 15))) ∧ Below w.heap.size w w' := by
  have hcv := conv1
  go_enter Tryd.func19, Tryd.ntmps19
  go_wp2_with fail
  go_loopw [0, 3, 4] (fun v s i wr => ∃ k : Nat, k ≤ 16 ∧ i = .int .i64 k ∧ v = .int .u64 (u / 16 ^ k) ∧ s = .string (strOfNums (hexK u k)) ∧ Below w.heap.size w wr) (fun _ _ i _ => 16 - (intOf i).toNat)
  case atStart => exact ⟨0, by omega, rfl, by simp, rfl, Below.refl _ _⟩
  case round =>
    obtain ⟨k, hk, rfl, rfl, rfl, hb⟩ := hrel
    have hp : 0 ≤ u / 16 ^ k := Int.ediv_nonneg h0 (by exact_mod_cast Nat.zero_le _)
    have hm : u / 16 ^ k ≤ u := Int.ediv_le_self _ h0
    have hnx : u / 16 ^ (k + 1) = u / 16 ^ k / 16 := by rw [Int.ediv_ediv_of_nonneg (by exact_mod_cast Nat.zero_le _)]; rfl
    have han := and15 (u / 16 ^ k) hp (by omega)
    have hs1 : (strOfNums (hexK u k)).size = k := by rw [strOfNums_size, hexK_len]
    have hs2 : ∀ c, (strOfNums [c]).size = 1 := fun c => strOfNums_size _
    have HN := Lib.hid hnx
    have HB := Lib.hid hb
    have hbz := hb.size
    have HK := Lib.hid (hexK_next u k)
    clear hnx hb
    by_cases hlt : k < 16
    · generalize u / 16 ^ k = x at *
      have hd1 : 0 ≤ x % 16 := by omega
      have hd2 : x % 16 < 16 := by omega
      by_cases hd : x % 16 < 10
      · have hdg : dig (x % 16) = 48 + x % 16 := if_pos hd
        have E : strOfNums (hexK u (k + 1)) = strOfNums [48 + x % 16] ++ strOfNums (hexK u k) := by rw [app_str, ← HK.out, hdg]
        go_wp2
        all_goals first
          | (exfalso; omega)
          | exact ⟨⟨k + 1, by omega, by go_num, by rw [HN.out], by rw [E]; try (first | rfl | (congr 4; omega)), by have := HB.out; go_grown⟩, by simp [intOf]; omega⟩
      · have hdg : dig (x % 16) = 87 + x % 16 := if_neg hd
        have E : strOfNums (hexK u (k + 1)) = strOfNums [87 + x % 16] ++ strOfNums (hexK u k) := by rw [app_str, ← HK.out, hdg]
        go_wp2
        all_goals first
          | (exfalso; omega)
          | exact ⟨⟨k + 1, by omega, by go_num, by rw [HN.out], by rw [E]; try (first | rfl | (congr 4; omega)), by have := HB.out; go_grown⟩, by simp [intOf]; omega⟩
    · have : k = 16 := by omega
      subst this
      go_wp2
      go_ret
      exact ⟨rfl, HB.out⟩
end Go.Proofs.YtiegocnmijheoaaDoor
