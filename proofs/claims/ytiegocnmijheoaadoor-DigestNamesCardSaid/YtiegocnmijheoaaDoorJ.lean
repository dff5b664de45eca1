/- WALKS of layer 6: the examples. -/
import Derived.Test.YtiegocnmijheoaaDoorI
import Derived.Lib.SmallJoins
set_option linter.unusedVariables false
namespace Go.Proofs.YtiegocnmijheoaaDoor
open Go.RowKit Go.ChangeShapes Go.WideShapes Go.ChangeAt

theorem dig_inj {a b : Int} (a0 : 0 ≤ a) (a1 : a < 16) (b0 : 0 ≤ b) (b1 : b < 16) (h : dig a = dig b) : a = b := by
  unfold dig at h
  split at h <;> split at h <;> omega
theorem low_eq {v V : Nat} : ∀ n : Nat, (∀ j, j < n → v / 16 ^ j % 16 = V / 16 ^ j % 16) → v % 16 ^ n = V % 16 ^ n
  | 0, _ => by simp [Nat.mod_one]
  | n + 1, h => by
    rw [Nat.pow_succ, Nat.mod_mul, Nat.mod_mul, low_eq n (fun j hj => h j (by omega)), h n (by omega)]
theorem text_inj {v V : Int} (v0 : 0 ≤ v) (v1 : v < 18446744073709551616) (V0 : 0 ≤ V) (V1 : V < 18446744073709551616) (h : strOfNums (hexL v 15) = strOfNums (hexL V 15)) : v = V := by
  obtain ⟨n, rfl⟩ : ∃ n : Nat, v = n := ⟨v.toNat, by omega⟩
  obtain ⟨m, rfl⟩ : ∃ m : Nat, V = m := ⟨V.toNat, by omega⟩
  have hl := low_eq (v := n) (V := m) 16 (fun j hj => by
    have hk : 15 - j < (strOfNums (hexL (n : Int) 15)).size := by rw [strOfNums_size, hexL_len]; omega
    have t1 := (text_at (rfl : strOfNums (hexL (n : Int) 15) = _) (15 - j) hk).2
    have t2 := (text_at h (15 - j) hk).2
    rw [t1, show 15 - (15 - j) = j from by omega] at t2
    have := dig_inj (by omega) (by omega) (by omega) (by omega) t2
    exact_mod_cast this)
  rw [Nat.mod_eq_of_lt (by have : (16 : Nat) ^ 16 = 18446744073709551616 := by decide
                           omega), Nat.mod_eq_of_lt (by have : (16 : Nat) ^ 16 = 18446744073709551616 := by decide
                                                        omega)] at hl
  omega
theorem PaPost.text {s : ByteArray} {e : Ending} {V : Int} (h : PaPost s e) (V0 : 0 ≤ V) (V1 : V < 18446744073709551616) (hs : s = strOfNums (hexL V 15)) : e = .returned (.tuple #[.int .u64 V, .int .i64 0]) := by
  rcases h with ⟨v, v0, v1, h1, h2⟩ | ⟨h1, _⟩
  · rw [h2, text_inj v0 v1 V0 V1 (h1.symm.trans hs)]
  · exact absurd hs (h1 V V0 V1)
theorem cellR {w : World} {cs : Array Value} {t : TypeId} {fr : Nat × Nat} {b : Nat} (h : w.heap.size = b) (i : Nat) : (w.alloc (.cells cs t fr)).cell? ⟨b, i, none⟩ = cs[i]? := by
  subst h
  unfold World.cell?
  rw [heap_alloc_new w _]
  rfl
/-- What the walks ask of a world: the two errors, the one table place. -/
def Libs (w : World) : Prop := ErrVar w 0 ∧ ErrVar w 1 ∧ Tab w ∧ 5 < w.heap.size
theorem Libs.below {w w' : World} (h : Libs w) (hb : Below w.heap.size w w') : Libs w' := ⟨h.1.below hb, h.2.1.below hb, h.2.2.1.below hb, Nat.lt_of_lt_of_le h.2.2.2 hb.size⟩

theorem rdt_one (w : World) (s : ByteArray) (t : TypeId) : RdT (w.alloc (.cells #[.string s] t)) (some ⟨w.heap.size, 0, none⟩) [s] := fun _ => ⟨w.heap.size, 0, rfl, by simp, fun k h => by
  have : k = 0 := by simp at h; omega
  subst this
  exact cellR rfl 0⟩
set_option maxRecDepth 20000 in
set_option maxHeartbeats 1000000 in
theorem awake06 (w : World) (hl : Libs w) : Calls Tryd.prog 11 #[] w fun e w' => e = .returned (.bool true) ∧ Below w.heap.size w w' := by
  replace hl := Lib.hid hl
  have kc := Go.Joins.run_convert_bytes_const_at (P := Tryd.prog) ((w.alloc (.cells #[.int .u64 begin_] 53)).alloc (.cells #[.int .u64 begin_] 53)) 35 5 #[.int .u8 97] 1 1 (w.heap.size + 1 + 1) (by simp) Tryd.underlying35 Tryd.underlying5
  go_enter Tryd.func11, Tryd.ntmps11
  go_wp2_with fail
  refine (new_any _).mono ?_
  rintro e w1 ⟨rfl, rfl⟩
  go_wp2_with fail
  refine (writeh_none w.heap.size none 0 begin_ _ (by rw [World.cell?_alloc_new]; rfl) (World.frozen?_alloc_new w _ _ _)).mono ?_
  rintro e w1 ⟨rfl, rfl⟩
  have e0 : (w.alloc (.cells #[.int .u64 begin_] 53)).setCell ⟨w.heap.size, 0, none⟩ (.int .u64 begin_) = w.alloc (.cells #[.int .u64 begin_] 53) := by simp [go_sem]
  rw [e0]
  go_wp2_with fail
  refine (copyh_any w.heap.size begin_ _ (by rw [World.cell?_alloc_new]; rfl)).mono ?_
  rintro e w1 ⟨rfl, rfl⟩
  go_wp2_with fail
  have hw0 : (((w.alloc (.cells #[.int .u64 begin_] 53)).alloc (.cells #[.int .u64 begin_] 53)).alloc (.cells #[.int .u8 97] 5 (1, 2))).cell? ⟨w.heap.size, 0, none⟩ = some (.int .u64 begin_) := (World.cell?_alloc_lt _ _ _ (by simp; try omega)).trans ((World.cell?_alloc_lt _ _ _ (by simp)).trans (cellR rfl 0))
  have hw1 : (((w.alloc (.cells #[.int .u64 begin_] 53)).alloc (.cells #[.int .u64 begin_] 53)).alloc (.cells #[.int .u8 97] 5 (1, 2))).cell? ⟨w.heap.size + 1, 0, none⟩ = some (.int .u64 begin_) := (World.cell?_alloc_lt _ _ _ (by simp)).trans (cellR (by simp) 0)
  have hf0 : (((w.alloc (.cells #[.int .u64 begin_] 53)).alloc (.cells #[.int .u64 begin_] 53)).alloc (.cells #[.int .u8 97] 5 (1, 2))).frozen? ⟨w.heap.size, 0, none⟩ = false := (World.frozen?_alloc_old _ _ _ (by simp; try omega)).trans ((World.frozen?_alloc_old _ _ _ (by simp; try omega)).trans (World.frozen?_alloc_new w _ _ _))
  have hw2 : ∀ k, (h : k < [(97 : UInt8)].length) → (((w.alloc (.cells #[.int .u64 begin_] 53)).alloc (.cells #[.int .u64 begin_] 53)).alloc (.cells #[.int .u8 97] 5 (1, 2))).cell? ⟨w.heap.size + 1 + 1, 0 + k, none⟩ = some (.int .u8 ((([(97 : UInt8)][k]).toNat : Nat) : Int)) := fun k h => by
    have : k = 0 := by simp at h; omega
    subst this
    exact cellR (by simp) 0
  refine (writeh_any w.heap.size (w.heap.size + 1 + 1) 0 1 begin_ [97] _ (by decide) hw0 hf0 hw2).mono ?_
  rintro e w1 ⟨rfl, hw⟩
  have hb : Below w.heap.size w w1 := by subst hw; go_grown
  have c0 : w1.cell? ⟨w.heap.size, 0, none⟩ = some (.int .u64 (fold begin_ [97])) := by subst hw; exact World.cell?_setCell_same _ _ _ hw0
  have c1 : w1.cell? ⟨w.heap.size + 1, 0, none⟩ = some (.int .u64 begin_) := by subst hw; exact (World.cell?_setCell_other _ _ _ _ (by simp)).trans hw1
  have hz : w.heap.size + 1 < w1.heap.size := by subst hw; simp
  clear hw hw0 hw1 hf0 hw2 kc e0
  have hl1 := Lib.hid (hl.out.below hb)
  have HP := Lib.hid (parse_any ⟨#[97, 102, 54, 51, 100, 99, 52, 99, 56, 54, 48, 49, 101, 99, 56, 99]⟩ w1 (by decide) hl1.out.1 hl1.out.2.1 hl1.out.2.2.1 hl1.out.2.2.2)
  go_wp2_with fail
  refine HP.out.mono ?_
  rintro e w2 ⟨hp, hb2⟩
  rw [hp.text (V := 12638187200555641996) (by decide) (by decide) (by kernel_rfl)]
  replace c0 := keep1 hb2 c0
  replace c1 := keep1 hb2 c1
  have hl2 := Lib.hid (hl1.out.below hb2)
  have HB2 := Lib.hid (hb.trans (hb2.mono hb.size))
  have hz2 : w.heap.size + 1 < w2.heap.size := Nat.lt_of_lt_of_le hz hb2.size
  clear HP hl1 hb hb2 hz hp
  have f97 : fold begin_ [97] = 12638187200555641996 := by kernel_rfl
  rw [f97] at c0
  have HS := Lib.hid (sum_any ⟨#[97]⟩ w2 (by decide))
  rw [show (⟨#[97]⟩ : ByteArray).data.toList = [97] from rfl, f97] at HS
  have HT := Lib.hid (text_any 12638187200555641996 w2 (by decide) (by decide) hl2.out.2.2.1 hl2.out.2.2.2)
  rw [show strOfNums (hexL 12638187200555641996 15) = ⟨#[97, 102, 54, 51, 100, 99, 52, 99, 56, 54, 48, 49, 101, 99, 56, 99]⟩ from by kernel_rfl] at HT
  clear f97
  go_wp2_with fail
  refine HS.out.mono ?_
  rintro e w3 ⟨rfl, rfl⟩
  go_wp2_with fail
  refine HT.out.mono ?_
  rintro e w3 ⟨rfl, hb3⟩
  replace c0 := keep1 hb3 c0
  replace c1 := keep1 hb3 c1
  have hl3 := Lib.hid (hl2.out.below hb3)
  have HB3 := Lib.hid (HB2.out.trans (hb3.mono HB2.out.size))
  have hz3 : w.heap.size + 1 < w3.heap.size := Nat.lt_of_lt_of_le hz2 hb3.size
  clear HT hl2 HB2 hz2 hb3
  go_wp2_with fail
  refine (sumh_any w.heap.size _ w3 c0).mono ?_
  rintro e w4 ⟨rfl, rfl⟩
  have HS := Lib.hid (sum_any ⟨#[97]⟩ w3 (by decide))
  rw [show (⟨#[97]⟩ : ByteArray).data.toList = [97] from rfl, show fold begin_ [97] = 12638187200555641996 from by kernel_rfl] at HS
  go_wp2_with fail
  refine HS.out.mono ?_
  rintro e w4 ⟨rfl, rfl⟩
  go_wp2_with fail
  refine (sumh_any (w.heap.size + 1) _ w3 c1).mono ?_
  rintro e w4 ⟨rfl, rfl⟩
  have HS := Lib.hid (sum_any ⟨#[]⟩ w3 (by decide))
  rw [show fold begin_ (⟨#[]⟩ : ByteArray).data.toList = begin_ from rfl] at HS
  go_wp2_with fail
  refine HS.out.mono ?_
  rintro e w4 ⟨rfl, rfl⟩
  go_wp2_with fail
  refine (sumh_any w.heap.size _ w3 c0).mono ?_
  rintro e w4 ⟨rfl, rfl⟩
  clear HS
  go_wp2_with fail
  refine (of_any (some ⟨w3.heap.size, 0, none⟩) 1 [⟨#[97]⟩] _ (by decide) (by intro p hp; simp at hp; subst hp; decide) (rdt_one w3 ⟨#[97]⟩ 9)).mono ?_
  rintro e w4 ⟨rfl, hb4⟩
  rw [show foldT begin_ [⟨#[97]⟩] = 16573665792374991721 from by kernel_rfl]
  have hl4 := Lib.hid (hl3.out.below ((((Below.refl w3.heap.size w3).alloc (Nat.le_refl _) _).trans (hb4.mono (by simp)))))
  have HB4 := Lib.hid (HB3.out.trans ((((Below.refl w3.heap.size w3).alloc (Nat.le_refl _) _).trans (hb4.mono (by simp))).mono HB3.out.size))
  have hz4 : w3.heap.size < w4.heap.size := by have := hb4.size; simp at this; omega
  clear hb4 hl3 HB3
  go_wp2_with fail
  refine (of_any (some ⟨w4.heap.size, 0, none⟩) 1 [⟨#[98]⟩] _ (by decide) (by intro p hp; simp at hp; subst hp; decide) (rdt_one w4 ⟨#[98]⟩ 9)).mono ?_
  rintro e w5 ⟨rfl, hb5⟩
  rw [show foldT begin_ [⟨#[98]⟩] = 16573662493840107088 from by kernel_rfl]
  have HB5 := Lib.hid (HB4.out.trans ((((Below.refl w4.heap.size w4).alloc (Nat.le_refl _) _).trans (hb5.mono (by simp))).mono HB4.out.size))
  clear hb5
  go_wp2_with fail
  go_ret
  exact ⟨rfl, HB5.out⟩
end Go.Proofs.YtiegocnmijheoaaDoor
