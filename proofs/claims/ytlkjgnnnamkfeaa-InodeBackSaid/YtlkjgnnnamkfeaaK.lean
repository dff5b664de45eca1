/- WALKS of layer 20: InodeBack, whole. -/
import Derived.Test.YtlkjgnnnamkfeaaKb
set_option linter.unusedVariables false
namespace Go.Proofs.Ytlkjgnnnamkfeaa
open Go.RowKit Go.ChangeShapes Go.WideShapes Go.ChangeAt

theorem back_enc {k mo li sz mt ct ino gn : Int} (h : mayB k mo li sz mt ct ino gn = true) : encR k mo li sz mt ct ino gn = .tuple #[.string (strOfNums (encL k mo li sz mt ct ino gn)), .int .i64 0] ∧ decR (strOfNums (encL k mo li sz mt ct ino gn)) = .tuple #[.agg #[.int .u8 k, .int .i64 mo, .int .i64 li, .int .i64 sz, .int .i64 mt, .int .i64 ct, .int .i64 ino, .int .i64 gn], .int .i64 0] :=
  ⟨by unfold encR; rw [if_pos h], dec_enc _ _ _ _ _ _ _ _ h⟩
theorem back_noenc {k mo li sz mt ct ino gn : Int} (h : mayB k mo li sz mt ct ino gn = false) : encR k mo li sz mt ct ino gn = .tuple #[.string ByteArray.empty, .int .i64 4] := by unfold encR; rw [if_neg (by rw [h]; simp)]
theorem back_dec (s : ByteArray) : (∃ k2 mo2 li2 sz2 mt2 ct2 ino2 gn2 : Int, mayB k2 mo2 li2 sz2 mt2 ct2 ino2 gn2 = true ∧ decR s = .tuple #[.agg #[.int .u8 k2, .int .i64 mo2, .int .i64 li2, .int .i64 sz2, .int .i64 mt2, .int .i64 ct2, .int .i64 ino2, .int .i64 gn2], .int .i64 0] ∧ encR k2 mo2 li2 sz2 mt2 ct2 ino2 gn2 = .tuple #[.string s, .int .i64 0]) ∨ decR s = .tuple #[.agg #[.int .u8 0, .int .i64 0, .int .i64 0, .int .i64 0, .int .i64 0, .int .i64 0, .int .i64 0, .int .i64 0], .int .i64 4] := by
  by_cases h : s.size = 29
  · cases hm : mayB (kindOf s) (at4 s 1) (at4 s 5) (at4 s 9) (at4 s 13) (at4 s 17) (at4 s 21) (at4 s 25) with
    | true => exact .inl ⟨_, _, _, _, _, _, _, _, hm, by unfold decR; rw [if_neg (by omega), if_pos hm]; rfl, by unfold encR; rw [if_pos hm, enc_back s h]⟩
    | false => exact .inr (by unfold decR; rw [if_neg (by omega), if_neg (by rw [hm]; simp)]; rfl)
  · exact .inr (by unfold decR; rw [if_pos h]; rfl)
theorem back_menc (g b : Int) : (∃ mb, mencR g b = .tuple #[.string mb, .int .i64 0] ∧ decMR mb = .tuple #[.agg #[.int .i64 g, .int .i64 b], .int .i64 0]) ∨ mencR g b = .tuple #[.string ByteArray.empty, .int .i64 4] := by
  cases hm : (cnt g && cnt b) with
  | true => exact .inl ⟨_, by unfold mencR; rw [if_pos hm], mdec_enc g b hm⟩
  | false => exact .inr (by unfold mencR; rw [if_neg (by rw [hm]; simp)])
theorem back_mdec (t : ByteArray) : (∃ g b : Int, (cnt g && cnt b) = true ∧ decMR t = .tuple #[.agg #[.int .i64 g, .int .i64 b], .int .i64 0] ∧ mencR g b = .tuple #[.string t, .int .i64 0]) ∨ decMR t = .tuple #[.agg #[.int .i64 0, .int .i64 0], .int .i64 4] := by
  by_cases h : t.size ≠ 9 ∨ kindOf t ≠ 109
  · exact .inr (by unfold decMR; rw [if_pos h])
  · cases hm : (cnt (at4 t 1) && cnt (at4 t 5)) with
    | true => exact .inl ⟨_, _, hm, by unfold decMR; rw [if_neg h, if_pos hm], by unfold mencR; rw [if_pos hm, menc_back t (by omega) (by omega)]⟩
    | false => exact .inr (by unfold decMR; rw [if_neg h, if_neg (by rw [hm]; simp)])

set_option maxHeartbeats 1000000 in
theorem back_long (k mo li sz mt ct ino gn gen boot : Int) (s t : ByteArray) (w : World) (h : 1000 < s.size ∨ 1000 < t.size) :
    Calls Try.prog 7 #[.agg #[.int .u8 k, .int .i64 mo, .int .i64 li, .int .i64 sz, .int .i64 mt, .int .i64 ct, .int .i64 ino, .int .i64 gn], .int .i64 gen, .int .i64 boot, .string s, .string t] w fun e w' => e = .returned (.bool true) ∧ Below w.heap.size w w' := by
  by_cases h1 : 1000 < s.size
  · have hs : (s.size : Int) > 1000 := by omega
    clear h h1
    go_enter Try.func7, Try.ntmps7
    go_wp2_with (go_at_call 16; refine (awake20 _).mono ?_; rintro e w1 ⟨rfl, hb⟩)
    have hb' : Below w.heap.size w w1 := Below.trans (by go_grown) (hb.mono (by simp; try omega))
    go_ret
    exact ⟨rfl, by go_grown⟩
  · have hs : ¬ ((s.size : Int) > 1000) := by omega
    have ht : (t.size : Int) > 1000 := by omega
    clear h h1
    go_enter Try.func7, Try.ntmps7
    go_wp2_with (go_at_call 16; refine (awake20 _).mono ?_; rintro e w1 ⟨rfl, hb⟩)
    have hb' : Below w.heap.size w w1 := Below.trans (by go_grown) (hb.mono (by simp; try omega))
    go_ret
    exact ⟨rfl, by go_grown⟩

theorem back_walk (k mo li sz mt ct ino gn gen boot : Int) (s t : ByteArray) (w : World) (lo_mo : -9223372036854775808 ≤ mo) (hi_mo : mo ≤ 9223372036854775807) (lo_li : -9223372036854775808 ≤ li) (hi_li : li ≤ 9223372036854775807) (lo_sz : -9223372036854775808 ≤ sz) (hi_sz : sz ≤ 9223372036854775807) (lo_mt : -9223372036854775808 ≤ mt) (hi_mt : mt ≤ 9223372036854775807) (lo_ct : -9223372036854775808 ≤ ct) (hi_ct : ct ≤ 9223372036854775807) (lo_ino : -9223372036854775808 ≤ ino) (hi_ino : ino ≤ 9223372036854775807) (lo_gn : -9223372036854775808 ≤ gn) (hi_gn : gn ≤ 9223372036854775807) (lo_gen : -9223372036854775808 ≤ gen) (hi_gen : gen ≤ 9223372036854775807) (lo_boot : -9223372036854775808 ≤ boot) (hi_boot : boot ≤ 9223372036854775807) :
    Calls Try.prog 7 #[.agg #[.int .u8 k, .int .i64 mo, .int .i64 li, .int .i64 sz, .int .i64 mt, .int .i64 ct, .int .i64 ino, .int .i64 gn], .int .i64 gen, .int .i64 boot, .string s, .string t] w fun e w' => e = .returned (.bool true) ∧ Below w.heap.size w w' := by
  by_cases hl : 1000 < s.size ∨ 1000 < t.size
  · exact back_long k mo li sz mt ct ino gn gen boot s t w hl
  have hs : s.size ≤ 1000 := by omega
  have ht : t.size ≤ 1000 := by omega
  cases hm : mayB k mo li sz mt ct ino gn with
  | true =>
    obtain ⟨e1, e2⟩ := back_enc hm
    rcases back_dec s with ⟨k2, mo2, li2, sz2, mt2, ct2, ino2, gn2, d0, d1, d2⟩ | d1 <;> rcases back_menc gen boot with ⟨mb, m1, m2⟩ | m1 <;> rcases back_mdec t with ⟨g2, b2, t0, t1, t2⟩ | t1
    · have dd := mayB_open d0; have tt := t0; rw [Bool.and_eq_true, cnt_true, cnt_true] at tt; exact back_1111 k mo li sz mt ct ino gn gen boot k2 mo2 li2 sz2 mt2 ct2 ino2 gn2 g2 b2 s t _ mb w hs ht lo_mo hi_mo lo_li hi_li lo_sz hi_sz lo_mt hi_mt lo_ct hi_ct lo_ino hi_ino lo_gn hi_gn lo_gen hi_gen lo_boot hi_boot hm e1 e2 (by omega) (by omega) (by omega) (by omega) (by omega) (by omega) (by omega) (by omega) (by omega) (by omega) (by omega) (by omega) (by omega) (by omega) d1 d2 m1 m2 (by omega) (by omega) (by omega) (by omega) t1 t2
    · have dd := mayB_open d0; exact back_1110 k mo li sz mt ct ino gn gen boot k2 mo2 li2 sz2 mt2 ct2 ino2 gn2 s t _ mb w hs ht lo_mo hi_mo lo_li hi_li lo_sz hi_sz lo_mt hi_mt lo_ct hi_ct lo_ino hi_ino lo_gn hi_gn lo_gen hi_gen lo_boot hi_boot hm e1 e2 (by omega) (by omega) (by omega) (by omega) (by omega) (by omega) (by omega) (by omega) (by omega) (by omega) (by omega) (by omega) (by omega) (by omega) d1 d2 m1 m2 t1
    · have dd := mayB_open d0; have tt := t0; rw [Bool.and_eq_true, cnt_true, cnt_true] at tt; exact back_1101 k mo li sz mt ct ino gn gen boot k2 mo2 li2 sz2 mt2 ct2 ino2 gn2 g2 b2 s t _ w hs ht lo_mo hi_mo lo_li hi_li lo_sz hi_sz lo_mt hi_mt lo_ct hi_ct lo_ino hi_ino lo_gn hi_gn lo_gen hi_gen lo_boot hi_boot hm e1 e2 (by omega) (by omega) (by omega) (by omega) (by omega) (by omega) (by omega) (by omega) (by omega) (by omega) (by omega) (by omega) (by omega) (by omega) d1 d2 m1 (by omega) (by omega) (by omega) (by omega) t1 t2
    · have dd := mayB_open d0; exact back_1100 k mo li sz mt ct ino gn gen boot k2 mo2 li2 sz2 mt2 ct2 ino2 gn2 s t _ w hs ht lo_mo hi_mo lo_li hi_li lo_sz hi_sz lo_mt hi_mt lo_ct hi_ct lo_ino hi_ino lo_gn hi_gn lo_gen hi_gen lo_boot hi_boot hm e1 e2 (by omega) (by omega) (by omega) (by omega) (by omega) (by omega) (by omega) (by omega) (by omega) (by omega) (by omega) (by omega) (by omega) (by omega) d1 d2 m1 t1
    · have tt := t0; rw [Bool.and_eq_true, cnt_true, cnt_true] at tt; exact back_1011 k mo li sz mt ct ino gn gen boot g2 b2 s t _ mb w hs ht lo_mo hi_mo lo_li hi_li lo_sz hi_sz lo_mt hi_mt lo_ct hi_ct lo_ino hi_ino lo_gn hi_gn lo_gen hi_gen lo_boot hi_boot hm e1 e2 d1 m1 m2 (by omega) (by omega) (by omega) (by omega) t1 t2
    · exact back_1010 k mo li sz mt ct ino gn gen boot s t _ mb w hs ht lo_mo hi_mo lo_li hi_li lo_sz hi_sz lo_mt hi_mt lo_ct hi_ct lo_ino hi_ino lo_gn hi_gn lo_gen hi_gen lo_boot hi_boot hm e1 e2 d1 m1 m2 t1
    · have tt := t0; rw [Bool.and_eq_true, cnt_true, cnt_true] at tt; exact back_1001 k mo li sz mt ct ino gn gen boot g2 b2 s t _ w hs ht lo_mo hi_mo lo_li hi_li lo_sz hi_sz lo_mt hi_mt lo_ct hi_ct lo_ino hi_ino lo_gn hi_gn lo_gen hi_gen lo_boot hi_boot hm e1 e2 d1 m1 (by omega) (by omega) (by omega) (by omega) t1 t2
    · exact back_1000 k mo li sz mt ct ino gn gen boot s t _ w hs ht lo_mo hi_mo lo_li hi_li lo_sz hi_sz lo_mt hi_mt lo_ct hi_ct lo_ino hi_ino lo_gn hi_gn lo_gen hi_gen lo_boot hi_boot hm e1 e2 d1 m1 t1
  | false =>
    have e1 := back_noenc hm
    rcases back_dec s with ⟨k2, mo2, li2, sz2, mt2, ct2, ino2, gn2, d0, d1, d2⟩ | d1 <;> rcases back_menc gen boot with ⟨mb, m1, m2⟩ | m1 <;> rcases back_mdec t with ⟨g2, b2, t0, t1, t2⟩ | t1
    · have dd := mayB_open d0; have tt := t0; rw [Bool.and_eq_true, cnt_true, cnt_true] at tt; exact back_0111 k mo li sz mt ct ino gn gen boot k2 mo2 li2 sz2 mt2 ct2 ino2 gn2 g2 b2 s t mb w hs ht lo_mo hi_mo lo_li hi_li lo_sz hi_sz lo_mt hi_mt lo_ct hi_ct lo_ino hi_ino lo_gn hi_gn lo_gen hi_gen lo_boot hi_boot hm e1 (by omega) (by omega) (by omega) (by omega) (by omega) (by omega) (by omega) (by omega) (by omega) (by omega) (by omega) (by omega) (by omega) (by omega) d1 d2 m1 m2 (by omega) (by omega) (by omega) (by omega) t1 t2
    · have dd := mayB_open d0; exact back_0110 k mo li sz mt ct ino gn gen boot k2 mo2 li2 sz2 mt2 ct2 ino2 gn2 s t mb w hs ht lo_mo hi_mo lo_li hi_li lo_sz hi_sz lo_mt hi_mt lo_ct hi_ct lo_ino hi_ino lo_gn hi_gn lo_gen hi_gen lo_boot hi_boot hm e1 (by omega) (by omega) (by omega) (by omega) (by omega) (by omega) (by omega) (by omega) (by omega) (by omega) (by omega) (by omega) (by omega) (by omega) d1 d2 m1 m2 t1
    · have dd := mayB_open d0; have tt := t0; rw [Bool.and_eq_true, cnt_true, cnt_true] at tt; exact back_0101 k mo li sz mt ct ino gn gen boot k2 mo2 li2 sz2 mt2 ct2 ino2 gn2 g2 b2 s t w hs ht lo_mo hi_mo lo_li hi_li lo_sz hi_sz lo_mt hi_mt lo_ct hi_ct lo_ino hi_ino lo_gn hi_gn lo_gen hi_gen lo_boot hi_boot hm e1 (by omega) (by omega) (by omega) (by omega) (by omega) (by omega) (by omega) (by omega) (by omega) (by omega) (by omega) (by omega) (by omega) (by omega) d1 d2 m1 (by omega) (by omega) (by omega) (by omega) t1 t2
    · have dd := mayB_open d0; exact back_0100 k mo li sz mt ct ino gn gen boot k2 mo2 li2 sz2 mt2 ct2 ino2 gn2 s t w hs ht lo_mo hi_mo lo_li hi_li lo_sz hi_sz lo_mt hi_mt lo_ct hi_ct lo_ino hi_ino lo_gn hi_gn lo_gen hi_gen lo_boot hi_boot hm e1 (by omega) (by omega) (by omega) (by omega) (by omega) (by omega) (by omega) (by omega) (by omega) (by omega) (by omega) (by omega) (by omega) (by omega) d1 d2 m1 t1
    · have tt := t0; rw [Bool.and_eq_true, cnt_true, cnt_true] at tt; exact back_0011 k mo li sz mt ct ino gn gen boot g2 b2 s t mb w hs ht lo_mo hi_mo lo_li hi_li lo_sz hi_sz lo_mt hi_mt lo_ct hi_ct lo_ino hi_ino lo_gn hi_gn lo_gen hi_gen lo_boot hi_boot hm e1 d1 m1 m2 (by omega) (by omega) (by omega) (by omega) t1 t2
    · exact back_0010 k mo li sz mt ct ino gn gen boot s t mb w hs ht lo_mo hi_mo lo_li hi_li lo_sz hi_sz lo_mt hi_mt lo_ct hi_ct lo_ino hi_ino lo_gn hi_gn lo_gen hi_gen lo_boot hi_boot hm e1 d1 m1 m2 t1
    · have tt := t0; rw [Bool.and_eq_true, cnt_true, cnt_true] at tt; exact back_0001 k mo li sz mt ct ino gn gen boot g2 b2 s t w hs ht lo_mo hi_mo lo_li hi_li lo_sz hi_sz lo_mt hi_mt lo_ct hi_ct lo_ino hi_ino lo_gn hi_gn lo_gen hi_gen lo_boot hi_boot hm e1 d1 m1 (by omega) (by omega) (by omega) (by omega) t1 t2
    · exact back_0000 k mo li sz mt ct ino gn gen boot s t w hs ht lo_mo hi_mo lo_li hi_li lo_sz hi_sz lo_mt hi_mt lo_ct hi_ct lo_ino hi_ino lo_gn hi_gn lo_gen hi_gen lo_boot hi_boot hm e1 d1 m1 t1
end Go.Proofs.Ytlkjgnnnamkfeaa
