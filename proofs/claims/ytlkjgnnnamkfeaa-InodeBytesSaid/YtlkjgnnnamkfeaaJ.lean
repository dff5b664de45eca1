/- Layer 20: DecodeMeta walked; what Encode gives, Decode reads, and the other way about. -/
import Derived.Test.YtlkjgnnnamkfeaaG
set_option linter.unusedVariables false
namespace Go.Proofs.Ytlkjgnnnamkfeaa
open Go.RowKit Go.ChangeShapes Go.WideShapes Go.ChangeAt

/-! ### The plain laws -/
theorem by4_byte (n : Int) (i : Nat) : (0 : Int) ≤ (by4 n).getD i 0 ∧ (by4 n).getD i 0 < 256 := by
  unfold by4
  match i with
  | 0 => simp; omega
  | 1 => simp; omega
  | 2 => simp; omega
  | 3 => simp; omega
  | n + 4 => simp
/-- The number of four bytes that are a number's. -/
theorem num4_by4 (n : Int) (h0 : 0 ≤ n) (h1 : n ≤ 2147483647) (r : List UInt8) :
    num4 (UInt8.ofNat (n / 16777216 % 256).toNat :: UInt8.ofNat (n / 65536 % 256).toNat :: UInt8.ofNat (n / 256 % 256).toNat :: UInt8.ofNat (n % 256).toNat :: r) = n := by
  have u : ∀ m : Int, 0 ≤ m → m < 256 → ((UInt8.ofNat m.toNat).toNat : Int) = m := fun m h1 h2 => by
    rw [UInt8.toNat_ofNat']; omega
  have e0 := u (n / 16777216 % 256) (by omega) (by omega)
  have e1 := u (n / 65536 % 256) (by omega) (by omega)
  have e2 := u (n / 256 % 256) (by omega) (by omega)
  have e3 := u (n % 256) (by omega) (by omega)
  unfold num4
  simp only [List.getD_cons_zero, List.getD_cons_succ]
  rw [e0, e1, e2, e3]
  omega
/-- The bytes of the number of four bytes. -/
theorem by4_num4 (a b c d : UInt8) (r : List UInt8) : by4 (num4 (a :: b :: c :: d :: r)) = [(a.toNat : Int), (b.toNat : Int), (c.toNat : Int), (d.toNat : Int)] := by
  have ha := a.toNat_lt; have hb := b.toNat_lt; have hc := c.toNat_lt; have hd := d.toNat_lt
  unfold num4 by4
  simp only [List.getD_cons_zero, List.getD_cons_succ]
  congr 1
  · omega
  congr 1
  · omega
  congr 1
  · omega
  congr 1
  · omega

theorem nums_back (l : List UInt8) : strOfNums (l.map fun b => (b.toNat : Int)) = ⟨l.toArray⟩ := by
  unfold strOfNums
  congr 2
  rw [List.map_map]
  conv => rhs; rw [← List.map_id l]
  apply List.map_congr_left
  intro b _
  simp

/-- Of a text of 29 bytes: its bytes again. -/
theorem enc_back (s : ByteArray) (h : s.size = 29) : strOfNums (encL (kindOf s) (at4 s 1) (at4 s 5) (at4 s 9) (at4 s 13) (at4 s 17) (at4 s 21) (at4 s 25)) = s := by
  obtain ⟨⟨l⟩⟩ := s
  have h' : l.length = 29 := h
  match l, h' with
  | [a, b0, b1, b2, b3, c0, c1, c2, c3, d0, d1, d2, d3, e0, e1, e2, e3, f0, f1, f2, f3, g0, g1, g2, g3, k0, k1, k2, k3], _ =>
    have : encL (kindOf ⟨⟨[a, b0, b1, b2, b3, c0, c1, c2, c3, d0, d1, d2, d3, e0, e1, e2, e3, f0, f1, f2, f3, g0, g1, g2, g3, k0, k1, k2, k3]⟩⟩) (num4 [b0, b1, b2, b3, c0, c1, c2, c3, d0, d1, d2, d3, e0, e1, e2, e3, f0, f1, f2, f3, g0, g1, g2, g3, k0, k1, k2, k3]) (num4 [c0, c1, c2, c3, d0, d1, d2, d3, e0, e1, e2, e3, f0, f1, f2, f3, g0, g1, g2, g3, k0, k1, k2, k3]) (num4 [d0, d1, d2, d3, e0, e1, e2, e3, f0, f1, f2, f3, g0, g1, g2, g3, k0, k1, k2, k3]) (num4 [e0, e1, e2, e3, f0, f1, f2, f3, g0, g1, g2, g3, k0, k1, k2, k3]) (num4 [f0, f1, f2, f3, g0, g1, g2, g3, k0, k1, k2, k3]) (num4 [g0, g1, g2, g3, k0, k1, k2, k3]) (num4 [k0, k1, k2, k3])
        = [a, b0, b1, b2, b3, c0, c1, c2, c3, d0, d1, d2, d3, e0, e1, e2, e3, f0, f1, f2, f3, g0, g1, g2, g3, k0, k1, k2, k3].map fun b => (b.toNat : Int) := by
      unfold encL
      rw [by4_num4, by4_num4, by4_num4, by4_num4, by4_num4, by4_num4, by4_num4]
      rfl
    exact (congrArg strOfNums this).trans (nums_back _)

/-- What Encode gives, read again. -/
theorem dec_enc (k mo li sz mt ct ino gen : Int) (h : mayB k mo li sz mt ct ino gen = true) : decR (strOfNums (encL k mo li sz mt ct ino gen)) = .tuple #[ag k mo li sz mt ct ino gen, .int .i64 0] := by
  have ho : 0 ≤ mo ∧ mo ≤ 4095 ∧ 0 ≤ li ∧ li ≤ 2147483647 ∧ 0 ≤ sz ∧ sz ≤ 2147483647 ∧ 0 ≤ mt ∧ mt ≤ 2147483647 ∧ 0 ≤ ct ∧ ct ≤ 2147483647 ∧ 1 ≤ ino ∧ ino < 2147483647 ∧ 0 ≤ gen ∧ gen ≤ 2147483647 ∧
    1 ≤ k ∧ k ≤ 3 ∧ (k = 1 → sz ≤ 32768) ∧ (k = 3 → sz ≤ 160) := of_decide_eq_true h
  have hk : kindOf (strOfNums (encL k mo li sz mt ct ino gen)) = k := by
    show ((UInt8.ofNat k.toNat).toNat : Int) = k
    rw [UInt8.toNat_ofNat']; omega
  have h1 : at4 (strOfNums (encL k mo li sz mt ct ino gen)) 1 = mo := num4_by4 mo (by omega) (by omega) _
  have h2 : at4 (strOfNums (encL k mo li sz mt ct ino gen)) 5 = li := num4_by4 li (by omega) (by omega) _
  have h3 : at4 (strOfNums (encL k mo li sz mt ct ino gen)) 9 = sz := num4_by4 sz (by omega) (by omega) _
  have h4 : at4 (strOfNums (encL k mo li sz mt ct ino gen)) 13 = mt := num4_by4 mt (by omega) (by omega) _
  have h5 : at4 (strOfNums (encL k mo li sz mt ct ino gen)) 17 = ct := num4_by4 ct (by omega) (by omega) _
  have h6 : at4 (strOfNums (encL k mo li sz mt ct ino gen)) 21 = ino := num4_by4 ino (by omega) (by omega) _
  have h7 : at4 (strOfNums (encL k mo li sz mt ct ino gen)) 25 = gen := num4_by4 gen (by omega) (by omega) _
  have hs : (strOfNums (encL k mo li sz mt ct ino gen)).size = 29 := strOfNums_size _
  unfold decR
  rw [hk, h1, h2, h3, h4, h5, h6, h7, if_neg (by rw [hs]; simp), if_pos h]

/-- What DecodeMeta gives. -/
def decMR (s : ByteArray) : Value :=
  if s.size ≠ 9 ∨ kindOf s ≠ 109 then .tuple #[.agg #[.int .i64 0, .int .i64 0], .int .i64 4]
  else if (cnt (at4 s 1) && cnt (at4 s 5)) = true then .tuple #[.agg #[.int .i64 (at4 s 1), .int .i64 (at4 s 5)], .int .i64 0] else .tuple #[.agg #[.int .i64 0, .int .i64 0], .int .i64 4]
theorem menc_back (s : ByteArray) (h : s.size = 9) (h1 : kindOf s = 109) : strOfNums (mencL (at4 s 1) (at4 s 5)) = s := by
  obtain ⟨⟨l⟩⟩ := s
  have h' : l.length = 9 := h
  match l, h' with
  | [a, b0, b1, b2, b3, c0, c1, c2, c3], _ =>
    have ha : (a.toNat : Int) = 109 := h1
    have : mencL (num4 [b0, b1, b2, b3, c0, c1, c2, c3]) (num4 [c0, c1, c2, c3]) = [a, b0, b1, b2, b3, c0, c1, c2, c3].map fun b => (b.toNat : Int) := by
      unfold mencL
      rw [by4_num4, by4_num4, ← ha]
      rfl
    exact (congrArg strOfNums this).trans (nums_back _)
theorem mdec_enc (g b : Int) (h : (cnt g && cnt b) = true) : decMR (strOfNums (mencL g b)) = .tuple #[.agg #[.int .i64 g, .int .i64 b], .int .i64 0] := by
  have hc := h
  rw [Bool.and_eq_true, cnt_true, cnt_true] at hc
  have h1 : at4 (strOfNums (mencL g b)) 1 = g := num4_by4 g (by omega) (by omega) _
  have h2 : at4 (strOfNums (mencL g b)) 5 = b := num4_by4 b (by omega) (by omega) _
  have hk : kindOf (strOfNums (mencL g b)) = 109 := rfl
  have hs : (strOfNums (mencL g b)).size = 9 := strOfNums_size _
  unfold decMR
  rw [h1, h2, hk, hs, if_neg (by simp), if_pos h]

theorem mget_at (s : ByteArray) (i : Nat) (w : World) (hs : s.size = 9) (hi : i + 4 ≤ 9) : Calls Try.prog 41 #[.string (s.extract i 9)] w fun e w' => e = .returned (.int .i64 (at4 s i)) ∧ ∃ n, w' = w.drewN n := by
  refine (get_any (s.extract i 9) w (by rw [ByteArray.size_extract]; omega)).mono ?_
  rintro e w' ⟨rfl, h⟩
  refine ⟨?_, h⟩
  unfold at4
  rw [show (s.extract i 9).data.toList = s.data.toList.drop i from by
    rw [ByteArray.data_extract, Array.toList_extract, List.extract_eq_take_drop]
    exact List.take_of_length_le (by simp; have : s.data.size = 9 := hs; omega)]

theorem cellE {w : World} {p : Addr} {v : Option Value} (h : w.cell? p = v) : w.drew.cell? p = v := h
theorem cellDN {w : World} {n : Nat} {p : Addr} {v : Option Value} (h : w.cell? p = v) : (w.drewN n).cell? p = v := h
theorem frozE {w : World} {p : Addr} {v : Bool} (h : w.frozen? p = v) : w.drew.frozen? p = v := h
theorem frozDN {w : World} {n : Nat} {p : Addr} {v : Bool} (h : w.frozen? p = v) : (w.drewN n).frozen? p = v := h
theorem drewN_below {V w4 : World} (h : ∃ n, w4 = V.drewN n) : Below V.heap.size V w4 := by
  obtain ⟨n, rfl⟩ := h
  exact below_drewN (Below.refl _ _) n

set_option maxHeartbeats 2000000 in
theorem decmeta_any (s : ByteArray) (w : World) : Calls Try.prog 29 #[.string s] w fun e w' => e = .returned (decMR s) ∧ Below w.heap.size w w' := by
  by_cases hs : s.size = 9
  case neg =>
    have hs' : ((s.size : Int) != 9) = true := by simp; omega
    have H := Lib.hid (show decMR s = .tuple #[.agg #[.int .i64 0, .int .i64 0], .int .i64 4] from by unfold decMR; rw [if_pos (.inl hs)])
    clear hs
    go_enter Try.func29, Try.ntmps29
    go_wp2_with fail
    go_returns
    exact ⟨congrArg Ending.returned H.out.symm, by go_grown⟩
  have hs' : ((s.size : Int) != 9) = false := by simp; omega
  have hs0 : 1 ≤ s.size := by omega
  have hl : (s.extract 0 1).toList = [s[0]] := by
    rw [ByteArray.toList_eq]
    obtain ⟨⟨l⟩⟩ := s
    have h' : l.length = 9 := hs
    match l, h' with
    | [a, b0, b1, b2, b3, c0, c1, c2, c3], _ => rfl
  have hkd : kindOf s = ((s[0].toNat : Nat) : Int) := by unfold kindOf; rw [getD_byte s 0 (by omega)]
  by_cases hk : kindOf s = 109
  case neg =>
    have hk' : ((s.extract 0 1).toList == [109]) = false := by
      rw [hl]
      simp
      intro h
      rw [hkd, h] at hk
      exact hk rfl
    have H := Lib.hid (show decMR s = .tuple #[.agg #[.int .i64 0, .int .i64 0], .int .i64 4] from by unfold decMR; rw [if_pos (.inr hk)])
    clear hk hkd hl
    go_enter Try.func29, Try.ntmps29
    go_wp2_with fail
    go_returns
    exact ⟨congrArg Ending.returned H.out.symm, by go_grown⟩
  have hk' : ((s.extract 0 1).toList == [109]) = true := by
    rw [hl]
    simp
    have : s[0].toNat = 109 := by omega
    exact UInt8.toNat_inj.1 this
  clear hkd hl
  go_enter Try.func29, Try.ntmps29
  go_wp2_with fail
  have r0 : (w.alloc (.cells #[.int .i64 0, .int .i64 0] 49)).cell? ⟨w.heap.size, 0, none⟩ = some (.int .i64 0) := (cellN _ _ _ _ rfl _).trans rfl
  have r1 : (w.alloc (.cells #[.int .i64 0, .int .i64 0] 49)).cell? ⟨w.heap.size, 1, none⟩ = some (.int .i64 0) := (cellN _ _ _ _ rfl _).trans rfl
  have rf : ∀ i, (w.alloc (.cells #[.int .i64 0, .int .i64 0] 49)).frozen? ⟨w.heap.size, i, none⟩ = false := fun i => World.frozen?_alloc_new w _ _ _
  have hz : w.heap.size < (w.alloc (.cells #[.int .i64 0, .int .i64 0] 49)).heap.size := by simp
  have HB : Below w.heap.size w (w.alloc (.cells #[.int .i64 0, .int .i64 0] 49)) := by go_grown
  generalize w.alloc (.cells #[.int .i64 0, .int .i64 0] 49) = w1 at *
  have hsd : ∀ (W : World) (n : Nat) (a : Addr) (v : Value), (W.drewN n).setCell a v = (W.setCell a v).drewN n := fun _ _ _ _ => rfl
  have hsd' : ∀ (W : World) (n : Nat) (o : Obj), (W.drewN n).alloc o = (W.alloc o).drewN n := fun _ _ _ => rfl
  go_region_held3 (fun w' => w'.cell? ⟨w.heap.size, 0, none⟩ = some (.int .i64 0) ∧ w'.cell? ⟨w.heap.size, 1, none⟩ = some (.int .i64 0) ∧ (∀ i, w'.frozen? ⟨w.heap.size, i, none⟩ = false) ∧ w.heap.size < w'.heap.size ∧ Below w.heap.size w w')
    (first | exact ⟨r0, r1, rf, hz, HB.drew⟩ | exact ⟨by (repeat first | assumption | refine cellDN ?_ | refine cellE ?_ | refine cellP (by first | omega | (simp; omega)) ?_), by (repeat first | assumption | refine cellDN ?_ | refine cellE ?_ | refine cellP (by first | omega | (simp; omega)) ?_), by (intro i; repeat first | exact rf i | refine frozDN ?_ | refine frozE ?_ | refine frozP (by first | omega | (simp; omega)) ?_), by first | omega | (simp; omega), by (repeat first | assumption | refine below_drewN ?_ _ | refine Below.drew ?_ | refine Below.alloc ?_ (by first | omega | (simp; omega)) _)⟩)
    (first | (go_at_call 41; refine (mget_at s _ _ hs (by omega)).mono ?_; rintro e w4 ⟨rfl, n, rfl⟩))
  all_goals clear hsd'
  all_goals go_split_ands
  all_goals go_wp2_with fail
  all_goals (refine (counts_two _ _ _ _ _ (by simp)).mono ?_; rintro e w5 ⟨rfl, rfl⟩)
  all_goals have hw1 : w.heap.size < w1.heap.size + 1 := by omega
  all_goals have q0 : ∀ (v u : Value) (o o' : Obj) (n : Nat), (((((w1.setCell ⟨w.heap.size, 0, none⟩ v).setCell ⟨w.heap.size, 1, none⟩ u).alloc o).drewN n).alloc o').cell? ⟨w.heap.size, 0, none⟩ = some v := fun v u o o' n => cellP (by simp; omega) (cellDN (cellP (by simp; omega) ((World.cell?_setCell_other _ _ _ _ (by simp)).trans (World.cell?_setCell_same _ _ _ r0))))
  all_goals have q1 : ∀ (v u : Value) (o o' : Obj) (n : Nat), (((((w1.setCell ⟨w.heap.size, 0, none⟩ v).setCell ⟨w.heap.size, 1, none⟩ u).alloc o).drewN n).alloc o').cell? ⟨w.heap.size, 1, none⟩ = some u := fun v u o o' n => cellP (by simp; omega) (cellDN (cellP (by simp; omega) (World.cell?_setCell_same _ _ _ ((World.cell?_setCell_other _ _ _ _ (by simp)).trans r1))))
  all_goals have hw2 : w.heap.size < w1.heap.size + 1 + 1 := by omega
  all_goals cases hm : (cnt (at4 s 1) && cnt (at4 s 5)) with
    | false =>
      have H := Lib.hid (show decMR s = .tuple #[.agg #[.int .i64 0, .int .i64 0], .int .i64 4] from by unfold decMR; rw [if_neg (by omega), if_neg (by rw [hm]; simp)])
      clear hm
      go_wp2_with fail
      refine bodyPost_ret (by simp [results, Try.results29, go_sem, q0, q1]; try rfl) rfl ?_
      exact ⟨congrArg Ending.returned H.out.symm, by go_grown; exact below_drewN (by go_grown) _⟩
    | true =>
      have H := Lib.hid (show decMR s = .tuple #[.agg #[.int .i64 (at4 s 1), .int .i64 (at4 s 5)], .int .i64 0] from by unfold decMR; rw [if_neg (by omega), if_pos hm])
      clear hm
      go_wp2_with fail
      refine bodyPost_ret (by simp [results, Try.results29, go_sem, q0, q1]; try rfl) rfl ?_
      exact ⟨congrArg Ending.returned H.out.symm, by go_grown; exact below_drewN (by go_grown) _⟩
end Go.Proofs.Ytlkjgnnnamkfeaa
