/- WALK of NameNames. -/
import Derived.Test.YtajopaljiondlaaY
import Derived.Laws.BytesArg
set_option linter.unusedVariables false
namespace Go.Proofs.Ytajopaljiondlaa
open Go.RowKit Go.ChangeShapes Go.WideShapes Go.ChangeAt

def bcells (l : List UInt8) : List Value := l.map fun b => Value.int .u8 ((b.toNat : Nat) : Int)
theorem info_u8 : (Try.prog.info? 5).map (fun i => (i.zero, i.size, i.bytes)) = some (some (.int .u8 0), 1, 1) := by kernel_rfl
theorem make_u8 (n : Nat) (h : n ≤ 1000000) (w : World) : (Instr.makeSlice 44 (.int .i64 (n : Int)) (.int .i64 (n : Int))).run Try.prog w = .ok (.slice (some ⟨w.heap.size, 0, none⟩) n n) (w.alloc (.cells (bcells (List.replicate n 0)).toArray 5)) := by
  obtain ⟨i0, hi, hz0, hz1, hz2⟩ := info_parts info_u8
  have := run_makeSlice (P := Try.prog) w 44 5 i0 (.int .u8 0) Try.underlying44 hi hz0 .i64 .i64 n n (by omega) (by omega) (by rw [hz1]; omega) (by rw [hz2]; omega) (by omega)
  rw [this, hz1, show madeCells (Value.int .u8 0).cells (Int.toNat n * 1) = (bcells (List.replicate n 0)).toArray from by
    rw [Int.toNat_natCast, Nat.mul_one]
    apply Array.ext'
    simp [madeCells, bcells, Value.cells]
    apply List.ext_getElem
    · simp
    · intro i h1 h2
      simp [Nat.mod_one]]
  rfl
theorem conv_zero (n : Nat) (w : World) : (convert 44 9 (.slice (some ⟨w.heap.size, 0, none⟩) n n)).run Try.prog (w.alloc (.cells (bcells (List.replicate n 0)).toArray 5)) = .ok (.string (str (List.replicate n 0))) (w.alloc (.cells (bcells (List.replicate n 0)).toArray 5)) := by
  have := run_convert_bytes_arg (w.alloc (.cells (bcells (List.replicate n 0)).toArray 5)) 44 5 Try.underlying44 Try.underlying5 w.heap.size 0 n n ((List.replicate n (0 : UInt8)).map fun c => ((c.toNat : Nat) : Int)) (by simp) (fun i hi => by
    rw [Nat.zero_add, World.cell?_alloc_new]
    simp [bcells, List.getD_eq_getElem?_getD, hi]) 9 Try.underlying9
  rw [this]
  congr 2
  apply bytes_inj
  rw [strOfNums_data, List.map_map, show ((fun n : Int => UInt8.ofNat n.toNat) ∘ fun c : UInt8 => ((c.toNat : Nat) : Int)) = id from by funext c; simp, List.map_id]
  rfl
/-- The names that may not be. -/
def nots : List ByteArray := [⟨#[]⟩, ⟨#[46]⟩, ⟨#[46, 46]⟩, ⟨#[46, 115, 110, 97, 112, 115, 104, 111, 116]⟩, ⟨#[97, 47, 98]⟩, ⟨#[97, 0]⟩, ⟨#[47]⟩, str (List.replicate 33 0)]
theorem nots_may : ∀ k, (h : k < nots.length) → mayB nots[k].data.toList = false ∧ nots[k].size ≤ 33 := by decide +kernel
theorem join_rep (s : ByteArray) (hs : s.size = 32) : ∀ n, (joinL (List.replicate (n + 1) s)).length = 33 * n + 32
  | 0 => by
    have : List.replicate (0 + 1) s = [] ++ [s] := rfl
    rw [this, joinL_snoc, if_pos rfl]
    exact hs
  | n + 1 => by
    have h2 : s.data.toList.length = s.size := rfl
    rw [List.replicate_succ', joinL_snoc, if_neg (by simp), List.length_append, List.length_append, join_rep s hs n]
    simp only [List.length_cons, List.length_nil]
    omega
theorem join_many (s : ByteArray) (hm : mayB s.data.toList = true) (hs : s.size = 32) (n : Nat) : joinU (List.replicate (n + 1) s) = if 4096 < 33 * n + 32 then (⟨#[]⟩, 40) else (str (joinL (List.replicate (n + 1) s)), 0) := by
  unfold joinU
  have hb : (List.replicate (n + 1) s).any badB = false := by
    rw [List.any_eq_false]
    intro x hx
    rw [List.eq_of_mem_replicate hx]
    unfold badB
    rw [hm]
    simp
  rw [hb, if_neg (by simp), join_rep s hs n]
abbrev LONG : ByteArray := str (List.replicate 32 110)
theorem nots_rd (w : World) : RdT (w.alloc (.cells #[.string ⟨#[]⟩, .string ⟨#[46]⟩, .string ⟨#[46, 46]⟩, .string ⟨#[46, 115, 110, 97, 112, 115, 104, 111, 116]⟩, .string ⟨#[97, 47, 98]⟩, .string ⟨#[97, 0]⟩, .string ⟨#[47]⟩, .string (str (List.replicate 33 0))] 9)) (some ⟨w.heap.size, 0, none⟩) nots := fun _ => ⟨w.heap.size, 0, rfl, fun k hk => by
  match k, hk with
  | 0, _ => rw [World.cell?_alloc_new]; rfl
  | 1, _ => rw [World.cell?_alloc_new]; rfl
  | 2, _ => rw [World.cell?_alloc_new]; rfl
  | 3, _ => rw [World.cell?_alloc_new]; rfl
  | 4, _ => rw [World.cell?_alloc_new]; rfl
  | 5, _ => rw [World.cell?_alloc_new]; rfl
  | 6, _ => rw [World.cell?_alloc_new]; rfl
  | 7, _ => rw [World.cell?_alloc_new]; rfl⟩
set_option maxRecDepth 100000 in
set_option maxHeartbeats 4000000 in
theorem names_walk (w : World) : Calls Try.prog 6 #[] w fun e w' => e = .returned (.bool true) ∧ Below w.heap.size w w' := by
  have hmk1 : ∀ w : World, (Instr.makeSlice 44 (.int .i64 33) (.int .i64 33)).run Try.prog w = .ok (.slice (some ⟨w.heap.size, 0, none⟩) 33 33) (w.alloc (.cells (bcells (List.replicate 33 0)).toArray 5)) := fun W => make_u8 33 (by decide) W
  have hcv1 := fun W => conv_zero 33 W
  have hmk2 : ∀ w : World, (Instr.makeSlice 44 (.int .i64 4097) (.int .i64 4097)).run Try.prog w = .ok (.slice (some ⟨w.heap.size, 0, none⟩) 4097 4097) (w.alloc (.cells (bcells (List.replicate 4097 0)).toArray 5)) := fun W => make_u8 4097 (by decide) W
  have hcv2 := fun W => conv_zero 4097 W
  have hz33 := Lib.hid (show nots = [⟨#[]⟩, ⟨#[46]⟩, ⟨#[46, 46]⟩, ⟨#[46, 115, 110, 97, 112, 115, 104, 111, 116]⟩, ⟨#[97, 47, 98]⟩, ⟨#[97, 0]⟩, ⟨#[47]⟩, str (List.replicate 33 0)] from rfl)
  have NR := Lib.hid nots_rd
  have NM := Lib.hid nots_may
  have hnl : nots.length = 8 := rfl
  replace hnl := Lib.hid hnl
  generalize hzs : str (List.replicate 33 0) = Z33 at *
  generalize hzt : str (List.replicate 4097 0) = Z4 at *
  obtain ⟨C1, hC1⟩ : ∃ C, (bcells (List.replicate 33 0)).toArray = C := ⟨_, rfl⟩
  obtain ⟨C2, hC2⟩ : ∃ C, (bcells (List.replicate 4097 0)).toArray = C := ⟨_, rfl⟩
  rw [hC1] at hmk1 hcv1
  rw [hC2] at hmk2 hcv2
  clear hC1 hC2
  have hz4 : splitU Z4.data.toList = ([], 40) := by
    rw [← hzt, str_data]
    unfold splitU
    rw [if_pos (by simp)]
  have hz4s : Z4.size ≤ 5000 := by rw [← hzt, str_size]; simp
  replace hz4 := Lib.hid hz4
  replace hzs := Lib.hid hzs
  replace hzt := Lib.hid hzt
  go_enter Try.func6, Try.ntmps6
  go_wp2_with fail
  have r1 : RdT ((w.alloc (.cells C1 5)).alloc (.cells #[.string ⟨#[]⟩, .string ⟨#[46]⟩, .string ⟨#[46, 46]⟩, .string ⟨#[46, 115, 110, 97, 112, 115, 104, 111, 116]⟩, .string ⟨#[97, 47, 98]⟩, .string ⟨#[97, 0]⟩, .string ⟨#[47]⟩, .string Z33] 9)) (some ⟨w.heap.size + 1, 0, none⟩) nots := by
    have := NR.out (w.alloc (.cells C1 5))
    rw [World.size_alloc] at this
    exact this
  have hb1 : Below w.heap.size w ((w.alloc (.cells C1 5)).alloc (.cells #[.string ⟨#[]⟩, .string ⟨#[46]⟩, .string ⟨#[46, 46]⟩, .string ⟨#[46, 115, 110, 97, 112, 115, 104, 111, 116]⟩, .string ⟨#[97, 47, 98]⟩, .string ⟨#[97, 0]⟩, .string ⟨#[47]⟩, .string Z33] 9)) := ((Below.refl _ _).alloc (Nat.le_refl _) _).alloc (by simp) _
  generalize (w.alloc (.cells C1 5)).alloc (.cells #[.string ⟨#[]⟩, .string ⟨#[46]⟩, .string ⟨#[46, 46]⟩, .string ⟨#[46, 115, 110, 97, 112, 115, 104, 111, 116]⟩, .string ⟨#[97, 47, 98]⟩, .string ⟨#[97, 0]⟩, .string ⟨#[47]⟩, .string Z33] 9) = w1 at *
  have B1 := Lib.hid hb1
  replace r1 := Lib.hid r1
  clear hb1 hcv1 hmk1
  go_loop [29] (fun i => ∃ k : Nat, k ≤ 8 ∧ i = .int .i64 k) (fun i => 8 - (intOf i).toNat)
  case atStart => exact ⟨0, by decide, rfl⟩
  case round =>
    obtain ⟨k, hk, rfl⟩ := hrel
    by_cases hlt : k < 8
    · obtain ⟨b, off, e, hc⟩ := r1.out (by rw [hz33.out]; simp)
      simp only [Option.some.injEq, Addr.mk.injEq, and_true] at e
      obtain ⟨rfl, rfl⟩ := e
      have hkn : k < nots.length := by rw [hnl.out]; exact hlt
      have d0 := hc k hkn
      rw [Nat.zero_add] at d0
      have MY := Lib.hid (may_any nots[k] w1 (by have := (NM.out k hkn).2; omega))
      rw [(NM.out k hkn).1] at MY
      clear hc
      generalize nots[k] = t at *
      go_wp2_with fail
      refine MY.out.mono ?_
      rintro e w2 ⟨rfl, rfl⟩
      go_wp2_with fail
      go_round
      case rel => exact ⟨k + 1, by omega, by go_num⟩
      case measure => simp [intOf]; omega
    · obtain rfl : k = 8 := by omega
      clear hlt
      go_wp2_with fail
      go_loop [3, 4] (fun s i => ∃ k : Nat, k ≤ 32 ∧ i = .int .i64 k ∧ s = .string (str (List.replicate k 110))) (fun _ i => 32 - (intOf i).toNat)
      case atStart => exact ⟨0, by decide, rfl, rfl⟩
      case round =>
        obtain ⟨k, hk, rfl, rfl⟩ := hrel
        have hss := str_size (List.replicate k (110 : UInt8))
        rw [List.length_replicate] at hss
        have hsz : (str (List.replicate k 110)).size ≤ 32 := by rw [hss]; exact hk
        have hnx : str (List.replicate k 110) ++ ⟨#[110]⟩ = str (List.replicate (k + 1) 110) := bytes_inj (by rw [app_data, str_data, str_data, List.replicate_succ'])
        replace hnx := Lib.hid hnx
        by_cases hlt : k < 32
        · replace hss := Lib.hid hss
          generalize str (List.replicate k 110) = cur at *
          go_wp2_with fail
          go_round
          case rel => exact ⟨k + 1, by omega, by go_num, by rw [hnx.out]⟩
          case measure => simp [intOf]; omega
        · obtain rfl : k = 32 := by omega
          have hML : mayB (str (List.replicate 32 110)).data.toList = true := by decide +kernel
          have hML2 : mayB (str (List.replicate 32 110) ++ ⟨#[110]⟩).data.toList = false := by decide +kernel
          replace hML := Lib.hid hML
          replace hML2 := Lib.hid hML2
          clear hlt hsz hnx
          generalize str (List.replicate 32 110) = L at *
          have hLs : L.size ≤ 32 := by omega
          replace hss := Lib.hid hss
          go_wp2_with fail
          refine (split_any ⟨#[47, 97]⟩ w1 (by decide)).mono ?_
          rw [show splitU (⟨#[47, 97]⟩ : ByteArray).data.toList = ([], 56) from by decide]
          rintro e w2 ⟨A, c, rfl, _, hb⟩
          have B2 := Lib.hid (B1.out.trans (hb.mono B1.out.size))
          clear hb
          simp only []
          go_wp2_with fail
          refine (split_any ⟨#[97, 47]⟩ w2 (by decide)).mono ?_
          rw [show splitU (⟨#[97, 47]⟩ : ByteArray).data.toList = ([], 56) from by decide]
          rintro e w3 ⟨A, c, rfl, _, hb⟩
          have B3 := Lib.hid (B2.out.trans (hb.mono B2.out.size))
          clear hb
          simp only []
          go_wp2_with fail
          refine (split_any ⟨#[97, 47, 47, 98]⟩ w3 (by decide)).mono ?_
          rw [show splitU (⟨#[97, 47, 47, 98]⟩ : ByteArray).data.toList = ([], 56) from by decide]
          rintro e w4 ⟨A, c, rfl, _, hb⟩
          have B4 := Lib.hid (B3.out.trans (hb.mono B3.out.size))
          clear hb
          simp only []
          go_wp2_with fail
          refine (split_any ⟨#[]⟩ w4 (by decide)).mono ?_
          rw [show splitU (⟨#[]⟩ : ByteArray).data.toList = ([], 0) from by decide]
          rintro e w5 ⟨A, c, rfl, _, hb⟩
          have B5 := Lib.hid (B4.out.trans (hb.mono B4.out.size))
          clear hb
          simp only []
          go_wp2_with fail
          have S5 := Lib.hid (fun W => split_any Z4 W (by omega))
          rw [hz4.out] at S5
          have B5' := Lib.hid (B5.out.trans (((Below.refl w5.heap.size w5).alloc (Nat.le_refl _) (.cells C2 5)).mono B5.out.size))
          refine (S5.out _).mono ?_
          rintro e w6 ⟨A, c, rfl, _, hb⟩
          have B6 := Lib.hid (B5'.out.trans (hb.mono B5'.out.size))
          clear hb
          simp only []
          go_wp2_with fail
          have rd2 : RdT (w6.alloc (.cells #[.string ⟨#[97]⟩, .string ⟨#[]⟩] 9)) (some ⟨w6.heap.size, 0, none⟩) [⟨#[97]⟩, ⟨#[]⟩] := fun _ => ⟨w6.heap.size, 0, rfl, fun k hk => by
            match k, hk with
            | 0, _ => rw [World.cell?_alloc_new]; rfl
            | 1, _ => rw [World.cell?_alloc_new]; rfl⟩
          have J6 := Lib.hid (join_any (some ⟨w6.heap.size, 0, none⟩) 2 [⟨#[97]⟩, ⟨#[]⟩] (w6.alloc (.cells #[.string ⟨#[97]⟩, .string ⟨#[]⟩] 9)) rd2 (fun b off h _ => by
            simp only [Option.some.injEq, Addr.mk.injEq, and_true] at h
            obtain ⟨rfl, _⟩ := h
            simp) (by decide) (by decide) (by decide))
          rw [show joinU [⟨#[97]⟩, ⟨#[]⟩] = (⟨#[]⟩, 56) from by decide +kernel] at J6
          have B6' := Lib.hid (B6.out.trans (((Below.refl w6.heap.size w6).alloc (Nat.le_refl _) (.cells #[.string ⟨#[97]⟩, .string ⟨#[]⟩] 9)).mono B6.out.size))
          clear rd2
          refine J6.out.mono ?_
          rintro e w7 ⟨rfl, hb⟩
          have B7 := Lib.hid (B6'.out.trans (hb.mono B6'.out.size))
          clear hb
          simp only []
          go_wp2_with fail
          have hbz7 := B7.out.size
          go_loopw [17, 18] (fun v i wr => ∃ k A c, i = .int .i64 (k : Nat) ∧ k ≤ 124 ∧ v = .slice A k c ∧ OwnS w7.heap.size wr (.slice A k c) (List.replicate k L) ∧ Below w7.heap.size w7 wr) (fun _ i _ => 124 - (intOf i).toNat)
          case atStart => exact ⟨0, none, 0, rfl, by decide, rfl, OwnS.nil _ _, Below.refl _ _⟩
          case round =>
            obtain ⟨k, A, c, rfl, hk, rfl, hown, hB⟩ := hrel
            have HB := Lib.hid hB
            have hbz := hB.size
            have HO := Lib.hid hown
            have hrl : (List.replicate k L).length = k := List.length_replicate
            clear hB hown
            by_cases hlt : k < 124
            · obtain ⟨v', w', hap, hown', hb'⟩ := owns_app HO.out L (by omega) hbz
              obtain ⟨A2, c2, rfl, _, _⟩ := hown'.form
              have e1 : (List.replicate k L ++ [L]).length = k + 1 := by simp
              rw [e1] at hap hown'
              have HO2 := Lib.hid (show OwnS w7.heap.size w' (.slice A2 (k + 1) c2) (List.replicate (k + 1) L) from by rw [List.replicate_succ']; exact hown')
              have HB2 := Lib.hid (HB.out.trans hb')
              replace hrl := Lib.hid hrl
              clear hown' hb' e1
              go_wp2_with (at_builtin; refine Go.Lib.wpList_append_run_sl _ rfl _ _ _ rfl _ _ rfl rfl hap ?_)
              go_roundw
              case rel => exact ⟨k + 1, A2, c2, by go_num, by omega, rfl, HO2.out, HB2.out⟩
              case measure => simp [intOf]; omega
            · obtain rfl : k = 124 := by omega
              have B8 := Lib.hid (B7.out.trans (HB.out.mono B7.out.size))
              have hJ1 : joinU (List.replicate 124 L) = (str (joinL (List.replicate 124 L)), 0) := by rw [join_many L hML.out hss.out 123, if_neg (by decide)]
              have hJ2 : joinU (List.replicate 125 L) = (⟨#[]⟩, 40) := by rw [join_many L hML.out hss.out 124, if_pos (by decide)]
              have hJl := str_size (joinL (List.replicate 124 L))
              rw [join_rep L hss.out 123] at hJl
              have hho : OwnS w7.heap.size wr (.slice A (List.replicate 124 L).length c) (List.replicate 124 L) := by rw [List.length_replicate]; exact HO.out
              have J8 := Lib.hid (join_any A c (List.replicate 124 L) wr hho.rd (own_bk hho).1 (by simp) (own_bk hho).2 (fun o ho => by rw [List.eq_of_mem_replicate ho]; omega))
              rw [hJ1, List.length_replicate] at J8
              clear hJ1 hho hlt
              generalize str (joinL (List.replicate 124 L)) = SJ at *
              have hJl' : SJ.size = 4091 := by rw [hJl]
              replace hJl := Lib.hid hJl
              replace hrl := Lib.hid hrl
              replace hJ2 := Lib.hid hJ2
              go_wp2_with fail
              refine J8.out.mono ?_
              rintro e w9 ⟨rfl, hb⟩
              have B9 := Lib.hid (B8.out.trans (hb.mono B8.out.size))
              have HO9 := Lib.hid (HO.out.below hb)
              have hbz9 : w7.heap.size ≤ w9.heap.size := Nat.le_trans hbz hb.size
              clear hb
              simp only []
              obtain ⟨v', w10, hap, hown', hb'⟩ := owns_app HO9.out L (by simp) hbz9
              obtain ⟨A2, c2, rfl, _, _⟩ := hown'.form
              have e1 : (List.replicate 124 L ++ [L]) = List.replicate 125 L := (List.replicate_succ' (n := 124)).symm
              rw [e1] at hap hown'
              have J10 := Lib.hid (join_any A2 c2 (List.replicate 125 L) w10 hown'.rd (own_bk hown').1 (by simp) (own_bk hown').2 (fun o ho => by rw [List.eq_of_mem_replicate ho]; omega))
              rw [hJ2.out, List.length_replicate] at J10
              rw [List.length_replicate] at hap
              have hb9w : Below w.heap.size w9 w10 := by
                have : Below w7.heap.size w9 w10 := hb'
                exact this.mono hbz7
              have B10 := Lib.hid (B9.out.trans hb9w)
              clear hown' hb' e1 hb9w
              go_wp2_with (at_builtin; refine Go.Lib.wpList_append_run_sl _ rfl _ _ _ rfl _ _ rfl rfl hap ?_)
              refine J10.out.mono ?_
              rintro e w11 ⟨rfl, hb⟩
              have B11 := Lib.hid (B10.out.trans (hb.mono B10.out.size))
              clear hb hap
              simp only []
              go_wp2_with fail
              have J11 := Lib.hid (join_any none 0 [] w11 (fun h => absurd rfl h) (fun b off h => by cases h) (by decide) (by decide) (by decide))
              rw [show joinU [] = (⟨#[]⟩, 0) from rfl] at J11
              refine J11.out.mono ?_
              rintro e w12 ⟨rfl, hb⟩
              have B12 := Lib.hid (B11.out.trans (hb.mono B11.out.size))
              clear hb
              simp only []
              have Y1 := Lib.hid (may_any L w12 (by omega))
              rw [hML.out] at Y1
              have hls2 : (L ++ ⟨#[110]⟩ : ByteArray).size ≤ 1000000 := by rw [ByteArray.size_append]; have : (⟨#[110]⟩ : ByteArray).size = 1 := rfl; omega
              have Y2 := Lib.hid (may_any (L ++ ⟨#[110]⟩) w12 hls2)
              rw [hML2.out] at Y2
              have Y3 := Lib.hid (may_any ⟨#[46, 97]⟩ w12 (by decide))
              rw [show mayB (⟨#[46, 97]⟩ : ByteArray).data.toList = true from by decide] at Y3
              have Y4 := Lib.hid (may_any ⟨#[255]⟩ w12 (by decide))
              rw [show mayB (⟨#[255]⟩ : ByteArray).data.toList = true from by decide] at Y4
              clear hls2
              go_wp2_with fail
              refine Y1.out.mono ?_
              rintro e w13 ⟨rfl, rfl⟩
              go_wp2_with fail
              refine Y2.out.mono ?_
              rintro e w13 ⟨rfl, rfl⟩
              go_wp2_with fail
              refine Y3.out.mono ?_
              rintro e w13 ⟨rfl, rfl⟩
              go_wp2_with fail
              refine Y4.out.mono ?_
              rintro e w13 ⟨rfl, rfl⟩
              go_wp2_with fail
              refine (awake_any w12).mono ?_
              rintro e w13 ⟨rfl, hb⟩
              have B13 := Lib.hid (B12.out.trans (hb.mono B12.out.size))
              clear hb
              go_wp2_with fail
              go_ret
              exact ⟨rfl, B13.out⟩
end Go.Proofs.Ytajopaljiondlaa
