/- WALK of layer 22: Over. -/
import Derived.Test.YtpkapichblpdfaaDoorB
import Derived.Laws.BytesArg
import Derived.Lib.BufferWrite
import Derived.Lib.SlBuf
import Derived.Deep.RegionHeld3
import Derived.Laws.MakeOwn
set_option linter.unusedVariables false
namespace Go.Proofs.YtpkapichblpdfaaDoor
open Go.RowKit Go.ChangeShapes Go.WideShapes Go.ChangeAt

/-- Bytes as cells. -/
def bcells (l : List UInt8) : List Value := l.map fun b => Value.int .u8 ((b.toNat : Nat) : Int)
theorem bcells_len (l : List UInt8) : (bcells l).length = l.length := by simp [bcells]
/-- Bytes written over others. -/
def poke (M : List UInt8) (a : Nat) (t : List UInt8) : List UInt8 := M.take a ++ t ++ M.drop (a + t.length)
theorem poke_len (M : List UInt8) (a : Nat) (t : List UInt8) (h : a + t.length ≤ M.length) : (poke M a t).length = M.length := by unfold poke; simp; omega
/-- A file behind writes. -/
def overL (l : List Pt) (f : List UInt8) : List UInt8 := l.foldl (fun M p => poke M p.1.toNat p.2.data.toList) (f ++ List.replicate ((sizeL l f.length).toNat - f.length) 0)
def overF (l : List Pt) (M : List UInt8) : List UInt8 := l.foldl (fun M p => poke M p.1.toNat p.2.data.toList) M
theorem overF_snoc (l : List Pt) (p : Pt) (M : List UInt8) : overF (l ++ [p]) M = poke (overF l M) p.1.toNat p.2.data.toList := by unfold overF; simp [List.foldl_append]
theorem sizeL_le : ∀ (l : List Pt) (n : Int) (p : Pt), p ∈ l → p.1 + p.2.size ≤ sizeL l n
  | q :: l, n, p, hp => by
    rcases List.mem_cons.1 hp with rfl | h
    · have := sizeL_ge l (max n (p.1 + p.2.size))
      show _ ≤ sizeL l (max n (p.1 + p.2.size))
      omega
    · exact sizeL_le l _ p h
theorem sizeL_bd : ∀ (l : List Pt) (n : Int), Good l → sizeL l n ≤ max n 32768
  | [], n, _ => by show n ≤ _; omega
  | q :: l, n, h => by
    have h1 := sizeL_bd l (max n (q.1 + q.2.size)) (fun p hp => h p (List.mem_cons_of_mem _ hp))
    have h2 := h q (List.mem_cons_self ..)
    show sizeL l (max n (q.1 + q.2.size)) ≤ _
    omega
theorem overF_len : ∀ (l : List Pt) (M : List UInt8), (∀ p ∈ l, 0 ≤ p.1 ∧ p.1 + p.2.size ≤ M.length) → (overF l M).length = M.length
  | [], M, _ => rfl
  | q :: l, M, h => by
    have hq := h q (List.mem_cons_self ..)
    have hs : q.2.data.toList.length = q.2.size := rfl
    have hp := poke_len M q.1.toNat q.2.data.toList (by omega)
    show (overF l (poke M q.1.toNat q.2.data.toList)).length = _
    rw [overF_len l _ (fun p hp' => by rw [hp]; exact h p (List.mem_cons_of_mem _ hp')), hp]
theorem info_u8 : (Tryd.prog.info? 5).map (fun i => (i.zero, i.size, i.bytes)) = some (some (.int .u8 0), 1, 1) := by kernel_rfl
theorem make_u8 (n : Nat) (h : n ≤ 1000000) (w : World) : (Instr.makeSlice 30 (.int .i64 (n : Int)) (.int .i64 (n : Int))).run Tryd.prog w = .ok (.slice (some ⟨w.heap.size, 0, none⟩) n n) (w.alloc (.cells (bcells (List.replicate n 0)).toArray 5)) := by
  obtain ⟨i0, hi, hz0, hz1, hz2⟩ := info_parts info_u8
  have := run_makeSlice (P := Tryd.prog) w 30 5 i0 (.int .u8 0) Tryd.underlying30 hi hz0 .i64 .i64 n n (by omega) (by omega) (by rw [hz1]; omega) (by rw [hz2]; omega) (by omega)
  rw [this, hz1, show madeCells (Value.int .u8 0).cells (Int.toNat n * 1) = (bcells (List.replicate n 0)).toArray from by
    rw [Int.toNat_natCast, Nat.mul_one]
    apply Array.ext'
    simp [madeCells, bcells, Value.cells]
    apply List.ext_getElem
    · simp
    · intro i h1 h2
      simp [Nat.mod_one]]
  rfl
theorem bcells_poke (M t : List UInt8) (a : Nat) : (bcells M).take a ++ bcells t ++ (bcells M).drop (a + t.length) = bcells (poke M a t) := by unfold bcells poke; simp [List.map_take, List.map_drop]
theorem bytes_inj {a b : ByteArray} (h : a.data.toList = b.data.toList) : a = b := by
  cases a; cases b
  exact congrArg ByteArray.mk (Array.ext' h)
/-- 'copy' of a string into a row of bytes. -/
theorem copy_row (W : World) (g a n c : Nat) (M : List UInt8) (s : ByteArray) (ty : TypeId) (hg : W.heap[g]? = some (.cells (bcells M).toArray 5 (0, 0))) (hle : s.size ≤ n) (hfit : a + s.size ≤ M.length) :
    (Builtin.copy_ #[30, 9] ty #[.slice (some ⟨g, a, none⟩) n c, .string s]).run Tryd.prog W = .ok (goInt s.size) (W.setRow g (bcells (poke M a s.data.toList)).toArray) := by
  have := Go.Lib.run_copy_row_string (P := Tryd.prog) W 30 9 ty 5 g a n c s _ 5 Tryd.underlying30 (by kernel_rfl) hg hle (by simpa [bcells] using hfit)
  rw [this]
  congr 3
  exact bcells_poke M s.data.toList a
theorem row_conv (W : World) (g n c : Nat) (M : List UInt8) (hg : W.heap[g]? = some (.cells (bcells M).toArray 5 (0, 0))) (hn : M.length = n) : (convert 30 9 (.slice (some ⟨g, 0, none⟩) n c)).run Tryd.prog W = .ok (.string ⟨M.toArray⟩) W := by
  have := run_convert_bytes_arg W 30 5 Tryd.underlying30 Tryd.underlying5 g 0 n c (M.map fun c => ((c.toNat : Nat) : Int)) (by simpa using hn) (fun i hi => by
    unfold World.cell?
    rw [hg]
    show (bcells M).toArray[0 + i]? = _
    rw [Nat.zero_add, List.getElem?_toArray, List.getD_eq_getElem?_getD]
    unfold bcells
    rw [List.getElem?_map, List.getElem?_map, List.getElem?_eq_getElem (by omega)]
    rfl) 9 Tryd.underlying9
  rw [this]
  congr 2
  apply bytes_inj
  rw [strOfNums_data, List.map_map, show ((fun n : Int => UInt8.ofNat n.toNat) ∘ fun c : UInt8 => ((c.toNat : Nat) : Int)) = id from by funext c; simp, List.map_id]
theorem heap_setRow_other (w : World) (g k : Nat) (cs : Array Value) (h : k ≠ g) : (w.setRow g cs).heap[k]? = w.heap[k]? := by
  simp only [World.setRow, Array.getElem?_modify]
  rw [if_neg (by omega)]
theorem below_setRow {B : Nat} {a w : World} (h : Below B a w) {g : Nat} (hg : B ≤ g) (cs : Array Value) : Below B a (w.setRow g cs) :=
  h.trans ⟨rfl, rfl, rfl, by simp [World.setRow], fun k hk => heap_setRow_other _ _ _ _ (by omega)⟩
theorem cut_lt (g N a : Nat) (h : a < N) (W : World) : (Instr.slice 30 (.slice (some ⟨g, 0, none⟩) N N) (some (.int .i64 (a : Int))) none none).run Tryd.prog W = .ok (.slice (some ⟨g, a, none⟩) (N - a) (N - a)) W := by
  have hu : Tryd.prog.underlying 30 = some (.slice (Tryd.prog.elem 30)) := by kernel_rfl
  have hs : (sizeOf (Tryd.prog.elem 30)).run Tryd.prog W = .ok 1 W := by kernel_rfl
  have e : (if N = a then some (⟨g, 0, none⟩ : Addr) else Option.map (fun x : Addr => x.add (a * 1)) (some (⟨g, 0, none⟩ : Addr))) = some ⟨g, a, none⟩ := by
    rw [if_neg (by omega)]
    simp [Addr.add]
    intro h0; exact h0.symm
  rw [run_slice_l W 30 _ N N hu .i64 _ (by omega) (by omega), hs]
  simp only [Result.andThen_ok, sliced, Int.toNat_natCast]
  rw [e]
theorem BufAt.below {O : Nat → Prop} {w w' : World} {r bm n : Nat} {D : DataW Unit} {F : Int → Value} {L : Int → List Pt} {h : Int} (hb : BufAt O w r bm n D F L h) (ho : Below w.heap.size w w') : BufAt O w' r bm n D F L h := by
  obtain ⟨h1, h2, h3, h4, h5, h6, h7, h8, h9⟩ := hb
  have ho' := Off.of_below (fun _ => False) ho
  exact ⟨(ho'.block r (Array.getElem?_eq_some_iff.1 h1).1 (fun h => h)).trans h1, map_off h2 ho' (fun h => h), h3, h4, fun i => row_off (h5 i) ho' (fun g hg h => h), h6, h7, h8, h9⟩
/-- The writes that lie in a row below a block. -/
def RdPB (B : Nat) (w : World) (A : Option Addr) (l : List Pt) : Prop := l ≠ [] → ∃ g, A = some ⟨g, 0, none⟩ ∧ g < B ∧ ∀ k, (h : k < l.length) → w.cell? ⟨g, k * 2, none⟩ = some (.int .i64 l[k].1) ∧ w.cell? ⟨g, k * 2 + 1, none⟩ = some (.string l[k].2)
theorem RdPB.below {B : Nat} {w w' : World} {A : Option Addr} {l : List Pt} (h : RdPB B w A l) (hb : Below B w w') : RdPB B w' A l := fun hne => by
  obtain ⟨g, hA, hlt, hc⟩ := h hne
  exact ⟨g, hA, hlt, fun k hk => ⟨(hb.cell (p := ⟨g, k * 2, none⟩) hlt).trans (hc k hk).1, (hb.cell (p := ⟨g, k * 2 + 1, none⟩) hlt).trans (hc k hk).2⟩⟩
theorem overL_F (l : List Pt) (f : List UInt8) : overL l f = overF l (f ++ List.replicate ((sizeL l f.length).toNat - f.length) 0) := rfl
set_option maxRecDepth 20000 in
set_option maxHeartbeats 2000000 in
theorem over_any (O : Nat → Prop) (r n : Nat) (L : Int → List Pt) (h : Int) (ino : Int) (file : ByteArray) (w : World) (hb : Buf O w r n L h) (h0 : -9223372036854775808 ≤ ino) (h1 : ino ≤ 9223372036854775807) (hg : Good (L ino)) (hl : (L ino).length ≤ 1000000) (hf : file.size ≤ 100000) :
    Calls Tryd.prog 12 #[.pointer (some ⟨r, 0, none⟩), .int .i64 ino, .string file] w fun e w' => e = .returned (.string ⟨(overL (L ino) file.data.toList).toArray⟩) ∧ Below w.heap.size w w' := by
  have SZ := Lib.hid (size_any O r n L h ino file.size w hb h0 h1 hg hl)
  have HB0 := Lib.hid hb
  have hge := sizeL_ge (L ino) file.size
  have hbd := sizeL_bd (L ino) file.size hg
  have hLe := Lib.hid (fun p hp => sizeL_le (L ino) file.size p hp)
  have hOF := Lib.hid (overL_F (L ino) file.data.toList)
  have hfs : file.data.toList.length = file.size := rfl
  rw [hfs] at hOF
  obtain ⟨N, hN⟩ : ∃ N : Nat, sizeL (L ino) file.size = (N : Int) := ⟨(sizeL (L ino) file.size).toNat, by omega⟩
  rw [hN] at SZ hge hbd hLe hOF
  have hN1 : file.size ≤ N := by omega
  have hN2 : N ≤ 132768 := by omega
  clear hb hN hge hbd hfs
  have hmk := make_u8 N (by omega)
  go_enter Tryd.func12, Tryd.ntmps12
  go_wp2_with fail
  refine SZ.out.mono ?_
  rintro e w1 ⟨rfl, hb1⟩
  have HB1 := Lib.hid (Buf.below HB0.out hb1)
  have B1 := Lib.hid hb1
  clear hb1 HB0 SZ
  have hgw : (w1.alloc (.cells (bcells (List.replicate N 0)).toArray 5)).heap[w1.heap.size]? = some (.cells (bcells (List.replicate N 0)).toArray 5 (0, 0)) := heap_alloc_new w1 _
  have hcp := copy_row (w1.alloc (.cells (bcells (List.replicate N 0)).toArray 5)) w1.heap.size 0 N N (List.replicate N 0) file 3 hgw hN1 (by simpa using hN1)
  rw [show poke (List.replicate N 0) 0 file.data.toList = file.data.toList ++ List.replicate (N - file.size) 0 from by
    have hfs : file.data.toList.length = file.size := rfl
    unfold poke
    simp [hfs]] at hcp
  have hg1 := setRow_heap (w1.alloc (.cells (bcells (List.replicate N 0)).toArray 5)) w1.heap.size _ (bcells (file.data.toList ++ List.replicate (N - file.size) 0)).toArray 5 (0, 0) hgw
  have B2 := Lib.hid (below_setRow ((B1.out.alloc B1.out.size (.cells (bcells (List.replicate N 0)).toArray 5))) (g := w1.heap.size) B1.out.size (bcells (file.data.toList ++ List.replicate (N - file.size) 0)).toArray)
  have HB2x := Lib.hid (show Buf O ((w1.alloc (.cells (bcells (List.replicate N 0)).toArray 5)).setRow w1.heap.size (bcells (file.data.toList ++ List.replicate (N - file.size) 0)).toArray) r n L h from HB1.out.below (below_setRow ((Below.refl _ _).alloc (Nat.le_refl _) _) (Nat.le_refl _) _))
  have hz2 : w1.heap.size < ((w1.alloc (.cells (bcells (List.replicate N 0)).toArray 5)).setRow w1.heap.size (bcells (file.data.toList ++ List.replicate (N - file.size) 0)).toArray).heap.size := (Array.getElem?_eq_some_iff.1 hg1).1
  have hgg := Lib.hid hg1
  clear hgw hg1
  obtain ⟨bm, D, F, hbx1⟩ := HB1.out
  have hbx := hbx1.below (below_setRow ((Below.refl _ _).alloc (Nat.le_refl _) (.cells (bcells (List.replicate N 0)).toArray 5)) (g := w1.heap.size) (Nat.le_refl _) (bcells (file.data.toList ++ List.replicate (N - file.size) 0)).toArray)
  obtain ⟨c0, c1, cf⟩ := cell_two hbx.1
  have hlk := hbx.look ino h0 h1
  obtain ⟨A, c, hF, hR1, hc, _⟩ := row_rdp (hbx1.2.2.2.2.1 ino)
  have hR := RdPB.below (B := w1.heap.size) (show RdPB w1.heap.size w1 A (L ino) from hR1) (below_setRow ((Below.refl _ _).alloc (Nat.le_refl _) (.cells (bcells (List.replicate N 0)).toArray 5)) (g := w1.heap.size) (Nat.le_refl _) (bcells (file.data.toList ++ List.replicate (N - file.size) 0)).toArray)
  rw [hF] at hlk
  replace hR := Lib.hid hR
  replace hg := Lib.hid hg
  clear hbx hbx1 hR1 hF c1 cf HB2x HB1
  go_wp2_with fail
  clear hcp hlk c0 hmk
  generalize ((w1.alloc (.cells (bcells (List.replicate N 0)).toArray 5)).setRow w1.heap.size (bcells (file.data.toList ++ List.replicate (N - file.size) 0)).toArray) = w2 at *
  generalize hM : file.data.toList ++ List.replicate (N - file.size) 0 = M at *
  have hML : M.length = N := by
    have hfs : file.data.toList.length = file.size := rfl
    rw [← hM]; simp [hfs]; omega
  have hMM := Lib.hid hM
  clear hM
  have hww := B1.out.size
  generalize hLi : L ino = l at *
  replace hLi := Lib.hid hLi
  go_loopw [29] (fun i wr => ∃ k : Nat, k ≤ l.length ∧ i = .int .i64 k ∧ Below w.heap.size w wr ∧ w2.heap.size ≤ wr.heap.size ∧ RdPB w1.heap.size wr A l ∧ wr.heap[w1.heap.size]? = some (.cells (bcells (overF (l.take k) M)).toArray 5 (0, 0))) (fun i _ => l.length - (intOf i).toNat)
  case atStart => exact ⟨0, Nat.zero_le _, rfl, B2.out, Nat.le_refl _, hR.out, hgg.out⟩
  case round =>
    obtain ⟨k, hk, rfl, hbw, hsz, hrp, hgk⟩ := hrel
    by_cases hlt : k < l.length
    · obtain ⟨g, rfl, hgl, hcs⟩ := hrp (by intro h; subst h; simp at hlt)
      obtain ⟨d0, d1⟩ := hcs k hlt
      obtain ⟨g0, g1, g2⟩ := hg.out l[k] (List.getElem_mem hlt)
      have g3 := hLe.out l[k] (List.getElem_mem hlt)
      obtain ⟨a, ha⟩ : ∃ a : Nat, l[k].1 = (a : Int) := ⟨l[k].1.toNat, by omega⟩
      rw [ha] at d0 g0 g1 g3
      have haN : a < N := by omega
      have hsl := cut_lt w1.heap.size N a haN
      have HK := Lib.hid (take_snoc l k hlt)
      have HO := Lib.hid (overF_snoc (l.take k) l[k] M)
      have hOl : (overF (l.take k) M).length = N := by
        rw [← hML]
        exact overF_len _ _ (fun p hp => by
          have hp' := List.mem_of_mem_take hp
          have q1 := hg.out p hp'
          have q2 := hLe.out p hp'
          omega)
      have hat : l[k].1.toNat = a := by omega
      rw [hat] at HO
      have HB := Lib.hid hbw
      have hrp' := Lib.hid (show RdPB w1.heap.size wr (some ⟨g, 0, none⟩) l from fun _ => ⟨g, rfl, hgl, hcs⟩)
      clear hbw hcs ha hat
      have hbz := HB.out.size
      generalize ht : l[k].2 = t at *
      have Ht := Lib.hid ht
      clear ht
      go_wp2_with fail
      have b0 : (wr.alloc (.cells #[.int .i64 (a : Int), .string t] 51)).cell? ⟨wr.heap.size, 0, none⟩ = some (.int .i64 (a : Int)) := by rw [World.cell?_alloc_new]; rfl
      have b1 : (wr.alloc (.cells #[.int .i64 (a : Int), .string t] 51)).cell? ⟨wr.heap.size, 1, none⟩ = some (.string t) := by rw [World.cell?_alloc_new]; rfl
      have hgk3 : (wr.alloc (.cells #[.int .i64 (a : Int), .string t] 51)).heap[w1.heap.size]? = some (.cells (bcells (overF (l.take k) M)).toArray 5 (0, 0)) := (Below.heap_alloc wr _ _ (by omega)).trans hgk
      have HB3 := Lib.hid (HB.out.alloc hbz (.cells #[.int .i64 (a : Int), .string t] 51))
      have hz3 : wr.heap.size < (wr.alloc (.cells #[.int .i64 (a : Int), .string t] 51)).heap.size := by simp
      have hR3 := Lib.hid (RdPB.below hrp'.out ((Below.refl w1.heap.size wr).alloc (by omega) (.cells #[.int .i64 (a : Int), .string t] 51)))
      clear hgk
      generalize wr.alloc (.cells #[.int .i64 (a : Int), .string t] 51) = w3 at *
      have hcp := copy_row w3.drew w1.heap.size a (N - a) (N - a) (overF (l.take k) M) t 3 hgk3 (by omega) (by omega)
      have hg4 := setRow_heap w3.drew w1.heap.size _ (bcells (poke (overF (l.take k) M) a t.data.toList)).toArray 5 (0, 0) hgk3
      replace hcp := Lib.hid hcp
      go_region_held3 (fun w' => w'.cell? ⟨wr.heap.size, 0, none⟩ = some (.int .i64 (a : Int)) ∧ w'.cell? ⟨wr.heap.size, 1, none⟩ = some (.string t))
        (first | exact ⟨b0, b1⟩ | exact ⟨(World.cell?_of_block (heap_setRow_other _ _ _ _ (by show wr.heap.size ≠ w1.heap.size; omega))).trans b0, (World.cell?_of_block (heap_setRow_other _ _ _ _ (by show wr.heap.size ≠ w1.heap.size; omega))).trans b1⟩)
        ((rw [if_pos (by rfl)]; refine Go.Lib.wp_copy_run _ _ _ _ _ rfl _ _ rfl rfl hcp.out ?_))
      have HB4 := Lib.hid (below_setRow HB3.out.drew (g := w1.heap.size) hww (bcells (poke (overF (l.take k) M) a t.data.toList)).toArray)
      have hR4 := Lib.hid (RdPB.below hR3.out (below_setRow (Below.refl w1.heap.size w3).drew (g := w1.heap.size) (Nat.le_refl _) (bcells (poke (overF (l.take k) M) a t.data.toList)).toArray))
      have hz4 : w2.heap.size ≤ (w3.drew.setRow w1.heap.size (bcells (poke (overF (l.take k) M) a t.data.toList)).toArray).heap.size := by
        show _ ≤ (w3.drew.heap.modify _ _).size
        rw [Array.size_modify]
        show _ ≤ w3.heap.size
        omega
      have hg5 := Lib.hid hg4
      clear hg4 b0 b1 hcp hgk3
      go_wp2_with fail
      go_roundw
      case rel => exact ⟨k + 1, by omega, by go_num, HB4.out, hz4, hR4.out, by rw [HK.out, HO.out]; exact hg5.out⟩
      case measure => simp [intOf]; omega
    · have hkl : k = l.length := by omega
      subst hkl
      rw [List.take_length] at hgk
      have hcv := row_conv wr w1.heap.size N N (overF l M) hgk (by rw [← hML]; exact overF_len _ _ (fun p hp => by
        have q1 := hg.out p hp
        have q2 := hLe.out p hp
        omega))
      have HB := Lib.hid hbw
      clear hgk hrp hbw
      go_wp2_with fail
      go_ret
      exact ⟨by rw [hLi.out, hOF.out, Int.toNat_natCast, hMM.out]; rfl, HB.out⟩
end Go.Proofs.YtpkapichblpdfaaDoor
