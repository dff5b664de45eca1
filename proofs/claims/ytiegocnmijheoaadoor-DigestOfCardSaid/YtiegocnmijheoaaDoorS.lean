/- WALK of DigestOf. -/
import Derived.Test.YtiegocnmijheoaaDoorK
import Derived.OwnWalk
import Derived.Laws.AppendOwn
import Derived.Laws.AppendOwnNone
set_option linter.unusedVariables false
namespace Go.Proofs.YtiegocnmijheoaaDoor
open Go.RowKit Go.ChangeShapes Go.WideShapes Go.ChangeAt

/-- How many bytes are summed. -/
def tot (l : List ByteArray) : Nat := (l.map fun p => 8 + p.size).sum
theorem tot_snoc (l : List ByteArray) (p : ByteArray) : tot (l ++ [p]) = tot l + 8 + p.size := by unfold tot; simp; omega
theorem tot_take_le (l : List ByteArray) (k : Nat) : tot (l.take k) ≤ tot l := by
  have : tot l = tot (l.take k) + tot (l.drop k) := by
    unfold tot
    rw [← List.sum_append, ← List.map_append, List.take_append_drop]
  omega
theorem tot_mem (l : List ByteArray) (p : ByteArray) (h : p ∈ l) : p.size ≤ tot l := by
  induction l with
  | nil => simp at h
  | cons x l ih =>
    have e : tot (x :: l) = 8 + x.size + tot l := by unfold tot; simp
    rcases List.mem_cons.1 h with rfl | h
    · omega
    · have := ih h; omega
theorem tot_len (l : List ByteArray) : 8 * l.length ≤ tot l := by
  induction l with
  | nil => simp
  | cons x l ih =>
    have e : tot (x :: l) = 8 + x.size + tot l := by unfold tot; simp
    simp; omega
/-- The bytes that are summed. -/
def allL (l : List ByteArray) : List UInt8 := l.flatMap fun p => bytesL (be8 p.size) ++ p.data.toList
theorem allL_snoc (l : List ByteArray) (p : ByteArray) : allL (l ++ [p]) = allL l ++ (bytesL (be8 p.size) ++ p.data.toList) := by unfold allL; simp
theorem allL_len (l : List ByteArray) : (allL l).length = tot l := by
  induction l with
  | nil => rfl
  | cons x l ih =>
    have e : tot (x :: l) = 8 + x.size + tot l := by unfold tot; simp
    have e2 : allL (x :: l) = (bytesL (be8 x.size) ++ x.data.toList) ++ allL l := by unfold allL; simp
    rw [e, e2, List.length_append, ih, List.length_append]
    have : (bytesL (be8 x.size)).length = 8 := by simp [bytesL, be8]
    have h2 : x.data.toList.length = x.size := rfl
    omega
theorem foldT_all (l : List ByteArray) : ∀ u, foldT u l = fold u (allL l) := by
  induction l with
  | nil => intro u; rfl
  | cons x l ih =>
    intro u
    have e2 : allL (x :: l) = (bytesL (be8 x.size) ++ x.data.toList) ++ allL l := by unfold allL; simp
    rw [e2, fold_append, fold_append, ← ih]
    rfl
theorem be8_small (n : Nat) (h : n < 4294967296) : strOfNums (be8 n) = strOfNums [0, 0, 0, 0, (n : Int) / 16777216 % 256, (n : Int) / 65536 % 256, (n : Int) / 256 % 256, (n : Int) % 256] := by
  unfold be8
  rw [show (n : Int) / 72057594037927936 % 256 = 0 from by omega, show (n : Int) / 281474976710656 % 256 = 0 from by omega, show (n : Int) / 1099511627776 % 256 = 0 from by omega, show (n : Int) / 4294967296 % 256 = 0 from by omega]
theorem all_next (S p : ByteArray) (l : List ByteArray) (h : S.data.toList = allL l) : (S ++ strOfNums (be8 p.size) ++ p).data.toList = allL (l ++ [p]) := by
  rw [allL_snoc, ByteArray.data_append, ByteArray.data_append, Array.toList_append, Array.toList_append, strOfNums_data, h, List.append_assoc]
  rfl
theorem conv8g (a0 a1 a2 a3 a4 a5 a6 a7 : Int) (W : World) (b : Nat) (h : W.heap.size = b) : (convert 35 9 (.slice (some ⟨b, 0, none⟩) 8 8)).run Tryd.prog (W.alloc (.cells #[.int .u8 a0, .int .u8 a1, .int .u8 a2, .int .u8 a3, .int .u8 a4, .int .u8 a5, .int .u8 a6, .int .u8 a7] 5)) = .ok (.string (strOfNums [a0, a1, a2, a3, a4, a5, a6, a7])) (W.alloc (.cells #[.int .u8 a0, .int .u8 a1, .int .u8 a2, .int .u8 a3, .int .u8 a4, .int .u8 a5, .int .u8 a6, .int .u8 a7] 5)) := by
  subst h
  exact run_convert_bytes_arg _ 35 5 Tryd.underlying35 Tryd.underlying5 W.heap.size 0 8 8 [a0, a1, a2, a3, a4, a5, a6, a7] rfl (fun i hi => by
    rw [World.cell?_alloc_new]
    match i, hi with
    | 0, _ => rfl
    | 1, _ => rfl
    | 2, _ => rfl
    | 3, _ => rfl
    | 4, _ => rfl
    | 5, _ => rfl
    | 6, _ => rfl
    | 7, _ => rfl) 9 Tryd.underlying9
theorem conv8d (a0 a1 a2 a3 a4 a5 a6 a7 : Int) (W : World) (b : Nat) (h : W.heap.size = b) : (convert 35 9 (.slice (some ⟨b, 0, none⟩) 8 8)).run Tryd.prog (W.alloc (.cells #[.int .u8 a0, .int .u8 a1, .int .u8 a2, .int .u8 a3, .int .u8 a4, .int .u8 a5, .int .u8 a6, .int .u8 a7] 5)).drew = .ok (.string (strOfNums [a0, a1, a2, a3, a4, a5, a6, a7])) (W.alloc (.cells #[.int .u8 a0, .int .u8 a1, .int .u8 a2, .int .u8 a3, .int .u8 a4, .int .u8 a5, .int .u8 a6, .int .u8 a7] 5)).drew := by
  subst h
  exact run_convert_bytes_arg _ 35 5 Tryd.underlying35 Tryd.underlying5 W.heap.size 0 8 8 [a0, a1, a2, a3, a4, a5, a6, a7] rfl (fun i hi => by
    show World.cell? (W.alloc (.cells #[.int .u8 a0, .int .u8 a1, .int .u8 a2, .int .u8 a3, .int .u8 a4, .int .u8 a5, .int .u8 a6, .int .u8 a7] 5)) _ = _
    rw [World.cell?_alloc_new]
    match i, hi with
    | 0, _ => rfl
    | 1, _ => rfl
    | 2, _ => rfl
    | 3, _ => rfl
    | 4, _ => rfl
    | 5, _ => rfl
    | 6, _ => rfl
    | 7, _ => rfl) 9 Tryd.underlying9
theorem wrap_u8 (n : Int) : IntKind.u8.wrap n = n % 256 := by simp [IntKind.wrap, IntKind.bits, IntKind.signed]
theorem be8_mid (n : Nat) (h : n ≤ 10000) : strOfNums [0, 0, 0, 0, (n : Int) / 16777216, (n : Int) / 65536, (n : Int) / 256, (n : Int) % 256] = strOfNums (be8 n) := by
  rw [be8_small n (by omega), show (n : Int) / 16777216 % 256 = (n : Int) / 16777216 from by omega, show (n : Int) / 65536 % 256 = (n : Int) / 65536 from by omega, show (n : Int) / 256 % 256 = (n : Int) / 256 from by omega]
theorem wrap_mid (n : Nat) (h : n ≤ 10000) : IntKind.u8.wrap ((n : Int) / 16777216) = (n : Int) / 16777216 ∧ IntKind.u8.wrap ((n : Int) / 65536) = (n : Int) / 65536 ∧ IntKind.u8.wrap ((n : Int) / 256) = (n : Int) / 256 ∧ IntKind.u8.wrap (n : Int) = (n : Int) % 256 := by
  rw [wrap_u8, wrap_u8, wrap_u8, wrap_u8]
  omega
theorem heap_drew_size (w : World) : w.drew.heap.size = w.heap.size := rfl
theorem wpList_wanted {P : Program} {ops : Array Oper} {Q : Exit → Act → World → Prop} {a : Act} {w : World} {rest : List Oper} {o : Oper} (hw : Region.wanted o (yielded ops a.tmps) = true)
    (h : ∀ K : Act → World → Prop, (∀ a w, wpList P ops Q rest a w → K a w) → o.wp P a w K Q) : wpList P ops Q (o :: rest) a w :=
  wpList_step fun K hK => by rw [if_pos hw]; exact h K hK
theorem info_str : (Tryd.prog.info? 9).map (fun i => (i.zero, i.size, i.bytes)) = some (some (.string ⟨#[]⟩), 1, 16) := by kernel_rfl
theorem of_n (n : Nat) (A : Option Addr) (c : Nat) (l : List ByteArray) (w : World) (hn : n = l.length) (hl : l.length ≤ 9223372036854775807) (hp : ∀ p ∈ l, p.size ≤ 9223372036854775807) (h : RdT w A l) :
    Calls Tryd.prog 16 #[.slice A n c] w fun e w' => e = .returned (.int .u64 (foldT begin_ l)) ∧ Below w.heap.size w w' := by
  subst hn; exact of_any A c l w hl hp h
theorem all_end (l : List ByteArray) : foldT begin_ (l ++ [⟨#[]⟩]) = fold begin_ (allL l ++ [0, 0, 0, 0, 0, 0, 0, 0]) := by
  rw [foldT_all, allL_snoc]
  rfl
theorem sum_z (S : ByteArray) (w : World) (L : List UInt8) (hs : S.size ≤ 10000) (h : S.data.toList = L) : Calls Tryd.prog 14 #[.string (S ++ ⟨#[0, 0, 0, 0, 0, 0, 0, 0]⟩)] w fun e w' => e = .returned (.int .u64 (fold begin_ (L ++ [0, 0, 0, 0, 0, 0, 0, 0]))) ∧ w = w' := by
  have h8 : (⟨#[0, 0, 0, 0, 0, 0, 0, 0]⟩ : ByteArray).size = 8 := rfl
  have := sum_any (S ++ ⟨#[0, 0, 0, 0, 0, 0, 0, 0]⟩) w (by rw [ByteArray.size_append, h8]; omega)
  rw [ByteArray.data_append, Array.toList_append, h] at this
  exact this
theorem wp_append_none {P : Program} {w : World} {o : Oper} {a : Act} {K : Act → World → Prop} {Q : Exit → Act → World → Prop} (s x : Operand) (t : TypeId)
    (ho : o.op = .call { callee := .builtin .append, args := #[s, x], argTypes := #[t, t] })
    (base : Nat) (e : TypeId) (i : TypeInfo) (size : Nat) (ht : P.underlying t = some (.slice e)) (hi : P.info? e = some i)
    (v : Value) (n : Nat) (xs : List Value) (hs : a.eval s = v) (hown : w.ownsRow base e size v n xs) (hx : a.eval x = .slice none 0 0)
    (h : K (a.put o.dst v) w) : o.wp P a w K Q := by
  have hrun := run_append_owned_none (P := P) (w := w) base t o.type e i size ht hi v n xs hown
  unfold Oper.wp
  simp [execOp, ho, resolve, invoke, builtin, hs, hx, hrun, Result.andThen]
  exact h
theorem all_end0 : foldT begin_ [⟨#[]⟩] = fold begin_ [0, 0, 0, 0, 0, 0, 0, 0] := all_end []
/-- A conversion, by another name: the region's tactic is to take it where it stands. -/
def hiddenConvert := Op.convert

set_option maxRecDepth 20000 in
set_option maxHeartbeats 2000000 in
theorem of_walk (A : Option Addr) (c : Nat) (l : List ByteArray) (w : World) (hl : Libs w) (hlc : l.length ≤ c) (hcm : c ≤ maxLen) (hsz : ∀ p ∈ l, p.size ≤ reachBytes) (hl16 : l.length * 16 ≤ reachBytes) (hAc : A = none → c = 0) (h : RdT w A l) :
    Calls Tryd.prog 9 #[.slice A l.length c] w fun e w' => e = .returned (.bool true) ∧ Below w.heap.size w w' := by
  have AW := Lib.hid (fun w (h : Libs w) => awake06 w h)
  have hl0 := Lib.hid hl
  have hrb : reachBytes = 140737488351232 := by decide
  rw [hrb] at hsz hl16
  unfold maxLen at hcm
  by_cases h0 : l = []
  · subst h0
    clear h hl hsz
    have HD := Lib.hid (show foldT begin_ [] = begin_ from rfl)
    go_enter Tryd.func9, Tryd.ntmps9
    go_wp2_with fail
    refine wp_loop_rounds 1 ?_
    rw [rounds_succ]
    go_wp2_with fail
    refine (AW.out _ hl0.out).mono ?_
    rintro e w1 ⟨rfl, hb1⟩
    have HB1 := Lib.hid hb1
    clear hb1
    go_wp2_with fail
    refine wp_loop_rounds 1 ?_
    rw [rounds_succ]
    go_wp2_with fail
    refine (of_n 0 A c [] _ rfl (by decide) (by simp) (fun h => absurd rfl h)).mono ?_
    rintro e w2 ⟨rfl, hb2⟩
    have HB2 := Lib.hid (HB1.out.trans (hb2.mono HB1.out.size))
    clear hb2
    rw [HD.out]
    have HE := Lib.hid (sum_any ⟨#[]⟩ w2 (by decide))
    rw [show fold begin_ (⟨#[]⟩ : ByteArray).data.toList = begin_ from rfl] at HE
    go_wp2_with fail
    refine HE.out.mono ?_
    rintro e w3 ⟨rfl, rfl⟩
    obtain ⟨i0, hi, hz0, hz1, hz2⟩ := info_parts info_str
    have hown := World.ownsRow_lit (base := w2.heap.size) (e := 9) (size := 1) w2 #[] 0 (Nat.le_refl _) (by decide) rfl
    cases A with
    | some ad =>
      go_wp2_with (at_builtin; refine wpList_wanted (by rfl) (fun K hK => wp_append_own _ _ _ 22 rfl w2.heap.size 9 i0 (.string ⟨#[]⟩) 1 16 Tryd.underlying22 hi hz0 hz1 hz2 rfl (by decide) _ _ _ rfl hown ad 0 c [] rfl rfl (fun j u hj => by simp at hj) ?_ ?_ ?_ ?_ ?_))
      · simp
      · unfold maxLen; omega
      · omega
      · simp
      intro v' w3 hown3 hgrow _
      refine hK _ _ ?_
      clear hK K
      have HB3 := Lib.hid (show Below w.heap.size w w3 from (HB2.out.alloc HB2.out.size _).grown hgrow (by have := HB2.out.size; simp; omega) (fun j hj => by
        have := HB2.out.size
        simp [Value.ownBlock] at hj
        omega))
      have hz23 : w2.heap.size ≤ w3.heap.size := by have := hgrow.size; simp at this; omega
      have hown3 : w3.ownsRow w2.heap.size 9 1 v' 0 [] := by simpa using hown3
      clear hgrow hown
      go_wp2_with (at_builtin; refine wpList_wanted (by rfl) (fun K hK => wp_append_own _ _ _ 22 rfl w2.heap.size 9 i0 (.string ⟨#[]⟩) 1 16 Tryd.underlying22 hi hz0 hz1 hz2 rfl (by decide) _ _ _ rfl (hown3.alloc _) ⟨w3.heap.size, 0, none⟩ 1 1 [.string ⟨#[]⟩] rfl rfl (World.news_of_block (heap_alloc_new w3 _)) ?_ ?_ ?_ ?_ ?_))
      · simp [Value.oneCell']
      · unfold maxLen; omega
      · omega
      · simp; omega
      · intro v4 w4 hown4 hgrow4 _
        refine hK _ _ ?_
        clear hK K
        have HB4 := Lib.hid (show Below w.heap.size w w4 from (HB3.out.alloc HB3.out.size _).grown hgrow4 (by have := HB3.out.size; simp; omega) (fun j hj => by
          have := hown3.lt j hj
          have := HB2.out.size
          omega))
        obtain ⟨hlen4, hv4⟩ := hown4
        rcases hv4 with ⟨_, h0⟩ | ⟨g, cap, cur, rfl, hg4, hh4, hcap, hcapm, hcs, htk⟩
        · omega
        have hgl : g < w4.heap.size := by
          rcases Nat.lt_or_ge g w4.heap.size with h | h
          · exact h
          · rw [Array.getElem?_eq_none h] at hh4
            cases hh4
        have RT4 := Lib.hid (show RdT w4 (some ⟨g, 0, none⟩) [⟨#[]⟩] from fun _ => ⟨g, 0, rfl, hgl, fun i hi => by
          have hi' : i = 0 := by simp at hi; omega
          subst hi'
          unfold World.cell?
          rw [hh4]
          have e1 : cur[0]? = (cur.toList.take ((0 + 1) * 1))[0]? := by
            rw [List.getElem?_take_of_lt (by omega), Array.getElem?_toList]
          show cur[0]? = _
          rw [e1, htk]
          rfl⟩)
        clear hlen4 hg4 hh4 hcap hcapm hcs htk hgrow4 hown3
        go_wp2_with fail
        refine (of_n 1 _ cap [⟨#[]⟩] _ rfl (by decide) (by intro p hp; simp at hp; subst hp; decide) RT4.out).mono ?_
        rintro e w5 ⟨rfl, hb5⟩
        have HB5 := Lib.hid (HB4.out.trans (hb5.mono HB4.out.size))
        clear hb5
        rw [all_end0]
        have ha : ∀ W, (Op.stringOp .add ⟨#[]⟩ ⟨#[0, 0, 0, 0, 0, 0, 0, 0]⟩).run Tryd.prog W = .ok (.string ⟨#[0, 0, 0, 0, 0, 0, 0, 0]⟩) W := fun W => run_string_add_sum W _ _ (by decide)
        have HZ := Lib.hid (sum_any ⟨#[0, 0, 0, 0, 0, 0, 0, 0]⟩ w5 (by decide))
        rw [show (⟨#[0, 0, 0, 0, 0, 0, 0, 0]⟩ : ByteArray).data.toList = [0, 0, 0, 0, 0, 0, 0, 0] from rfl] at HZ
        go_wp2_with fail
        refine HZ.out.mono ?_
        rintro e w6 ⟨rfl, rfl⟩
        go_wp2_with fail
        go_ret
        exact ⟨ret_bool (by simp), HB5.out⟩
    | none =>
      obtain rfl := hAc rfl
      have HB3 := Lib.hid (HB2.out.alloc HB2.out.size (.cells #[] 9))
      have hz23 : w2.heap.size ≤ (w2.alloc (.cells #[] 9)).heap.size := by simp
      have hown3 := hown
      have hnw := Lib.hid (show ∀ j u, [Value.string ⟨#[]⟩][j]? = some u → ((w2.alloc (.cells #[] 9)).alloc (.cells #[.string ⟨#[]⟩] 9)).cell? ((⟨w2.heap.size + 1, 0, none⟩ : Addr).add j) = some u from by
        have := World.news_of_block (heap_alloc_new (w2.alloc (.cells #[] 9)) (.cells #[.string ⟨#[]⟩] 9))
        simpa using this)
      clear hown
      go_wp2_with (at_builtin; refine wpList_wanted (by rfl) (fun K hK => wp_append_own _ _ _ 22 rfl w2.heap.size 9 i0 (.string ⟨#[]⟩) 1 16 Tryd.underlying22 hi hz0 hz1 hz2 rfl (by decide) _ _ _ rfl (hown3.alloc _) ⟨w2.heap.size + 1, 0, none⟩ 1 1 [.string ⟨#[]⟩] rfl rfl hnw.out ?_ ?_ ?_ ?_ ?_))
      · simp [Value.oneCell']
      · unfold maxLen; omega
      · omega
      · simp; omega
      · intro v4 w4 hown4 hgrow4 _
        refine hK _ _ ?_
        clear hK K
        have HB4 := Lib.hid (show Below w.heap.size w w4 from (HB3.out.alloc HB3.out.size _).grown hgrow4 (by have := HB2.out.size; simp; omega) (fun j hj => by
          have := hown3.lt j hj
          have := HB2.out.size
          omega))
        obtain ⟨hlen4, hv4⟩ := hown4
        rcases hv4 with ⟨_, h0⟩ | ⟨g, cap, cur, rfl, hg4, hh4, hcap, hcapm, hcs, htk⟩
        · omega
        have hgl : g < w4.heap.size := by
          rcases Nat.lt_or_ge g w4.heap.size with h | h
          · exact h
          · rw [Array.getElem?_eq_none h] at hh4
            cases hh4
        have RT4 := Lib.hid (show RdT w4 (some ⟨g, 0, none⟩) [⟨#[]⟩] from fun _ => ⟨g, 0, rfl, hgl, fun i hi => by
          have hi' : i = 0 := by simp at hi; omega
          subst hi'
          unfold World.cell?
          rw [hh4]
          have e1 : cur[0]? = (cur.toList.take ((0 + 1) * 1))[0]? := by
            rw [List.getElem?_take_of_lt (by omega), Array.getElem?_toList]
          show cur[0]? = _
          rw [e1, htk]
          rfl⟩)
        clear hlen4 hg4 hh4 hcap hcapm hcs htk hgrow4 hown3
        go_wp2_with fail
        refine (of_n 1 _ cap [⟨#[]⟩] _ rfl (by decide) (by intro p hp; simp at hp; subst hp; decide) RT4.out).mono ?_
        rintro e w5 ⟨rfl, hb5⟩
        have HB5 := Lib.hid (HB4.out.trans (hb5.mono HB4.out.size))
        clear hb5
        rw [all_end0]
        have ha : ∀ W, (Op.stringOp .add ⟨#[]⟩ ⟨#[0, 0, 0, 0, 0, 0, 0, 0]⟩).run Tryd.prog W = .ok (.string ⟨#[0, 0, 0, 0, 0, 0, 0, 0]⟩) W := fun W => run_string_add_sum W _ _ (by decide)
        have HZ := Lib.hid (sum_any ⟨#[0, 0, 0, 0, 0, 0, 0, 0]⟩ w5 (by decide))
        rw [show (⟨#[0, 0, 0, 0, 0, 0, 0, 0]⟩ : ByteArray).data.toList = [0, 0, 0, 0, 0, 0, 0, 0] from rfl] at HZ
        go_wp2_with fail
        refine HZ.out.mono ?_
        rintro e w6 ⟨rfl, rfl⟩
        go_wp2_with fail
        go_ret
        exact ⟨ret_bool (by simp), HB5.out⟩
  obtain ⟨b, off, rfl, hb, hc⟩ := h h0
  have HS := Lib.hid hsz
  have HC := Lib.hid hc
  have hpos : 0 < l.length := List.length_pos_iff.2 h0
  clear h hl hc h0 hsz hrb
  go_enter Tryd.func9, Tryd.ntmps9
  go_wp2_with fail
  go_loop [3, 4] (fun n i => ∃ k : Nat, k ≤ l.length ∧ i = .int .i64 k ∧ n = .int .i64 ((tot (l.take k) : Nat) : Int) ∧ tot (l.take k) ≤ 140737488361240) (fun _ i => l.length - (intOf i).toNat)
  case atStart => exact ⟨0, Nat.zero_le _, rfl, rfl, Nat.zero_le _⟩
  case round =>
    obtain ⟨k, hk, rfl, rfl, hbd⟩ := hrel
    by_cases hlt : k < l.length
    · by_cases hn : tot (l.take k) ≤ 10000
      · have hcell := HC.out k hlt
        have hps := HS.out l[k] (List.getElem_mem hlt)
        have HT := Lib.hid (tot_snoc (l.take k) l[k])
        have HK := Lib.hid (take_snoc l k hlt)
        go_wp2_with fail
        go_round
        case rel => exact ⟨k + 1, by omega, by go_num, by rw [HK.out, HT.out]; first | rfl | (congr 1; push_cast; omega), by rw [HK.out, HT.out]; omega⟩
        case measure => simp [intOf]; omega
      · have hbig : 10000 < tot (l.take k) := by omega
        go_wp2_with fail
        refine (AW.out _ hl0.out).mono ?_
        rintro e w1 ⟨rfl, hb1⟩
        go_wp2_with fail
        go_ret
        exact ⟨rfl, hb1⟩
    · have hkl : k = l.length := by omega
      subst hkl
      rw [List.take_length] at hbd
      rw [List.take_length]
      by_cases hbig : 10000 < tot l
      · go_wp2_with fail
        refine (AW.out _ hl0.out).mono ?_
        rintro e w1 ⟨rfl, hb1⟩
        go_wp2_with fail
        go_ret
        exact ⟨rfl, hb1⟩
      · go_wp2_with fail
        refine (AW.out _ hl0.out).mono ?_
        rintro e w1 ⟨rfl, hb1⟩
        have hl1 := Lib.hid (hl0.out.below hb1)
        have HC1 := Lib.hid (fun k (h : k < l.length) => keep1 hb1 (HC.out k h))
        have HB1 := Lib.hid hb1
        clear hb1
        have hz1 := HB1.out.size
        go_wp2_with fail
        go_loopw [5, 6] (fun s i wr => ∃ (k : Nat) (S : ByteArray), k ≤ l.length ∧ i = .int .i64 k ∧ s = .string S ∧ S.data.toList = allL (l.take k) ∧ Below w1.heap.size w1 wr) (fun _ i _ => l.length - (intOf i).toNat)
        case atStart => exact ⟨0, ⟨#[]⟩, Nat.zero_le _, rfl, rfl, rfl, Below.refl _ _⟩
        case round =>
          obtain ⟨k, S, hk, rfl, rfl, hS, hbr⟩ := hrel
          by_cases hlt : k < l.length
          · have hcell := keep1 hbr (HC1.out k hlt)
            have hps : l[k].size ≤ 10000 := Nat.le_trans (tot_mem l _ (List.getElem_mem hlt)) (by omega)
            have HBr := Lib.hid hbr
            have HSx := Lib.hid hS
            clear hbr hS
            go_wp2_with fail
            have hSs : S.size ≤ 10000 := by
              have h1 : S.size = tot (l.take k) := (congrArg List.length HSx.out).trans (allL_len _)
              have h2 := tot_take_le l k
              omega
            have h8 : (strOfNums (be8 l[k].size)).size = 8 := by rw [strOfNums_size]; rfl
            have ha1 : ∀ W, (Op.stringOp .add S (strOfNums (be8 l[k].size))).run Tryd.prog W = .ok (.string (S ++ strOfNums (be8 l[k].size))) W := fun W => run_string_add_sum W _ _ (by omega)
            have ha2 : ∀ W, (Op.stringOp .add (S ++ strOfNums (be8 l[k].size)) l[k]).run Tryd.prog W = .ok (.string (S ++ strOfNums (be8 l[k].size) ++ l[k])) W := fun W => run_string_add_sum W _ _ (by rw [ByteArray.size_append]; omega)
            clear h8
            have hcv := conv8g
            have hcd := conv8d
            have hbw := be8_mid l[k].size hps
            obtain ⟨x1, x2, x3, x4⟩ := wrap_mid l[k].size hps
            have HN := Lib.hid (all_next S l[k] (l.take k) HSx.out)
            have e1 : ∀ c, Op.convert 35 9 c = hiddenConvert 35 9 c := fun _ => rfl
            simp only [e1]
            clear e1
            have e2 : ∀ c, hiddenConvert 35 9 c = Op.convert 35 9 c := fun _ => rfl
            have hcell' := hcell
            go_region_held3 (fun w' => w'.cell? ⟨b, off + k, none⟩ = some (.string l[k]) ∧ Below w1.heap.size w1 w')
              (first | exact ⟨hcell', HBr.out.drew⟩ | (go_split_ands; exact ⟨keep1 ((Below.refl _ _).alloc (Nat.le_refl _) _) (by assumption), Below.alloc (by assumption) (Below.size (by assumption)) _⟩) | (go_split_ands; exact ⟨by assumption, by assumption⟩))
              (fail)
            go_split_ands
            have HBn := Lib.hid (show Below w1.heap.size w1 _ by assumption)
            clear hcv hcd hbw x1 x2 x3 x4 ha1 ha2
            go_wp2_with fail
            go_roundw
            case rel => exact ⟨k + 1, _, by omega, by go_num, rfl, by rw [take_snoc l k hlt]; exact HN.out, HBn.out⟩
            case measure => simp [intOf]; omega
          · have hkl : k = l.length := by omega
            subst hkl
            rw [List.take_length] at hS
            have RT := Lib.hid (show RdT wr (some ⟨b, off, none⟩) l from fun _ => ⟨b, off, rfl, by have := hbr.size; omega, fun i hi => keep1 hbr (HC1.out i hi)⟩)
            have hSs : S.size ≤ 10000 := by
              have h1 : S.size = tot l := (congrArg List.length hS).trans (allL_len _)
              omega
            have HBr := Lib.hid (HB1.out.trans (hbr.mono hz1))
            have HSx := Lib.hid hS
            have hll : l.length ≤ 9223372036854775807 := by omega
            have hlp := Lib.hid (fun p (hp : p ∈ l) => show p.size ≤ 9223372036854775807 from by have := HS.out p hp; omega)
            have HF := Lib.hid (foldT_all l begin_)
            clear hbr hS
            go_wp2_with fail
            refine (of_any _ c l _ hll hlp.out RT.out).mono ?_
            rintro e w2 ⟨rfl, hb2⟩
            have HB2 := Lib.hid (HBr.out.trans (hb2.mono HBr.out.size))
            have RT2 := Lib.hid (RdT.below RT.out hb2)
            clear hb2
            rw [HF.out]
            go_wp2_with fail
            refine (sum_any S _ (by omega)).mono ?_
            rintro e w3 ⟨rfl, rfl⟩
            rw [HSx.out]
            obtain ⟨i0, hi, hz0, hz1, hz2⟩ := info_parts info_str
            have hnews : ∀ j u, (l.map Value.string)[j]? = some u → (w2.alloc (.cells #[] 9)).cell? ((⟨b, off, none⟩ : Addr).add j) = some u := fun j u hj => by
              rw [List.getElem?_map] at hj
              obtain ⟨p, hp, rfl⟩ := Option.map_eq_some_iff.1 hj
              obtain ⟨hjl, hpe⟩ := List.getElem?_eq_some_iff.1 hp
              obtain ⟨b', off', hA, hlt', hc'⟩ := RT2.out (by intro h; subst h; simp at hjl)
              cases hA
              rw [Go.WideShapes.add_plain, ← hpe]
              exact (World.cell?_alloc_lt _ _ _ hlt').trans (hc' j hjl)
            replace hnews := Lib.hid hnews
            go_wp2_with (at_builtin; refine wpList_wanted (by rfl) (fun K hK => wp_append_own _ _ _ 22 rfl w2.heap.size 9 i0 (.string ⟨#[]⟩) 1 16 Tryd.underlying22 hi hz0 hz1 hz2 rfl (by decide) _ _ _ rfl (World.ownsRow_lit w2 #[] 0 (Nat.le_refl _) (by decide) rfl) ⟨b, off, none⟩ l.length c (l.map Value.string) rfl (by simp) hnews.out ?_ ?_ ?_ ?_ ?_))
            · simp [Value.oneCell']
            · unfold maxLen; omega
            · omega
            · simp
            · intro v' w3 hown3 hgrow _
              refine hK _ _ ?_
              clear hK K
              have HB3 := Lib.hid (show Below w.heap.size w w3 from (HB2.out.alloc HB2.out.size _).grown hgrow (by have := HB2.out.size; simp; omega) (fun j hj => by
                have := HB2.out.size
                simp [Value.ownBlock] at hj
                omega))
              have hown3 : w3.ownsRow w2.heap.size 9 1 v' l.length (l.map Value.string) := by simpa using hown3
              have hz23 : w2.heap.size ≤ w3.heap.size := by have := hgrow.size; simp at this; omega
              clear hgrow hnews
              go_wp2_with (at_builtin; refine wpList_wanted (by rfl) (fun K hK => wp_append_own _ _ _ 22 rfl w2.heap.size 9 i0 (.string ⟨#[]⟩) 1 16 Tryd.underlying22 hi hz0 hz1 hz2 rfl (by decide) _ _ _ rfl (hown3.alloc _) ⟨w3.heap.size, 0, none⟩ 1 1 [.string ⟨#[]⟩] rfl rfl (World.news_of_block (heap_alloc_new w3 _)) ?_ ?_ ?_ ?_ ?_))
              · simp [Value.oneCell']
              · unfold maxLen; omega
              · omega
              · simp; omega
              · intro v4 w4 hown4 hgrow4 _
                refine hK _ _ ?_
                clear hK K
                have HB4 := Lib.hid (show Below w.heap.size w w4 from (HB3.out.alloc HB3.out.size _).grown hgrow4 (by have := HB3.out.size; simp; omega) (fun j hj => by
                  have := hown3.lt j hj
                  have := HB2.out.size
                  omega))
                obtain ⟨hlen4, hv4⟩ := hown4
                rcases hv4 with ⟨_, h0⟩ | ⟨g, cap, cur, rfl, hg4, hh4, hcap, hcapm, hcs, htk⟩
                · omega
                have hgl : g < w4.heap.size := by
                  rcases Nat.lt_or_ge g w4.heap.size with h | h
                  · exact h
                  · rw [Array.getElem?_eq_none h] at hh4
                    cases hh4
                have RT4 := Lib.hid (show RdT w4 (some ⟨g, 0, none⟩) (l ++ [⟨#[]⟩]) from fun _ => ⟨g, 0, rfl, hgl, fun i hi => by
                  have hi' : i < l.length + 1 := by simpa using hi
                  unfold World.cell?
                  rw [hh4]
                  simp only [Nat.zero_add]
                  have e1 : cur[i]? = (cur.toList.take ((l.length + 1) * 1))[i]? := by
                    rw [List.getElem?_take_of_lt (by omega), Array.getElem?_toList]
                  show cur[i]? = _
                  rw [e1, htk]
                  rw [show l.map Value.string ++ [Value.string ⟨#[]⟩] = (l ++ [(⟨#[]⟩ : ByteArray)]).map Value.string from by simp, List.getElem?_map, List.getElem?_eq_getElem hi]
                  rfl⟩)
                have hlp4 := Lib.hid (fun (p : ByteArray) (hp : p ∈ l ++ [(⟨#[]⟩ : ByteArray)]) => show p.size ≤ 9223372036854775807 from by
                  rcases List.mem_append.1 hp with h | h
                  · exact hlp.out p h
                  · rw [List.mem_singleton.1 h]; decide)
                have hn4 := Lib.hid (show l.length + 1 = (l ++ [(⟨#[]⟩ : ByteArray)]).length from by simp)
                have hn5 := Lib.hid (show (l ++ [(⟨#[]⟩ : ByteArray)]).length ≤ 9223372036854775807 from by simp; omega)
                clear hlen4 hg4 hh4 hcap hcapm hcs htk hgrow4 hown3
                go_wp2_with fail
                refine (of_n (l.length + 1) _ cap (l ++ [⟨#[]⟩]) _ hn4.out hn5.out hlp4.out RT4.out).mono ?_
                rintro e w5 ⟨rfl, hb5⟩
                have HB5 := Lib.hid (HB4.out.trans (hb5.mono HB4.out.size))
                clear hb5
                rw [all_end]
                have ha : ∀ W, (Op.stringOp .add S ⟨#[0, 0, 0, 0, 0, 0, 0, 0]⟩).run Tryd.prog W = .ok (.string (S ++ ⟨#[0, 0, 0, 0, 0, 0, 0, 0]⟩)) W := fun W => run_string_add_sum W _ _ (by show S.size + 8 ≤ _; omega)
                have HZ := Lib.hid (sum_z S w5 (allL l) hSs HSx.out)
                go_wp2_with fail
                refine HZ.out.mono ?_
                rintro e w6 ⟨rfl, rfl⟩
                go_wp2_with fail
                go_ret
                exact ⟨ret_bool (by simp), HB5.out⟩
end Go.Proofs.YtiegocnmijheoaaDoor
