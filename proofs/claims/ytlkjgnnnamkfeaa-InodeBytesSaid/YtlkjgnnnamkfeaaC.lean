/- WALKS of layer 20: bytes. -/
import Derived.Test.YtlkjgnnnamkfeaaA
import Derived.BigQuiet
import Derived.Deep.QuietTactic
import Derived.WalkLawsBesides
import Derived.Laws.BytesArg
import Derived.Maps.AppendAt
import Derived.Deep.AppendLies
import Derived.ArgAppend
import Derived.Deep.Onto
set_option linter.unusedVariables false
namespace Go.Proofs.Ytlkjgnnnamkfeaa
open Go.RowKit Go.ChangeShapes Go.WideShapes Go.ChangeAt

/-- The four bytes of a number. -/
def by4 (n : Int) : List Int := [n / 16777216 % 256, n / 65536 % 256, n / 256 % 256, n % 256]

theorem word_any (n : Int) (w : World) (b1 : -9223372036854775808 ≤ n) (b2 : n ≤ 9223372036854775807) : Calls Try.prog 40 #[.int .i64 n] w fun e w' => e = .returned (.string (strOfNums (by4 n))) ∧ Below w.heap.size w w' := by
  have hc := run_convert_bytes_arg (P := Try.prog) (w.alloc (.cells #[.int .u8 (n / 16777216 % 256), .int .u8 (n / 65536 % 256), .int .u8 (n / 256 % 256), .int .u8 (n % 256)] 5)) 23 5 Try.underlying23 Try.underlying5 w.heap.size 0 4 4 (by4 n) rfl
    (fun i hi => by
      rw [World.cell?_alloc_new]
      have : i = 0 ∨ i = 1 ∨ i = 2 ∨ i = 3 := by omega
      rcases this with rfl | rfl | rfl | rfl <;> rfl) 9 Try.underlying9
  have hc' := hc
  clear hc
  go_enter Try.func40, Try.ntmps40
  go_wp2_with fail
  go_ret
  exact ⟨rfl, by go_grown⟩

theorem info_u8 : (Try.prog.info? 5).map (fun i => (i.zero, i.size, i.bytes)) = some (some (.int .u8 0), 1, 1) := by kernel_rfl

/-- What 'put' leaves. -/
def PutPost (base : Nat) (w : World) (len : Nat) (xs : List Int) (e : Ending) (w' : World) : Prop :=
  ∃ v, e = .returned v ∧ w'.ownsRow base 5 1 v len (xs.map (Value.int .u8)) ∧ Below base w w'

set_option maxHeartbeats 1000000 in
theorem put1_own (n : Int) (a : Addr) (c : Nat) (v : Value) (len base : Nat) (xs : List Int) (w : World) (b1 : -9223372036854775808 ≤ n) (b2 : n ≤ 9223372036854775807) (hc : w.cell? a = some (.int .i64 n))
    (hown : w.ownsRow base 5 1 v len (xs.map (Value.int .u8))) (hb : base ≤ w.heap.size) (hl : len ≤ 1000000) :
    Calls Try.prog 39 #[v, .slice (some a) 1 c] w (PutPost base w (len + 4) (xs ++ by4 n)) := by
  obtain ⟨i0, hi, hz0, hz1, hz2⟩ := info_parts info_u8
  go_enter Try.func39, Try.ntmps39
  go_wp2_with fail
  refine wp_loop_rounds 2 ?_
  rw [rounds_succ]
  go_wp2_with (at_builtin; refine wpList_append_own _ rfl _ _ 23 rfl base 5 i0 (.int .u8 0) 1 1 Try.underlying23 hi hz0 hz1 hz2 rfl (by decide) _ _ _ rfl (hown.alloc _) ⟨w.heap.size, 0, none⟩ 4 4 ((by4 n).map (Value.int .u8)) rfl rfl (World.news_of_block (heap_alloc_new w _)) ?_ ?_ ?_ ?_ ?_)
  · simp [by4, Value.oneCell']
  · unfold maxLen; omega
  · omega
  · simp; omega
  intro v' w2 hown2 hgrow _
  have hp := Lib.hid (show PutPost base w (len + 4) (xs ++ by4 n) (.returned v') w2 from ⟨v', rfl, by rw [List.map_append]; exact hown2, ((Below.refl base w).alloc hb _).grown hgrow (by simp; omega) (fun j hj => (hown.lt j hj).1)⟩)
  clear hown2 hgrow hown
  go_wp2_with fail
  rw [rounds_succ]
  go_wp2_with fail
  go_ret
  exact hp.out

set_option maxHeartbeats 1000000 in
theorem put1_full (n : Int) (a : Addr) (c : Nat) (bo : Addr) (len : Nat) (xs : List Int) (w : World) (b1 : -9223372036854775808 ≤ n) (b2 : n ≤ 9223372036854775807) (hc : w.cell? a = some (.int .i64 n))
    (hlen : xs.length = len) (hl : len ≤ 1000000) (hxs : ∀ j u, (xs.map (Value.int .u8))[j]? = some u → w.cell? (bo.add j) = some u) (hlt : bo.block < w.heap.size) :
    Calls Try.prog 39 #[.slice (some bo) len len, .slice (some a) 1 c] w (PutPost w.heap.size w (len + 4) (xs ++ by4 n)) := by
  obtain ⟨i0, hi, hz0, hz1, hz2⟩ := info_parts info_u8
  have hblk : ∀ j, (bo.add j).block = bo.block := fun j => by unfold Addr.add; split <;> rfl
  go_enter Try.func39, Try.ntmps39
  go_wp2_with fail
  refine wp_loop_rounds 2 ?_
  rw [rounds_succ]
  go_wp2_with (at_builtin; refine wpList_append_grows _ rfl _ _ 23 rfl 5 i0 (.int .u8 0) 1 1 Try.underlying23 hi hz0 hz1 hz2 rfl (by decide) _ _ _ (xs.map (Value.int .u8)) rfl ?_ ?_ ?_ ⟨w.heap.size, 0, none⟩ 4 4 ((by4 n).map (Value.int .u8)) rfl rfl (World.news_of_block (heap_alloc_new w _)) ?_ ?_ ?_ ?_ ?_)
  · intro h; cases h
  · simpa using hlen
  · intro b hb j u hu
    cases hb
    exact (World.cell?_alloc_lt _ _ _ (by rw [hblk]; exact hlt)).trans (hxs j u hu)
  · simp [by4, Value.oneCell']
  · omega
  · unfold maxLen; omega
  · omega
  intro v' w2 hown2 hgrow
  have hp := Lib.hid (show PutPost w.heap.size w (len + 4) (xs ++ by4 n) (.returned v') w2 from ⟨v', rfl, by rw [List.map_append]; exact World.ownsRow.mono hown2 (by simp), ((Below.refl _ w).alloc (Nat.le_refl _) _).grown hgrow (by simp) (fun j hj => by cases hj)⟩)
  clear hown2 hgrow hxs hblk
  go_wp2_with fail
  rw [rounds_succ]
  go_wp2_with fail
  go_ret
  exact hp.out

/-- The number of four bytes. -/
def num4 (l : List UInt8) : Int := ((l.getD 0 0).toNat : Int) * 16777216 + ((l.getD 1 0).toNat : Int) * 65536 + ((l.getD 2 0).toNat : Int) * 256 + ((l.getD 3 0).toNat : Int)

theorem w64_in {n : Int} (h1 : 0 ≤ n) (h2 : n < 2 ^ 62) : wrap64 n = n := by unfold wrap64; omega
theorem or_add (i : Nat) (x y : Int) (hx0 : 0 ≤ x) (hx : x % 2 ^ i = 0) (hx1 : x < 2 ^ 62) (hy0 : 0 ≤ y) (hy : y < 2 ^ i) (hy1 : y < 2 ^ 62) : bits .or .i64 x y = x + y :=
  bits_join .i64 62 (by decide) (fun n h0 h1 => by rw [IntKind.wrap_i64]; omega) i x y hx0 hx hx1 hy0 hy hy1
theorem or4 (a b c d : Int) (ha : 0 ≤ a ∧ a < 256) (hb : 0 ≤ b ∧ b < 256) (hc : 0 ≤ c ∧ c < 256) (hd : 0 ≤ d ∧ d < 256) :
    bits .or .i64 (bits .or .i64 (bits .or .i64 (wrap64 (wrap64 a * 16777216)) (wrap64 (wrap64 b * 65536))) (wrap64 (wrap64 c * 256))) (wrap64 d) = a * 16777216 + b * 65536 + c * 256 + d := by
  rw [w64_in (n := a) (by omega) (by omega), w64_in (n := b) (by omega) (by omega), w64_in (n := c) (by omega) (by omega), w64_in (n := d) (by omega) (by omega), w64_in (n := a * 16777216) (by omega) (by omega), w64_in (n := b * 65536) (by omega) (by omega), w64_in (n := c * 256) (by omega) (by omega)]
  rw [or_add 24 (a * 16777216) (b * 65536) (by omega) (by omega) (by omega) (by omega) (by omega) (by omega), or_add 16 (a * 16777216 + b * 65536) (c * 256) (by omega) (by omega) (by omega) (by omega) (by omega) (by omega), or_add 8 (a * 16777216 + b * 65536 + c * 256) d (by omega) (by omega) (by omega) (by omega) (by omega) (by omega)]
theorem add4 (a b c d : Int) (ha : 0 ≤ a ∧ a < 256) (hb : 0 ≤ b ∧ b < 256) (hc : 0 ≤ c ∧ c < 256) (hd : 0 ≤ d ∧ d < 256) :
    wrap64 (wrap64 (wrap64 (wrap64 (wrap64 a * 16777216) + wrap64 (wrap64 b * 65536)) + wrap64 (wrap64 c * 256)) + wrap64 d) = a * 16777216 + b * 65536 + c * 256 + d := by
  rw [w64_in (n := a) (by omega) (by omega), w64_in (n := b) (by omega) (by omega), w64_in (n := c) (by omega) (by omega), w64_in (n := d) (by omega) (by omega), w64_in (n := a * 16777216) (by omega) (by omega), w64_in (n := b * 65536) (by omega) (by omega), w64_in (n := c * 256) (by omega) (by omega)]
  rw [w64_in (n := a * 16777216 + b * 65536) (by omega) (by omega), w64_in (n := a * 16777216 + b * 65536 + c * 256) (by omega) (by omega), w64_in (by omega) (by omega)]
theorem byte_rng (c : UInt8) : (0 : Int) ≤ (c.toNat : Int) ∧ (c.toNat : Int) < 256 := by have := c.toNat_lt; omega
theorem getD_byte (s : ByteArray) (k : Nat) (h : k < s.size) : s.data.toList.getD k 0 = s[k] := by
  have : k < s.data.toList.length := by simpa using h
  rw [List.getD, List.getElem?_eq_getElem this]; rfl
theorem ret_i64 {a b : Int} (h : a = b) : Ending.returned (.int .i64 a) = .returned (.int .i64 b) := by rw [h]

theorem get_any (s : ByteArray) (w : World) (h : 4 ≤ s.size) : Calls Try.prog 41 #[.string s] w fun e w' => e = .returned (.int .i64 (num4 s.data.toList)) ∧ ∃ n, w' = w.drewN n := by
  have h0 : 0 < s.size := by omega
  have h1 : 1 < s.size := by omega
  have h2 : 2 < s.size := by omega
  have h3 : 3 < s.size := by omega
  have g1 : (1 : Int) < (s.size : Int) := by omega
  have g2 : (2 : Int) < (s.size : Int) := by omega
  have g3 : (3 : Int) < (s.size : Int) := by omega
  have H := Lib.hid (show num4 s.data.toList = _ from by unfold num4; rw [getD_byte s 0 h0, getD_byte s 1 h1, getD_byte s 2 h2, getD_byte s 3 h3])
  go_enter Try.func41, Try.ntmps41
  go_wp2_with fail
  go_quiet (fail)
  go_wp2_with fail
  go_ret
  exact ⟨ret_i64 ((or4 _ _ _ _ (byte_rng _) (byte_rng _) (byte_rng _) (byte_rng _)).trans H.out.symm), _, rfl⟩
theorem num_any (s : ByteArray) (w : World) (h : 4 ≤ s.size) : Calls Try.prog 42 #[.string s] w fun e w' => e = .returned (.int .i64 (num4 s.data.toList)) ∧ ∃ n, w' = w.drewN n := by
  have h0 : 0 < s.size := by omega
  have h1 : 1 < s.size := by omega
  have h2 : 2 < s.size := by omega
  have h3 : 3 < s.size := by omega
  have g1 : (1 : Int) < (s.size : Int) := by omega
  have g2 : (2 : Int) < (s.size : Int) := by omega
  have g3 : (3 : Int) < (s.size : Int) := by omega
  have H := Lib.hid (show num4 s.data.toList = _ from by unfold num4; rw [getD_byte s 0 h0, getD_byte s 1 h1, getD_byte s 2 h2, getD_byte s 3 h3])
  go_enter Try.func42, Try.ntmps42
  go_wp2_with fail
  go_quiet (fail)
  go_wp2_with fail
  go_ret
  exact ⟨ret_i64 ((add4 _ _ _ _ (byte_rng _) (byte_rng _) (byte_rng _) (byte_rng _)).trans H.out.symm), _, rfl⟩

set_option maxHeartbeats 1000000 in
theorem put2_full (n m : Int) (b off : Nat) (c : Nat) (bo : Addr) (len : Nat) (xs : List Int) (w : World) (b1 : -9223372036854775808 ≤ n) (b2 : n ≤ 9223372036854775807) (d1 : -9223372036854775808 ≤ m) (d2 : m ≤ 9223372036854775807)
    (hc : w.cell? ⟨b, off, none⟩ = some (.int .i64 n)) (hc2 : w.cell? ⟨b, off + 1, none⟩ = some (.int .i64 m))
    (hlen : xs.length = len) (hl : len ≤ 1000000) (hxs : ∀ j u, (xs.map (Value.int .u8))[j]? = some u → w.cell? (bo.add j) = some u) (hlt : bo.block < w.heap.size) :
    Calls Try.prog 39 #[.slice (some bo) len len, .slice (some ⟨b, off, none⟩) 2 c] w (PutPost w.heap.size w (len + 8) (xs ++ by4 n ++ by4 m)) := by
  obtain ⟨i0, hi, hz0, hz1, hz2⟩ := info_parts info_u8
  have hblk : ∀ j, (bo.add j).block = bo.block := fun j => by unfold Addr.add; split <;> rfl
  go_enter Try.func39, Try.ntmps39
  go_wp2_with fail
  refine wp_loop_rounds 3 ?_
  rw [rounds_succ]
  go_wp2_with (at_builtin; refine wpList_append_grows _ rfl _ _ 23 rfl 5 i0 (.int .u8 0) 1 1 Try.underlying23 hi hz0 hz1 hz2 rfl (by decide) _ _ _ (xs.map (Value.int .u8)) rfl ?_ ?_ ?_ ⟨w.heap.size, 0, none⟩ 4 4 ((by4 n).map (Value.int .u8)) rfl rfl (World.news_of_block (heap_alloc_new w _)) ?_ ?_ ?_ ?_ ?_)
  · intro h; cases h
  · simpa using hlen
  · intro b hb j u hu
    cases hb
    exact (World.cell?_alloc_lt _ _ _ (by rw [hblk]; exact hlt)).trans (hxs j u hu)
  · simp [by4, Value.oneCell']
  · omega
  · unfold maxLen; omega
  · omega
  intro v' w2 hown2 hgrow
  have hb2 : Below w.heap.size w w2 := ((Below.refl _ w).alloc (Nat.le_refl _) _).grown hgrow (by simp) (fun j hj => by cases hj)
  have ho2 : w2.ownsRow w.heap.size 5 1 v' (len + 4) ((xs ++ by4 n).map (Value.int .u8)) := by rw [List.map_append]; exact World.ownsRow.mono hown2 (by simp)
  have hm := keep1 hb2 hc2
  have hs2 := hb2.size
  have HB := Lib.hid hb2
  clear hown2 hgrow hxs hblk hb2 hc hc2
  go_wp2_with fail
  rw [rounds_succ]
  go_wp2_with (at_builtin; refine wpList_append_own _ rfl _ _ 23 rfl w.heap.size 5 i0 (.int .u8 0) 1 1 Try.underlying23 hi hz0 hz1 hz2 rfl (by decide) _ _ _ rfl (ho2.alloc _) ⟨w2.heap.size, 0, none⟩ 4 4 ((by4 m).map (Value.int .u8)) rfl rfl (World.news_of_block (heap_alloc_new w2 _)) ?_ ?_ ?_ ?_ ?_)
  · simp [by4, Value.oneCell']
  · unfold maxLen; omega
  · omega
  · simp; omega
  intro v3 w3 hown3 hgrow3 _
  have hp := Lib.hid (show PutPost w.heap.size w (len + 8) (xs ++ by4 n ++ by4 m) (.returned v3) w3 from ⟨v3, rfl, by simpa [List.map_append, List.append_assoc] using hown3, HB.out.trans (((Below.refl _ w2).alloc hs2 _).grown hgrow3 (by simp; omega) (fun j hj => (ho2.lt j hj).1))⟩)
  clear hown3 hgrow3 ho2
  go_wp2_with fail
  rw [rounds_succ]
  go_wp2_with fail
  go_ret
  exact hp.out

theorem own_str {w : World} {base len : Nat} {v : Value} {xs : List Int} (h : w.ownsRow base 5 1 v len (xs.map (Value.int .u8))) (hn : 0 < len) (src : TypeId) (hs : Try.prog.underlying src = some (.slice 5)) :
    (convert src 9 v).run Try.prog w = .ok (.string (strOfNums xs)) w := by
  obtain ⟨g, cap, rfl, hg1, hg2⟩ := h.form hn
  have hlen : xs.length = len := by have := h.1; simpa using this
  refine run_convert_bytes_arg w src 5 hs Try.underlying5 g 0 len cap xs hlen (fun i hi => ?_) 9 Try.underlying9
  have hi' : i < xs.length := by omega
  have := h.cells (g := g) rfl i (.int .u8 (xs.getD i 0)) (by simp [List.getD, hi'])
  rw [Go.WideShapes.add_plain] at this
  simpa using this
end Go.Proofs.Ytlkjgnnnamkfeaa
