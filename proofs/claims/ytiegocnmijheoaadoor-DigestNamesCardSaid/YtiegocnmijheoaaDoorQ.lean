/- WALK of DigestNames. -/
import Derived.Test.YtiegocnmijheoaaDoorK
set_option linter.unusedVariables false
namespace Go.Proofs.YtiegocnmijheoaaDoor
open Go.RowKit Go.ChangeShapes Go.WideShapes Go.ChangeAt

theorem sumh_nil (w : World) : Calls Tryd.prog 22 #[.pointer none] w fun e w' => e = .returned (.int .u64 14695981039346656037) ∧ w = w' := by
  go_enter Tryd.func22, Tryd.ntmps22
  go_wp2
  go_ret
  exact ⟨rfl, rfl⟩
theorem copyh_nil (w : World) : Calls Tryd.prog 21 #[.pointer none] w fun e w' => e = .returned (.pointer none) ∧ w = w' := by
  go_enter Tryd.func21, Tryd.ntmps21
  go_wp2
  go_ret
  exact ⟨rfl, rfl⟩
theorem writeh_nil (a : Option Addr) (n c : Nat) (w : World) : Calls Tryd.prog 20 #[.pointer none, .slice a n c] w fun e w' => e = .returned (.tuple #[]) ∧ w = w' := by
  go_enter Tryd.func20, Tryd.ntmps20
  go_wp2
  go_returns
  exact ⟨rfl, rfl⟩
theorem PaPost.bad {s : ByteArray} {e : Ending} (h : PaPost s e) (hb : s.size ≠ 16 ∨ ∃ k, ∃ hk : k < s.size, ((s[k].toNat : Nat) : Int) = 67) : e = .returned (.tuple #[.int .u64 0, .int .i64 4]) := by
  rcases h with ⟨v, v0, v1, h1, h2⟩ | ⟨_, h2⟩
  · exfalso
    rcases hb with hb | ⟨k, hk, h67⟩
    · exact hb (by rw [h1, strOfNums_size, hexL_len])
    · have := (text_at h1 k hk).2
      rw [h67] at this
      unfold dig at this
      split at this <;> omega
  · exact h2
/-- What is kept from call to call. -/
def Q (w w' : World) : Prop := Libs w' ∧ Below w.heap.size w w'
theorem Q.step {w w1 w2 : World} (h : Q w w1) (hb : Below w1.heap.size w1 w2) : Q w w2 := ⟨h.1.below hb, h.2.trans (hb.mono h.2.size)⟩
theorem Q.alloc {w w1 : World} (h : Q w w1) (o : Obj) : Q w (w1.alloc o) := h.step ((Below.refl _ _).alloc (Nat.le_refl _) _)
theorem Q.drew {w w1 : World} (h : Q w w1) : Q w w1.drew := h.step (Below.refl _ _).drew
theorem Q.libs {w w' : World} (h : Q w w') : Libs w' := h.1
theorem Q.below {w w' : World} (h : Q w w') : Below w.heap.size w w' := h.2
theorem wpAnyH_from {P : Program} {md : Region.Mode} {ops : Array Oper} {Q : Exit → Act → World → Prop} {S : World → Prop} {n n' : Nat} {l l' : Array Bool} {a : Act} {w : World} (hn : n = n') (h : l = l') (H : wpAnyH P md ops Q S n' l' a w) : wpAnyH P md ops Q S n l a w := hn ▸ h ▸ H
theorem wpAnyH_at {P : Program} {md : Region.Mode} {ops : Array Oper} {Q : Exit → Act → World → Prop} {S : World → Prop} {fuel : Nat} {l l' : Array Bool} {a : Act} {w : World} (h : l = l') (H : wpAnyH P md ops Q S fuel l' a w) : wpAnyH P md ops Q S fuel l a w := h ▸ H
/-- Eight bytes 0. -/
def Z8 (w : World) (b : Nat) : Prop := ∀ k, k < 8 → w.cell? ⟨b, k, none⟩ = some (.int .u8 0)
theorem Z8.new (w : World) : Z8 (w.alloc (.cells #[.int .u8 0, .int .u8 0, .int .u8 0, .int .u8 0, .int .u8 0, .int .u8 0, .int .u8 0, .int .u8 0] 5)) w.heap.size := fun k hk => by
  rw [World.cell?_alloc_new]
  match k, hk with
  | 0, _ => rfl
  | 1, _ => rfl
  | 2, _ => rfl
  | 3, _ => rfl
  | 4, _ => rfl
  | 5, _ => rfl
  | 6, _ => rfl
  | 7, _ => rfl
theorem Z8.below {w w' : World} {b : Nat} (h : Z8 w b) (hb : Below w.heap.size w w') : Z8 w' b := fun k hk => keep1 hb (h k hk)
theorem Z8.alloc {w : World} {b : Nat} (h : Z8 w b) (o : Obj) : Z8 (w.alloc o) b := h.below ((Below.refl _ _).alloc (Nat.le_refl _) _)
theorem Z8.conv {W : World} {b : Nat} (h : Z8 W b) : (convert 35 9 (.slice (some ⟨b, 0, none⟩) 8 8)).run Tryd.prog W = .ok (.string ⟨#[0, 0, 0, 0, 0, 0, 0, 0]⟩) W :=
  run_convert_bytes_arg W 35 5 Tryd.underlying35 Tryd.underlying5 b 0 8 8 [0, 0, 0, 0, 0, 0, 0, 0] rfl (fun i hi => by
    have := h i hi
    rw [Nat.zero_add, this]
    match i, hi with
    | 0, _ => rfl
    | 1, _ => rfl
    | 2, _ => rfl
    | 3, _ => rfl
    | 4, _ => rfl
    | 5, _ => rfl
    | 6, _ => rfl
    | 7, _ => rfl) 9 Tryd.underlying9
theorem of_nil (w : World) : Calls Tryd.prog 16 #[.slice none 0 0] w fun e w' => e = .returned (.int .u64 14695981039346656037) ∧ Below w.heap.size w w' := by
  have := of_any none 0 [] w (by decide) (by simp) (fun h => absurd rfl h)
  rwa [show foldT begin_ [] = 14695981039346656037 from by kernel_rfl] at this
theorem of_e (b : Nat) (w : World) (h : w.cell? ⟨b, 0, none⟩ = some (.string ⟨#[]⟩)) : Calls Tryd.prog 16 #[.slice (some ⟨b, 0, none⟩) 1 1] w fun e w' => e = .returned (.int .u64 12161962213042174405) ∧ Below w.heap.size w w' := by
  have := of_any (some ⟨b, 0, none⟩) 1 [⟨#[]⟩] w (by decide) (by intro p hp; simp at hp; subst hp; decide) (fun _ => ⟨b, 0, rfl, World.block_lt_of_cell? w _ h, fun k hk => by
    have : k = 0 := by simp at hk; omega
    subst this
    exact h⟩)
  rwa [show foldT begin_ [⟨#[]⟩] = 12161962213042174405 from by kernel_rfl] at this
theorem sum_e (w : World) : Calls Tryd.prog 14 #[.string ⟨#[]⟩] w fun e w' => e = .returned (.int .u64 14695981039346656037) ∧ w = w' := by
  have := sum_any ⟨#[]⟩ w (by decide)
  rwa [show fold begin_ (⟨#[]⟩ : ByteArray).data.toList = 14695981039346656037 from by kernel_rfl] at this
theorem sum_f (w : World) : Calls Tryd.prog 14 #[.string ⟨#[102, 111, 111, 98, 97, 114]⟩] w fun e w' => e = .returned (.int .u64 9625390261332436968) ∧ w = w' := by
  have := sum_any ⟨#[102, 111, 111, 98, 97, 114]⟩ w (by decide)
  rwa [show fold begin_ (⟨#[102, 111, 111, 98, 97, 114]⟩ : ByteArray).data.toList = 9625390261332436968 from by kernel_rfl] at this
theorem sum_z (w : World) : Calls Tryd.prog 14 #[.string ⟨#[0, 0, 0, 0, 0, 0, 0, 0]⟩] w fun e w' => e = .returned (.int .u64 12161962213042174405) ∧ w = w' := by
  have := sum_any ⟨#[0, 0, 0, 0, 0, 0, 0, 0]⟩ w (by decide)
  rwa [show fold begin_ (⟨#[0, 0, 0, 0, 0, 0, 0, 0]⟩ : ByteArray).data.toList = 12161962213042174405 from by kernel_rfl] at this
theorem text_e (w : World) (h : Libs w) : Calls Tryd.prog 18 #[.int .u64 14695981039346656037] w fun e w' => e = .returned (.string ⟨#[99, 98, 102, 50, 57, 99, 101, 52, 56, 52, 50, 50, 50, 51, 50, 53]⟩) ∧ Below w.heap.size w w' := by
  have := text_any 14695981039346656037 w (by decide) (by decide) h.2.2.1 h.2.2.2
  rwa [show strOfNums (hexL 14695981039346656037 15) = ⟨#[99, 98, 102, 50, 57, 99, 101, 52, 56, 52, 50, 50, 50, 51, 50, 53]⟩ from by kernel_rfl] at this
theorem text_f (w : World) (h : Libs w) : Calls Tryd.prog 18 #[.int .u64 9625390261332436968] w fun e w' => e = .returned (.string ⟨#[56, 53, 57, 52, 52, 49, 55, 49, 102, 55, 51, 57, 54, 55, 101, 56]⟩) ∧ Below w.heap.size w w' := by
  have := text_any 9625390261332436968 w (by decide) (by decide) h.2.2.1 h.2.2.2
  rwa [show strOfNums (hexL 9625390261332436968 15) = ⟨#[56, 53, 57, 52, 52, 49, 55, 49, 102, 55, 51, 57, 54, 55, 101, 56]⟩ from by kernel_rfl] at this
theorem text_0 (w : World) (h : Libs w) : Calls Tryd.prog 18 #[.int .u64 0] w fun e w' => e = .returned (.string ⟨#[48, 48, 48, 48, 48, 48, 48, 48, 48, 48, 48, 48, 48, 48, 48, 48]⟩) ∧ Below w.heap.size w w' := by
  have := text_any 0 w (by decide) (by decide) h.2.2.1 h.2.2.2
  rwa [show strOfNums (hexL 0 15) = ⟨#[48, 48, 48, 48, 48, 48, 48, 48, 48, 48, 48, 48, 48, 48, 48, 48]⟩ from by kernel_rfl] at this
theorem text_m (w : World) (h : Libs w) : Calls Tryd.prog 18 #[.int .u64 18446744073709551615] w fun e w' => e = .returned (.string ⟨#[102, 102, 102, 102, 102, 102, 102, 102, 102, 102, 102, 102, 102, 102, 102, 102]⟩) ∧ Below w.heap.size w w' := by
  have := text_any 18446744073709551615 w (by decide) (by decide) h.2.2.1 h.2.2.2
  rwa [show strOfNums (hexL 18446744073709551615 15) = ⟨#[102, 102, 102, 102, 102, 102, 102, 102, 102, 102, 102, 102, 102, 102, 102, 102]⟩ from by kernel_rfl] at this
/-- The region's operations. -/
def opsN : Array Oper := #[{ dst := some 24, op := Op.move (Operand.tmp 1), type := 33, pos := "law.go:41", after := #[], guard := none }, { dst := some 25, op := Op.call { callee := Callee.value (Operand.func 21), args := #[Operand.tmp 24], argTypes := #[33] }, type := 33, pos := "law.go:41", after := #[{ on := 0, ground := Ground.data }], guard := none }, { dst := some 26, op := Op.binOp BinOp.eql 33 (Operand.tmp 25) (Operand.const (Value.pointer none)) 33, type := 4, pos := "law.go:41", after := #[{ on := 1, ground := Ground.data }], guard := none }, { dst := some 27, op := Op.move (Operand.tmp 26), type := 4, pos := "law.go:41", after := #[{ on := 2, ground := Ground.data }, { on := 1, ground := Ground.chain }], guard := none }, { dst := some 28, op := Op.move (Operand.tmp 1), type := 33, pos := "law.go:41", after := #[{ on := 3, ground := Ground.guard }], guard := some (3, true) }, { dst := some 29, op := Op.call { callee := Callee.value (Operand.func 22), args := #[Operand.tmp 28], argTypes := #[33] }, type := 23, pos := "law.go:41", after := #[{ on := 4, ground := Ground.data }, { on := 3, ground := Ground.chain }, { on := 3, ground := Ground.guard }], guard := some (3, true) }, { dst := some 30, op := Op.call { callee := Callee.value (Operand.func 18), args := #[Operand.tmp 29], argTypes := #[23] }, type := 9, pos := "law.go:41", after := #[{ on := 5, ground := Ground.data }, { on := 5, ground := Ground.chain }, { on := 3, ground := Ground.guard }], guard := some (3, true) }, { dst := some 31, op := Op.binOp BinOp.eql 9 (Operand.tmp 30) (Operand.const (Value.string { data := #[99, 98, 102, 50, 57, 99, 101, 52, 56, 52, 50, 50, 50, 51, 50, 53] })) 9, type := 4, pos := "law.go:41", after := #[{ on := 6, ground := Ground.data }, { on := 3, ground := Ground.guard }], guard := some (3, true) }, { dst := some 32, op := Op.pick (Operand.tmp 27) (Operand.tmp 31) (Operand.const (Value.bool false)), type := 4, pos := "law.go:41", after := #[{ on := 3, ground := Ground.data }, { on := 7, ground := Ground.data }], guard := none }, { dst := some 33, op := Op.move (Operand.tmp 32), type := 4, pos := "law.go:41", after := #[{ on := 8, ground := Ground.data }, { on := 6, ground := Ground.chain }], guard := none }, { dst := some 34, op := Op.call { callee := Callee.value (Operand.func 14), args := #[Operand.const (Value.string { data := #[] })], argTypes := #[9] }, type := 23, pos := "law.go:41", after := #[{ on := 9, ground := Ground.chain }, { on := 9, ground := Ground.guard }], guard := some (9, true) }, { dst := some 35, op := Op.call { callee := Callee.value (Operand.func 18), args := #[Operand.tmp 34], argTypes := #[23] }, type := 9, pos := "law.go:41", after := #[{ on := 10, ground := Ground.data }, { on := 10, ground := Ground.chain }, { on := 9, ground := Ground.guard }], guard := some (9, true) }, { dst := some 36, op := Op.binOp BinOp.eql 9 (Operand.tmp 35) (Operand.const (Value.string { data := #[99, 98, 102, 50, 57, 99, 101, 52, 56, 52, 50, 50, 50, 51, 50, 53] })) 9, type := 4, pos := "law.go:41", after := #[{ on := 11, ground := Ground.data }, { on := 9, ground := Ground.guard }], guard := some (9, true) }, { dst := some 37, op := Op.pick (Operand.tmp 33) (Operand.tmp 36) (Operand.const (Value.bool false)), type := 4, pos := "law.go:41", after := #[{ on := 9, ground := Ground.data }, { on := 12, ground := Ground.data }], guard := none }, { dst := some 38, op := Op.move (Operand.tmp 37), type := 4, pos := "law.go:41", after := #[{ on := 13, ground := Ground.data }, { on := 11, ground := Ground.chain }], guard := none }, { dst := some 39, op := Op.call { callee := Callee.value (Operand.func 14), args := #[Operand.const (Value.string { data := #[102, 111, 111, 98, 97, 114] })], argTypes := #[9] }, type := 23, pos := "law.go:41", after := #[{ on := 14, ground := Ground.chain }, { on := 14, ground := Ground.guard }], guard := some (14, true) }, { dst := some 40, op := Op.call { callee := Callee.value (Operand.func 18), args := #[Operand.tmp 39], argTypes := #[23] }, type := 9, pos := "law.go:41", after := #[{ on := 15, ground := Ground.data }, { on := 15, ground := Ground.chain }, { on := 14, ground := Ground.guard }], guard := some (14, true) }, { dst := some 41, op := Op.binOp BinOp.eql 9 (Operand.tmp 40) (Operand.const (Value.string { data := #[56, 53, 57, 52, 52, 49, 55, 49, 102, 55, 51, 57, 54, 55, 101, 56] })) 9, type := 4, pos := "law.go:41", after := #[{ on := 16, ground := Ground.data }, { on := 14, ground := Ground.guard }], guard := some (14, true) }, { dst := some 42, op := Op.pick (Operand.tmp 38) (Operand.tmp 41) (Operand.const (Value.bool false)), type := 4, pos := "law.go:41", after := #[{ on := 14, ground := Ground.data }, { on := 17, ground := Ground.data }], guard := none }, { dst := some 43, op := Op.move (Operand.tmp 42), type := 4, pos := "law.go:41", after := #[{ on := 18, ground := Ground.data }, { on := 16, ground := Ground.chain }], guard := none }, { dst := some 44, op := Op.call { callee := Callee.value (Operand.func 16), args := #[Operand.const (Value.slice none 0 0)], argTypes := #[22] }, type := 23, pos := "law.go:41", after := #[{ on := 19, ground := Ground.chain }, { on := 19, ground := Ground.guard }], guard := some (19, true) }, { dst := some 45, op := Op.call { callee := Callee.value (Operand.func 14), args := #[Operand.const (Value.string { data := #[] })], argTypes := #[9] }, type := 23, pos := "law.go:41", after := #[{ on := 20, ground := Ground.chain }, { on := 19, ground := Ground.guard }], guard := some (19, true) }, { dst := some 46, op := Op.binOp BinOp.eql 23 (Operand.tmp 44) (Operand.tmp 45) 23, type := 4, pos := "law.go:41", after := #[{ on := 20, ground := Ground.data }, { on := 21, ground := Ground.data }, { on := 19, ground := Ground.guard }], guard := some (19, true) }, { dst := some 47, op := Op.pick (Operand.tmp 43) (Operand.tmp 46) (Operand.const (Value.bool false)), type := 4, pos := "law.go:41", after := #[{ on := 19, ground := Ground.data }, { on := 22, ground := Ground.data }], guard := none }, { dst := some 48, op := Op.move (Operand.tmp 47), type := 4, pos := "law.go:41", after := #[{ on := 23, ground := Ground.data }, { on := 21, ground := Ground.chain }], guard := none }, { dst := some 49, op := Op.buildSlice 22 1 #[(0, Operand.const (Value.string { data := #[] }))], type := 22, pos := "law.go:41", after := #[{ on := 24, ground := Ground.guard }], guard := some (24, true) }, { dst := some 50, op := Op.call { callee := Callee.value (Operand.func 16), args := #[Operand.tmp 49], argTypes := #[22] }, type := 23, pos := "law.go:41", after := #[{ on := 25, ground := Ground.data }, { on := 24, ground := Ground.chain }, { on := 24, ground := Ground.guard }], guard := some (24, true) }, { dst := some 51, op := Op.makeSlice 35 (Operand.const (Value.int IntKind.i64 8)) (Operand.const (Value.int IntKind.i64 8)), type := 35, pos := "law.go:41", after := #[{ on := 24, ground := Ground.guard }], guard := some (24, true) }, { dst := some 52, op := Op.convert 35 9 (Operand.tmp 51), type := 9, pos := "law.go:41", after := #[{ on := 27, ground := Ground.data }, { on := 24, ground := Ground.guard }], guard := some (24, true) }, { dst := some 53, op := Op.call { callee := Callee.value (Operand.func 14), args := #[Operand.tmp 52], argTypes := #[9] }, type := 23, pos := "law.go:41", after := #[{ on := 28, ground := Ground.data }, { on := 26, ground := Ground.chain }, { on := 24, ground := Ground.guard }], guard := some (24, true) }, { dst := some 54, op := Op.binOp BinOp.eql 23 (Operand.tmp 50) (Operand.tmp 53) 23, type := 4, pos := "law.go:41", after := #[{ on := 26, ground := Ground.data }, { on := 29, ground := Ground.data }, { on := 24, ground := Ground.guard }], guard := some (24, true) }, { dst := some 55, op := Op.pick (Operand.tmp 48) (Operand.tmp 54) (Operand.const (Value.bool false)), type := 4, pos := "law.go:41", after := #[{ on := 24, ground := Ground.data }, { on := 30, ground := Ground.data }], guard := none }, { dst := some 56, op := Op.move (Operand.tmp 55), type := 4, pos := "law.go:41", after := #[{ on := 31, ground := Ground.data }, { on := 29, ground := Ground.chain }], guard := none }, { dst := some 57, op := Op.call { callee := Callee.value (Operand.func 18), args := #[Operand.const (Value.int IntKind.u64 0)], argTypes := #[23] }, type := 9, pos := "law.go:41", after := #[{ on := 32, ground := Ground.chain }, { on := 32, ground := Ground.guard }], guard := some (32, true) }, { dst := some 58, op := Op.binOp BinOp.eql 9 (Operand.tmp 57) (Operand.const (Value.string { data := #[48, 48, 48, 48, 48, 48, 48, 48, 48, 48, 48, 48, 48, 48, 48, 48] })) 9, type := 4, pos := "law.go:41", after := #[{ on := 33, ground := Ground.data }, { on := 32, ground := Ground.guard }], guard := some (32, true) }, { dst := some 59, op := Op.pick (Operand.tmp 56) (Operand.tmp 58) (Operand.const (Value.bool false)), type := 4, pos := "law.go:41", after := #[{ on := 32, ground := Ground.data }, { on := 34, ground := Ground.data }], guard := none }, { dst := some 60, op := Op.move (Operand.tmp 59), type := 4, pos := "law.go:41", after := #[{ on := 35, ground := Ground.data }, { on := 33, ground := Ground.chain }], guard := none }, { dst := some 61, op := Op.call { callee := Callee.value (Operand.func 18), args := #[Operand.const (Value.int IntKind.u64 18446744073709551615)], argTypes := #[23] }, type := 9, pos := "law.go:41", after := #[{ on := 36, ground := Ground.chain }, { on := 36, ground := Ground.guard }], guard := some (36, true) }, { dst := some 62, op := Op.binOp BinOp.eql 9 (Operand.tmp 61) (Operand.const (Value.string { data := #[102, 102, 102, 102, 102, 102, 102, 102, 102, 102, 102, 102, 102, 102, 102, 102] })) 9, type := 4, pos := "law.go:41", after := #[{ on := 37, ground := Ground.data }, { on := 36, ground := Ground.guard }], guard := some (36, true) }, { dst := some 63, op := Op.pick (Operand.tmp 60) (Operand.tmp 62) (Operand.const (Value.bool false)), type := 4, pos := "law.go:41", after := #[{ on := 36, ground := Ground.data }, { on := 38, ground := Ground.data }], guard := none }, { dst := some 64, op := Op.move (Operand.tmp 63), type := 4, pos := "law.go:41", after := #[{ on := 39, ground := Ground.data }, { on := 37, ground := Ground.chain }], guard := none }, { dst := some 65, op := Op.move (Operand.tmp 3), type := 26, pos := "law.go:41", after := #[{ on := 40, ground := Ground.guard }], guard := some (40, true) }, { dst := some 66, op := Op.binOp BinOp.eql 26 (Operand.tmp 65) (Operand.const (Value.int IntKind.i64 4)) 26, type := 4, pos := "law.go:41", after := #[{ on := 41, ground := Ground.data }, { on := 40, ground := Ground.guard }], guard := some (40, true) }, { dst := some 67, op := Op.pick (Operand.tmp 64) (Operand.tmp 66) (Operand.const (Value.bool false)), type := 4, pos := "law.go:41", after := #[{ on := 40, ground := Ground.data }, { on := 42, ground := Ground.data }], guard := none }, { dst := some 68, op := Op.move (Operand.tmp 67), type := 4, pos := "law.go:41", after := #[{ on := 43, ground := Ground.data }, { on := 40, ground := Ground.chain }], guard := none }, { dst := some 69, op := Op.move (Operand.tmp 5), type := 26, pos := "law.go:41", after := #[{ on := 44, ground := Ground.guard }], guard := some (44, true) }, { dst := some 70, op := Op.binOp BinOp.eql 26 (Operand.tmp 69) (Operand.const (Value.int IntKind.i64 4)) 26, type := 4, pos := "law.go:41", after := #[{ on := 45, ground := Ground.data }, { on := 44, ground := Ground.guard }], guard := some (44, true) }, { dst := some 71, op := Op.pick (Operand.tmp 68) (Operand.tmp 70) (Operand.const (Value.bool false)), type := 4, pos := "law.go:41", after := #[{ on := 44, ground := Ground.data }, { on := 46, ground := Ground.data }], guard := none }, { dst := some 72, op := Op.move (Operand.tmp 71), type := 4, pos := "law.go:41", after := #[{ on := 47, ground := Ground.data }, { on := 44, ground := Ground.chain }], guard := none }, { dst := some 73, op := Op.move (Operand.tmp 6), type := 23, pos := "law.go:41", after := #[{ on := 48, ground := Ground.guard }], guard := some (48, true) }, { dst := some 74, op := Op.binOp BinOp.eql 23 (Operand.tmp 73) (Operand.const (Value.int IntKind.u64 255)) 23, type := 4, pos := "law.go:41", after := #[{ on := 49, ground := Ground.data }, { on := 48, ground := Ground.guard }], guard := some (48, true) }, { dst := some 75, op := Op.pick (Operand.tmp 72) (Operand.tmp 74) (Operand.const (Value.bool false)), type := 4, pos := "law.go:41", after := #[{ on := 48, ground := Ground.data }, { on := 50, ground := Ground.data }], guard := none }, { dst := some 76, op := Op.move (Operand.tmp 75), type := 4, pos := "law.go:41", after := #[{ on := 51, ground := Ground.data }, { on := 48, ground := Ground.chain }], guard := none }, { dst := some 77, op := Op.move (Operand.tmp 7), type := 26, pos := "law.go:41", after := #[{ on := 52, ground := Ground.guard }], guard := some (52, true) }, { dst := some 78, op := Op.binOp BinOp.eql 26 (Operand.tmp 77) (Operand.const (Value.int IntKind.i64 0)) 26, type := 4, pos := "law.go:41", after := #[{ on := 53, ground := Ground.data }, { on := 52, ground := Ground.guard }], guard := some (52, true) }, { dst := some 79, op := Op.pick (Operand.tmp 76) (Operand.tmp 78) (Operand.const (Value.bool false)), type := 4, pos := "law.go:41", after := #[{ on := 52, ground := Ground.data }, { on := 54, ground := Ground.data }], guard := none }, { dst := some 80, op := Op.move (Operand.tmp 79), type := 4, pos := "law.go:41", after := #[{ on := 55, ground := Ground.data }, { on := 52, ground := Ground.chain }], guard := none }, { dst := some 81, op := Op.call { callee := Callee.value (Operand.func 11), args := #[], argTypes := #[] }, type := 4, pos := "law.go:41", after := #[{ on := 56, ground := Ground.chain }, { on := 56, ground := Ground.guard }], guard := some (56, true) }, { dst := some 82, op := Op.pick (Operand.tmp 80) (Operand.tmp 81) (Operand.const (Value.bool false)), type := 4, pos := "law.go:41", after := #[{ on := 56, ground := Ground.data }, { on := 57, ground := Ground.data }], guard := none }, { dst := some 0, op := Op.assign (Operand.tmp 82), type := 4, pos := "law.go:41", after := #[{ on := 58, ground := Ground.data }, { on := 57, ground := Ground.chain }, { on := 0, ground := Ground.phase }, { on := 1, ground := Ground.phase }, { on := 2, ground := Ground.phase }, { on := 3, ground := Ground.phase }, { on := 4, ground := Ground.phase }, { on := 5, ground := Ground.phase }, { on := 6, ground := Ground.phase }, { on := 7, ground := Ground.phase }, { on := 8, ground := Ground.phase }, { on := 9, ground := Ground.phase }, { on := 10, ground := Ground.phase }, { on := 11, ground := Ground.phase }, { on := 12, ground := Ground.phase }, { on := 13, ground := Ground.phase }, { on := 14, ground := Ground.phase }, { on := 15, ground := Ground.phase }, { on := 16, ground := Ground.phase }, { on := 17, ground := Ground.phase }, { on := 18, ground := Ground.phase }, { on := 19, ground := Ground.phase }, { on := 20, ground := Ground.phase }, { on := 21, ground := Ground.phase }, { on := 22, ground := Ground.phase }, { on := 23, ground := Ground.phase }, { on := 24, ground := Ground.phase }, { on := 25, ground := Ground.phase }, { on := 26, ground := Ground.phase }, { on := 27, ground := Ground.phase }, { on := 28, ground := Ground.phase }, { on := 29, ground := Ground.phase }, { on := 30, ground := Ground.phase }, { on := 31, ground := Ground.phase }, { on := 32, ground := Ground.phase }, { on := 33, ground := Ground.phase }, { on := 34, ground := Ground.phase }, { on := 35, ground := Ground.phase }, { on := 36, ground := Ground.phase }, { on := 37, ground := Ground.phase }, { on := 38, ground := Ground.phase }, { on := 39, ground := Ground.phase }, { on := 40, ground := Ground.phase }, { on := 41, ground := Ground.phase }, { on := 42, ground := Ground.phase }, { on := 43, ground := Ground.phase }, { on := 44, ground := Ground.phase }, { on := 45, ground := Ground.phase }, { on := 46, ground := Ground.phase }, { on := 47, ground := Ground.phase }, { on := 48, ground := Ground.phase }, { on := 49, ground := Ground.phase }, { on := 50, ground := Ground.phase }, { on := 51, ground := Ground.phase }, { on := 52, ground := Ground.phase }, { on := 53, ground := Ground.phase }, { on := 54, ground := Ground.phase }, { on := 55, ground := Ground.phase }, { on := 56, ground := Ground.phase }, { on := 57, ground := Ground.phase }, { on := 58, ground := Ground.phase }], guard := none }]
set_option maxRecDepth 20000 in
set_option maxHeartbeats 4000000 in
theorem names_walk (w : World) (hl : Libs w) : Calls Tryd.prog 4 #[] w fun e w' => e = .returned (.bool true) ∧ Below w.heap.size w w' := by
  have AW := Lib.hid (fun w (h : Libs w) => awake06 w h)
  have PA := Lib.hid (fun s (hs : s.size ≤ 20000) w (h : Libs w) => parse_any s w hs h.1 h.2.1 h.2.2.1 h.2.2.2)
  have TX := Lib.hid (fun u w (u0 : 0 ≤ u) (u1 : u < 18446744073709551616) (h : Libs w) => text_any u w u0 u1 h.2.2.1 h.2.2.2)
  have hl0 := Lib.hid hl
  clear hl
  have kc := Go.Joins.run_convert_bytes_const_at (P := Tryd.prog) w 35 5 #[.int .u8 97] 1 1 w.heap.size rfl Tryd.underlying35 Tryd.underlying5
  go_enter Tryd.func4, Tryd.ntmps4
  go_wp2_with fail
  refine (writeh_nil _ _ _ _).mono ?_
  rintro e w1 ⟨rfl, hw⟩
  have hb1 : Below w.heap.size w w1 := by subst hw; go_grown
  have hl1 := Lib.hid (hl0.out.below hb1)
  have HB1 := Lib.hid hb1
  clear hw hb1 kc hl0
  go_wp2_with fail
  refine (PA.out _ (by decide) w1 hl1.out).mono ?_
  rintro e w2 ⟨hp, hb⟩
  rw [hp.bad (.inl (by decide))]
  have hl2 := Lib.hid (hl1.out.below hb)
  have HB2 := Lib.hid (HB1.out.trans (hb.mono HB1.out.size))
  clear hb hl1 HB1
  clear hp
  go_wp2_with fail
  refine (PA.out _ (by decide) w2 hl2.out).mono ?_
  rintro e w3 ⟨hp, hb⟩
  rw [hp.bad (.inr ⟨0, by decide, by decide⟩)]
  have hl3 := Lib.hid (hl2.out.below hb)
  have HB3 := Lib.hid (HB2.out.trans (hb.mono HB2.out.size))
  clear hb hl2 HB2
  clear hp
  go_wp2_with fail
  refine (PA.out _ (by decide) w3 hl3.out).mono ?_
  rintro e w4 ⟨hp, hb⟩
  rw [hp.text (V := 255) (by decide) (by decide) (by kernel_rfl)]
  have hl4 := Lib.hid (hl3.out.below hb)
  have HB4 := Lib.hid (HB3.out.trans (hb.mono HB3.out.size))
  clear hb hl3 HB3
  clear hp
  have hq := Lib.hid (show Q w w4 from ⟨hl4.out, HB4.out⟩)
  have hmk := make8
  have hcv := @Z8.conv
  have hz0 := Z8.new
  have hz1 := fun W (x : Obj) => (Z8.new W).alloc x
  have hz2 : ∀ W (x : Obj), Z8 ((World.alloc W x).alloc (.cells #[.int .u8 0, .int .u8 0, .int .u8 0, .int .u8 0, .int .u8 0, .int .u8 0, .int .u8 0, .int .u8 0] 5)) (W.heap.size + 1) := fun W x => by have := Z8.new (World.alloc W x); simpa using this
  clear hl4 HB4 PA TX
  go_wp2_with fail
  have hq' := hq.out
  clear hq
  rename_i Q1 e1 e2 K1 ha
  have rest : ∀ (v49 v51 : Value) (w' : World), Q w w' → wpAnyH Tryd.prog .any opsN (Exit.then K1 Q1) (Q w) 28 #[true, true, true, true, true, true, true, true, true, true, true, true, true, true, true, true, true, true, true, true, true, true, true, true, true, true, true, true, true, true, true, true, false, false, false, false, false, false, false, false, false, false, false, false, false, false, false, false, false, false, false, false, false, false, false, false, false, false, false, false] { tmps := #[Value.bool false, Value.pointer none, Value.int IntKind.u64 0, Value.int IntKind.i64 4, Value.int IntKind.u64 0, Value.int IntKind.i64 4, Value.int IntKind.u64 255, Value.int IntKind.i64 0, Value.pointer none, Value.slice (some { block := w.heap.size, off := 0 }) 1 1, Value.slice (some { block := w.heap.size, off := 0 }) 1 1, Value.tuple #[], Value.tuple #[Value.int IntKind.u64 0, Value.int IntKind.i64 4], Value.tuple #[Value.int IntKind.u64 0, Value.int IntKind.i64 4], Value.int IntKind.u64 0, Value.int IntKind.i64 4, Value.tuple #[Value.int IntKind.u64 0, Value.int IntKind.i64 4], Value.tuple #[Value.int IntKind.u64 0, Value.int IntKind.i64 4], Value.int IntKind.u64 0, Value.int IntKind.i64 4, Value.tuple #[Value.int IntKind.u64 255, Value.int IntKind.i64 0], Value.tuple #[Value.int IntKind.u64 255, Value.int IntKind.i64 0], Value.int IntKind.u64 255, Value.int IntKind.i64 0, Value.pointer none, Value.pointer none, Value.bool true, Value.bool true, Value.pointer none, Value.int IntKind.u64 14695981039346656037, Value.string { data := #[99, 98, 102, 50, 57, 99, 101, 52, 56, 52, 50, 50, 50, 51, 50, 53] }, Value.bool true, Value.bool true, Value.bool true, Value.int IntKind.u64 14695981039346656037, Value.string { data := #[99, 98, 102, 50, 57, 99, 101, 52, 56, 52, 50, 50, 50, 51, 50, 53] }, Value.bool true, Value.bool true, Value.bool true, Value.int IntKind.u64 9625390261332436968, Value.string { data := #[56, 53, 57, 52, 52, 49, 55, 49, 102, 55, 51, 57, 54, 55, 101, 56] }, Value.bool true, Value.bool true, Value.bool true, Value.int IntKind.u64 14695981039346656037, Value.int IntKind.u64 14695981039346656037, Value.bool true, Value.bool true, Value.bool true, v49, Value.int IntKind.u64 12161962213042174405, v51, Value.string { data := #[0, 0, 0, 0, 0, 0, 0, 0] }, Value.int IntKind.u64 12161962213042174405, Value.bool true, Value.bool true, undef, undef, undef, undef, undef, undef, undef, undef, undef, undef, undef, undef, undef, undef, undef, undef, undef, undef, undef, undef, undef, undef, undef, undef, undef, undef, undef], defers := [] } w' := by
    intro v49 v51 w' hHeld
    unfold opsN
    refine wpAnyH_take (i := 32) (oi := { dst := some 56, op := Op.move (Operand.tmp 55), type := 4, pos := "law.go:41", after := #[{ on := 31, ground := Ground.data }, { on := 29, ground := Ground.chain }], guard := none }) (v := ?_) rfl (by kernel_rfl) (by kernel_rfl) (by kernel_rfl) (fun _ _ _ h => h) (Or.inl ⟨by rfl, ?_⟩) (by assumption) ?_
    rotate_left
    · (intro w hSw; go_simp; try with_reducible rfl)
    try simp only [Act.put, List.setIfInBounds_toArray, List.set_cons_zero, List.set_cons_succ]
    refine wpAnyH_at (l' := #[true, true, true, true, true, true, true, true, true, true, true, true, true, true, true, true, true, true, true, true, true, true, true, true, true, true, true, true, true, true, true, true, true, false, false, false, false, false, false, false, false, false, false, false, false, false, false, false, false, false, false, false, false, false, false, false, false, false, false, false]) (by kernel_rfl) ?_
    refine wpAnyH_ready (rs := [33]) (by kernel_rfl) (by simp) ?_
    refine AllReadyH.cons (o := { dst := some 57, op := Op.call { callee := Callee.value (Operand.func 18), args := #[Operand.const (Value.int IntKind.u64 0)], argTypes := #[23] }, type := 9, pos := "law.go:41", after := #[{ on := 32, ground := Ground.chain }, { on := 32, ground := Ground.guard }], guard := some (32, true) }) rfl (fun K hK => ?_) AllReadyH.nil
    go_simp
    first
      | (go_at_call 21; refine (copyh_nil _).mono ?_; rintro e w' ⟨rfl, rfl⟩)
      | (go_at_call 22; refine (sumh_nil _).mono ?_; rintro e w' ⟨rfl, rfl⟩)
      | (go_at_call 14; ((with_reducible refine (sum_e _).mono ?_); rintro e w' ⟨rfl, rfl⟩))
      | (go_at_call 14; ((with_reducible refine (sum_f _).mono ?_); rintro e w' ⟨rfl, rfl⟩))
      | (go_at_call 14; ((with_reducible refine (sum_z _).mono ?_); rintro e w' ⟨rfl, rfl⟩))
      | (go_at_call 18; ((with_reducible refine (text_e _ ?_).mono ?_); focus (with_reducible exact Q.libs (by assumption))); rintro e w' ⟨rfl, hb⟩)
      | (go_at_call 18; ((with_reducible refine (text_f _ ?_).mono ?_); focus (with_reducible exact Q.libs (by assumption))); rintro e w' ⟨rfl, hb⟩)
      | (go_at_call 18; ((with_reducible refine (text_0 _ ?_).mono ?_); focus (with_reducible exact Q.libs (by assumption))); rintro e w' ⟨rfl, hb⟩)
      | (go_at_call 18; ((with_reducible refine (text_m _ ?_).mono ?_); focus (with_reducible exact Q.libs (by assumption))); rintro e w' ⟨rfl, hb⟩)
      | (go_at_call 16; ((with_reducible refine (of_nil _).mono ?_); rintro e w' ⟨rfl, hb⟩))
      | (go_at_call 16; ((with_reducible refine (of_e _ _ ?_).mono ?_); focus (first | exact (cellR (by first | rfl | simp) 0).trans rfl | exact (World.cell?_alloc_lt _ _ _ (by simp)).trans ((cellR (by first | rfl | simp) 0).trans rfl))); rintro e w' ⟨rfl, hb⟩; (first | have hz8 := (Z8.below ((Z8.new _).alloc _) hb) | (have hz8 := (Z8.below (Z8.new _) hb); simp at hz8) | have hz8 := (Z8.below (Z8.new _) hb) | skip))
      | (go_at_call 11; refine (AW.out _ ?_).mono ?_; (with_reducible exact Q.libs (by assumption)); rintro e w' ⟨rfl, hb⟩)
    refine hK.out _ _ (by first | (with_reducible exact Q.alloc (by assumption) _) | (with_reducible exact Q.step (by assumption) hb) | assumption) (fun hHeld => ?_)
    clear hK K
    try simp only [Act.put, List.setIfInBounds_toArray, List.set_cons_zero, List.set_cons_succ]
    refine wpAnyH_at (l' := #[true, true, true, true, true, true, true, true, true, true, true, true, true, true, true, true, true, true, true, true, true, true, true, true, true, true, true, true, true, true, true, true, true, true, false, false, false, false, false, false, false, false, false, false, false, false, false, false, false, false, false, false, false, false, false, false, false, false, false, false]) (by kernel_rfl) ?_
    refine wpAnyH_take (i := 34) (oi := { dst := some 58, op := Op.binOp BinOp.eql 9 (Operand.tmp 57) (Operand.const (Value.string { data := #[48, 48, 48, 48, 48, 48, 48, 48, 48, 48, 48, 48, 48, 48, 48, 48] })) 9, type := 4, pos := "law.go:41", after := #[{ on := 33, ground := Ground.data }, { on := 32, ground := Ground.guard }], guard := some (32, true) }) (v := ?_) rfl (by kernel_rfl) (by kernel_rfl) (by kernel_rfl) (fun _ _ _ h => h) (Or.inl ⟨by rfl, ?_⟩) (by assumption) ?_
    rotate_left
    · (intro w hSw; go_simp; try with_reducible rfl)
    try simp only [Act.put, List.setIfInBounds_toArray, List.set_cons_zero, List.set_cons_succ]
    refine wpAnyH_at (l' := #[true, true, true, true, true, true, true, true, true, true, true, true, true, true, true, true, true, true, true, true, true, true, true, true, true, true, true, true, true, true, true, true, true, true, true, false, false, false, false, false, false, false, false, false, false, false, false, false, false, false, false, false, false, false, false, false, false, false, false, false]) (by kernel_rfl) ?_
    refine wpAnyH_take (i := 35) (oi := { dst := some 59, op := Op.pick (Operand.tmp 56) (Operand.tmp 58) (Operand.const (Value.bool false)), type := 4, pos := "law.go:41", after := #[{ on := 32, ground := Ground.data }, { on := 34, ground := Ground.data }], guard := none }) (v := ?_) rfl (by kernel_rfl) (by kernel_rfl) (by kernel_rfl) (fun _ _ _ h => h) (Or.inl ⟨by rfl, ?_⟩) (by assumption) ?_
    rotate_left
    · (intro w hSw; go_simp; try with_reducible rfl)
    try simp only [Act.put, List.setIfInBounds_toArray, List.set_cons_zero, List.set_cons_succ]
    refine wpAnyH_at (l' := #[true, true, true, true, true, true, true, true, true, true, true, true, true, true, true, true, true, true, true, true, true, true, true, true, true, true, true, true, true, true, true, true, true, true, true, true, false, false, false, false, false, false, false, false, false, false, false, false, false, false, false, false, false, false, false, false, false, false, false, false]) (by kernel_rfl) ?_
    refine wpAnyH_take (i := 36) (oi := { dst := some 60, op := Op.move (Operand.tmp 59), type := 4, pos := "law.go:41", after := #[{ on := 35, ground := Ground.data }, { on := 33, ground := Ground.chain }], guard := none }) (v := ?_) rfl (by kernel_rfl) (by kernel_rfl) (by kernel_rfl) (fun _ _ _ h => h) (Or.inl ⟨by rfl, ?_⟩) (by assumption) ?_
    rotate_left
    · (intro w hSw; go_simp; try with_reducible rfl)
    try simp only [Act.put, List.setIfInBounds_toArray, List.set_cons_zero, List.set_cons_succ]
    refine wpAnyH_at (l' := #[true, true, true, true, true, true, true, true, true, true, true, true, true, true, true, true, true, true, true, true, true, true, true, true, true, true, true, true, true, true, true, true, true, true, true, true, true, false, false, false, false, false, false, false, false, false, false, false, false, false, false, false, false, false, false, false, false, false, false, false]) (by kernel_rfl) ?_
    refine wpAnyH_ready (rs := [37]) (by kernel_rfl) (by simp) ?_
    refine AllReadyH.cons (o := { dst := some 61, op := Op.call { callee := Callee.value (Operand.func 18), args := #[Operand.const (Value.int IntKind.u64 18446744073709551615)], argTypes := #[23] }, type := 9, pos := "law.go:41", after := #[{ on := 36, ground := Ground.chain }, { on := 36, ground := Ground.guard }], guard := some (36, true) }) rfl (fun K hK => ?_) AllReadyH.nil
    go_simp
    first
      | (go_at_call 21; refine (copyh_nil _).mono ?_; rintro e w' ⟨rfl, rfl⟩)
      | (go_at_call 22; refine (sumh_nil _).mono ?_; rintro e w' ⟨rfl, rfl⟩)
      | (go_at_call 14; ((with_reducible refine (sum_e _).mono ?_); rintro e w' ⟨rfl, rfl⟩))
      | (go_at_call 14; ((with_reducible refine (sum_f _).mono ?_); rintro e w' ⟨rfl, rfl⟩))
      | (go_at_call 14; ((with_reducible refine (sum_z _).mono ?_); rintro e w' ⟨rfl, rfl⟩))
      | (go_at_call 18; ((with_reducible refine (text_e _ ?_).mono ?_); focus (with_reducible exact Q.libs (by assumption))); rintro e w' ⟨rfl, hb⟩)
      | (go_at_call 18; ((with_reducible refine (text_f _ ?_).mono ?_); focus (with_reducible exact Q.libs (by assumption))); rintro e w' ⟨rfl, hb⟩)
      | (go_at_call 18; ((with_reducible refine (text_0 _ ?_).mono ?_); focus (with_reducible exact Q.libs (by assumption))); rintro e w' ⟨rfl, hb⟩)
      | (go_at_call 18; ((with_reducible refine (text_m _ ?_).mono ?_); focus (with_reducible exact Q.libs (by assumption))); rintro e w' ⟨rfl, hb⟩)
      | (go_at_call 16; ((with_reducible refine (of_nil _).mono ?_); rintro e w' ⟨rfl, hb⟩))
      | (go_at_call 16; ((with_reducible refine (of_e _ _ ?_).mono ?_); focus (first | exact (cellR (by first | rfl | simp) 0).trans rfl | exact (World.cell?_alloc_lt _ _ _ (by simp)).trans ((cellR (by first | rfl | simp) 0).trans rfl))); rintro e w' ⟨rfl, hb⟩; (first | have hz8 := (Z8.below ((Z8.new _).alloc _) hb) | (have hz8 := (Z8.below (Z8.new _) hb); simp at hz8) | have hz8 := (Z8.below (Z8.new _) hb) | skip))
      | (go_at_call 11; refine (AW.out _ ?_).mono ?_; (with_reducible exact Q.libs (by assumption)); rintro e w' ⟨rfl, hb⟩)
    refine hK.out _ _ (by first | (with_reducible exact Q.alloc (by assumption) _) | (with_reducible exact Q.step (by assumption) hb) | assumption) (fun hHeld => ?_)
    clear hK K
    try simp only [Act.put, List.setIfInBounds_toArray, List.set_cons_zero, List.set_cons_succ]
    refine wpAnyH_at (l' := #[true, true, true, true, true, true, true, true, true, true, true, true, true, true, true, true, true, true, true, true, true, true, true, true, true, true, true, true, true, true, true, true, true, true, true, true, true, true, false, false, false, false, false, false, false, false, false, false, false, false, false, false, false, false, false, false, false, false, false, false]) (by kernel_rfl) ?_
    refine wpAnyH_take (i := 38) (oi := { dst := some 62, op := Op.binOp BinOp.eql 9 (Operand.tmp 61) (Operand.const (Value.string { data := #[102, 102, 102, 102, 102, 102, 102, 102, 102, 102, 102, 102, 102, 102, 102, 102] })) 9, type := 4, pos := "law.go:41", after := #[{ on := 37, ground := Ground.data }, { on := 36, ground := Ground.guard }], guard := some (36, true) }) (v := ?_) rfl (by kernel_rfl) (by kernel_rfl) (by kernel_rfl) (fun _ _ _ h => h) (Or.inl ⟨by rfl, ?_⟩) (by assumption) ?_
    rotate_left
    · (intro w hSw; go_simp; try with_reducible rfl)
    try simp only [Act.put, List.setIfInBounds_toArray, List.set_cons_zero, List.set_cons_succ]
    refine wpAnyH_at (l' := #[true, true, true, true, true, true, true, true, true, true, true, true, true, true, true, true, true, true, true, true, true, true, true, true, true, true, true, true, true, true, true, true, true, true, true, true, true, true, true, false, false, false, false, false, false, false, false, false, false, false, false, false, false, false, false, false, false, false, false, false]) (by kernel_rfl) ?_
    refine wpAnyH_take (i := 39) (oi := { dst := some 63, op := Op.pick (Operand.tmp 60) (Operand.tmp 62) (Operand.const (Value.bool false)), type := 4, pos := "law.go:41", after := #[{ on := 36, ground := Ground.data }, { on := 38, ground := Ground.data }], guard := none }) (v := ?_) rfl (by kernel_rfl) (by kernel_rfl) (by kernel_rfl) (fun _ _ _ h => h) (Or.inl ⟨by rfl, ?_⟩) (by assumption) ?_
    rotate_left
    · (intro w hSw; go_simp; try with_reducible rfl)
    try simp only [Act.put, List.setIfInBounds_toArray, List.set_cons_zero, List.set_cons_succ]
    refine wpAnyH_at (l' := #[true, true, true, true, true, true, true, true, true, true, true, true, true, true, true, true, true, true, true, true, true, true, true, true, true, true, true, true, true, true, true, true, true, true, true, true, true, true, true, true, false, false, false, false, false, false, false, false, false, false, false, false, false, false, false, false, false, false, false, false]) (by kernel_rfl) ?_
    refine wpAnyH_take (i := 40) (oi := { dst := some 64, op := Op.move (Operand.tmp 63), type := 4, pos := "law.go:41", after := #[{ on := 39, ground := Ground.data }, { on := 37, ground := Ground.chain }], guard := none }) (v := ?_) rfl (by kernel_rfl) (by kernel_rfl) (by kernel_rfl) (fun _ _ _ h => h) (Or.inl ⟨by rfl, ?_⟩) (by assumption) ?_
    rotate_left
    · (intro w hSw; go_simp; try with_reducible rfl)
    try simp only [Act.put, List.setIfInBounds_toArray, List.set_cons_zero, List.set_cons_succ]
    refine wpAnyH_at (l' := #[true, true, true, true, true, true, true, true, true, true, true, true, true, true, true, true, true, true, true, true, true, true, true, true, true, true, true, true, true, true, true, true, true, true, true, true, true, true, true, true, true, false, false, false, false, false, false, false, false, false, false, false, false, false, false, false, false, false, false, false]) (by kernel_rfl) ?_
    refine wpAnyH_take (i := 41) (oi := { dst := some 65, op := Op.move (Operand.tmp 3), type := 26, pos := "law.go:41", after := #[{ on := 40, ground := Ground.guard }], guard := some (40, true) }) (v := ?_) rfl (by kernel_rfl) (by kernel_rfl) (by kernel_rfl) (fun _ _ _ h => h) (Or.inl ⟨by rfl, ?_⟩) (by assumption) ?_
    rotate_left
    · (intro w hSw; go_simp; try with_reducible rfl)
    try simp only [Act.put, List.setIfInBounds_toArray, List.set_cons_zero, List.set_cons_succ]
    refine wpAnyH_at (l' := #[true, true, true, true, true, true, true, true, true, true, true, true, true, true, true, true, true, true, true, true, true, true, true, true, true, true, true, true, true, true, true, true, true, true, true, true, true, true, true, true, true, true, false, false, false, false, false, false, false, false, false, false, false, false, false, false, false, false, false, false]) (by kernel_rfl) ?_
    refine wpAnyH_take (i := 42) (oi := { dst := some 66, op := Op.binOp BinOp.eql 26 (Operand.tmp 65) (Operand.const (Value.int IntKind.i64 4)) 26, type := 4, pos := "law.go:41", after := #[{ on := 41, ground := Ground.data }, { on := 40, ground := Ground.guard }], guard := some (40, true) }) (v := ?_) rfl (by kernel_rfl) (by kernel_rfl) (by kernel_rfl) (fun _ _ _ h => h) (Or.inl ⟨by rfl, ?_⟩) (by assumption) ?_
    rotate_left
    · (intro w hSw; go_simp; try with_reducible rfl)
    try simp only [Act.put, List.setIfInBounds_toArray, List.set_cons_zero, List.set_cons_succ]
    refine wpAnyH_at (l' := #[true, true, true, true, true, true, true, true, true, true, true, true, true, true, true, true, true, true, true, true, true, true, true, true, true, true, true, true, true, true, true, true, true, true, true, true, true, true, true, true, true, true, true, false, false, false, false, false, false, false, false, false, false, false, false, false, false, false, false, false]) (by kernel_rfl) ?_
    refine wpAnyH_take (i := 43) (oi := { dst := some 67, op := Op.pick (Operand.tmp 64) (Operand.tmp 66) (Operand.const (Value.bool false)), type := 4, pos := "law.go:41", after := #[{ on := 40, ground := Ground.data }, { on := 42, ground := Ground.data }], guard := none }) (v := ?_) rfl (by kernel_rfl) (by kernel_rfl) (by kernel_rfl) (fun _ _ _ h => h) (Or.inl ⟨by rfl, ?_⟩) (by assumption) ?_
    rotate_left
    · (intro w hSw; go_simp; try with_reducible rfl)
    try simp only [Act.put, List.setIfInBounds_toArray, List.set_cons_zero, List.set_cons_succ]
    refine wpAnyH_at (l' := #[true, true, true, true, true, true, true, true, true, true, true, true, true, true, true, true, true, true, true, true, true, true, true, true, true, true, true, true, true, true, true, true, true, true, true, true, true, true, true, true, true, true, true, true, false, false, false, false, false, false, false, false, false, false, false, false, false, false, false, false]) (by kernel_rfl) ?_
    refine wpAnyH_take (i := 44) (oi := { dst := some 68, op := Op.move (Operand.tmp 67), type := 4, pos := "law.go:41", after := #[{ on := 43, ground := Ground.data }, { on := 40, ground := Ground.chain }], guard := none }) (v := ?_) rfl (by kernel_rfl) (by kernel_rfl) (by kernel_rfl) (fun _ _ _ h => h) (Or.inl ⟨by rfl, ?_⟩) (by assumption) ?_
    rotate_left
    · (intro w hSw; go_simp; try with_reducible rfl)
    try simp only [Act.put, List.setIfInBounds_toArray, List.set_cons_zero, List.set_cons_succ]
    refine wpAnyH_at (l' := #[true, true, true, true, true, true, true, true, true, true, true, true, true, true, true, true, true, true, true, true, true, true, true, true, true, true, true, true, true, true, true, true, true, true, true, true, true, true, true, true, true, true, true, true, true, false, false, false, false, false, false, false, false, false, false, false, false, false, false, false]) (by kernel_rfl) ?_
    refine wpAnyH_take (i := 45) (oi := { dst := some 69, op := Op.move (Operand.tmp 5), type := 26, pos := "law.go:41", after := #[{ on := 44, ground := Ground.guard }], guard := some (44, true) }) (v := ?_) rfl (by kernel_rfl) (by kernel_rfl) (by kernel_rfl) (fun _ _ _ h => h) (Or.inl ⟨by rfl, ?_⟩) (by assumption) ?_
    rotate_left
    · (intro w hSw; go_simp; try with_reducible rfl)
    try simp only [Act.put, List.setIfInBounds_toArray, List.set_cons_zero, List.set_cons_succ]
    refine wpAnyH_at (l' := #[true, true, true, true, true, true, true, true, true, true, true, true, true, true, true, true, true, true, true, true, true, true, true, true, true, true, true, true, true, true, true, true, true, true, true, true, true, true, true, true, true, true, true, true, true, true, false, false, false, false, false, false, false, false, false, false, false, false, false, false]) (by kernel_rfl) ?_
    refine wpAnyH_take (i := 46) (oi := { dst := some 70, op := Op.binOp BinOp.eql 26 (Operand.tmp 69) (Operand.const (Value.int IntKind.i64 4)) 26, type := 4, pos := "law.go:41", after := #[{ on := 45, ground := Ground.data }, { on := 44, ground := Ground.guard }], guard := some (44, true) }) (v := ?_) rfl (by kernel_rfl) (by kernel_rfl) (by kernel_rfl) (fun _ _ _ h => h) (Or.inl ⟨by rfl, ?_⟩) (by assumption) ?_
    rotate_left
    · (intro w hSw; go_simp; try with_reducible rfl)
    try simp only [Act.put, List.setIfInBounds_toArray, List.set_cons_zero, List.set_cons_succ]
    refine wpAnyH_at (l' := #[true, true, true, true, true, true, true, true, true, true, true, true, true, true, true, true, true, true, true, true, true, true, true, true, true, true, true, true, true, true, true, true, true, true, true, true, true, true, true, true, true, true, true, true, true, true, true, false, false, false, false, false, false, false, false, false, false, false, false, false]) (by kernel_rfl) ?_
    refine wpAnyH_take (i := 47) (oi := { dst := some 71, op := Op.pick (Operand.tmp 68) (Operand.tmp 70) (Operand.const (Value.bool false)), type := 4, pos := "law.go:41", after := #[{ on := 44, ground := Ground.data }, { on := 46, ground := Ground.data }], guard := none }) (v := ?_) rfl (by kernel_rfl) (by kernel_rfl) (by kernel_rfl) (fun _ _ _ h => h) (Or.inl ⟨by rfl, ?_⟩) (by assumption) ?_
    rotate_left
    · (intro w hSw; go_simp; try with_reducible rfl)
    try simp only [Act.put, List.setIfInBounds_toArray, List.set_cons_zero, List.set_cons_succ]
    refine wpAnyH_at (l' := #[true, true, true, true, true, true, true, true, true, true, true, true, true, true, true, true, true, true, true, true, true, true, true, true, true, true, true, true, true, true, true, true, true, true, true, true, true, true, true, true, true, true, true, true, true, true, true, true, false, false, false, false, false, false, false, false, false, false, false, false]) (by kernel_rfl) ?_
    refine wpAnyH_take (i := 48) (oi := { dst := some 72, op := Op.move (Operand.tmp 71), type := 4, pos := "law.go:41", after := #[{ on := 47, ground := Ground.data }, { on := 44, ground := Ground.chain }], guard := none }) (v := ?_) rfl (by kernel_rfl) (by kernel_rfl) (by kernel_rfl) (fun _ _ _ h => h) (Or.inl ⟨by rfl, ?_⟩) (by assumption) ?_
    rotate_left
    · (intro w hSw; go_simp; try with_reducible rfl)
    try simp only [Act.put, List.setIfInBounds_toArray, List.set_cons_zero, List.set_cons_succ]
    refine wpAnyH_at (l' := #[true, true, true, true, true, true, true, true, true, true, true, true, true, true, true, true, true, true, true, true, true, true, true, true, true, true, true, true, true, true, true, true, true, true, true, true, true, true, true, true, true, true, true, true, true, true, true, true, true, false, false, false, false, false, false, false, false, false, false, false]) (by kernel_rfl) ?_
    refine wpAnyH_take (i := 49) (oi := { dst := some 73, op := Op.move (Operand.tmp 6), type := 23, pos := "law.go:41", after := #[{ on := 48, ground := Ground.guard }], guard := some (48, true) }) (v := ?_) rfl (by kernel_rfl) (by kernel_rfl) (by kernel_rfl) (fun _ _ _ h => h) (Or.inl ⟨by rfl, ?_⟩) (by assumption) ?_
    rotate_left
    · (intro w hSw; go_simp; try with_reducible rfl)
    try simp only [Act.put, List.setIfInBounds_toArray, List.set_cons_zero, List.set_cons_succ]
    refine wpAnyH_at (l' := #[true, true, true, true, true, true, true, true, true, true, true, true, true, true, true, true, true, true, true, true, true, true, true, true, true, true, true, true, true, true, true, true, true, true, true, true, true, true, true, true, true, true, true, true, true, true, true, true, true, true, false, false, false, false, false, false, false, false, false, false]) (by kernel_rfl) ?_
    refine wpAnyH_take (i := 50) (oi := { dst := some 74, op := Op.binOp BinOp.eql 23 (Operand.tmp 73) (Operand.const (Value.int IntKind.u64 255)) 23, type := 4, pos := "law.go:41", after := #[{ on := 49, ground := Ground.data }, { on := 48, ground := Ground.guard }], guard := some (48, true) }) (v := ?_) rfl (by kernel_rfl) (by kernel_rfl) (by kernel_rfl) (fun _ _ _ h => h) (Or.inl ⟨by rfl, ?_⟩) (by assumption) ?_
    rotate_left
    · (intro w hSw; go_simp; try with_reducible rfl)
    try simp only [Act.put, List.setIfInBounds_toArray, List.set_cons_zero, List.set_cons_succ]
    refine wpAnyH_at (l' := #[true, true, true, true, true, true, true, true, true, true, true, true, true, true, true, true, true, true, true, true, true, true, true, true, true, true, true, true, true, true, true, true, true, true, true, true, true, true, true, true, true, true, true, true, true, true, true, true, true, true, true, false, false, false, false, false, false, false, false, false]) (by kernel_rfl) ?_
    refine wpAnyH_take (i := 51) (oi := { dst := some 75, op := Op.pick (Operand.tmp 72) (Operand.tmp 74) (Operand.const (Value.bool false)), type := 4, pos := "law.go:41", after := #[{ on := 48, ground := Ground.data }, { on := 50, ground := Ground.data }], guard := none }) (v := ?_) rfl (by kernel_rfl) (by kernel_rfl) (by kernel_rfl) (fun _ _ _ h => h) (Or.inl ⟨by rfl, ?_⟩) (by assumption) ?_
    rotate_left
    · (intro w hSw; go_simp; try with_reducible rfl)
    try simp only [Act.put, List.setIfInBounds_toArray, List.set_cons_zero, List.set_cons_succ]
    refine wpAnyH_at (l' := #[true, true, true, true, true, true, true, true, true, true, true, true, true, true, true, true, true, true, true, true, true, true, true, true, true, true, true, true, true, true, true, true, true, true, true, true, true, true, true, true, true, true, true, true, true, true, true, true, true, true, true, true, false, false, false, false, false, false, false, false]) (by kernel_rfl) ?_
    refine wpAnyH_take (i := 52) (oi := { dst := some 76, op := Op.move (Operand.tmp 75), type := 4, pos := "law.go:41", after := #[{ on := 51, ground := Ground.data }, { on := 48, ground := Ground.chain }], guard := none }) (v := ?_) rfl (by kernel_rfl) (by kernel_rfl) (by kernel_rfl) (fun _ _ _ h => h) (Or.inl ⟨by rfl, ?_⟩) (by assumption) ?_
    rotate_left
    · (intro w hSw; go_simp; try with_reducible rfl)
    try simp only [Act.put, List.setIfInBounds_toArray, List.set_cons_zero, List.set_cons_succ]
    refine wpAnyH_at (l' := #[true, true, true, true, true, true, true, true, true, true, true, true, true, true, true, true, true, true, true, true, true, true, true, true, true, true, true, true, true, true, true, true, true, true, true, true, true, true, true, true, true, true, true, true, true, true, true, true, true, true, true, true, true, false, false, false, false, false, false, false]) (by kernel_rfl) ?_
    refine wpAnyH_take (i := 53) (oi := { dst := some 77, op := Op.move (Operand.tmp 7), type := 26, pos := "law.go:41", after := #[{ on := 52, ground := Ground.guard }], guard := some (52, true) }) (v := ?_) rfl (by kernel_rfl) (by kernel_rfl) (by kernel_rfl) (fun _ _ _ h => h) (Or.inl ⟨by rfl, ?_⟩) (by assumption) ?_
    rotate_left
    · (intro w hSw; go_simp; try with_reducible rfl)
    try simp only [Act.put, List.setIfInBounds_toArray, List.set_cons_zero, List.set_cons_succ]
    refine wpAnyH_at (l' := #[true, true, true, true, true, true, true, true, true, true, true, true, true, true, true, true, true, true, true, true, true, true, true, true, true, true, true, true, true, true, true, true, true, true, true, true, true, true, true, true, true, true, true, true, true, true, true, true, true, true, true, true, true, true, false, false, false, false, false, false]) (by kernel_rfl) ?_
    refine wpAnyH_take (i := 54) (oi := { dst := some 78, op := Op.binOp BinOp.eql 26 (Operand.tmp 77) (Operand.const (Value.int IntKind.i64 0)) 26, type := 4, pos := "law.go:41", after := #[{ on := 53, ground := Ground.data }, { on := 52, ground := Ground.guard }], guard := some (52, true) }) (v := ?_) rfl (by kernel_rfl) (by kernel_rfl) (by kernel_rfl) (fun _ _ _ h => h) (Or.inl ⟨by rfl, ?_⟩) (by assumption) ?_
    rotate_left
    · (intro w hSw; go_simp; try with_reducible rfl)
    try simp only [Act.put, List.setIfInBounds_toArray, List.set_cons_zero, List.set_cons_succ]
    refine wpAnyH_at (l' := #[true, true, true, true, true, true, true, true, true, true, true, true, true, true, true, true, true, true, true, true, true, true, true, true, true, true, true, true, true, true, true, true, true, true, true, true, true, true, true, true, true, true, true, true, true, true, true, true, true, true, true, true, true, true, true, false, false, false, false, false]) (by kernel_rfl) ?_
    refine wpAnyH_take (i := 55) (oi := { dst := some 79, op := Op.pick (Operand.tmp 76) (Operand.tmp 78) (Operand.const (Value.bool false)), type := 4, pos := "law.go:41", after := #[{ on := 52, ground := Ground.data }, { on := 54, ground := Ground.data }], guard := none }) (v := ?_) rfl (by kernel_rfl) (by kernel_rfl) (by kernel_rfl) (fun _ _ _ h => h) (Or.inl ⟨by rfl, ?_⟩) (by assumption) ?_
    rotate_left
    · (intro w hSw; go_simp; try with_reducible rfl)
    try simp only [Act.put, List.setIfInBounds_toArray, List.set_cons_zero, List.set_cons_succ]
    refine wpAnyH_at (l' := #[true, true, true, true, true, true, true, true, true, true, true, true, true, true, true, true, true, true, true, true, true, true, true, true, true, true, true, true, true, true, true, true, true, true, true, true, true, true, true, true, true, true, true, true, true, true, true, true, true, true, true, true, true, true, true, true, false, false, false, false]) (by kernel_rfl) ?_
    refine wpAnyH_take (i := 56) (oi := { dst := some 80, op := Op.move (Operand.tmp 79), type := 4, pos := "law.go:41", after := #[{ on := 55, ground := Ground.data }, { on := 52, ground := Ground.chain }], guard := none }) (v := ?_) rfl (by kernel_rfl) (by kernel_rfl) (by kernel_rfl) (fun _ _ _ h => h) (Or.inl ⟨by rfl, ?_⟩) (by assumption) ?_
    rotate_left
    · (intro w hSw; go_simp; try with_reducible rfl)
    try simp only [Act.put, List.setIfInBounds_toArray, List.set_cons_zero, List.set_cons_succ]
    refine wpAnyH_at (l' := #[true, true, true, true, true, true, true, true, true, true, true, true, true, true, true, true, true, true, true, true, true, true, true, true, true, true, true, true, true, true, true, true, true, true, true, true, true, true, true, true, true, true, true, true, true, true, true, true, true, true, true, true, true, true, true, true, true, false, false, false]) (by kernel_rfl) ?_
    refine wpAnyH_ready (rs := [57]) (by kernel_rfl) (by simp) ?_
    refine AllReadyH.cons (o := { dst := some 81, op := Op.call { callee := Callee.value (Operand.func 11), args := #[], argTypes := #[] }, type := 4, pos := "law.go:41", after := #[{ on := 56, ground := Ground.chain }, { on := 56, ground := Ground.guard }], guard := some (56, true) }) rfl (fun K hK => ?_) AllReadyH.nil
    go_simp
    first
      | (go_at_call 21; refine (copyh_nil _).mono ?_; rintro e w' ⟨rfl, rfl⟩)
      | (go_at_call 22; refine (sumh_nil _).mono ?_; rintro e w' ⟨rfl, rfl⟩)
      | (go_at_call 14; ((with_reducible refine (sum_e _).mono ?_); rintro e w' ⟨rfl, rfl⟩))
      | (go_at_call 14; ((with_reducible refine (sum_f _).mono ?_); rintro e w' ⟨rfl, rfl⟩))
      | (go_at_call 14; ((with_reducible refine (sum_z _).mono ?_); rintro e w' ⟨rfl, rfl⟩))
      | (go_at_call 18; ((with_reducible refine (text_e _ ?_).mono ?_); focus (with_reducible exact Q.libs (by assumption))); rintro e w' ⟨rfl, hb⟩)
      | (go_at_call 18; ((with_reducible refine (text_f _ ?_).mono ?_); focus (with_reducible exact Q.libs (by assumption))); rintro e w' ⟨rfl, hb⟩)
      | (go_at_call 18; ((with_reducible refine (text_0 _ ?_).mono ?_); focus (with_reducible exact Q.libs (by assumption))); rintro e w' ⟨rfl, hb⟩)
      | (go_at_call 18; ((with_reducible refine (text_m _ ?_).mono ?_); focus (with_reducible exact Q.libs (by assumption))); rintro e w' ⟨rfl, hb⟩)
      | (go_at_call 16; ((with_reducible refine (of_nil _).mono ?_); rintro e w' ⟨rfl, hb⟩))
      | (go_at_call 16; ((with_reducible refine (of_e _ _ ?_).mono ?_); focus (first | exact (cellR (by first | rfl | simp) 0).trans rfl | exact (World.cell?_alloc_lt _ _ _ (by simp)).trans ((cellR (by first | rfl | simp) 0).trans rfl))); rintro e w' ⟨rfl, hb⟩; (first | have hz8 := (Z8.below ((Z8.new _).alloc _) hb) | (have hz8 := (Z8.below (Z8.new _) hb); simp at hz8) | have hz8 := (Z8.below (Z8.new _) hb) | skip))
      | (go_at_call 11; refine (AW.out _ ?_).mono ?_; (with_reducible exact Q.libs (by assumption)); rintro e w' ⟨rfl, hb⟩)
    refine hK.out _ _ (by first | (with_reducible exact Q.alloc (by assumption) _) | (with_reducible exact Q.step (by assumption) hb) | assumption) (fun hHeld => ?_)
    clear hK K
    try simp only [Act.put, List.setIfInBounds_toArray, List.set_cons_zero, List.set_cons_succ]
    refine wpAnyH_at (l' := #[true, true, true, true, true, true, true, true, true, true, true, true, true, true, true, true, true, true, true, true, true, true, true, true, true, true, true, true, true, true, true, true, true, true, true, true, true, true, true, true, true, true, true, true, true, true, true, true, true, true, true, true, true, true, true, true, true, true, false, false]) (by kernel_rfl) ?_
    refine wpAnyH_take (i := 58) (oi := { dst := some 82, op := Op.pick (Operand.tmp 80) (Operand.tmp 81) (Operand.const (Value.bool false)), type := 4, pos := "law.go:41", after := #[{ on := 56, ground := Ground.data }, { on := 57, ground := Ground.data }], guard := none }) (v := ?_) rfl (by kernel_rfl) (by kernel_rfl) (by kernel_rfl) (fun _ _ _ h => h) (Or.inl ⟨by rfl, ?_⟩) (by assumption) ?_
    rotate_left
    · (intro w hSw; go_simp; try with_reducible rfl)
    try simp only [Act.put, List.setIfInBounds_toArray, List.set_cons_zero, List.set_cons_succ]
    refine wpAnyH_at (l' := #[true, true, true, true, true, true, true, true, true, true, true, true, true, true, true, true, true, true, true, true, true, true, true, true, true, true, true, true, true, true, true, true, true, true, true, true, true, true, true, true, true, true, true, true, true, true, true, true, true, true, true, true, true, true, true, true, true, true, true, false]) (by kernel_rfl) ?_
    refine wpAnyH_take (i := 59) (oi := { dst := some 0, op := Op.assign (Operand.tmp 82), type := 4, pos := "law.go:41", after := #[{ on := 58, ground := Ground.data }, { on := 57, ground := Ground.chain }, { on := 0, ground := Ground.phase }, { on := 1, ground := Ground.phase }, { on := 2, ground := Ground.phase }, { on := 3, ground := Ground.phase }, { on := 4, ground := Ground.phase }, { on := 5, ground := Ground.phase }, { on := 6, ground := Ground.phase }, { on := 7, ground := Ground.phase }, { on := 8, ground := Ground.phase }, { on := 9, ground := Ground.phase }, { on := 10, ground := Ground.phase }, { on := 11, ground := Ground.phase }, { on := 12, ground := Ground.phase }, { on := 13, ground := Ground.phase }, { on := 14, ground := Ground.phase }, { on := 15, ground := Ground.phase }, { on := 16, ground := Ground.phase }, { on := 17, ground := Ground.phase }, { on := 18, ground := Ground.phase }, { on := 19, ground := Ground.phase }, { on := 20, ground := Ground.phase }, { on := 21, ground := Ground.phase }, { on := 22, ground := Ground.phase }, { on := 23, ground := Ground.phase }, { on := 24, ground := Ground.phase }, { on := 25, ground := Ground.phase }, { on := 26, ground := Ground.phase }, { on := 27, ground := Ground.phase }, { on := 28, ground := Ground.phase }, { on := 29, ground := Ground.phase }, { on := 30, ground := Ground.phase }, { on := 31, ground := Ground.phase }, { on := 32, ground := Ground.phase }, { on := 33, ground := Ground.phase }, { on := 34, ground := Ground.phase }, { on := 35, ground := Ground.phase }, { on := 36, ground := Ground.phase }, { on := 37, ground := Ground.phase }, { on := 38, ground := Ground.phase }, { on := 39, ground := Ground.phase }, { on := 40, ground := Ground.phase }, { on := 41, ground := Ground.phase }, { on := 42, ground := Ground.phase }, { on := 43, ground := Ground.phase }, { on := 44, ground := Ground.phase }, { on := 45, ground := Ground.phase }, { on := 46, ground := Ground.phase }, { on := 47, ground := Ground.phase }, { on := 48, ground := Ground.phase }, { on := 49, ground := Ground.phase }, { on := 50, ground := Ground.phase }, { on := 51, ground := Ground.phase }, { on := 52, ground := Ground.phase }, { on := 53, ground := Ground.phase }, { on := 54, ground := Ground.phase }, { on := 55, ground := Ground.phase }, { on := 56, ground := Ground.phase }, { on := 57, ground := Ground.phase }, { on := 58, ground := Ground.phase }], guard := none }) (v := ?_) rfl (by kernel_rfl) (by kernel_rfl) (by kernel_rfl) (fun _ _ _ h => h) (Or.inl ⟨by rfl, ?_⟩) (by assumption) ?_
    rotate_left
    · (intro w hSw; go_simp; try with_reducible rfl)
    try simp only [Act.put, List.setIfInBounds_toArray, List.set_cons_zero, List.set_cons_succ]
    refine wpAnyH_at (l' := #[true, true, true, true, true, true, true, true, true, true, true, true, true, true, true, true, true, true, true, true, true, true, true, true, true, true, true, true, true, true, true, true, true, true, true, true, true, true, true, true, true, true, true, true, true, true, true, true, true, true, true, true, true, true, true, true, true, true, true, true]) (by kernel_rfl) ?_
    refine wpAnyH_done (by kernel_rfl) ?_ _
    go_wp2_with fail
    go_ret
    exact ⟨rfl, Q.below (by assumption)⟩
  refine wp_region_held_drew (S := Q w) (by kernel_rfl) (Q.drew hq') (fun hHeld => ?_)
  refine wpAnyH_from (n' := 60) (l' := #[false, false, false, false, false, false, false, false, false, false, false, false, false, false, false, false, false, false, false, false, false, false, false, false, false, false, false, false, false, false, false, false, false, false, false, false, false, false, false, false, false, false, false, false, false, false, false, false, false, false, false, false, false, false, false, false, false, false, false, false]) (by kernel_rfl) (by kernel_rfl) ?_
  refine wpAnyH_take (i := 0) (oi := { dst := some 24, op := Op.move (Operand.tmp 1), type := 33, pos := "law.go:41", after := #[], guard := none }) (v := ?_) rfl (by kernel_rfl) (by kernel_rfl) (by kernel_rfl) (fun _ _ _ h => h) (Or.inl ⟨by rfl, ?_⟩) (by assumption) ?_
  rotate_left
  · (intro w hSw; go_simp; try with_reducible rfl)
  try simp only [Act.put, List.setIfInBounds_toArray, List.set_cons_zero, List.set_cons_succ]
  refine wpAnyH_at (l' := #[true, false, false, false, false, false, false, false, false, false, false, false, false, false, false, false, false, false, false, false, false, false, false, false, false, false, false, false, false, false, false, false, false, false, false, false, false, false, false, false, false, false, false, false, false, false, false, false, false, false, false, false, false, false, false, false, false, false, false, false]) (by kernel_rfl) ?_
  refine wpAnyH_ready (rs := [1]) (by kernel_rfl) (by simp) ?_
  refine AllReadyH.cons (o := { dst := some 25, op := Op.call { callee := Callee.value (Operand.func 21), args := #[Operand.tmp 24], argTypes := #[33] }, type := 33, pos := "law.go:41", after := #[{ on := 0, ground := Ground.data }], guard := none }) rfl (fun K hK => ?_) AllReadyH.nil
  go_simp
  first
    | (go_at_call 21; refine (copyh_nil _).mono ?_; rintro e w' ⟨rfl, rfl⟩)
    | (go_at_call 22; refine (sumh_nil _).mono ?_; rintro e w' ⟨rfl, rfl⟩)
    | (go_at_call 14; ((with_reducible refine (sum_e _).mono ?_); rintro e w' ⟨rfl, rfl⟩))
    | (go_at_call 14; ((with_reducible refine (sum_f _).mono ?_); rintro e w' ⟨rfl, rfl⟩))
    | (go_at_call 14; ((with_reducible refine (sum_z _).mono ?_); rintro e w' ⟨rfl, rfl⟩))
    | (go_at_call 18; ((with_reducible refine (text_e _ ?_).mono ?_); focus (with_reducible exact Q.libs (by assumption))); rintro e w' ⟨rfl, hb⟩)
    | (go_at_call 18; ((with_reducible refine (text_f _ ?_).mono ?_); focus (with_reducible exact Q.libs (by assumption))); rintro e w' ⟨rfl, hb⟩)
    | (go_at_call 18; ((with_reducible refine (text_0 _ ?_).mono ?_); focus (with_reducible exact Q.libs (by assumption))); rintro e w' ⟨rfl, hb⟩)
    | (go_at_call 18; ((with_reducible refine (text_m _ ?_).mono ?_); focus (with_reducible exact Q.libs (by assumption))); rintro e w' ⟨rfl, hb⟩)
    | (go_at_call 16; ((with_reducible refine (of_nil _).mono ?_); rintro e w' ⟨rfl, hb⟩))
    | (go_at_call 16; ((with_reducible refine (of_e _ _ ?_).mono ?_); focus (first | exact (cellR (by first | rfl | simp) 0).trans rfl | exact (World.cell?_alloc_lt _ _ _ (by simp)).trans ((cellR (by first | rfl | simp) 0).trans rfl))); rintro e w' ⟨rfl, hb⟩; (first | have hz8 := (Z8.below ((Z8.new _).alloc _) hb) | (have hz8 := (Z8.below (Z8.new _) hb); simp at hz8) | have hz8 := (Z8.below (Z8.new _) hb) | skip))
    | (go_at_call 11; refine (AW.out _ ?_).mono ?_; (with_reducible exact Q.libs (by assumption)); rintro e w' ⟨rfl, hb⟩)
  refine hK.out _ _ (by first | (with_reducible exact Q.alloc (by assumption) _) | (with_reducible exact Q.step (by assumption) hb) | assumption) (fun hHeld => ?_)
  clear hK K
  try simp only [Act.put, List.setIfInBounds_toArray, List.set_cons_zero, List.set_cons_succ]
  refine wpAnyH_at (l' := #[true, true, false, false, false, false, false, false, false, false, false, false, false, false, false, false, false, false, false, false, false, false, false, false, false, false, false, false, false, false, false, false, false, false, false, false, false, false, false, false, false, false, false, false, false, false, false, false, false, false, false, false, false, false, false, false, false, false, false, false]) (by kernel_rfl) ?_
  refine wpAnyH_take (i := 2) (oi := { dst := some 26, op := Op.binOp BinOp.eql 33 (Operand.tmp 25) (Operand.const (Value.pointer none)) 33, type := 4, pos := "law.go:41", after := #[{ on := 1, ground := Ground.data }], guard := none }) (v := ?_) rfl (by kernel_rfl) (by kernel_rfl) (by kernel_rfl) (fun _ _ _ h => h) (Or.inl ⟨by rfl, ?_⟩) (by assumption) ?_
  rotate_left
  · (intro w hSw; go_simp; try with_reducible rfl)
  try simp only [Act.put, List.setIfInBounds_toArray, List.set_cons_zero, List.set_cons_succ]
  refine wpAnyH_at (l' := #[true, true, true, false, false, false, false, false, false, false, false, false, false, false, false, false, false, false, false, false, false, false, false, false, false, false, false, false, false, false, false, false, false, false, false, false, false, false, false, false, false, false, false, false, false, false, false, false, false, false, false, false, false, false, false, false, false, false, false, false]) (by kernel_rfl) ?_
  refine wpAnyH_take (i := 3) (oi := { dst := some 27, op := Op.move (Operand.tmp 26), type := 4, pos := "law.go:41", after := #[{ on := 2, ground := Ground.data }, { on := 1, ground := Ground.chain }], guard := none }) (v := ?_) rfl (by kernel_rfl) (by kernel_rfl) (by kernel_rfl) (fun _ _ _ h => h) (Or.inl ⟨by rfl, ?_⟩) (by assumption) ?_
  rotate_left
  · (intro w hSw; go_simp; try with_reducible rfl)
  try simp only [Act.put, List.setIfInBounds_toArray, List.set_cons_zero, List.set_cons_succ]
  refine wpAnyH_at (l' := #[true, true, true, true, false, false, false, false, false, false, false, false, false, false, false, false, false, false, false, false, false, false, false, false, false, false, false, false, false, false, false, false, false, false, false, false, false, false, false, false, false, false, false, false, false, false, false, false, false, false, false, false, false, false, false, false, false, false, false, false]) (by kernel_rfl) ?_
  refine wpAnyH_take (i := 4) (oi := { dst := some 28, op := Op.move (Operand.tmp 1), type := 33, pos := "law.go:41", after := #[{ on := 3, ground := Ground.guard }], guard := some (3, true) }) (v := ?_) rfl (by kernel_rfl) (by kernel_rfl) (by kernel_rfl) (fun _ _ _ h => h) (Or.inl ⟨by rfl, ?_⟩) (by assumption) ?_
  rotate_left
  · (intro w hSw; go_simp; try with_reducible rfl)
  try simp only [Act.put, List.setIfInBounds_toArray, List.set_cons_zero, List.set_cons_succ]
  refine wpAnyH_at (l' := #[true, true, true, true, true, false, false, false, false, false, false, false, false, false, false, false, false, false, false, false, false, false, false, false, false, false, false, false, false, false, false, false, false, false, false, false, false, false, false, false, false, false, false, false, false, false, false, false, false, false, false, false, false, false, false, false, false, false, false, false]) (by kernel_rfl) ?_
  refine wpAnyH_ready (rs := [5]) (by kernel_rfl) (by simp) ?_
  refine AllReadyH.cons (o := { dst := some 29, op := Op.call { callee := Callee.value (Operand.func 22), args := #[Operand.tmp 28], argTypes := #[33] }, type := 23, pos := "law.go:41", after := #[{ on := 4, ground := Ground.data }, { on := 3, ground := Ground.chain }, { on := 3, ground := Ground.guard }], guard := some (3, true) }) rfl (fun K hK => ?_) AllReadyH.nil
  go_simp
  first
    | (go_at_call 21; refine (copyh_nil _).mono ?_; rintro e w' ⟨rfl, rfl⟩)
    | (go_at_call 22; refine (sumh_nil _).mono ?_; rintro e w' ⟨rfl, rfl⟩)
    | (go_at_call 14; ((with_reducible refine (sum_e _).mono ?_); rintro e w' ⟨rfl, rfl⟩))
    | (go_at_call 14; ((with_reducible refine (sum_f _).mono ?_); rintro e w' ⟨rfl, rfl⟩))
    | (go_at_call 14; ((with_reducible refine (sum_z _).mono ?_); rintro e w' ⟨rfl, rfl⟩))
    | (go_at_call 18; ((with_reducible refine (text_e _ ?_).mono ?_); focus (with_reducible exact Q.libs (by assumption))); rintro e w' ⟨rfl, hb⟩)
    | (go_at_call 18; ((with_reducible refine (text_f _ ?_).mono ?_); focus (with_reducible exact Q.libs (by assumption))); rintro e w' ⟨rfl, hb⟩)
    | (go_at_call 18; ((with_reducible refine (text_0 _ ?_).mono ?_); focus (with_reducible exact Q.libs (by assumption))); rintro e w' ⟨rfl, hb⟩)
    | (go_at_call 18; ((with_reducible refine (text_m _ ?_).mono ?_); focus (with_reducible exact Q.libs (by assumption))); rintro e w' ⟨rfl, hb⟩)
    | (go_at_call 16; ((with_reducible refine (of_nil _).mono ?_); rintro e w' ⟨rfl, hb⟩))
    | (go_at_call 16; ((with_reducible refine (of_e _ _ ?_).mono ?_); focus (first | exact (cellR (by first | rfl | simp) 0).trans rfl | exact (World.cell?_alloc_lt _ _ _ (by simp)).trans ((cellR (by first | rfl | simp) 0).trans rfl))); rintro e w' ⟨rfl, hb⟩; (first | have hz8 := (Z8.below ((Z8.new _).alloc _) hb) | (have hz8 := (Z8.below (Z8.new _) hb); simp at hz8) | have hz8 := (Z8.below (Z8.new _) hb) | skip))
    | (go_at_call 11; refine (AW.out _ ?_).mono ?_; (with_reducible exact Q.libs (by assumption)); rintro e w' ⟨rfl, hb⟩)
  refine hK.out _ _ (by first | (with_reducible exact Q.alloc (by assumption) _) | (with_reducible exact Q.step (by assumption) hb) | assumption) (fun hHeld => ?_)
  clear hK K
  try simp only [Act.put, List.setIfInBounds_toArray, List.set_cons_zero, List.set_cons_succ]
  refine wpAnyH_at (l' := #[true, true, true, true, true, true, false, false, false, false, false, false, false, false, false, false, false, false, false, false, false, false, false, false, false, false, false, false, false, false, false, false, false, false, false, false, false, false, false, false, false, false, false, false, false, false, false, false, false, false, false, false, false, false, false, false, false, false, false, false]) (by kernel_rfl) ?_
  refine wpAnyH_ready (rs := [6]) (by kernel_rfl) (by simp) ?_
  refine AllReadyH.cons (o := { dst := some 30, op := Op.call { callee := Callee.value (Operand.func 18), args := #[Operand.tmp 29], argTypes := #[23] }, type := 9, pos := "law.go:41", after := #[{ on := 5, ground := Ground.data }, { on := 5, ground := Ground.chain }, { on := 3, ground := Ground.guard }], guard := some (3, true) }) rfl (fun K hK => ?_) AllReadyH.nil
  go_simp
  first
    | (go_at_call 21; refine (copyh_nil _).mono ?_; rintro e w' ⟨rfl, rfl⟩)
    | (go_at_call 22; refine (sumh_nil _).mono ?_; rintro e w' ⟨rfl, rfl⟩)
    | (go_at_call 14; ((with_reducible refine (sum_e _).mono ?_); rintro e w' ⟨rfl, rfl⟩))
    | (go_at_call 14; ((with_reducible refine (sum_f _).mono ?_); rintro e w' ⟨rfl, rfl⟩))
    | (go_at_call 14; ((with_reducible refine (sum_z _).mono ?_); rintro e w' ⟨rfl, rfl⟩))
    | (go_at_call 18; ((with_reducible refine (text_e _ ?_).mono ?_); focus (with_reducible exact Q.libs (by assumption))); rintro e w' ⟨rfl, hb⟩)
    | (go_at_call 18; ((with_reducible refine (text_f _ ?_).mono ?_); focus (with_reducible exact Q.libs (by assumption))); rintro e w' ⟨rfl, hb⟩)
    | (go_at_call 18; ((with_reducible refine (text_0 _ ?_).mono ?_); focus (with_reducible exact Q.libs (by assumption))); rintro e w' ⟨rfl, hb⟩)
    | (go_at_call 18; ((with_reducible refine (text_m _ ?_).mono ?_); focus (with_reducible exact Q.libs (by assumption))); rintro e w' ⟨rfl, hb⟩)
    | (go_at_call 16; ((with_reducible refine (of_nil _).mono ?_); rintro e w' ⟨rfl, hb⟩))
    | (go_at_call 16; ((with_reducible refine (of_e _ _ ?_).mono ?_); focus (first | exact (cellR (by first | rfl | simp) 0).trans rfl | exact (World.cell?_alloc_lt _ _ _ (by simp)).trans ((cellR (by first | rfl | simp) 0).trans rfl))); rintro e w' ⟨rfl, hb⟩; (first | have hz8 := (Z8.below ((Z8.new _).alloc _) hb) | (have hz8 := (Z8.below (Z8.new _) hb); simp at hz8) | have hz8 := (Z8.below (Z8.new _) hb) | skip))
    | (go_at_call 11; refine (AW.out _ ?_).mono ?_; (with_reducible exact Q.libs (by assumption)); rintro e w' ⟨rfl, hb⟩)
  refine hK.out _ _ (by first | (with_reducible exact Q.alloc (by assumption) _) | (with_reducible exact Q.step (by assumption) hb) | assumption) (fun hHeld => ?_)
  clear hK K
  try simp only [Act.put, List.setIfInBounds_toArray, List.set_cons_zero, List.set_cons_succ]
  refine wpAnyH_at (l' := #[true, true, true, true, true, true, true, false, false, false, false, false, false, false, false, false, false, false, false, false, false, false, false, false, false, false, false, false, false, false, false, false, false, false, false, false, false, false, false, false, false, false, false, false, false, false, false, false, false, false, false, false, false, false, false, false, false, false, false, false]) (by kernel_rfl) ?_
  refine wpAnyH_take (i := 7) (oi := { dst := some 31, op := Op.binOp BinOp.eql 9 (Operand.tmp 30) (Operand.const (Value.string { data := #[99, 98, 102, 50, 57, 99, 101, 52, 56, 52, 50, 50, 50, 51, 50, 53] })) 9, type := 4, pos := "law.go:41", after := #[{ on := 6, ground := Ground.data }, { on := 3, ground := Ground.guard }], guard := some (3, true) }) (v := ?_) rfl (by kernel_rfl) (by kernel_rfl) (by kernel_rfl) (fun _ _ _ h => h) (Or.inl ⟨by rfl, ?_⟩) (by assumption) ?_
  rotate_left
  · (intro w hSw; go_simp; try with_reducible rfl)
  try simp only [Act.put, List.setIfInBounds_toArray, List.set_cons_zero, List.set_cons_succ]
  refine wpAnyH_at (l' := #[true, true, true, true, true, true, true, true, false, false, false, false, false, false, false, false, false, false, false, false, false, false, false, false, false, false, false, false, false, false, false, false, false, false, false, false, false, false, false, false, false, false, false, false, false, false, false, false, false, false, false, false, false, false, false, false, false, false, false, false]) (by kernel_rfl) ?_
  refine wpAnyH_take (i := 8) (oi := { dst := some 32, op := Op.pick (Operand.tmp 27) (Operand.tmp 31) (Operand.const (Value.bool false)), type := 4, pos := "law.go:41", after := #[{ on := 3, ground := Ground.data }, { on := 7, ground := Ground.data }], guard := none }) (v := ?_) rfl (by kernel_rfl) (by kernel_rfl) (by kernel_rfl) (fun _ _ _ h => h) (Or.inl ⟨by rfl, ?_⟩) (by assumption) ?_
  rotate_left
  · (intro w hSw; go_simp; try with_reducible rfl)
  try simp only [Act.put, List.setIfInBounds_toArray, List.set_cons_zero, List.set_cons_succ]
  refine wpAnyH_at (l' := #[true, true, true, true, true, true, true, true, true, false, false, false, false, false, false, false, false, false, false, false, false, false, false, false, false, false, false, false, false, false, false, false, false, false, false, false, false, false, false, false, false, false, false, false, false, false, false, false, false, false, false, false, false, false, false, false, false, false, false, false]) (by kernel_rfl) ?_
  refine wpAnyH_take (i := 9) (oi := { dst := some 33, op := Op.move (Operand.tmp 32), type := 4, pos := "law.go:41", after := #[{ on := 8, ground := Ground.data }, { on := 6, ground := Ground.chain }], guard := none }) (v := ?_) rfl (by kernel_rfl) (by kernel_rfl) (by kernel_rfl) (fun _ _ _ h => h) (Or.inl ⟨by rfl, ?_⟩) (by assumption) ?_
  rotate_left
  · (intro w hSw; go_simp; try with_reducible rfl)
  try simp only [Act.put, List.setIfInBounds_toArray, List.set_cons_zero, List.set_cons_succ]
  refine wpAnyH_at (l' := #[true, true, true, true, true, true, true, true, true, true, false, false, false, false, false, false, false, false, false, false, false, false, false, false, false, false, false, false, false, false, false, false, false, false, false, false, false, false, false, false, false, false, false, false, false, false, false, false, false, false, false, false, false, false, false, false, false, false, false, false]) (by kernel_rfl) ?_
  refine wpAnyH_ready (rs := [10]) (by kernel_rfl) (by simp) ?_
  refine AllReadyH.cons (o := { dst := some 34, op := Op.call { callee := Callee.value (Operand.func 14), args := #[Operand.const (Value.string { data := #[] })], argTypes := #[9] }, type := 23, pos := "law.go:41", after := #[{ on := 9, ground := Ground.chain }, { on := 9, ground := Ground.guard }], guard := some (9, true) }) rfl (fun K hK => ?_) AllReadyH.nil
  go_simp
  first
    | (go_at_call 21; refine (copyh_nil _).mono ?_; rintro e w' ⟨rfl, rfl⟩)
    | (go_at_call 22; refine (sumh_nil _).mono ?_; rintro e w' ⟨rfl, rfl⟩)
    | (go_at_call 14; ((with_reducible refine (sum_e _).mono ?_); rintro e w' ⟨rfl, rfl⟩))
    | (go_at_call 14; ((with_reducible refine (sum_f _).mono ?_); rintro e w' ⟨rfl, rfl⟩))
    | (go_at_call 14; ((with_reducible refine (sum_z _).mono ?_); rintro e w' ⟨rfl, rfl⟩))
    | (go_at_call 18; ((with_reducible refine (text_e _ ?_).mono ?_); focus (with_reducible exact Q.libs (by assumption))); rintro e w' ⟨rfl, hb⟩)
    | (go_at_call 18; ((with_reducible refine (text_f _ ?_).mono ?_); focus (with_reducible exact Q.libs (by assumption))); rintro e w' ⟨rfl, hb⟩)
    | (go_at_call 18; ((with_reducible refine (text_0 _ ?_).mono ?_); focus (with_reducible exact Q.libs (by assumption))); rintro e w' ⟨rfl, hb⟩)
    | (go_at_call 18; ((with_reducible refine (text_m _ ?_).mono ?_); focus (with_reducible exact Q.libs (by assumption))); rintro e w' ⟨rfl, hb⟩)
    | (go_at_call 16; ((with_reducible refine (of_nil _).mono ?_); rintro e w' ⟨rfl, hb⟩))
    | (go_at_call 16; ((with_reducible refine (of_e _ _ ?_).mono ?_); focus (first | exact (cellR (by first | rfl | simp) 0).trans rfl | exact (World.cell?_alloc_lt _ _ _ (by simp)).trans ((cellR (by first | rfl | simp) 0).trans rfl))); rintro e w' ⟨rfl, hb⟩; (first | have hz8 := (Z8.below ((Z8.new _).alloc _) hb) | (have hz8 := (Z8.below (Z8.new _) hb); simp at hz8) | have hz8 := (Z8.below (Z8.new _) hb) | skip))
    | (go_at_call 11; refine (AW.out _ ?_).mono ?_; (with_reducible exact Q.libs (by assumption)); rintro e w' ⟨rfl, hb⟩)
  refine hK.out _ _ (by first | (with_reducible exact Q.alloc (by assumption) _) | (with_reducible exact Q.step (by assumption) hb) | assumption) (fun hHeld => ?_)
  clear hK K
  try simp only [Act.put, List.setIfInBounds_toArray, List.set_cons_zero, List.set_cons_succ]
  refine wpAnyH_at (l' := #[true, true, true, true, true, true, true, true, true, true, true, false, false, false, false, false, false, false, false, false, false, false, false, false, false, false, false, false, false, false, false, false, false, false, false, false, false, false, false, false, false, false, false, false, false, false, false, false, false, false, false, false, false, false, false, false, false, false, false, false]) (by kernel_rfl) ?_
  refine wpAnyH_ready (rs := [11]) (by kernel_rfl) (by simp) ?_
  refine AllReadyH.cons (o := { dst := some 35, op := Op.call { callee := Callee.value (Operand.func 18), args := #[Operand.tmp 34], argTypes := #[23] }, type := 9, pos := "law.go:41", after := #[{ on := 10, ground := Ground.data }, { on := 10, ground := Ground.chain }, { on := 9, ground := Ground.guard }], guard := some (9, true) }) rfl (fun K hK => ?_) AllReadyH.nil
  go_simp
  first
    | (go_at_call 21; refine (copyh_nil _).mono ?_; rintro e w' ⟨rfl, rfl⟩)
    | (go_at_call 22; refine (sumh_nil _).mono ?_; rintro e w' ⟨rfl, rfl⟩)
    | (go_at_call 14; ((with_reducible refine (sum_e _).mono ?_); rintro e w' ⟨rfl, rfl⟩))
    | (go_at_call 14; ((with_reducible refine (sum_f _).mono ?_); rintro e w' ⟨rfl, rfl⟩))
    | (go_at_call 14; ((with_reducible refine (sum_z _).mono ?_); rintro e w' ⟨rfl, rfl⟩))
    | (go_at_call 18; ((with_reducible refine (text_e _ ?_).mono ?_); focus (with_reducible exact Q.libs (by assumption))); rintro e w' ⟨rfl, hb⟩)
    | (go_at_call 18; ((with_reducible refine (text_f _ ?_).mono ?_); focus (with_reducible exact Q.libs (by assumption))); rintro e w' ⟨rfl, hb⟩)
    | (go_at_call 18; ((with_reducible refine (text_0 _ ?_).mono ?_); focus (with_reducible exact Q.libs (by assumption))); rintro e w' ⟨rfl, hb⟩)
    | (go_at_call 18; ((with_reducible refine (text_m _ ?_).mono ?_); focus (with_reducible exact Q.libs (by assumption))); rintro e w' ⟨rfl, hb⟩)
    | (go_at_call 16; ((with_reducible refine (of_nil _).mono ?_); rintro e w' ⟨rfl, hb⟩))
    | (go_at_call 16; ((with_reducible refine (of_e _ _ ?_).mono ?_); focus (first | exact (cellR (by first | rfl | simp) 0).trans rfl | exact (World.cell?_alloc_lt _ _ _ (by simp)).trans ((cellR (by first | rfl | simp) 0).trans rfl))); rintro e w' ⟨rfl, hb⟩; (first | have hz8 := (Z8.below ((Z8.new _).alloc _) hb) | (have hz8 := (Z8.below (Z8.new _) hb); simp at hz8) | have hz8 := (Z8.below (Z8.new _) hb) | skip))
    | (go_at_call 11; refine (AW.out _ ?_).mono ?_; (with_reducible exact Q.libs (by assumption)); rintro e w' ⟨rfl, hb⟩)
  refine hK.out _ _ (by first | (with_reducible exact Q.alloc (by assumption) _) | (with_reducible exact Q.step (by assumption) hb) | assumption) (fun hHeld => ?_)
  clear hK K
  try simp only [Act.put, List.setIfInBounds_toArray, List.set_cons_zero, List.set_cons_succ]
  refine wpAnyH_at (l' := #[true, true, true, true, true, true, true, true, true, true, true, true, false, false, false, false, false, false, false, false, false, false, false, false, false, false, false, false, false, false, false, false, false, false, false, false, false, false, false, false, false, false, false, false, false, false, false, false, false, false, false, false, false, false, false, false, false, false, false, false]) (by kernel_rfl) ?_
  refine wpAnyH_take (i := 12) (oi := { dst := some 36, op := Op.binOp BinOp.eql 9 (Operand.tmp 35) (Operand.const (Value.string { data := #[99, 98, 102, 50, 57, 99, 101, 52, 56, 52, 50, 50, 50, 51, 50, 53] })) 9, type := 4, pos := "law.go:41", after := #[{ on := 11, ground := Ground.data }, { on := 9, ground := Ground.guard }], guard := some (9, true) }) (v := ?_) rfl (by kernel_rfl) (by kernel_rfl) (by kernel_rfl) (fun _ _ _ h => h) (Or.inl ⟨by rfl, ?_⟩) (by assumption) ?_
  rotate_left
  · (intro w hSw; go_simp; try with_reducible rfl)
  try simp only [Act.put, List.setIfInBounds_toArray, List.set_cons_zero, List.set_cons_succ]
  refine wpAnyH_at (l' := #[true, true, true, true, true, true, true, true, true, true, true, true, true, false, false, false, false, false, false, false, false, false, false, false, false, false, false, false, false, false, false, false, false, false, false, false, false, false, false, false, false, false, false, false, false, false, false, false, false, false, false, false, false, false, false, false, false, false, false, false]) (by kernel_rfl) ?_
  refine wpAnyH_take (i := 13) (oi := { dst := some 37, op := Op.pick (Operand.tmp 33) (Operand.tmp 36) (Operand.const (Value.bool false)), type := 4, pos := "law.go:41", after := #[{ on := 9, ground := Ground.data }, { on := 12, ground := Ground.data }], guard := none }) (v := ?_) rfl (by kernel_rfl) (by kernel_rfl) (by kernel_rfl) (fun _ _ _ h => h) (Or.inl ⟨by rfl, ?_⟩) (by assumption) ?_
  rotate_left
  · (intro w hSw; go_simp; try with_reducible rfl)
  try simp only [Act.put, List.setIfInBounds_toArray, List.set_cons_zero, List.set_cons_succ]
  refine wpAnyH_at (l' := #[true, true, true, true, true, true, true, true, true, true, true, true, true, true, false, false, false, false, false, false, false, false, false, false, false, false, false, false, false, false, false, false, false, false, false, false, false, false, false, false, false, false, false, false, false, false, false, false, false, false, false, false, false, false, false, false, false, false, false, false]) (by kernel_rfl) ?_
  refine wpAnyH_take (i := 14) (oi := { dst := some 38, op := Op.move (Operand.tmp 37), type := 4, pos := "law.go:41", after := #[{ on := 13, ground := Ground.data }, { on := 11, ground := Ground.chain }], guard := none }) (v := ?_) rfl (by kernel_rfl) (by kernel_rfl) (by kernel_rfl) (fun _ _ _ h => h) (Or.inl ⟨by rfl, ?_⟩) (by assumption) ?_
  rotate_left
  · (intro w hSw; go_simp; try with_reducible rfl)
  try simp only [Act.put, List.setIfInBounds_toArray, List.set_cons_zero, List.set_cons_succ]
  refine wpAnyH_at (l' := #[true, true, true, true, true, true, true, true, true, true, true, true, true, true, true, false, false, false, false, false, false, false, false, false, false, false, false, false, false, false, false, false, false, false, false, false, false, false, false, false, false, false, false, false, false, false, false, false, false, false, false, false, false, false, false, false, false, false, false, false]) (by kernel_rfl) ?_
  refine wpAnyH_ready (rs := [15]) (by kernel_rfl) (by simp) ?_
  refine AllReadyH.cons (o := { dst := some 39, op := Op.call { callee := Callee.value (Operand.func 14), args := #[Operand.const (Value.string { data := #[102, 111, 111, 98, 97, 114] })], argTypes := #[9] }, type := 23, pos := "law.go:41", after := #[{ on := 14, ground := Ground.chain }, { on := 14, ground := Ground.guard }], guard := some (14, true) }) rfl (fun K hK => ?_) AllReadyH.nil
  go_simp
  first
    | (go_at_call 21; refine (copyh_nil _).mono ?_; rintro e w' ⟨rfl, rfl⟩)
    | (go_at_call 22; refine (sumh_nil _).mono ?_; rintro e w' ⟨rfl, rfl⟩)
    | (go_at_call 14; ((with_reducible refine (sum_e _).mono ?_); rintro e w' ⟨rfl, rfl⟩))
    | (go_at_call 14; ((with_reducible refine (sum_f _).mono ?_); rintro e w' ⟨rfl, rfl⟩))
    | (go_at_call 14; ((with_reducible refine (sum_z _).mono ?_); rintro e w' ⟨rfl, rfl⟩))
    | (go_at_call 18; ((with_reducible refine (text_e _ ?_).mono ?_); focus (with_reducible exact Q.libs (by assumption))); rintro e w' ⟨rfl, hb⟩)
    | (go_at_call 18; ((with_reducible refine (text_f _ ?_).mono ?_); focus (with_reducible exact Q.libs (by assumption))); rintro e w' ⟨rfl, hb⟩)
    | (go_at_call 18; ((with_reducible refine (text_0 _ ?_).mono ?_); focus (with_reducible exact Q.libs (by assumption))); rintro e w' ⟨rfl, hb⟩)
    | (go_at_call 18; ((with_reducible refine (text_m _ ?_).mono ?_); focus (with_reducible exact Q.libs (by assumption))); rintro e w' ⟨rfl, hb⟩)
    | (go_at_call 16; ((with_reducible refine (of_nil _).mono ?_); rintro e w' ⟨rfl, hb⟩))
    | (go_at_call 16; ((with_reducible refine (of_e _ _ ?_).mono ?_); focus (first | exact (cellR (by first | rfl | simp) 0).trans rfl | exact (World.cell?_alloc_lt _ _ _ (by simp)).trans ((cellR (by first | rfl | simp) 0).trans rfl))); rintro e w' ⟨rfl, hb⟩; (first | have hz8 := (Z8.below ((Z8.new _).alloc _) hb) | (have hz8 := (Z8.below (Z8.new _) hb); simp at hz8) | have hz8 := (Z8.below (Z8.new _) hb) | skip))
    | (go_at_call 11; refine (AW.out _ ?_).mono ?_; (with_reducible exact Q.libs (by assumption)); rintro e w' ⟨rfl, hb⟩)
  refine hK.out _ _ (by first | (with_reducible exact Q.alloc (by assumption) _) | (with_reducible exact Q.step (by assumption) hb) | assumption) (fun hHeld => ?_)
  clear hK K
  try simp only [Act.put, List.setIfInBounds_toArray, List.set_cons_zero, List.set_cons_succ]
  refine wpAnyH_at (l' := #[true, true, true, true, true, true, true, true, true, true, true, true, true, true, true, true, false, false, false, false, false, false, false, false, false, false, false, false, false, false, false, false, false, false, false, false, false, false, false, false, false, false, false, false, false, false, false, false, false, false, false, false, false, false, false, false, false, false, false, false]) (by kernel_rfl) ?_
  refine wpAnyH_ready (rs := [16]) (by kernel_rfl) (by simp) ?_
  refine AllReadyH.cons (o := { dst := some 40, op := Op.call { callee := Callee.value (Operand.func 18), args := #[Operand.tmp 39], argTypes := #[23] }, type := 9, pos := "law.go:41", after := #[{ on := 15, ground := Ground.data }, { on := 15, ground := Ground.chain }, { on := 14, ground := Ground.guard }], guard := some (14, true) }) rfl (fun K hK => ?_) AllReadyH.nil
  go_simp
  first
    | (go_at_call 21; refine (copyh_nil _).mono ?_; rintro e w' ⟨rfl, rfl⟩)
    | (go_at_call 22; refine (sumh_nil _).mono ?_; rintro e w' ⟨rfl, rfl⟩)
    | (go_at_call 14; ((with_reducible refine (sum_e _).mono ?_); rintro e w' ⟨rfl, rfl⟩))
    | (go_at_call 14; ((with_reducible refine (sum_f _).mono ?_); rintro e w' ⟨rfl, rfl⟩))
    | (go_at_call 14; ((with_reducible refine (sum_z _).mono ?_); rintro e w' ⟨rfl, rfl⟩))
    | (go_at_call 18; ((with_reducible refine (text_e _ ?_).mono ?_); focus (with_reducible exact Q.libs (by assumption))); rintro e w' ⟨rfl, hb⟩)
    | (go_at_call 18; ((with_reducible refine (text_f _ ?_).mono ?_); focus (with_reducible exact Q.libs (by assumption))); rintro e w' ⟨rfl, hb⟩)
    | (go_at_call 18; ((with_reducible refine (text_0 _ ?_).mono ?_); focus (with_reducible exact Q.libs (by assumption))); rintro e w' ⟨rfl, hb⟩)
    | (go_at_call 18; ((with_reducible refine (text_m _ ?_).mono ?_); focus (with_reducible exact Q.libs (by assumption))); rintro e w' ⟨rfl, hb⟩)
    | (go_at_call 16; ((with_reducible refine (of_nil _).mono ?_); rintro e w' ⟨rfl, hb⟩))
    | (go_at_call 16; ((with_reducible refine (of_e _ _ ?_).mono ?_); focus (first | exact (cellR (by first | rfl | simp) 0).trans rfl | exact (World.cell?_alloc_lt _ _ _ (by simp)).trans ((cellR (by first | rfl | simp) 0).trans rfl))); rintro e w' ⟨rfl, hb⟩; (first | have hz8 := (Z8.below ((Z8.new _).alloc _) hb) | (have hz8 := (Z8.below (Z8.new _) hb); simp at hz8) | have hz8 := (Z8.below (Z8.new _) hb) | skip))
    | (go_at_call 11; refine (AW.out _ ?_).mono ?_; (with_reducible exact Q.libs (by assumption)); rintro e w' ⟨rfl, hb⟩)
  refine hK.out _ _ (by first | (with_reducible exact Q.alloc (by assumption) _) | (with_reducible exact Q.step (by assumption) hb) | assumption) (fun hHeld => ?_)
  clear hK K
  try simp only [Act.put, List.setIfInBounds_toArray, List.set_cons_zero, List.set_cons_succ]
  refine wpAnyH_at (l' := #[true, true, true, true, true, true, true, true, true, true, true, true, true, true, true, true, true, false, false, false, false, false, false, false, false, false, false, false, false, false, false, false, false, false, false, false, false, false, false, false, false, false, false, false, false, false, false, false, false, false, false, false, false, false, false, false, false, false, false, false]) (by kernel_rfl) ?_
  refine wpAnyH_take (i := 17) (oi := { dst := some 41, op := Op.binOp BinOp.eql 9 (Operand.tmp 40) (Operand.const (Value.string { data := #[56, 53, 57, 52, 52, 49, 55, 49, 102, 55, 51, 57, 54, 55, 101, 56] })) 9, type := 4, pos := "law.go:41", after := #[{ on := 16, ground := Ground.data }, { on := 14, ground := Ground.guard }], guard := some (14, true) }) (v := ?_) rfl (by kernel_rfl) (by kernel_rfl) (by kernel_rfl) (fun _ _ _ h => h) (Or.inl ⟨by rfl, ?_⟩) (by assumption) ?_
  rotate_left
  · (intro w hSw; go_simp; try with_reducible rfl)
  try simp only [Act.put, List.setIfInBounds_toArray, List.set_cons_zero, List.set_cons_succ]
  refine wpAnyH_at (l' := #[true, true, true, true, true, true, true, true, true, true, true, true, true, true, true, true, true, true, false, false, false, false, false, false, false, false, false, false, false, false, false, false, false, false, false, false, false, false, false, false, false, false, false, false, false, false, false, false, false, false, false, false, false, false, false, false, false, false, false, false]) (by kernel_rfl) ?_
  refine wpAnyH_take (i := 18) (oi := { dst := some 42, op := Op.pick (Operand.tmp 38) (Operand.tmp 41) (Operand.const (Value.bool false)), type := 4, pos := "law.go:41", after := #[{ on := 14, ground := Ground.data }, { on := 17, ground := Ground.data }], guard := none }) (v := ?_) rfl (by kernel_rfl) (by kernel_rfl) (by kernel_rfl) (fun _ _ _ h => h) (Or.inl ⟨by rfl, ?_⟩) (by assumption) ?_
  rotate_left
  · (intro w hSw; go_simp; try with_reducible rfl)
  try simp only [Act.put, List.setIfInBounds_toArray, List.set_cons_zero, List.set_cons_succ]
  refine wpAnyH_at (l' := #[true, true, true, true, true, true, true, true, true, true, true, true, true, true, true, true, true, true, true, false, false, false, false, false, false, false, false, false, false, false, false, false, false, false, false, false, false, false, false, false, false, false, false, false, false, false, false, false, false, false, false, false, false, false, false, false, false, false, false, false]) (by kernel_rfl) ?_
  refine wpAnyH_take (i := 19) (oi := { dst := some 43, op := Op.move (Operand.tmp 42), type := 4, pos := "law.go:41", after := #[{ on := 18, ground := Ground.data }, { on := 16, ground := Ground.chain }], guard := none }) (v := ?_) rfl (by kernel_rfl) (by kernel_rfl) (by kernel_rfl) (fun _ _ _ h => h) (Or.inl ⟨by rfl, ?_⟩) (by assumption) ?_
  rotate_left
  · (intro w hSw; go_simp; try with_reducible rfl)
  try simp only [Act.put, List.setIfInBounds_toArray, List.set_cons_zero, List.set_cons_succ]
  refine wpAnyH_at (l' := #[true, true, true, true, true, true, true, true, true, true, true, true, true, true, true, true, true, true, true, true, false, false, false, false, false, false, false, false, false, false, false, false, false, false, false, false, false, false, false, false, false, false, false, false, false, false, false, false, false, false, false, false, false, false, false, false, false, false, false, false]) (by kernel_rfl) ?_
  refine wpAnyH_ready (rs := [20]) (by kernel_rfl) (by simp) ?_
  refine AllReadyH.cons (o := { dst := some 44, op := Op.call { callee := Callee.value (Operand.func 16), args := #[Operand.const (Value.slice none 0 0)], argTypes := #[22] }, type := 23, pos := "law.go:41", after := #[{ on := 19, ground := Ground.chain }, { on := 19, ground := Ground.guard }], guard := some (19, true) }) rfl (fun K hK => ?_) AllReadyH.nil
  go_simp
  first
    | (go_at_call 21; refine (copyh_nil _).mono ?_; rintro e w' ⟨rfl, rfl⟩)
    | (go_at_call 22; refine (sumh_nil _).mono ?_; rintro e w' ⟨rfl, rfl⟩)
    | (go_at_call 14; ((with_reducible refine (sum_e _).mono ?_); rintro e w' ⟨rfl, rfl⟩))
    | (go_at_call 14; ((with_reducible refine (sum_f _).mono ?_); rintro e w' ⟨rfl, rfl⟩))
    | (go_at_call 14; ((with_reducible refine (sum_z _).mono ?_); rintro e w' ⟨rfl, rfl⟩))
    | (go_at_call 18; ((with_reducible refine (text_e _ ?_).mono ?_); focus (with_reducible exact Q.libs (by assumption))); rintro e w' ⟨rfl, hb⟩)
    | (go_at_call 18; ((with_reducible refine (text_f _ ?_).mono ?_); focus (with_reducible exact Q.libs (by assumption))); rintro e w' ⟨rfl, hb⟩)
    | (go_at_call 18; ((with_reducible refine (text_0 _ ?_).mono ?_); focus (with_reducible exact Q.libs (by assumption))); rintro e w' ⟨rfl, hb⟩)
    | (go_at_call 18; ((with_reducible refine (text_m _ ?_).mono ?_); focus (with_reducible exact Q.libs (by assumption))); rintro e w' ⟨rfl, hb⟩)
    | (go_at_call 16; ((with_reducible refine (of_nil _).mono ?_); rintro e w' ⟨rfl, hb⟩))
    | (go_at_call 16; ((with_reducible refine (of_e _ _ ?_).mono ?_); focus (first | exact (cellR (by first | rfl | simp) 0).trans rfl | exact (World.cell?_alloc_lt _ _ _ (by simp)).trans ((cellR (by first | rfl | simp) 0).trans rfl))); rintro e w' ⟨rfl, hb⟩; (first | have hz8 := (Z8.below ((Z8.new _).alloc _) hb) | (have hz8 := (Z8.below (Z8.new _) hb); simp at hz8) | have hz8 := (Z8.below (Z8.new _) hb) | skip))
    | (go_at_call 11; refine (AW.out _ ?_).mono ?_; (with_reducible exact Q.libs (by assumption)); rintro e w' ⟨rfl, hb⟩)
  refine hK.out _ _ (by first | (with_reducible exact Q.alloc (by assumption) _) | (with_reducible exact Q.step (by assumption) hb) | assumption) (fun hHeld => ?_)
  clear hK K
  try simp only [Act.put, List.setIfInBounds_toArray, List.set_cons_zero, List.set_cons_succ]
  refine wpAnyH_at (l' := #[true, true, true, true, true, true, true, true, true, true, true, true, true, true, true, true, true, true, true, true, true, false, false, false, false, false, false, false, false, false, false, false, false, false, false, false, false, false, false, false, false, false, false, false, false, false, false, false, false, false, false, false, false, false, false, false, false, false, false, false]) (by kernel_rfl) ?_
  refine wpAnyH_ready (rs := [21]) (by kernel_rfl) (by simp) ?_
  refine AllReadyH.cons (o := { dst := some 45, op := Op.call { callee := Callee.value (Operand.func 14), args := #[Operand.const (Value.string { data := #[] })], argTypes := #[9] }, type := 23, pos := "law.go:41", after := #[{ on := 20, ground := Ground.chain }, { on := 19, ground := Ground.guard }], guard := some (19, true) }) rfl (fun K hK => ?_) AllReadyH.nil
  go_simp
  first
    | (go_at_call 21; refine (copyh_nil _).mono ?_; rintro e w' ⟨rfl, rfl⟩)
    | (go_at_call 22; refine (sumh_nil _).mono ?_; rintro e w' ⟨rfl, rfl⟩)
    | (go_at_call 14; ((with_reducible refine (sum_e _).mono ?_); rintro e w' ⟨rfl, rfl⟩))
    | (go_at_call 14; ((with_reducible refine (sum_f _).mono ?_); rintro e w' ⟨rfl, rfl⟩))
    | (go_at_call 14; ((with_reducible refine (sum_z _).mono ?_); rintro e w' ⟨rfl, rfl⟩))
    | (go_at_call 18; ((with_reducible refine (text_e _ ?_).mono ?_); focus (with_reducible exact Q.libs (by assumption))); rintro e w' ⟨rfl, hb⟩)
    | (go_at_call 18; ((with_reducible refine (text_f _ ?_).mono ?_); focus (with_reducible exact Q.libs (by assumption))); rintro e w' ⟨rfl, hb⟩)
    | (go_at_call 18; ((with_reducible refine (text_0 _ ?_).mono ?_); focus (with_reducible exact Q.libs (by assumption))); rintro e w' ⟨rfl, hb⟩)
    | (go_at_call 18; ((with_reducible refine (text_m _ ?_).mono ?_); focus (with_reducible exact Q.libs (by assumption))); rintro e w' ⟨rfl, hb⟩)
    | (go_at_call 16; ((with_reducible refine (of_nil _).mono ?_); rintro e w' ⟨rfl, hb⟩))
    | (go_at_call 16; ((with_reducible refine (of_e _ _ ?_).mono ?_); focus (first | exact (cellR (by first | rfl | simp) 0).trans rfl | exact (World.cell?_alloc_lt _ _ _ (by simp)).trans ((cellR (by first | rfl | simp) 0).trans rfl))); rintro e w' ⟨rfl, hb⟩; (first | have hz8 := (Z8.below ((Z8.new _).alloc _) hb) | (have hz8 := (Z8.below (Z8.new _) hb); simp at hz8) | have hz8 := (Z8.below (Z8.new _) hb) | skip))
    | (go_at_call 11; refine (AW.out _ ?_).mono ?_; (with_reducible exact Q.libs (by assumption)); rintro e w' ⟨rfl, hb⟩)
  refine hK.out _ _ (by first | (with_reducible exact Q.alloc (by assumption) _) | (with_reducible exact Q.step (by assumption) hb) | assumption) (fun hHeld => ?_)
  clear hK K
  try simp only [Act.put, List.setIfInBounds_toArray, List.set_cons_zero, List.set_cons_succ]
  refine wpAnyH_at (l' := #[true, true, true, true, true, true, true, true, true, true, true, true, true, true, true, true, true, true, true, true, true, true, false, false, false, false, false, false, false, false, false, false, false, false, false, false, false, false, false, false, false, false, false, false, false, false, false, false, false, false, false, false, false, false, false, false, false, false, false, false]) (by kernel_rfl) ?_
  refine wpAnyH_take (i := 22) (oi := { dst := some 46, op := Op.binOp BinOp.eql 23 (Operand.tmp 44) (Operand.tmp 45) 23, type := 4, pos := "law.go:41", after := #[{ on := 20, ground := Ground.data }, { on := 21, ground := Ground.data }, { on := 19, ground := Ground.guard }], guard := some (19, true) }) (v := ?_) rfl (by kernel_rfl) (by kernel_rfl) (by kernel_rfl) (fun _ _ _ h => h) (Or.inl ⟨by rfl, ?_⟩) (by assumption) ?_
  rotate_left
  · (intro w hSw; go_simp; try with_reducible rfl)
  try simp only [Act.put, List.setIfInBounds_toArray, List.set_cons_zero, List.set_cons_succ]
  refine wpAnyH_at (l' := #[true, true, true, true, true, true, true, true, true, true, true, true, true, true, true, true, true, true, true, true, true, true, true, false, false, false, false, false, false, false, false, false, false, false, false, false, false, false, false, false, false, false, false, false, false, false, false, false, false, false, false, false, false, false, false, false, false, false, false, false]) (by kernel_rfl) ?_
  refine wpAnyH_take (i := 23) (oi := { dst := some 47, op := Op.pick (Operand.tmp 43) (Operand.tmp 46) (Operand.const (Value.bool false)), type := 4, pos := "law.go:41", after := #[{ on := 19, ground := Ground.data }, { on := 22, ground := Ground.data }], guard := none }) (v := ?_) rfl (by kernel_rfl) (by kernel_rfl) (by kernel_rfl) (fun _ _ _ h => h) (Or.inl ⟨by rfl, ?_⟩) (by assumption) ?_
  rotate_left
  · (intro w hSw; go_simp; try with_reducible rfl)
  try simp only [Act.put, List.setIfInBounds_toArray, List.set_cons_zero, List.set_cons_succ]
  refine wpAnyH_at (l' := #[true, true, true, true, true, true, true, true, true, true, true, true, true, true, true, true, true, true, true, true, true, true, true, true, false, false, false, false, false, false, false, false, false, false, false, false, false, false, false, false, false, false, false, false, false, false, false, false, false, false, false, false, false, false, false, false, false, false, false, false]) (by kernel_rfl) ?_
  refine wpAnyH_take (i := 24) (oi := { dst := some 48, op := Op.move (Operand.tmp 47), type := 4, pos := "law.go:41", after := #[{ on := 23, ground := Ground.data }, { on := 21, ground := Ground.chain }], guard := none }) (v := ?_) rfl (by kernel_rfl) (by kernel_rfl) (by kernel_rfl) (fun _ _ _ h => h) (Or.inl ⟨by rfl, ?_⟩) (by assumption) ?_
  rotate_left
  · (intro w hSw; go_simp; try with_reducible rfl)
  try simp only [Act.put, List.setIfInBounds_toArray, List.set_cons_zero, List.set_cons_succ]
  refine wpAnyH_at (l' := #[true, true, true, true, true, true, true, true, true, true, true, true, true, true, true, true, true, true, true, true, true, true, true, true, true, false, false, false, false, false, false, false, false, false, false, false, false, false, false, false, false, false, false, false, false, false, false, false, false, false, false, false, false, false, false, false, false, false, false, false]) (by kernel_rfl) ?_
  refine wpAnyH_ready (rs := [25, 27]) (by kernel_rfl) (by simp) ?_
  refine AllReadyH.cons (o := { dst := some 49, op := Op.buildSlice 22 1 #[(0, Operand.const (Value.string { data := #[] }))], type := 22, pos := "law.go:41", after := #[{ on := 24, ground := Ground.guard }], guard := some (24, true) }) rfl (fun K hK => ?_) ?_
  · go_simp
    refine hK.out _ _ (by first | (with_reducible exact Q.alloc (by assumption) _) | (with_reducible exact Q.step (by assumption) hb) | assumption) (fun hHeld => ?_)
    clear hK K
    try simp only [Act.put, List.setIfInBounds_toArray, List.set_cons_zero, List.set_cons_succ]
    refine wpAnyH_at (l' := #[true, true, true, true, true, true, true, true, true, true, true, true, true, true, true, true, true, true, true, true, true, true, true, true, true, true, false, false, false, false, false, false, false, false, false, false, false, false, false, false, false, false, false, false, false, false, false, false, false, false, false, false, false, false, false, false, false, false, false, false]) (by kernel_rfl) ?_
    refine wpAnyH_ready (rs := [26, 27]) (by kernel_rfl) (by simp) ?_
    refine AllReadyH.cons (o := { dst := some 50, op := Op.call { callee := Callee.value (Operand.func 16), args := #[Operand.tmp 49], argTypes := #[22] }, type := 23, pos := "law.go:41", after := #[{ on := 25, ground := Ground.data }, { on := 24, ground := Ground.chain }, { on := 24, ground := Ground.guard }], guard := some (24, true) }) rfl (fun K hK => ?_) ?_
    · go_simp
      first
        | (go_at_call 21; refine (copyh_nil _).mono ?_; rintro e w' ⟨rfl, rfl⟩)
        | (go_at_call 22; refine (sumh_nil _).mono ?_; rintro e w' ⟨rfl, rfl⟩)
        | (go_at_call 14; ((with_reducible refine (sum_e _).mono ?_); rintro e w' ⟨rfl, rfl⟩))
        | (go_at_call 14; ((with_reducible refine (sum_f _).mono ?_); rintro e w' ⟨rfl, rfl⟩))
        | (go_at_call 14; ((with_reducible refine (sum_z _).mono ?_); rintro e w' ⟨rfl, rfl⟩))
        | (go_at_call 18; ((with_reducible refine (text_e _ ?_).mono ?_); focus (with_reducible exact Q.libs (by assumption))); rintro e w' ⟨rfl, hb⟩)
        | (go_at_call 18; ((with_reducible refine (text_f _ ?_).mono ?_); focus (with_reducible exact Q.libs (by assumption))); rintro e w' ⟨rfl, hb⟩)
        | (go_at_call 18; ((with_reducible refine (text_0 _ ?_).mono ?_); focus (with_reducible exact Q.libs (by assumption))); rintro e w' ⟨rfl, hb⟩)
        | (go_at_call 18; ((with_reducible refine (text_m _ ?_).mono ?_); focus (with_reducible exact Q.libs (by assumption))); rintro e w' ⟨rfl, hb⟩)
        | (go_at_call 16; ((with_reducible refine (of_nil _).mono ?_); rintro e w' ⟨rfl, hb⟩))
        | (go_at_call 16; ((with_reducible refine (of_e _ _ ?_).mono ?_); focus (first | exact (cellR (by first | rfl | simp) 0).trans rfl | exact (World.cell?_alloc_lt _ _ _ (by simp)).trans ((cellR (by first | rfl | simp) 0).trans rfl))); rintro e w' ⟨rfl, hb⟩; (first | have hz8 := (Z8.below ((Z8.new _).alloc _) hb) | (have hz8 := (Z8.below (Z8.new _) hb); simp at hz8) | have hz8 := (Z8.below (Z8.new _) hb) | skip))
        | (go_at_call 11; refine (AW.out _ ?_).mono ?_; (with_reducible exact Q.libs (by assumption)); rintro e w' ⟨rfl, hb⟩)
      refine hK.out _ _ (by first | (with_reducible exact Q.alloc (by assumption) _) | (with_reducible exact Q.step (by assumption) hb) | assumption) (fun hHeld => ?_)
      clear hK K
      try simp only [Act.put, List.setIfInBounds_toArray, List.set_cons_zero, List.set_cons_succ]
      refine wpAnyH_at (l' := #[true, true, true, true, true, true, true, true, true, true, true, true, true, true, true, true, true, true, true, true, true, true, true, true, true, true, true, false, false, false, false, false, false, false, false, false, false, false, false, false, false, false, false, false, false, false, false, false, false, false, false, false, false, false, false, false, false, false, false, false]) (by kernel_rfl) ?_
      refine wpAnyH_ready (rs := [27]) (by kernel_rfl) (by simp) ?_
      refine AllReadyH.cons (o := { dst := some 51, op := Op.makeSlice 35 (Operand.const (Value.int IntKind.i64 8)) (Operand.const (Value.int IntKind.i64 8)), type := 35, pos := "law.go:41", after := #[{ on := 24, ground := Ground.guard }], guard := some (24, true) }) rfl (fun K hK => ?_) AllReadyH.nil
      go_simp
      refine hK.out _ _ (by first | (with_reducible exact Q.alloc (by assumption) _) | (with_reducible exact Q.step (by assumption) hb) | assumption) (fun hHeld => ?_)
      clear hK K
      try simp only [Act.put, List.setIfInBounds_toArray, List.set_cons_zero, List.set_cons_succ]
      refine wpAnyH_at (l' := #[true, true, true, true, true, true, true, true, true, true, true, true, true, true, true, true, true, true, true, true, true, true, true, true, true, true, true, true, false, false, false, false, false, false, false, false, false, false, false, false, false, false, false, false, false, false, false, false, false, false, false, false, false, false, false, false, false, false, false, false]) (by kernel_rfl) ?_
      refine wpAnyH_ready (rs := [28]) (by kernel_rfl) (by simp) ?_
      refine AllReadyH.cons (o := { dst := some 52, op := Op.convert 35 9 (Operand.tmp 51), type := 9, pos := "law.go:41", after := #[{ on := 27, ground := Ground.data }, { on := 24, ground := Ground.guard }], guard := some (24, true) }) rfl (fun K hK => ?_) AllReadyH.nil
      go_simp
      refine hK.out _ _ (by first | (with_reducible exact Q.alloc (by assumption) _) | (with_reducible exact Q.step (by assumption) hb) | assumption) (fun hHeld => ?_)
      clear hK K
      try simp only [Act.put, List.setIfInBounds_toArray, List.set_cons_zero, List.set_cons_succ]
      refine wpAnyH_at (l' := #[true, true, true, true, true, true, true, true, true, true, true, true, true, true, true, true, true, true, true, true, true, true, true, true, true, true, true, true, true, false, false, false, false, false, false, false, false, false, false, false, false, false, false, false, false, false, false, false, false, false, false, false, false, false, false, false, false, false, false, false]) (by kernel_rfl) ?_
      refine wpAnyH_ready (rs := [29]) (by kernel_rfl) (by simp) ?_
      refine AllReadyH.cons (o := { dst := some 53, op := Op.call { callee := Callee.value (Operand.func 14), args := #[Operand.tmp 52], argTypes := #[9] }, type := 23, pos := "law.go:41", after := #[{ on := 28, ground := Ground.data }, { on := 26, ground := Ground.chain }, { on := 24, ground := Ground.guard }], guard := some (24, true) }) rfl (fun K hK => ?_) AllReadyH.nil
      go_simp
      first
        | (go_at_call 21; refine (copyh_nil _).mono ?_; rintro e w' ⟨rfl, rfl⟩)
        | (go_at_call 22; refine (sumh_nil _).mono ?_; rintro e w' ⟨rfl, rfl⟩)
        | (go_at_call 14; ((with_reducible refine (sum_e _).mono ?_); rintro e w' ⟨rfl, rfl⟩))
        | (go_at_call 14; ((with_reducible refine (sum_f _).mono ?_); rintro e w' ⟨rfl, rfl⟩))
        | (go_at_call 14; ((with_reducible refine (sum_z _).mono ?_); rintro e w' ⟨rfl, rfl⟩))
        | (go_at_call 18; ((with_reducible refine (text_e _ ?_).mono ?_); focus (with_reducible exact Q.libs (by assumption))); rintro e w' ⟨rfl, hb⟩)
        | (go_at_call 18; ((with_reducible refine (text_f _ ?_).mono ?_); focus (with_reducible exact Q.libs (by assumption))); rintro e w' ⟨rfl, hb⟩)
        | (go_at_call 18; ((with_reducible refine (text_0 _ ?_).mono ?_); focus (with_reducible exact Q.libs (by assumption))); rintro e w' ⟨rfl, hb⟩)
        | (go_at_call 18; ((with_reducible refine (text_m _ ?_).mono ?_); focus (with_reducible exact Q.libs (by assumption))); rintro e w' ⟨rfl, hb⟩)
        | (go_at_call 16; ((with_reducible refine (of_nil _).mono ?_); rintro e w' ⟨rfl, hb⟩))
        | (go_at_call 16; ((with_reducible refine (of_e _ _ ?_).mono ?_); focus (first | exact (cellR (by first | rfl | simp) 0).trans rfl | exact (World.cell?_alloc_lt _ _ _ (by simp)).trans ((cellR (by first | rfl | simp) 0).trans rfl))); rintro e w' ⟨rfl, hb⟩; (first | have hz8 := (Z8.below ((Z8.new _).alloc _) hb) | (have hz8 := (Z8.below (Z8.new _) hb); simp at hz8) | have hz8 := (Z8.below (Z8.new _) hb) | skip))
        | (go_at_call 11; refine (AW.out _ ?_).mono ?_; (with_reducible exact Q.libs (by assumption)); rintro e w' ⟨rfl, hb⟩)
      refine hK.out _ _ (by first | (with_reducible exact Q.alloc (by assumption) _) | (with_reducible exact Q.step (by assumption) hb) | assumption) (fun hHeld => ?_)
      clear hK K
      try simp only [Act.put, List.setIfInBounds_toArray, List.set_cons_zero, List.set_cons_succ]
      refine wpAnyH_at (l' := #[true, true, true, true, true, true, true, true, true, true, true, true, true, true, true, true, true, true, true, true, true, true, true, true, true, true, true, true, true, true, false, false, false, false, false, false, false, false, false, false, false, false, false, false, false, false, false, false, false, false, false, false, false, false, false, false, false, false, false, false]) (by kernel_rfl) ?_
      refine wpAnyH_take (i := 30) (oi := { dst := some 54, op := Op.binOp BinOp.eql 23 (Operand.tmp 50) (Operand.tmp 53) 23, type := 4, pos := "law.go:41", after := #[{ on := 26, ground := Ground.data }, { on := 29, ground := Ground.data }, { on := 24, ground := Ground.guard }], guard := some (24, true) }) (v := ?_) rfl (by kernel_rfl) (by kernel_rfl) (by kernel_rfl) (fun _ _ _ h => h) (Or.inl ⟨by rfl, ?_⟩) (by assumption) ?_
      rotate_left
      · (intro w hSw; go_simp; try with_reducible rfl)
      try simp only [Act.put, List.setIfInBounds_toArray, List.set_cons_zero, List.set_cons_succ]
      refine wpAnyH_at (l' := #[true, true, true, true, true, true, true, true, true, true, true, true, true, true, true, true, true, true, true, true, true, true, true, true, true, true, true, true, true, true, true, false, false, false, false, false, false, false, false, false, false, false, false, false, false, false, false, false, false, false, false, false, false, false, false, false, false, false, false, false]) (by kernel_rfl) ?_
      refine wpAnyH_take (i := 31) (oi := { dst := some 55, op := Op.pick (Operand.tmp 48) (Operand.tmp 54) (Operand.const (Value.bool false)), type := 4, pos := "law.go:41", after := #[{ on := 24, ground := Ground.data }, { on := 30, ground := Ground.data }], guard := none }) (v := ?_) rfl (by kernel_rfl) (by kernel_rfl) (by kernel_rfl) (fun _ _ _ h => h) (Or.inl ⟨by rfl, ?_⟩) (by assumption) ?_
      rotate_left
      · (intro w hSw; go_simp; try with_reducible rfl)
      try simp only [Act.put, List.setIfInBounds_toArray, List.set_cons_zero, List.set_cons_succ]
      refine wpAnyH_at (l' := #[true, true, true, true, true, true, true, true, true, true, true, true, true, true, true, true, true, true, true, true, true, true, true, true, true, true, true, true, true, true, true, true, false, false, false, false, false, false, false, false, false, false, false, false, false, false, false, false, false, false, false, false, false, false, false, false, false, false, false, false]) (by kernel_rfl) ?_
      exact rest _ _ _ (by assumption)
    refine AllReadyH.cons (o := { dst := some 51, op := Op.makeSlice 35 (Operand.const (Value.int IntKind.i64 8)) (Operand.const (Value.int IntKind.i64 8)), type := 35, pos := "law.go:41", after := #[{ on := 24, ground := Ground.guard }], guard := some (24, true) }) rfl (fun K hK => ?_) ?_
    · go_simp
      refine hK.out _ _ (by first | (with_reducible exact Q.alloc (by assumption) _) | (with_reducible exact Q.step (by assumption) hb) | assumption) (fun hHeld => ?_)
      clear hK K
      try simp only [Act.put, List.setIfInBounds_toArray, List.set_cons_zero, List.set_cons_succ]
      refine wpAnyH_at (l' := #[true, true, true, true, true, true, true, true, true, true, true, true, true, true, true, true, true, true, true, true, true, true, true, true, true, true, false, true, false, false, false, false, false, false, false, false, false, false, false, false, false, false, false, false, false, false, false, false, false, false, false, false, false, false, false, false, false, false, false, false]) (by kernel_rfl) ?_
      refine wpAnyH_ready (rs := [26, 28]) (by kernel_rfl) (by simp) ?_
      refine AllReadyH.cons (o := { dst := some 50, op := Op.call { callee := Callee.value (Operand.func 16), args := #[Operand.tmp 49], argTypes := #[22] }, type := 23, pos := "law.go:41", after := #[{ on := 25, ground := Ground.data }, { on := 24, ground := Ground.chain }, { on := 24, ground := Ground.guard }], guard := some (24, true) }) rfl (fun K hK => ?_) ?_
      · go_simp
        first
          | (go_at_call 21; refine (copyh_nil _).mono ?_; rintro e w' ⟨rfl, rfl⟩)
          | (go_at_call 22; refine (sumh_nil _).mono ?_; rintro e w' ⟨rfl, rfl⟩)
          | (go_at_call 14; ((with_reducible refine (sum_e _).mono ?_); rintro e w' ⟨rfl, rfl⟩))
          | (go_at_call 14; ((with_reducible refine (sum_f _).mono ?_); rintro e w' ⟨rfl, rfl⟩))
          | (go_at_call 14; ((with_reducible refine (sum_z _).mono ?_); rintro e w' ⟨rfl, rfl⟩))
          | (go_at_call 18; ((with_reducible refine (text_e _ ?_).mono ?_); focus (with_reducible exact Q.libs (by assumption))); rintro e w' ⟨rfl, hb⟩)
          | (go_at_call 18; ((with_reducible refine (text_f _ ?_).mono ?_); focus (with_reducible exact Q.libs (by assumption))); rintro e w' ⟨rfl, hb⟩)
          | (go_at_call 18; ((with_reducible refine (text_0 _ ?_).mono ?_); focus (with_reducible exact Q.libs (by assumption))); rintro e w' ⟨rfl, hb⟩)
          | (go_at_call 18; ((with_reducible refine (text_m _ ?_).mono ?_); focus (with_reducible exact Q.libs (by assumption))); rintro e w' ⟨rfl, hb⟩)
          | (go_at_call 16; ((with_reducible refine (of_nil _).mono ?_); rintro e w' ⟨rfl, hb⟩))
          | (go_at_call 16; ((with_reducible refine (of_e _ _ ?_).mono ?_); focus (first | exact (cellR (by first | rfl | simp) 0).trans rfl | exact (World.cell?_alloc_lt _ _ _ (by simp)).trans ((cellR (by first | rfl | simp) 0).trans rfl))); rintro e w' ⟨rfl, hb⟩; (first | have hz8 := (Z8.below ((Z8.new _).alloc _) hb) | (have hz8 := (Z8.below (Z8.new _) hb); simp at hz8) | have hz8 := (Z8.below (Z8.new _) hb) | skip))
          | (go_at_call 11; refine (AW.out _ ?_).mono ?_; (with_reducible exact Q.libs (by assumption)); rintro e w' ⟨rfl, hb⟩)
        refine hK.out _ _ (by first | (with_reducible exact Q.alloc (by assumption) _) | (with_reducible exact Q.step (by assumption) hb) | assumption) (fun hHeld => ?_)
        clear hK K
        try simp only [Act.put, List.setIfInBounds_toArray, List.set_cons_zero, List.set_cons_succ]
        refine wpAnyH_at (l' := #[true, true, true, true, true, true, true, true, true, true, true, true, true, true, true, true, true, true, true, true, true, true, true, true, true, true, true, true, false, false, false, false, false, false, false, false, false, false, false, false, false, false, false, false, false, false, false, false, false, false, false, false, false, false, false, false, false, false, false, false]) (by kernel_rfl) ?_
        refine wpAnyH_ready (rs := [28]) (by kernel_rfl) (by simp) ?_
        refine AllReadyH.cons (o := { dst := some 52, op := Op.convert 35 9 (Operand.tmp 51), type := 9, pos := "law.go:41", after := #[{ on := 27, ground := Ground.data }, { on := 24, ground := Ground.guard }], guard := some (24, true) }) rfl (fun K hK => ?_) AllReadyH.nil
        go_simp
        refine hK.out _ _ (by first | (with_reducible exact Q.alloc (by assumption) _) | (with_reducible exact Q.step (by assumption) hb) | assumption) (fun hHeld => ?_)
        clear hK K
        try simp only [Act.put, List.setIfInBounds_toArray, List.set_cons_zero, List.set_cons_succ]
        refine wpAnyH_at (l' := #[true, true, true, true, true, true, true, true, true, true, true, true, true, true, true, true, true, true, true, true, true, true, true, true, true, true, true, true, true, false, false, false, false, false, false, false, false, false, false, false, false, false, false, false, false, false, false, false, false, false, false, false, false, false, false, false, false, false, false, false]) (by kernel_rfl) ?_
        refine wpAnyH_ready (rs := [29]) (by kernel_rfl) (by simp) ?_
        refine AllReadyH.cons (o := { dst := some 53, op := Op.call { callee := Callee.value (Operand.func 14), args := #[Operand.tmp 52], argTypes := #[9] }, type := 23, pos := "law.go:41", after := #[{ on := 28, ground := Ground.data }, { on := 26, ground := Ground.chain }, { on := 24, ground := Ground.guard }], guard := some (24, true) }) rfl (fun K hK => ?_) AllReadyH.nil
        go_simp
        first
          | (go_at_call 21; refine (copyh_nil _).mono ?_; rintro e w' ⟨rfl, rfl⟩)
          | (go_at_call 22; refine (sumh_nil _).mono ?_; rintro e w' ⟨rfl, rfl⟩)
          | (go_at_call 14; ((with_reducible refine (sum_e _).mono ?_); rintro e w' ⟨rfl, rfl⟩))
          | (go_at_call 14; ((with_reducible refine (sum_f _).mono ?_); rintro e w' ⟨rfl, rfl⟩))
          | (go_at_call 14; ((with_reducible refine (sum_z _).mono ?_); rintro e w' ⟨rfl, rfl⟩))
          | (go_at_call 18; ((with_reducible refine (text_e _ ?_).mono ?_); focus (with_reducible exact Q.libs (by assumption))); rintro e w' ⟨rfl, hb⟩)
          | (go_at_call 18; ((with_reducible refine (text_f _ ?_).mono ?_); focus (with_reducible exact Q.libs (by assumption))); rintro e w' ⟨rfl, hb⟩)
          | (go_at_call 18; ((with_reducible refine (text_0 _ ?_).mono ?_); focus (with_reducible exact Q.libs (by assumption))); rintro e w' ⟨rfl, hb⟩)
          | (go_at_call 18; ((with_reducible refine (text_m _ ?_).mono ?_); focus (with_reducible exact Q.libs (by assumption))); rintro e w' ⟨rfl, hb⟩)
          | (go_at_call 16; ((with_reducible refine (of_nil _).mono ?_); rintro e w' ⟨rfl, hb⟩))
          | (go_at_call 16; ((with_reducible refine (of_e _ _ ?_).mono ?_); focus (first | exact (cellR (by first | rfl | simp) 0).trans rfl | exact (World.cell?_alloc_lt _ _ _ (by simp)).trans ((cellR (by first | rfl | simp) 0).trans rfl))); rintro e w' ⟨rfl, hb⟩; (first | have hz8 := (Z8.below ((Z8.new _).alloc _) hb) | (have hz8 := (Z8.below (Z8.new _) hb); simp at hz8) | have hz8 := (Z8.below (Z8.new _) hb) | skip))
          | (go_at_call 11; refine (AW.out _ ?_).mono ?_; (with_reducible exact Q.libs (by assumption)); rintro e w' ⟨rfl, hb⟩)
        refine hK.out _ _ (by first | (with_reducible exact Q.alloc (by assumption) _) | (with_reducible exact Q.step (by assumption) hb) | assumption) (fun hHeld => ?_)
        clear hK K
        try simp only [Act.put, List.setIfInBounds_toArray, List.set_cons_zero, List.set_cons_succ]
        refine wpAnyH_at (l' := #[true, true, true, true, true, true, true, true, true, true, true, true, true, true, true, true, true, true, true, true, true, true, true, true, true, true, true, true, true, true, false, false, false, false, false, false, false, false, false, false, false, false, false, false, false, false, false, false, false, false, false, false, false, false, false, false, false, false, false, false]) (by kernel_rfl) ?_
        refine wpAnyH_take (i := 30) (oi := { dst := some 54, op := Op.binOp BinOp.eql 23 (Operand.tmp 50) (Operand.tmp 53) 23, type := 4, pos := "law.go:41", after := #[{ on := 26, ground := Ground.data }, { on := 29, ground := Ground.data }, { on := 24, ground := Ground.guard }], guard := some (24, true) }) (v := ?_) rfl (by kernel_rfl) (by kernel_rfl) (by kernel_rfl) (fun _ _ _ h => h) (Or.inl ⟨by rfl, ?_⟩) (by assumption) ?_
        rotate_left
        · (intro w hSw; go_simp; try with_reducible rfl)
        try simp only [Act.put, List.setIfInBounds_toArray, List.set_cons_zero, List.set_cons_succ]
        refine wpAnyH_at (l' := #[true, true, true, true, true, true, true, true, true, true, true, true, true, true, true, true, true, true, true, true, true, true, true, true, true, true, true, true, true, true, true, false, false, false, false, false, false, false, false, false, false, false, false, false, false, false, false, false, false, false, false, false, false, false, false, false, false, false, false, false]) (by kernel_rfl) ?_
        refine wpAnyH_take (i := 31) (oi := { dst := some 55, op := Op.pick (Operand.tmp 48) (Operand.tmp 54) (Operand.const (Value.bool false)), type := 4, pos := "law.go:41", after := #[{ on := 24, ground := Ground.data }, { on := 30, ground := Ground.data }], guard := none }) (v := ?_) rfl (by kernel_rfl) (by kernel_rfl) (by kernel_rfl) (fun _ _ _ h => h) (Or.inl ⟨by rfl, ?_⟩) (by assumption) ?_
        rotate_left
        · (intro w hSw; go_simp; try with_reducible rfl)
        try simp only [Act.put, List.setIfInBounds_toArray, List.set_cons_zero, List.set_cons_succ]
        refine wpAnyH_at (l' := #[true, true, true, true, true, true, true, true, true, true, true, true, true, true, true, true, true, true, true, true, true, true, true, true, true, true, true, true, true, true, true, true, false, false, false, false, false, false, false, false, false, false, false, false, false, false, false, false, false, false, false, false, false, false, false, false, false, false, false, false]) (by kernel_rfl) ?_
        exact rest _ _ _ (by assumption)
      refine AllReadyH.cons (o := { dst := some 52, op := Op.convert 35 9 (Operand.tmp 51), type := 9, pos := "law.go:41", after := #[{ on := 27, ground := Ground.data }, { on := 24, ground := Ground.guard }], guard := some (24, true) }) rfl (fun K hK => ?_) ?_
      · go_simp
        refine hK.out _ _ (by first | (with_reducible exact Q.alloc (by assumption) _) | (with_reducible exact Q.step (by assumption) hb) | assumption) (fun hHeld => ?_)
        clear hK K
        try simp only [Act.put, List.setIfInBounds_toArray, List.set_cons_zero, List.set_cons_succ]
        refine wpAnyH_at (l' := #[true, true, true, true, true, true, true, true, true, true, true, true, true, true, true, true, true, true, true, true, true, true, true, true, true, true, false, true, true, false, false, false, false, false, false, false, false, false, false, false, false, false, false, false, false, false, false, false, false, false, false, false, false, false, false, false, false, false, false, false]) (by kernel_rfl) ?_
        refine wpAnyH_ready (rs := [26]) (by kernel_rfl) (by simp) ?_
        refine AllReadyH.cons (o := { dst := some 50, op := Op.call { callee := Callee.value (Operand.func 16), args := #[Operand.tmp 49], argTypes := #[22] }, type := 23, pos := "law.go:41", after := #[{ on := 25, ground := Ground.data }, { on := 24, ground := Ground.chain }, { on := 24, ground := Ground.guard }], guard := some (24, true) }) rfl (fun K hK => ?_) AllReadyH.nil
        go_simp
        first
          | (go_at_call 21; refine (copyh_nil _).mono ?_; rintro e w' ⟨rfl, rfl⟩)
          | (go_at_call 22; refine (sumh_nil _).mono ?_; rintro e w' ⟨rfl, rfl⟩)
          | (go_at_call 14; ((with_reducible refine (sum_e _).mono ?_); rintro e w' ⟨rfl, rfl⟩))
          | (go_at_call 14; ((with_reducible refine (sum_f _).mono ?_); rintro e w' ⟨rfl, rfl⟩))
          | (go_at_call 14; ((with_reducible refine (sum_z _).mono ?_); rintro e w' ⟨rfl, rfl⟩))
          | (go_at_call 18; ((with_reducible refine (text_e _ ?_).mono ?_); focus (with_reducible exact Q.libs (by assumption))); rintro e w' ⟨rfl, hb⟩)
          | (go_at_call 18; ((with_reducible refine (text_f _ ?_).mono ?_); focus (with_reducible exact Q.libs (by assumption))); rintro e w' ⟨rfl, hb⟩)
          | (go_at_call 18; ((with_reducible refine (text_0 _ ?_).mono ?_); focus (with_reducible exact Q.libs (by assumption))); rintro e w' ⟨rfl, hb⟩)
          | (go_at_call 18; ((with_reducible refine (text_m _ ?_).mono ?_); focus (with_reducible exact Q.libs (by assumption))); rintro e w' ⟨rfl, hb⟩)
          | (go_at_call 16; ((with_reducible refine (of_nil _).mono ?_); rintro e w' ⟨rfl, hb⟩))
          | (go_at_call 16; ((with_reducible refine (of_e _ _ ?_).mono ?_); focus (first | exact (cellR (by first | rfl | simp) 0).trans rfl | exact (World.cell?_alloc_lt _ _ _ (by simp)).trans ((cellR (by first | rfl | simp) 0).trans rfl))); rintro e w' ⟨rfl, hb⟩; (first | have hz8 := (Z8.below ((Z8.new _).alloc _) hb) | (have hz8 := (Z8.below (Z8.new _) hb); simp at hz8) | have hz8 := (Z8.below (Z8.new _) hb) | skip))
          | (go_at_call 11; refine (AW.out _ ?_).mono ?_; (with_reducible exact Q.libs (by assumption)); rintro e w' ⟨rfl, hb⟩)
        refine hK.out _ _ (by first | (with_reducible exact Q.alloc (by assumption) _) | (with_reducible exact Q.step (by assumption) hb) | assumption) (fun hHeld => ?_)
        clear hK K
        try simp only [Act.put, List.setIfInBounds_toArray, List.set_cons_zero, List.set_cons_succ]
        refine wpAnyH_at (l' := #[true, true, true, true, true, true, true, true, true, true, true, true, true, true, true, true, true, true, true, true, true, true, true, true, true, true, true, true, true, false, false, false, false, false, false, false, false, false, false, false, false, false, false, false, false, false, false, false, false, false, false, false, false, false, false, false, false, false, false, false]) (by kernel_rfl) ?_
        refine wpAnyH_ready (rs := [29]) (by kernel_rfl) (by simp) ?_
        refine AllReadyH.cons (o := { dst := some 53, op := Op.call { callee := Callee.value (Operand.func 14), args := #[Operand.tmp 52], argTypes := #[9] }, type := 23, pos := "law.go:41", after := #[{ on := 28, ground := Ground.data }, { on := 26, ground := Ground.chain }, { on := 24, ground := Ground.guard }], guard := some (24, true) }) rfl (fun K hK => ?_) AllReadyH.nil
        go_simp
        first
          | (go_at_call 21; refine (copyh_nil _).mono ?_; rintro e w' ⟨rfl, rfl⟩)
          | (go_at_call 22; refine (sumh_nil _).mono ?_; rintro e w' ⟨rfl, rfl⟩)
          | (go_at_call 14; ((with_reducible refine (sum_e _).mono ?_); rintro e w' ⟨rfl, rfl⟩))
          | (go_at_call 14; ((with_reducible refine (sum_f _).mono ?_); rintro e w' ⟨rfl, rfl⟩))
          | (go_at_call 14; ((with_reducible refine (sum_z _).mono ?_); rintro e w' ⟨rfl, rfl⟩))
          | (go_at_call 18; ((with_reducible refine (text_e _ ?_).mono ?_); focus (with_reducible exact Q.libs (by assumption))); rintro e w' ⟨rfl, hb⟩)
          | (go_at_call 18; ((with_reducible refine (text_f _ ?_).mono ?_); focus (with_reducible exact Q.libs (by assumption))); rintro e w' ⟨rfl, hb⟩)
          | (go_at_call 18; ((with_reducible refine (text_0 _ ?_).mono ?_); focus (with_reducible exact Q.libs (by assumption))); rintro e w' ⟨rfl, hb⟩)
          | (go_at_call 18; ((with_reducible refine (text_m _ ?_).mono ?_); focus (with_reducible exact Q.libs (by assumption))); rintro e w' ⟨rfl, hb⟩)
          | (go_at_call 16; ((with_reducible refine (of_nil _).mono ?_); rintro e w' ⟨rfl, hb⟩))
          | (go_at_call 16; ((with_reducible refine (of_e _ _ ?_).mono ?_); focus (first | exact (cellR (by first | rfl | simp) 0).trans rfl | exact (World.cell?_alloc_lt _ _ _ (by simp)).trans ((cellR (by first | rfl | simp) 0).trans rfl))); rintro e w' ⟨rfl, hb⟩; (first | have hz8 := (Z8.below ((Z8.new _).alloc _) hb) | (have hz8 := (Z8.below (Z8.new _) hb); simp at hz8) | have hz8 := (Z8.below (Z8.new _) hb) | skip))
          | (go_at_call 11; refine (AW.out _ ?_).mono ?_; (with_reducible exact Q.libs (by assumption)); rintro e w' ⟨rfl, hb⟩)
        refine hK.out _ _ (by first | (with_reducible exact Q.alloc (by assumption) _) | (with_reducible exact Q.step (by assumption) hb) | assumption) (fun hHeld => ?_)
        clear hK K
        try simp only [Act.put, List.setIfInBounds_toArray, List.set_cons_zero, List.set_cons_succ]
        refine wpAnyH_at (l' := #[true, true, true, true, true, true, true, true, true, true, true, true, true, true, true, true, true, true, true, true, true, true, true, true, true, true, true, true, true, true, false, false, false, false, false, false, false, false, false, false, false, false, false, false, false, false, false, false, false, false, false, false, false, false, false, false, false, false, false, false]) (by kernel_rfl) ?_
        refine wpAnyH_take (i := 30) (oi := { dst := some 54, op := Op.binOp BinOp.eql 23 (Operand.tmp 50) (Operand.tmp 53) 23, type := 4, pos := "law.go:41", after := #[{ on := 26, ground := Ground.data }, { on := 29, ground := Ground.data }, { on := 24, ground := Ground.guard }], guard := some (24, true) }) (v := ?_) rfl (by kernel_rfl) (by kernel_rfl) (by kernel_rfl) (fun _ _ _ h => h) (Or.inl ⟨by rfl, ?_⟩) (by assumption) ?_
        rotate_left
        · (intro w hSw; go_simp; try with_reducible rfl)
        try simp only [Act.put, List.setIfInBounds_toArray, List.set_cons_zero, List.set_cons_succ]
        refine wpAnyH_at (l' := #[true, true, true, true, true, true, true, true, true, true, true, true, true, true, true, true, true, true, true, true, true, true, true, true, true, true, true, true, true, true, true, false, false, false, false, false, false, false, false, false, false, false, false, false, false, false, false, false, false, false, false, false, false, false, false, false, false, false, false, false]) (by kernel_rfl) ?_
        refine wpAnyH_take (i := 31) (oi := { dst := some 55, op := Op.pick (Operand.tmp 48) (Operand.tmp 54) (Operand.const (Value.bool false)), type := 4, pos := "law.go:41", after := #[{ on := 24, ground := Ground.data }, { on := 30, ground := Ground.data }], guard := none }) (v := ?_) rfl (by kernel_rfl) (by kernel_rfl) (by kernel_rfl) (fun _ _ _ h => h) (Or.inl ⟨by rfl, ?_⟩) (by assumption) ?_
        rotate_left
        · (intro w hSw; go_simp; try with_reducible rfl)
        try simp only [Act.put, List.setIfInBounds_toArray, List.set_cons_zero, List.set_cons_succ]
        refine wpAnyH_at (l' := #[true, true, true, true, true, true, true, true, true, true, true, true, true, true, true, true, true, true, true, true, true, true, true, true, true, true, true, true, true, true, true, true, false, false, false, false, false, false, false, false, false, false, false, false, false, false, false, false, false, false, false, false, false, false, false, false, false, false, false, false]) (by kernel_rfl) ?_
        exact rest _ _ _ (by assumption)
      exact AllReadyH.nil
    exact AllReadyH.nil
  refine AllReadyH.cons (o := { dst := some 51, op := Op.makeSlice 35 (Operand.const (Value.int IntKind.i64 8)) (Operand.const (Value.int IntKind.i64 8)), type := 35, pos := "law.go:41", after := #[{ on := 24, ground := Ground.guard }], guard := some (24, true) }) rfl (fun K hK => ?_) ?_
  · go_simp
    refine hK.out _ _ (by first | (with_reducible exact Q.alloc (by assumption) _) | (with_reducible exact Q.step (by assumption) hb) | assumption) (fun hHeld => ?_)
    clear hK K
    try simp only [Act.put, List.setIfInBounds_toArray, List.set_cons_zero, List.set_cons_succ]
    refine wpAnyH_at (l' := #[true, true, true, true, true, true, true, true, true, true, true, true, true, true, true, true, true, true, true, true, true, true, true, true, true, false, false, true, false, false, false, false, false, false, false, false, false, false, false, false, false, false, false, false, false, false, false, false, false, false, false, false, false, false, false, false, false, false, false, false]) (by kernel_rfl) ?_
    refine wpAnyH_ready (rs := [25, 28]) (by kernel_rfl) (by simp) ?_
    refine AllReadyH.cons (o := { dst := some 49, op := Op.buildSlice 22 1 #[(0, Operand.const (Value.string { data := #[] }))], type := 22, pos := "law.go:41", after := #[{ on := 24, ground := Ground.guard }], guard := some (24, true) }) rfl (fun K hK => ?_) ?_
    · go_simp
      refine hK.out _ _ (by first | (with_reducible exact Q.alloc (by assumption) _) | (with_reducible exact Q.step (by assumption) hb) | assumption) (fun hHeld => ?_)
      clear hK K
      try simp only [Act.put, List.setIfInBounds_toArray, List.set_cons_zero, List.set_cons_succ]
      refine wpAnyH_at (l' := #[true, true, true, true, true, true, true, true, true, true, true, true, true, true, true, true, true, true, true, true, true, true, true, true, true, true, false, true, false, false, false, false, false, false, false, false, false, false, false, false, false, false, false, false, false, false, false, false, false, false, false, false, false, false, false, false, false, false, false, false]) (by kernel_rfl) ?_
      refine wpAnyH_ready (rs := [26, 28]) (by kernel_rfl) (by simp) ?_
      refine AllReadyH.cons (o := { dst := some 50, op := Op.call { callee := Callee.value (Operand.func 16), args := #[Operand.tmp 49], argTypes := #[22] }, type := 23, pos := "law.go:41", after := #[{ on := 25, ground := Ground.data }, { on := 24, ground := Ground.chain }, { on := 24, ground := Ground.guard }], guard := some (24, true) }) rfl (fun K hK => ?_) ?_
      · go_simp
        first
          | (go_at_call 21; refine (copyh_nil _).mono ?_; rintro e w' ⟨rfl, rfl⟩)
          | (go_at_call 22; refine (sumh_nil _).mono ?_; rintro e w' ⟨rfl, rfl⟩)
          | (go_at_call 14; ((with_reducible refine (sum_e _).mono ?_); rintro e w' ⟨rfl, rfl⟩))
          | (go_at_call 14; ((with_reducible refine (sum_f _).mono ?_); rintro e w' ⟨rfl, rfl⟩))
          | (go_at_call 14; ((with_reducible refine (sum_z _).mono ?_); rintro e w' ⟨rfl, rfl⟩))
          | (go_at_call 18; ((with_reducible refine (text_e _ ?_).mono ?_); focus (with_reducible exact Q.libs (by assumption))); rintro e w' ⟨rfl, hb⟩)
          | (go_at_call 18; ((with_reducible refine (text_f _ ?_).mono ?_); focus (with_reducible exact Q.libs (by assumption))); rintro e w' ⟨rfl, hb⟩)
          | (go_at_call 18; ((with_reducible refine (text_0 _ ?_).mono ?_); focus (with_reducible exact Q.libs (by assumption))); rintro e w' ⟨rfl, hb⟩)
          | (go_at_call 18; ((with_reducible refine (text_m _ ?_).mono ?_); focus (with_reducible exact Q.libs (by assumption))); rintro e w' ⟨rfl, hb⟩)
          | (go_at_call 16; ((with_reducible refine (of_nil _).mono ?_); rintro e w' ⟨rfl, hb⟩))
          | (go_at_call 16; ((with_reducible refine (of_e _ _ ?_).mono ?_); focus (first | exact (cellR (by first | rfl | simp) 0).trans rfl | exact (World.cell?_alloc_lt _ _ _ (by simp)).trans ((cellR (by first | rfl | simp) 0).trans rfl))); rintro e w' ⟨rfl, hb⟩; (first | have hz8 := (Z8.below ((Z8.new _).alloc _) hb) | (have hz8 := (Z8.below (Z8.new _) hb); simp at hz8) | have hz8 := (Z8.below (Z8.new _) hb) | skip))
          | (go_at_call 11; refine (AW.out _ ?_).mono ?_; (with_reducible exact Q.libs (by assumption)); rintro e w' ⟨rfl, hb⟩)
        refine hK.out _ _ (by first | (with_reducible exact Q.alloc (by assumption) _) | (with_reducible exact Q.step (by assumption) hb) | assumption) (fun hHeld => ?_)
        clear hK K
        try simp only [Act.put, List.setIfInBounds_toArray, List.set_cons_zero, List.set_cons_succ]
        refine wpAnyH_at (l' := #[true, true, true, true, true, true, true, true, true, true, true, true, true, true, true, true, true, true, true, true, true, true, true, true, true, true, true, true, false, false, false, false, false, false, false, false, false, false, false, false, false, false, false, false, false, false, false, false, false, false, false, false, false, false, false, false, false, false, false, false]) (by kernel_rfl) ?_
        refine wpAnyH_ready (rs := [28]) (by kernel_rfl) (by simp) ?_
        refine AllReadyH.cons (o := { dst := some 52, op := Op.convert 35 9 (Operand.tmp 51), type := 9, pos := "law.go:41", after := #[{ on := 27, ground := Ground.data }, { on := 24, ground := Ground.guard }], guard := some (24, true) }) rfl (fun K hK => ?_) AllReadyH.nil
        go_simp
        refine hK.out _ _ (by first | (with_reducible exact Q.alloc (by assumption) _) | (with_reducible exact Q.step (by assumption) hb) | assumption) (fun hHeld => ?_)
        clear hK K
        try simp only [Act.put, List.setIfInBounds_toArray, List.set_cons_zero, List.set_cons_succ]
        refine wpAnyH_at (l' := #[true, true, true, true, true, true, true, true, true, true, true, true, true, true, true, true, true, true, true, true, true, true, true, true, true, true, true, true, true, false, false, false, false, false, false, false, false, false, false, false, false, false, false, false, false, false, false, false, false, false, false, false, false, false, false, false, false, false, false, false]) (by kernel_rfl) ?_
        refine wpAnyH_ready (rs := [29]) (by kernel_rfl) (by simp) ?_
        refine AllReadyH.cons (o := { dst := some 53, op := Op.call { callee := Callee.value (Operand.func 14), args := #[Operand.tmp 52], argTypes := #[9] }, type := 23, pos := "law.go:41", after := #[{ on := 28, ground := Ground.data }, { on := 26, ground := Ground.chain }, { on := 24, ground := Ground.guard }], guard := some (24, true) }) rfl (fun K hK => ?_) AllReadyH.nil
        go_simp
        first
          | (go_at_call 21; refine (copyh_nil _).mono ?_; rintro e w' ⟨rfl, rfl⟩)
          | (go_at_call 22; refine (sumh_nil _).mono ?_; rintro e w' ⟨rfl, rfl⟩)
          | (go_at_call 14; ((with_reducible refine (sum_e _).mono ?_); rintro e w' ⟨rfl, rfl⟩))
          | (go_at_call 14; ((with_reducible refine (sum_f _).mono ?_); rintro e w' ⟨rfl, rfl⟩))
          | (go_at_call 14; ((with_reducible refine (sum_z _).mono ?_); rintro e w' ⟨rfl, rfl⟩))
          | (go_at_call 18; ((with_reducible refine (text_e _ ?_).mono ?_); focus (with_reducible exact Q.libs (by assumption))); rintro e w' ⟨rfl, hb⟩)
          | (go_at_call 18; ((with_reducible refine (text_f _ ?_).mono ?_); focus (with_reducible exact Q.libs (by assumption))); rintro e w' ⟨rfl, hb⟩)
          | (go_at_call 18; ((with_reducible refine (text_0 _ ?_).mono ?_); focus (with_reducible exact Q.libs (by assumption))); rintro e w' ⟨rfl, hb⟩)
          | (go_at_call 18; ((with_reducible refine (text_m _ ?_).mono ?_); focus (with_reducible exact Q.libs (by assumption))); rintro e w' ⟨rfl, hb⟩)
          | (go_at_call 16; ((with_reducible refine (of_nil _).mono ?_); rintro e w' ⟨rfl, hb⟩))
          | (go_at_call 16; ((with_reducible refine (of_e _ _ ?_).mono ?_); focus (first | exact (cellR (by first | rfl | simp) 0).trans rfl | exact (World.cell?_alloc_lt _ _ _ (by simp)).trans ((cellR (by first | rfl | simp) 0).trans rfl))); rintro e w' ⟨rfl, hb⟩; (first | have hz8 := (Z8.below ((Z8.new _).alloc _) hb) | (have hz8 := (Z8.below (Z8.new _) hb); simp at hz8) | have hz8 := (Z8.below (Z8.new _) hb) | skip))
          | (go_at_call 11; refine (AW.out _ ?_).mono ?_; (with_reducible exact Q.libs (by assumption)); rintro e w' ⟨rfl, hb⟩)
        refine hK.out _ _ (by first | (with_reducible exact Q.alloc (by assumption) _) | (with_reducible exact Q.step (by assumption) hb) | assumption) (fun hHeld => ?_)
        clear hK K
        try simp only [Act.put, List.setIfInBounds_toArray, List.set_cons_zero, List.set_cons_succ]
        refine wpAnyH_at (l' := #[true, true, true, true, true, true, true, true, true, true, true, true, true, true, true, true, true, true, true, true, true, true, true, true, true, true, true, true, true, true, false, false, false, false, false, false, false, false, false, false, false, false, false, false, false, false, false, false, false, false, false, false, false, false, false, false, false, false, false, false]) (by kernel_rfl) ?_
        refine wpAnyH_take (i := 30) (oi := { dst := some 54, op := Op.binOp BinOp.eql 23 (Operand.tmp 50) (Operand.tmp 53) 23, type := 4, pos := "law.go:41", after := #[{ on := 26, ground := Ground.data }, { on := 29, ground := Ground.data }, { on := 24, ground := Ground.guard }], guard := some (24, true) }) (v := ?_) rfl (by kernel_rfl) (by kernel_rfl) (by kernel_rfl) (fun _ _ _ h => h) (Or.inl ⟨by rfl, ?_⟩) (by assumption) ?_
        rotate_left
        · (intro w hSw; go_simp; try with_reducible rfl)
        try simp only [Act.put, List.setIfInBounds_toArray, List.set_cons_zero, List.set_cons_succ]
        refine wpAnyH_at (l' := #[true, true, true, true, true, true, true, true, true, true, true, true, true, true, true, true, true, true, true, true, true, true, true, true, true, true, true, true, true, true, true, false, false, false, false, false, false, false, false, false, false, false, false, false, false, false, false, false, false, false, false, false, false, false, false, false, false, false, false, false]) (by kernel_rfl) ?_
        refine wpAnyH_take (i := 31) (oi := { dst := some 55, op := Op.pick (Operand.tmp 48) (Operand.tmp 54) (Operand.const (Value.bool false)), type := 4, pos := "law.go:41", after := #[{ on := 24, ground := Ground.data }, { on := 30, ground := Ground.data }], guard := none }) (v := ?_) rfl (by kernel_rfl) (by kernel_rfl) (by kernel_rfl) (fun _ _ _ h => h) (Or.inl ⟨by rfl, ?_⟩) (by assumption) ?_
        rotate_left
        · (intro w hSw; go_simp; try with_reducible rfl)
        try simp only [Act.put, List.setIfInBounds_toArray, List.set_cons_zero, List.set_cons_succ]
        refine wpAnyH_at (l' := #[true, true, true, true, true, true, true, true, true, true, true, true, true, true, true, true, true, true, true, true, true, true, true, true, true, true, true, true, true, true, true, true, false, false, false, false, false, false, false, false, false, false, false, false, false, false, false, false, false, false, false, false, false, false, false, false, false, false, false, false]) (by kernel_rfl) ?_
        exact rest _ _ _ (by assumption)
      refine AllReadyH.cons (o := { dst := some 52, op := Op.convert 35 9 (Operand.tmp 51), type := 9, pos := "law.go:41", after := #[{ on := 27, ground := Ground.data }, { on := 24, ground := Ground.guard }], guard := some (24, true) }) rfl (fun K hK => ?_) ?_
      · go_simp
        refine hK.out _ _ (by first | (with_reducible exact Q.alloc (by assumption) _) | (with_reducible exact Q.step (by assumption) hb) | assumption) (fun hHeld => ?_)
        clear hK K
        try simp only [Act.put, List.setIfInBounds_toArray, List.set_cons_zero, List.set_cons_succ]
        refine wpAnyH_at (l' := #[true, true, true, true, true, true, true, true, true, true, true, true, true, true, true, true, true, true, true, true, true, true, true, true, true, true, false, true, true, false, false, false, false, false, false, false, false, false, false, false, false, false, false, false, false, false, false, false, false, false, false, false, false, false, false, false, false, false, false, false]) (by kernel_rfl) ?_
        refine wpAnyH_ready (rs := [26]) (by kernel_rfl) (by simp) ?_
        refine AllReadyH.cons (o := { dst := some 50, op := Op.call { callee := Callee.value (Operand.func 16), args := #[Operand.tmp 49], argTypes := #[22] }, type := 23, pos := "law.go:41", after := #[{ on := 25, ground := Ground.data }, { on := 24, ground := Ground.chain }, { on := 24, ground := Ground.guard }], guard := some (24, true) }) rfl (fun K hK => ?_) AllReadyH.nil
        go_simp
        first
          | (go_at_call 21; refine (copyh_nil _).mono ?_; rintro e w' ⟨rfl, rfl⟩)
          | (go_at_call 22; refine (sumh_nil _).mono ?_; rintro e w' ⟨rfl, rfl⟩)
          | (go_at_call 14; ((with_reducible refine (sum_e _).mono ?_); rintro e w' ⟨rfl, rfl⟩))
          | (go_at_call 14; ((with_reducible refine (sum_f _).mono ?_); rintro e w' ⟨rfl, rfl⟩))
          | (go_at_call 14; ((with_reducible refine (sum_z _).mono ?_); rintro e w' ⟨rfl, rfl⟩))
          | (go_at_call 18; ((with_reducible refine (text_e _ ?_).mono ?_); focus (with_reducible exact Q.libs (by assumption))); rintro e w' ⟨rfl, hb⟩)
          | (go_at_call 18; ((with_reducible refine (text_f _ ?_).mono ?_); focus (with_reducible exact Q.libs (by assumption))); rintro e w' ⟨rfl, hb⟩)
          | (go_at_call 18; ((with_reducible refine (text_0 _ ?_).mono ?_); focus (with_reducible exact Q.libs (by assumption))); rintro e w' ⟨rfl, hb⟩)
          | (go_at_call 18; ((with_reducible refine (text_m _ ?_).mono ?_); focus (with_reducible exact Q.libs (by assumption))); rintro e w' ⟨rfl, hb⟩)
          | (go_at_call 16; ((with_reducible refine (of_nil _).mono ?_); rintro e w' ⟨rfl, hb⟩))
          | (go_at_call 16; ((with_reducible refine (of_e _ _ ?_).mono ?_); focus (first | exact (cellR (by first | rfl | simp) 0).trans rfl | exact (World.cell?_alloc_lt _ _ _ (by simp)).trans ((cellR (by first | rfl | simp) 0).trans rfl))); rintro e w' ⟨rfl, hb⟩; (first | have hz8 := (Z8.below ((Z8.new _).alloc _) hb) | (have hz8 := (Z8.below (Z8.new _) hb); simp at hz8) | have hz8 := (Z8.below (Z8.new _) hb) | skip))
          | (go_at_call 11; refine (AW.out _ ?_).mono ?_; (with_reducible exact Q.libs (by assumption)); rintro e w' ⟨rfl, hb⟩)
        refine hK.out _ _ (by first | (with_reducible exact Q.alloc (by assumption) _) | (with_reducible exact Q.step (by assumption) hb) | assumption) (fun hHeld => ?_)
        clear hK K
        try simp only [Act.put, List.setIfInBounds_toArray, List.set_cons_zero, List.set_cons_succ]
        refine wpAnyH_at (l' := #[true, true, true, true, true, true, true, true, true, true, true, true, true, true, true, true, true, true, true, true, true, true, true, true, true, true, true, true, true, false, false, false, false, false, false, false, false, false, false, false, false, false, false, false, false, false, false, false, false, false, false, false, false, false, false, false, false, false, false, false]) (by kernel_rfl) ?_
        refine wpAnyH_ready (rs := [29]) (by kernel_rfl) (by simp) ?_
        refine AllReadyH.cons (o := { dst := some 53, op := Op.call { callee := Callee.value (Operand.func 14), args := #[Operand.tmp 52], argTypes := #[9] }, type := 23, pos := "law.go:41", after := #[{ on := 28, ground := Ground.data }, { on := 26, ground := Ground.chain }, { on := 24, ground := Ground.guard }], guard := some (24, true) }) rfl (fun K hK => ?_) AllReadyH.nil
        go_simp
        first
          | (go_at_call 21; refine (copyh_nil _).mono ?_; rintro e w' ⟨rfl, rfl⟩)
          | (go_at_call 22; refine (sumh_nil _).mono ?_; rintro e w' ⟨rfl, rfl⟩)
          | (go_at_call 14; ((with_reducible refine (sum_e _).mono ?_); rintro e w' ⟨rfl, rfl⟩))
          | (go_at_call 14; ((with_reducible refine (sum_f _).mono ?_); rintro e w' ⟨rfl, rfl⟩))
          | (go_at_call 14; ((with_reducible refine (sum_z _).mono ?_); rintro e w' ⟨rfl, rfl⟩))
          | (go_at_call 18; ((with_reducible refine (text_e _ ?_).mono ?_); focus (with_reducible exact Q.libs (by assumption))); rintro e w' ⟨rfl, hb⟩)
          | (go_at_call 18; ((with_reducible refine (text_f _ ?_).mono ?_); focus (with_reducible exact Q.libs (by assumption))); rintro e w' ⟨rfl, hb⟩)
          | (go_at_call 18; ((with_reducible refine (text_0 _ ?_).mono ?_); focus (with_reducible exact Q.libs (by assumption))); rintro e w' ⟨rfl, hb⟩)
          | (go_at_call 18; ((with_reducible refine (text_m _ ?_).mono ?_); focus (with_reducible exact Q.libs (by assumption))); rintro e w' ⟨rfl, hb⟩)
          | (go_at_call 16; ((with_reducible refine (of_nil _).mono ?_); rintro e w' ⟨rfl, hb⟩))
          | (go_at_call 16; ((with_reducible refine (of_e _ _ ?_).mono ?_); focus (first | exact (cellR (by first | rfl | simp) 0).trans rfl | exact (World.cell?_alloc_lt _ _ _ (by simp)).trans ((cellR (by first | rfl | simp) 0).trans rfl))); rintro e w' ⟨rfl, hb⟩; (first | have hz8 := (Z8.below ((Z8.new _).alloc _) hb) | (have hz8 := (Z8.below (Z8.new _) hb); simp at hz8) | have hz8 := (Z8.below (Z8.new _) hb) | skip))
          | (go_at_call 11; refine (AW.out _ ?_).mono ?_; (with_reducible exact Q.libs (by assumption)); rintro e w' ⟨rfl, hb⟩)
        refine hK.out _ _ (by first | (with_reducible exact Q.alloc (by assumption) _) | (with_reducible exact Q.step (by assumption) hb) | assumption) (fun hHeld => ?_)
        clear hK K
        try simp only [Act.put, List.setIfInBounds_toArray, List.set_cons_zero, List.set_cons_succ]
        refine wpAnyH_at (l' := #[true, true, true, true, true, true, true, true, true, true, true, true, true, true, true, true, true, true, true, true, true, true, true, true, true, true, true, true, true, true, false, false, false, false, false, false, false, false, false, false, false, false, false, false, false, false, false, false, false, false, false, false, false, false, false, false, false, false, false, false]) (by kernel_rfl) ?_
        refine wpAnyH_take (i := 30) (oi := { dst := some 54, op := Op.binOp BinOp.eql 23 (Operand.tmp 50) (Operand.tmp 53) 23, type := 4, pos := "law.go:41", after := #[{ on := 26, ground := Ground.data }, { on := 29, ground := Ground.data }, { on := 24, ground := Ground.guard }], guard := some (24, true) }) (v := ?_) rfl (by kernel_rfl) (by kernel_rfl) (by kernel_rfl) (fun _ _ _ h => h) (Or.inl ⟨by rfl, ?_⟩) (by assumption) ?_
        rotate_left
        · (intro w hSw; go_simp; try with_reducible rfl)
        try simp only [Act.put, List.setIfInBounds_toArray, List.set_cons_zero, List.set_cons_succ]
        refine wpAnyH_at (l' := #[true, true, true, true, true, true, true, true, true, true, true, true, true, true, true, true, true, true, true, true, true, true, true, true, true, true, true, true, true, true, true, false, false, false, false, false, false, false, false, false, false, false, false, false, false, false, false, false, false, false, false, false, false, false, false, false, false, false, false, false]) (by kernel_rfl) ?_
        refine wpAnyH_take (i := 31) (oi := { dst := some 55, op := Op.pick (Operand.tmp 48) (Operand.tmp 54) (Operand.const (Value.bool false)), type := 4, pos := "law.go:41", after := #[{ on := 24, ground := Ground.data }, { on := 30, ground := Ground.data }], guard := none }) (v := ?_) rfl (by kernel_rfl) (by kernel_rfl) (by kernel_rfl) (fun _ _ _ h => h) (Or.inl ⟨by rfl, ?_⟩) (by assumption) ?_
        rotate_left
        · (intro w hSw; go_simp; try with_reducible rfl)
        try simp only [Act.put, List.setIfInBounds_toArray, List.set_cons_zero, List.set_cons_succ]
        refine wpAnyH_at (l' := #[true, true, true, true, true, true, true, true, true, true, true, true, true, true, true, true, true, true, true, true, true, true, true, true, true, true, true, true, true, true, true, true, false, false, false, false, false, false, false, false, false, false, false, false, false, false, false, false, false, false, false, false, false, false, false, false, false, false, false, false]) (by kernel_rfl) ?_
        exact rest _ _ _ (by assumption)
      exact AllReadyH.nil
    refine AllReadyH.cons (o := { dst := some 52, op := Op.convert 35 9 (Operand.tmp 51), type := 9, pos := "law.go:41", after := #[{ on := 27, ground := Ground.data }, { on := 24, ground := Ground.guard }], guard := some (24, true) }) rfl (fun K hK => ?_) ?_
    · go_simp
      refine hK.out _ _ (by first | (with_reducible exact Q.alloc (by assumption) _) | (with_reducible exact Q.step (by assumption) hb) | assumption) (fun hHeld => ?_)
      clear hK K
      try simp only [Act.put, List.setIfInBounds_toArray, List.set_cons_zero, List.set_cons_succ]
      refine wpAnyH_at (l' := #[true, true, true, true, true, true, true, true, true, true, true, true, true, true, true, true, true, true, true, true, true, true, true, true, true, false, false, true, true, false, false, false, false, false, false, false, false, false, false, false, false, false, false, false, false, false, false, false, false, false, false, false, false, false, false, false, false, false, false, false]) (by kernel_rfl) ?_
      refine wpAnyH_ready (rs := [25]) (by kernel_rfl) (by simp) ?_
      refine AllReadyH.cons (o := { dst := some 49, op := Op.buildSlice 22 1 #[(0, Operand.const (Value.string { data := #[] }))], type := 22, pos := "law.go:41", after := #[{ on := 24, ground := Ground.guard }], guard := some (24, true) }) rfl (fun K hK => ?_) AllReadyH.nil
      go_simp
      refine hK.out _ _ (by first | (with_reducible exact Q.alloc (by assumption) _) | (with_reducible exact Q.step (by assumption) hb) | assumption) (fun hHeld => ?_)
      clear hK K
      try simp only [Act.put, List.setIfInBounds_toArray, List.set_cons_zero, List.set_cons_succ]
      refine wpAnyH_at (l' := #[true, true, true, true, true, true, true, true, true, true, true, true, true, true, true, true, true, true, true, true, true, true, true, true, true, true, false, true, true, false, false, false, false, false, false, false, false, false, false, false, false, false, false, false, false, false, false, false, false, false, false, false, false, false, false, false, false, false, false, false]) (by kernel_rfl) ?_
      refine wpAnyH_ready (rs := [26]) (by kernel_rfl) (by simp) ?_
      refine AllReadyH.cons (o := { dst := some 50, op := Op.call { callee := Callee.value (Operand.func 16), args := #[Operand.tmp 49], argTypes := #[22] }, type := 23, pos := "law.go:41", after := #[{ on := 25, ground := Ground.data }, { on := 24, ground := Ground.chain }, { on := 24, ground := Ground.guard }], guard := some (24, true) }) rfl (fun K hK => ?_) AllReadyH.nil
      go_simp
      first
        | (go_at_call 21; refine (copyh_nil _).mono ?_; rintro e w' ⟨rfl, rfl⟩)
        | (go_at_call 22; refine (sumh_nil _).mono ?_; rintro e w' ⟨rfl, rfl⟩)
        | (go_at_call 14; ((with_reducible refine (sum_e _).mono ?_); rintro e w' ⟨rfl, rfl⟩))
        | (go_at_call 14; ((with_reducible refine (sum_f _).mono ?_); rintro e w' ⟨rfl, rfl⟩))
        | (go_at_call 14; ((with_reducible refine (sum_z _).mono ?_); rintro e w' ⟨rfl, rfl⟩))
        | (go_at_call 18; ((with_reducible refine (text_e _ ?_).mono ?_); focus (with_reducible exact Q.libs (by assumption))); rintro e w' ⟨rfl, hb⟩)
        | (go_at_call 18; ((with_reducible refine (text_f _ ?_).mono ?_); focus (with_reducible exact Q.libs (by assumption))); rintro e w' ⟨rfl, hb⟩)
        | (go_at_call 18; ((with_reducible refine (text_0 _ ?_).mono ?_); focus (with_reducible exact Q.libs (by assumption))); rintro e w' ⟨rfl, hb⟩)
        | (go_at_call 18; ((with_reducible refine (text_m _ ?_).mono ?_); focus (with_reducible exact Q.libs (by assumption))); rintro e w' ⟨rfl, hb⟩)
        | (go_at_call 16; ((with_reducible refine (of_nil _).mono ?_); rintro e w' ⟨rfl, hb⟩))
        | (go_at_call 16; ((with_reducible refine (of_e _ _ ?_).mono ?_); focus (first | exact (cellR (by first | rfl | simp) 0).trans rfl | exact (World.cell?_alloc_lt _ _ _ (by simp)).trans ((cellR (by first | rfl | simp) 0).trans rfl))); rintro e w' ⟨rfl, hb⟩; (first | have hz8 := (Z8.below ((Z8.new _).alloc _) hb) | (have hz8 := (Z8.below (Z8.new _) hb); simp at hz8) | have hz8 := (Z8.below (Z8.new _) hb) | skip))
        | (go_at_call 11; refine (AW.out _ ?_).mono ?_; (with_reducible exact Q.libs (by assumption)); rintro e w' ⟨rfl, hb⟩)
      refine hK.out _ _ (by first | (with_reducible exact Q.alloc (by assumption) _) | (with_reducible exact Q.step (by assumption) hb) | assumption) (fun hHeld => ?_)
      clear hK K
      try simp only [Act.put, List.setIfInBounds_toArray, List.set_cons_zero, List.set_cons_succ]
      refine wpAnyH_at (l' := #[true, true, true, true, true, true, true, true, true, true, true, true, true, true, true, true, true, true, true, true, true, true, true, true, true, true, true, true, true, false, false, false, false, false, false, false, false, false, false, false, false, false, false, false, false, false, false, false, false, false, false, false, false, false, false, false, false, false, false, false]) (by kernel_rfl) ?_
      refine wpAnyH_ready (rs := [29]) (by kernel_rfl) (by simp) ?_
      refine AllReadyH.cons (o := { dst := some 53, op := Op.call { callee := Callee.value (Operand.func 14), args := #[Operand.tmp 52], argTypes := #[9] }, type := 23, pos := "law.go:41", after := #[{ on := 28, ground := Ground.data }, { on := 26, ground := Ground.chain }, { on := 24, ground := Ground.guard }], guard := some (24, true) }) rfl (fun K hK => ?_) AllReadyH.nil
      go_simp
      first
        | (go_at_call 21; refine (copyh_nil _).mono ?_; rintro e w' ⟨rfl, rfl⟩)
        | (go_at_call 22; refine (sumh_nil _).mono ?_; rintro e w' ⟨rfl, rfl⟩)
        | (go_at_call 14; ((with_reducible refine (sum_e _).mono ?_); rintro e w' ⟨rfl, rfl⟩))
        | (go_at_call 14; ((with_reducible refine (sum_f _).mono ?_); rintro e w' ⟨rfl, rfl⟩))
        | (go_at_call 14; ((with_reducible refine (sum_z _).mono ?_); rintro e w' ⟨rfl, rfl⟩))
        | (go_at_call 18; ((with_reducible refine (text_e _ ?_).mono ?_); focus (with_reducible exact Q.libs (by assumption))); rintro e w' ⟨rfl, hb⟩)
        | (go_at_call 18; ((with_reducible refine (text_f _ ?_).mono ?_); focus (with_reducible exact Q.libs (by assumption))); rintro e w' ⟨rfl, hb⟩)
        | (go_at_call 18; ((with_reducible refine (text_0 _ ?_).mono ?_); focus (with_reducible exact Q.libs (by assumption))); rintro e w' ⟨rfl, hb⟩)
        | (go_at_call 18; ((with_reducible refine (text_m _ ?_).mono ?_); focus (with_reducible exact Q.libs (by assumption))); rintro e w' ⟨rfl, hb⟩)
        | (go_at_call 16; ((with_reducible refine (of_nil _).mono ?_); rintro e w' ⟨rfl, hb⟩))
        | (go_at_call 16; ((with_reducible refine (of_e _ _ ?_).mono ?_); focus (first | exact (cellR (by first | rfl | simp) 0).trans rfl | exact (World.cell?_alloc_lt _ _ _ (by simp)).trans ((cellR (by first | rfl | simp) 0).trans rfl))); rintro e w' ⟨rfl, hb⟩; (first | have hz8 := (Z8.below ((Z8.new _).alloc _) hb) | (have hz8 := (Z8.below (Z8.new _) hb); simp at hz8) | have hz8 := (Z8.below (Z8.new _) hb) | skip))
        | (go_at_call 11; refine (AW.out _ ?_).mono ?_; (with_reducible exact Q.libs (by assumption)); rintro e w' ⟨rfl, hb⟩)
      refine hK.out _ _ (by first | (with_reducible exact Q.alloc (by assumption) _) | (with_reducible exact Q.step (by assumption) hb) | assumption) (fun hHeld => ?_)
      clear hK K
      try simp only [Act.put, List.setIfInBounds_toArray, List.set_cons_zero, List.set_cons_succ]
      refine wpAnyH_at (l' := #[true, true, true, true, true, true, true, true, true, true, true, true, true, true, true, true, true, true, true, true, true, true, true, true, true, true, true, true, true, true, false, false, false, false, false, false, false, false, false, false, false, false, false, false, false, false, false, false, false, false, false, false, false, false, false, false, false, false, false, false]) (by kernel_rfl) ?_
      refine wpAnyH_take (i := 30) (oi := { dst := some 54, op := Op.binOp BinOp.eql 23 (Operand.tmp 50) (Operand.tmp 53) 23, type := 4, pos := "law.go:41", after := #[{ on := 26, ground := Ground.data }, { on := 29, ground := Ground.data }, { on := 24, ground := Ground.guard }], guard := some (24, true) }) (v := ?_) rfl (by kernel_rfl) (by kernel_rfl) (by kernel_rfl) (fun _ _ _ h => h) (Or.inl ⟨by rfl, ?_⟩) (by assumption) ?_
      rotate_left
      · (intro w hSw; go_simp; try with_reducible rfl)
      try simp only [Act.put, List.setIfInBounds_toArray, List.set_cons_zero, List.set_cons_succ]
      refine wpAnyH_at (l' := #[true, true, true, true, true, true, true, true, true, true, true, true, true, true, true, true, true, true, true, true, true, true, true, true, true, true, true, true, true, true, true, false, false, false, false, false, false, false, false, false, false, false, false, false, false, false, false, false, false, false, false, false, false, false, false, false, false, false, false, false]) (by kernel_rfl) ?_
      refine wpAnyH_take (i := 31) (oi := { dst := some 55, op := Op.pick (Operand.tmp 48) (Operand.tmp 54) (Operand.const (Value.bool false)), type := 4, pos := "law.go:41", after := #[{ on := 24, ground := Ground.data }, { on := 30, ground := Ground.data }], guard := none }) (v := ?_) rfl (by kernel_rfl) (by kernel_rfl) (by kernel_rfl) (fun _ _ _ h => h) (Or.inl ⟨by rfl, ?_⟩) (by assumption) ?_
      rotate_left
      · (intro w hSw; go_simp; try with_reducible rfl)
      try simp only [Act.put, List.setIfInBounds_toArray, List.set_cons_zero, List.set_cons_succ]
      refine wpAnyH_at (l' := #[true, true, true, true, true, true, true, true, true, true, true, true, true, true, true, true, true, true, true, true, true, true, true, true, true, true, true, true, true, true, true, true, false, false, false, false, false, false, false, false, false, false, false, false, false, false, false, false, false, false, false, false, false, false, false, false, false, false, false, false]) (by kernel_rfl) ?_
      exact rest _ _ _ (by assumption)
    exact AllReadyH.nil
  exact AllReadyH.nil
end Go.Proofs.YtiegocnmijheoaaDoor
