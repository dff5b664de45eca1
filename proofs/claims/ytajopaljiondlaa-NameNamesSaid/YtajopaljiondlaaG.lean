/- WALKS of layer 24: the document's Passed, Depth, Moves. -/
import Derived.Test.YtajopaljiondlaaF
import Derived.Deep.AppendLies
import Derived.Lib.SlFresh
set_option linter.unusedVariables false
namespace Go.Proofs.Ytajopaljiondlaa
open Go.RowKit Go.ChangeShapes Go.WideShapes Go.ChangeAt

def ints (l : List Int) : List Value := l.map (Value.int .i64)
/-- Numbers that lie in a row. -/
def RdI (w : World) (A : Option Addr) (l : List Int) : Prop := l ≠ [] → ∃ b off, A = some ⟨b, off, none⟩ ∧ ∀ k, (h : k < l.length) → w.cell? ⟨b, off + k, none⟩ = some (.int .i64 l[k])
theorem RdI.below {w w' : World} {A : Option Addr} {l : List Int} (h : RdI w A l) (hb : Below w.heap.size w w') : RdI w' A l := fun hne => by
  obtain ⟨b, off, hA, hc⟩ := h hne
  exact ⟨b, off, hA, fun k hk => keep1 hb (hc k hk)⟩
theorem own_rdi {w : World} {base g cap : Nat} {l : List Int} (h : w.ownsRow base 3 1 (.slice (some ⟨g, 0, none⟩) l.length cap) l.length (ints l)) : RdI w (some ⟨g, 0, none⟩) l := fun hne =>
  ⟨g, 0, rfl, fun k hk => by
    rw [Nat.zero_add, h.cellAt k (by omega)]
    simp [ints, List.getElem?_map, List.getElem?_eq_getElem hk]⟩
theorem info_int : (Try.prog.info? 3).map (fun i => (i.zero, i.size, i.bytes)) = some (some (.int .i64 0), 1, 8) := by kernel_rfl
/-- What Passed hands back. -/
def PassPost (P : List Int × Int) (w : World) (e : Ending) (w' : World) : Prop := ∃ A c, e = .returned (.tuple #[.slice A P.1.length c, .int .i64 P.2]) ∧ RdI w' A P.1 ∧ Below w.heap.size w w'
def lenOf : Value → Nat
  | .slice _ n _ => n
  | _ => 0
/-- At the head of Passed's loop. -/
def PHead (l : List (Int × Int)) (ino : Int) (w wr : World) (v1 v6 : Value) : Prop := ∃ (seen : List Int) (x : Int) (g cap : Nat), v1 = .int .i64 x ∧ v6 = .slice (some ⟨g, 0, none⟩) (seen ++ [x]).length cap ∧ wr.ownsRow w.heap.size 3 1 (.slice (some ⟨g, 0, none⟩) (seen ++ [x]).length cap) (seen ++ [x]).length (ints (seen ++ [x])) ∧ Below w.heap.size w wr ∧
  seen.Nodup ∧ (∀ y ∈ seen, (parL l y).isSome = true) ∧ x ∉ seen ∧ passed (parL l) (l.length + 1) [ino] ino = passed (parL l) (l.length + 1 - seen.length) (seen ++ [x]) x
set_option maxRecDepth 100000 in
set_option maxHeartbeats 2000000 in
theorem passed_any (A : Option Addr) (c : Nat) (l : List (Int × Int)) (ino : Int) (w : World) (hl : l.length ≤ 100000) (hR : RdU w A l) :
    Calls Try.prog 23 #[.slice A l.length c, .int .i64 ino] w (PassPost (passed (parL l) (l.length + 1) [ino] ino) w) := by
  have HR := Lib.hid hR
  clear hR
  obtain ⟨i0, hi, hz0, hz1, hz2⟩ := info_parts info_int
  go_enter Try.func23, Try.ntmps23
  go_wp2_with fail
  go_loopw [1, 6] (fun v1 v6 wr => PHead l ino w wr v1 v6) (fun _ v6 _ => l.length + 2 - lenOf v6)
  case atStart =>
    refine ⟨[], ino, w.heap.size, 1, rfl, rfl, ⟨rfl, .inr ⟨w.heap.size, 1, _, rfl, Nat.le_refl _, heap_alloc_new w _, Nat.le_refl _, by unfold maxLen; omega, rfl, rfl⟩⟩, (Below.refl _ _).alloc (Nat.le_refl _) _, List.nodup_nil, fun y hy => by simp at hy, by simp, rfl⟩
  case round =>
    obtain ⟨seen, x, g, cap, rfl, rfl, hown, hB, hn, hs, hx, hP⟩ := hrel
    have hsl := seen_le l seen hn hs
    have HB := Lib.hid hB
    have hbz := hB.size
    have HRw := Lib.hid (HR.out.below hB)
    clear hB
    have hlen : (seen ++ [x]).length = seen.length + 1 := by simp
    have hPf : passed (parL l) (l.length + 1 - seen.length) (seen ++ [x]) x = match parL l x with | none => ([], 5) | some p => if p = x then (seen ++ [x], 0) else if p ∈ seen ++ [x] then ([], 50) else passed (parL l) (l.length - seen.length) (seen ++ [x] ++ [p]) p := by
      rw [show l.length + 1 - seen.length = (l.length - seen.length) + 1 from by omega]
      rfl
    rw [hPf] at hP
    clear hPf
    replace hP := Lib.hid hP
    replace hn := Lib.hid hn
    replace hs := Lib.hid hs
    replace hx := Lib.hid hx
    replace hlen := Lib.hid hlen
    obtain ⟨out, hout⟩ : ∃ out, seen ++ [x] = out := ⟨_, rfl⟩
    rw [hout] at hown hP hlen ⊢
    have hol : out.length ≤ 100001 := by have := hlen.out; omega
    replace hout := Lib.hid hout
    have hRI := Lib.hid (own_rdi hown)
    have HO := Lib.hid hown
    clear hown
    go_wp2_with fail
    refine (parent_any _ _ l x _ hl HRw.out).mono ?_
    rintro e w1 ⟨rfl, rfl⟩
    cases hp : parL l x with
    | none =>
      have hP' := hP.out
      rw [hp] at hP'
      replace hP' := Lib.hid hP'
      simp only [Option.getD_none, Option.isSome_none]
      clear hp
      go_wp2_with fail
      go_ret2
      exact ⟨none, 0, by rw [hP'.out]; rfl, by rw [hP'.out]; exact fun h => absurd rfl h, HB.out⟩
    | some p =>
      have hP' := hP.out
      rw [hp] at hP'
      simp only [] at hP'
      simp only [Option.getD_some, Option.isSome_some]
      replace hp := Lib.hid hp
      by_cases hpx : p = x
      · subst hpx
        rw [if_pos rfl] at hP'
        replace hP' := Lib.hid hP'
        go_wp2_with fail
        go_ret2
        exact ⟨some ⟨g, 0, none⟩, cap, by rw [hP'.out]; rfl, by rw [hP'.out]; exact hRI.out, HB.out⟩
      · have hpxB : (p == x) = false := by simpa using hpx
        rw [if_neg hpx] at hP'
        replace hP' := Lib.hid hP'
        go_wp2_with fail
        go_loop [9] (fun i => ∃ k : Nat, k ≤ out.length ∧ i = .int .i64 k ∧ ∀ y ∈ out.take k, y ≠ p) (fun i => out.length - (intOf i).toNat)
        case atStart => exact ⟨0, Nat.zero_le _, rfl, fun y hy => by simp at hy⟩
        case round =>
          obtain ⟨k, hk, rfl, hall⟩ := hrel
          replace hall := Lib.hid hall
          by_cases hlt : k < out.length
          · obtain ⟨b2, off2, e2, hc2⟩ := hRI.out (by intro h; subst h; simp at hlt)
            simp only [Option.some.injEq, Addr.mk.injEq, and_true] at e2
            obtain ⟨rfl, rfl⟩ := e2
            have d0 := hc2 k hlt
            rw [Nat.zero_add] at d0
            have HK := Lib.hid (take_snoc out k hlt)
            have hmem := Lib.hid (List.getElem_mem hlt)
            clear hc2
            by_cases he : out[k] = p
            · rw [he] at d0
              have hP2 := hP'.out
              rw [if_pos (by rw [← he]; exact hmem.out)] at hP2
              replace hP2 := Lib.hid hP2
              clear he
              go_wp2_with fail
              go_ret2
              exact ⟨none, 0, by rw [hP2.out]; rfl, by rw [hP2.out]; exact fun h => absurd rfl h, HB.out⟩
            · have heB : (out[k] == p) = false := by simpa using he
              have HE := Lib.hid he
              clear he
              generalize hq : out[k] = q at *
              replace hq := Lib.hid hq
              go_wp2_with fail
              go_round
              case rel =>
                refine ⟨k + 1, by omega, by go_num, fun y hy => ?_⟩
                rw [HK.out] at hy
                rcases List.mem_append.1 hy with h | h
                · exact hall.out y h
                · simp at h
                  rw [h]
                  exact HE.out
              case measure => simp [intOf]; omega
          · have hkl : k = out.length := by omega
            subst hkl
            have hnot : p ∉ out := fun h => hall.out p (by rw [List.take_length]; exact h) rfl
            have hP2 := hP'.out
            rw [if_neg hnot] at hP2
            replace hP2 := Lib.hid hP2
            clear hall
            have hnews : ∀ j u, [Value.int .i64 p][j]? = some u → (wr.alloc (.cells #[.int .i64 p] 3)).cell? ((⟨wr.heap.size, 0, none⟩ : Addr).add j) = some u := fun j u hj => by
              match j, hj with
              | 0, hj =>
                simp at hj
                subst hj
                exact (World.cell?_alloc_new wr _ _ 0).trans rfl
            obtain ⟨g2, cap2, w3, hap, hown3, hgr3, hat3, hlt3⟩ := run_append_lies (P := Try.prog) (wr.alloc (.cells #[.int .i64 p] 3)) 49 49 w.heap.size 3 i0 _ 1 8 Try.underlying49 hi hz0 hz1 hz2 rfl (by omega) _ _ _ (HO.out.alloc _) ⟨wr.heap.size, 0, none⟩ 1 1 [.int .i64 p] rfl hnews (by simp [Value.oneCell']) (by omega) (by unfold maxLen; omega) (by omega) (by simp; omega) _ rfl
            have HB3 := Lib.hid ((HB.out.alloc hbz (.cells #[.int .i64 p] 3)).grown hgr3 (by simp; omega) (fun k e => by
              rcases HO.out.2 with ⟨h1, _⟩ | ⟨g', cap', cur, h1, h2, _⟩
              · simp at h1
              · simp only [Value.slice.injEq, Option.some.injEq, Addr.mk.injEq, and_true, true_and] at h1
                obtain ⟨rfl, rfl⟩ := h1
                simp [Value.ownBlock] at e
                omega))
            have HW3 := Lib.hid (show w3.ownsRow w.heap.size 3 1 (.slice (some ⟨g2, 0, none⟩) (seen ++ [x] ++ [p]).length cap2) (seen ++ [x] ++ [p]).length (ints (seen ++ [x] ++ [p])) from by
              rw [hout.out]
              have e1 : (out ++ [p]).length = out.length + 1 := by simp
              have e2 : ints (out ++ [p]) = ints out ++ [.int .i64 p] := by simp [ints]
              rw [e1, e2]
              exact hown3)
            have hl3 := Lib.hid (show (seen ++ [x] ++ [p]).length = out.length + 1 from by rw [hout.out]; simp)
            clear hown3 hgr3 hat3 hnews
            go_wp2_with (at_builtin; refine Go.Lib.wpList_append_run_sl _ rfl _ _ _ rfl _ _ rfl rfl hap ?_)
            go_roundw
            case rel =>
              refine ⟨seen ++ [x], p, g2, cap2, rfl, by rw [hl3.out], HW3.out, HB3.out, ?_, ?_, by rw [hout.out]; exact hnot, ?_⟩
              · rw [List.nodup_append]
                refine ⟨hn.out, by simp, fun a ha b hb => ?_⟩
                simp at hb
                subst hb
                exact fun e => hx.out (e ▸ ha)
              · intro y hy
                rcases List.mem_append.1 hy with h | h
                · exact hs.out y h
                · simp at h
                  subst h
                  rw [hp.out]; rfl
              · rw [hP2.out, hout.out, hlen.out, show l.length + 1 - (seen.length + 1) = l.length - seen.length from by omega]
            case measure => have := hlen.out; simp [lenOf]; omega
end Go.Proofs.Ytajopaljiondlaa
