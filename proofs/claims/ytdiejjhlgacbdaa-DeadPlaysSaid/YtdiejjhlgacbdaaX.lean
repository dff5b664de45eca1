/- LAYER 16, the document's sorted: the walk. -/
import Derived.Test.YtdiejjhlgacbdaaXa
import Derived.BigQuiet
import Derived.Deep.QuietTactic
import Derived.Lib.SlFresh
set_option linter.unusedVariables false
namespace Go.Proofs.Ytdiejjhlgacbdaa
open Go.RowKit Go.ChangeShapes Go.WideShapes Go.ChangeAt

theorem below_drew1 (w : World) (n : Nat) : Below w.heap.size w (w.drewN n) := by
  induction n with
  | zero => exact Below.refl _ _
  | succ n ih => exact ih.drew
theorem below_drew2 (w : World) (n m : Nat) : Below w.heap.size w ((w.drewN n).drewN m) := (below_drew1 w n).trans (by
  have := below_drew1 (w.drewN n) m
  exact this.mono (below_drew1 w n).size)
set_option maxRecDepth 100000 in
set_option maxHeartbeats 1000000 in
theorem sorted_any (A : Option Addr) (c : Nat) (l : List Int) (w : World) (hR : RdI w A l) (hl : l.length ≤ 1000000) (L : List Int) (hL : L.Pairwise (· < ·)) (hm : ∀ y, y ∈ L ↔ y ∈ l) :
    Calls Try.prog 43 #[.slice A l.length c] w (ListPost L w) := by
  have HR := Lib.hid hR
  have HL := Lib.hid (And.intro hL hm)
  clear hR hL hm
  go_enter Try.func43, Try.ntmps43
  go_wp2_with fail
  go_loopw [3, 4] (fun v3 v4 wr => SHead l w v3 v4 wr) (fun _ v4 _ => l.length - (intOf v4).toNat)
  case atStart => exact ⟨0, [], Nat.zero_le _, rfl, OwnI.nil _ _, List.Pairwise.nil, fun y => by simp, Nat.zero_le _, Below.refl _ _⟩
  case round =>
    obtain ⟨k, out, hk, rfl, ho, hp, hmm, hol, hB⟩ := hrel
    obtain ⟨A3, c3, rfl, hA3⟩ := ho.form
    have hcap := ho.cap
    have HO := Lib.hid ho
    have HP := Lib.hid (And.intro hp (And.intro hmm hol))
    have HB := Lib.hid hB
    by_cases hlt : k < l.length
    · obtain ⟨b, off, rfl, hc⟩ := HR.out (by intro h; subst h; simp at hlt)
      have HRc := Lib.hid (hc k hlt)
      have c0 := keep1 hB HRc.out
      obtain ⟨x, hx⟩ : ∃ x, l[k] = x := ⟨_, rfl⟩
      rw [hx] at c0
      have hspot := ho.spot
      replace hx := Lib.hid hx
      have hnl : out.length ≤ 1000000 := by omega
      clear hc ho hp hmm hol hB hA3
      generalize hwr : wr = wp at *
      clear hwr
      go_wp2_with fail
      go_loopw [5] (fun v5 wr => IHead out x wp wr v5) (fun v5 _ => (intOf v5).toNat)
      case atStart => exact ⟨out.length, Nat.le_refl _, rfl, fun i hi h => by omega, Below.refl _ _⟩
      case round =>
        obtain ⟨q, hq, rfl, hgt, hB⟩ := hrel
        have HG := Lib.hid hgt
        have d0 := keep1 hB c0
        have HBI := Lib.hid hB
        replace HO := Lib.hid (HO.out.below hB)
        clear hgt hB
        by_cases hq0 : q = 0
        · have cb : decide ((0 : Int) < (q : Int)) = false := by simp; omega
          go_wp2_with fail
          go_quiet (fail)
          go_wp2_with fail
          go_quiet (fail)
          rcases hspot with ⟨rfl, hn0, rfl, rfl⟩ | ⟨g, rfl, hgw⟩
          · subst hq0
            generalize hW : (wr.drewN _).drewN _ = wi at *
            have hbi : Below wr.heap.size wr wi := hW ▸ below_drew2 wr _ _
            clear hW
            have d1 := keep1 hbi d0
            have HOi := Lib.hid (HO.out.below hbi)
            have HBi := Lib.hid (HB.out.trans ((HBI.out.trans (hbi.mono HBI.out.size)).mono HB.out.size))
            have hz := HBi.out.size
            clear hbi d0 HBI HB HO cb
            obtain ⟨A4, n4, c4, W2, hap1, hap2, hap3, hown, ho2⟩ := ins_none w.heap.size wi x hz
            have hba : Below wi.heap.size wi (wi.alloc (.cells #[] 3)) := (Below.refl _ _).alloc (Nat.le_refl _) _
            have d2 := keep1 hba d1
            have HF := Lib.hid (And.intro hown (HBi.out.trans (ho2.below hz (fun _ h => h))))
            clear hown ho2 HBi HOi hba
            go_upto_region 10 with (at_builtin; refine Go.Lib.wpList_append_run_sl _ rfl _ _ _ rfl _ _ rfl rfl hap1 ?_)
            go_upto_region 11 with (at_builtin; refine Go.Lib.wpList_append_run_sl _ rfl _ _ _ rfl _ _ rfl rfl hap2 ?_)
            go_wp2_with (at_builtin; refine Go.Lib.wpList_append_run_sl _ rfl _ _ _ rfl _ _ rfl rfl hap3 ?_)
            refine ⟨SHead.new_ (q := 0) (out := []) hlt (Nat.zero_le _) ?_ ?_ HP.out.2.1 HP.out.2.2 HF.out.2 _ (by go_num), by simp [intOf]; omega⟩
            · rw [hx.out]
              exact HF.out.1
            · rw [hx.out]
              simp [insQ]
          · replace hq0 := Lib.hid hq0
            generalize hW : (wr.drewN _).drewN _ = wi at *
            have hbi : Below wr.heap.size wr wi := hW ▸ below_drew2 wr _ _
            clear hW
            have d1 := keep1 hbi d0
            have HOi := Lib.hid (HO.out.below hbi)
            have HBi := Lib.hid (HB.out.trans ((HBI.out.trans (hbi.mono HBI.out.size)).mono HB.out.size))
            have hz := HBi.out.size
            clear hbi d0 HBI HB HO cb
            obtain ⟨v1, W1, v2, W2, A4, n4, c4, W3, hap1, hap2, hap3, hown, ho1, ho3⟩ := ins_some HOi.out x q hq hz hnl
            have d2 : W1.cell? ⟨b, off + k, none⟩ = some (.int .i64 x) := ho1.cell d1 (by rintro ⟨h1, h2⟩; have := World.block_lt_of_cell? w _ (HRc.out); show False; exact absurd this (by simpa using h1))
            have HF := Lib.hid (And.intro hown (HBi.out.trans (ho3.below hz (fun _ h => h))))
            have hq00 : (0 : Int) ≤ q := by omega
            have hq01 : (q : Int) ≤ out.length := by omega
            have hq02 : (q : Int) ≤ c3 := by omega
            have hq03 : (out.length : Int) ≤ c3 := by omega
            clear hown ho1 ho3 HBi HOi
            go_upto_region 10 with (at_builtin; refine Go.Lib.wpList_append_run_sl _ rfl _ _ _ rfl _ _ rfl rfl hap1 ?_)
            go_upto_region 11 with (at_builtin; refine Go.Lib.wpList_append_run_sl _ rfl _ _ _ rfl _ _ rfl rfl hap2 ?_)
            go_wp2_with (at_builtin; refine Go.Lib.wpList_append_run_sl _ rfl _ _ _ rfl _ _ rfl rfl hap3 ?_)
            refine ⟨SHead.new_ (q := q) (out := out) hlt hq ?_ ?_ HP.out.2.1 HP.out.2.2 HF.out.2 _ (by go_num), by simp [intOf]; omega⟩
            · rw [hx.out]
              exact HF.out.1
            · rw [hx.out]
              exact ins_rising HP.out.1 (fun y hy => by rw [hq0.out] at hy; simp at hy) (drop_more HG.out)
        · obtain ⟨p, hp⟩ : ∃ p, q = p + 1 := ⟨q - 1, by omega⟩
          have cb : decide ((0 : Int) < (q : Int)) = true := by simp; omega
          have cbn : decide (0 < q) = true := by simp; omega
          have hws : IntKind.i64.wrap ((q : Int) - 1) = (p : Int) := by rw [IntKind.wrap_i64]; omega
          have hp0 : (0 : Int) ≤ p := by omega
          have hp1 : (p : Int) < out.length := by omega
          obtain ⟨g, hg⟩ : ∃ g, A3 = some ⟨g, 0, none⟩ := by
            rcases hspot with ⟨_, h, _⟩ | ⟨g, h, _⟩
            · omega
            · exact ⟨g, h⟩
          subst hg
          have hpl : p < out.length := by omega
          obtain ⟨y, hy⟩ : ∃ y, out[p]'hpl = y := ⟨_, rfl⟩
          have e0 : wr.cell? ⟨g, p, none⟩ = some (.int .i64 y) := by
            obtain ⟨b', off', e, hcc⟩ := HO.out.rd (by intro e; subst e; simp at hp1; omega)
            simp only [Option.some.injEq, Addr.mk.injEq, and_true] at e
            obtain ⟨rfl, rfl⟩ := e
            have := hcc p hpl
            rw [Nat.zero_add] at this
            rw [this, hy]
          replace hy := Lib.hid hy
          replace hp := Lib.hid hp
          by_cases hxy : x < y
          · have cx : decide (x < y) = true := by simpa using hxy
            go_wp2_with fail
            go_quiet (fail)
            go_wp2_with fail
            have hp' := hp.out
            refine ⟨⟨p, by omega, rfl, fun i hi h => ?_, HBI.out.trans ((below_drew1 wr _).mono HBI.out.size)⟩, by simp [intOf]; omega⟩
            by_cases hip : i = p
            · subst hip
              rw [hy.out]
              exact hxy
            · exact HG.out i hi (by omega)
          · have cx : decide (x < y) = false := by simpa using hxy
            by_cases hye : y = x
            · have cy : (y == x) = true := by simpa using hye
              go_wp2_with fail
              go_quiet (fail)
              go_wp2_with fail
              go_quiet (fail)
              go_wp2_with fail
              refine ⟨SHead.have_ hlt (HO.out.below (below_drew1 wr _)) HP.out.1 HP.out.2.1 HP.out.2.2 ?_ ?_ _ (by go_num), by simp [intOf]; omega⟩
              · exact HB.out.trans ((HBI.out.trans ((below_drew1 wr _).mono HBI.out.size)).mono HB.out.size)
              · rw [hx.out, ← hye, ← hy.out]
                exact List.getElem_mem hpl
            · have cy : (y == x) = false := by simpa using hye
              go_wp2_with fail
              go_quiet (fail)
              go_wp2_with fail
              go_quiet (fail)
              generalize hW : (wr.drewN _).drewN _ = wi at *
              have hbi : Below wr.heap.size wr wi := hW ▸ below_drew2 wr _ _
              clear hW
              have d1 := keep1 hbi d0
              have HOi := Lib.hid (HO.out.below hbi)
              have HBi := Lib.hid (HB.out.trans ((HBI.out.trans (hbi.mono HBI.out.size)).mono HB.out.size))
              have hz := HBi.out.size
              clear e0 hbi d0 HBI HB HO cb
              obtain ⟨v1, W1, v2, W2, A4, n4, c4, W3, hap1, hap2, hap3, hown, ho1, ho3⟩ := ins_some HOi.out x q hq hz hnl
              have d2 : W1.cell? ⟨b, off + k, none⟩ = some (.int .i64 x) := ho1.cell d1 (by rintro ⟨h1, h2⟩; have := World.block_lt_of_cell? w _ (HRc.out); show False; exact absurd this (by simpa using h1))
              have HF := Lib.hid (And.intro hown (HBi.out.trans (ho3.below hz (fun _ h => h))))
              have hq00 : (0 : Int) ≤ q := by omega
              have hq01 : (q : Int) ≤ out.length := by omega
              have hq02 : (q : Int) ≤ c3 := by omega
              have hq03 : (out.length : Int) ≤ c3 := by omega
              clear hown ho1 ho3 HBi HOi
              go_upto_region 10 with (at_builtin; refine Go.Lib.wpList_append_run_sl _ rfl _ _ _ rfl _ _ rfl rfl hap1 ?_)
              go_upto_region 11 with (at_builtin; refine Go.Lib.wpList_append_run_sl _ rfl _ _ _ rfl _ _ rfl rfl hap2 ?_)
              go_wp2_with (at_builtin; refine Go.Lib.wpList_append_run_sl _ rfl _ _ _ rfl _ _ rfl rfl hap3 ?_)
              refine ⟨SHead.new_ (q := q) (out := out) hlt hq ?_ ?_ HP.out.2.1 HP.out.2.2 HF.out.2 _ (by go_num), by simp [intOf]; omega⟩
              · rw [hx.out]
                exact HF.out.1
              · rw [hx.out]
                exact ins_rising HP.out.1 (by rw [hp.out]; exact take_less HP.out.1 (by omega) (by rw [hy.out]; omega)) (drop_more HG.out)
    · have hke : k = l.length := by omega
      subst hke
      have he : out = L := rising_unique HP.out.1 HL.out.1 (fun y => by rw [HP.out.2.1, HL.out.2, List.take_length])
      subst he
      go_wp2_with fail
      go_ret
      exact ⟨A3, c3, rfl, HO.out, HB.out⟩
end Go.Proofs.Ytdiejjhlgacbdaa
