/- WALK of layer 22: awake. -/
import Derived.Test.YtpkapichblpdfaaDoorG
set_option linter.unusedVariables false
namespace Go.Proofs.YtpkapichblpdfaaDoor
open Go.RowKit Go.ChangeShapes Go.WideShapes Go.ChangeAt

/-- A buffer made since, and what it has for one object. -/
def St (w w' : World) (r : Nat) (ino : Int) (n : Nat) (l : List Pt) (h : Int) : Prop := ∃ O L, Buf O w' r n L h ∧ (∀ k, O k → w.heap.size ≤ k) ∧ L ino = l ∧ Below w.heap.size w w'
theorem St.below {w w1 w2 : World} {r n : Nat} {ino : Int} {l : List Pt} {h : Int} (s : St w w1 r ino n l h) (hb : Below w1.heap.size w1 w2) : St w w2 r ino n l h := by
  obtain ⟨O, L, hB, hO, hl, hw⟩ := s
  exact ⟨O, L, hB.below hb, hO, hl, hw.trans (hb.mono hw.size)⟩
theorem St.frame {w w' : World} {r n : Nat} {ino : Int} {l : List Pt} {h : Int} (s : St w w' r ino n l h) : Below w.heap.size w w' := by
  obtain ⟨O, L, hB, hO, hl, hw⟩ := s
  exact hw
theorem st_new (w : World) (ino : Int) : Calls Tryd.prog 11 #[] w fun e w' => e = .returned (.pointer (some ⟨w.heap.size + 1, 0, none⟩)) ∧ St w w' (w.heap.size + 1) ino 0 [] 0 :=
  (new_any w).mono fun e w' ⟨he, hB, hb⟩ => ⟨he, _, _, hB, fun k hk => by omega, rfl, hb⟩
theorem st_write {w w1 : World} {r n : Nat} {ino : Int} {l : List Pt} {h : Int} (s : St w w1 r ino n l h) (a : Int) (text : ByteArray) (h0 : -9223372036854775808 ≤ ino) (h1 : ino ≤ 9223372036854775807) (a0 : -9223372036854775808 ≤ a) (a1 : a ≤ 9223372036854775807)
    (hl : l.length ≤ 1000000) (hn : n ≤ 1000000) (hh0 : 0 ≤ h) (hh1 : h ≤ 65536) (ht : text.size ≤ 1000000) :
    Calls Tryd.prog 13 #[.pointer (some ⟨r, 0, none⟩), .int .i64 ino, .int .i64 a, .string text] w1 fun e w' => e = .returned (.int .i64 (wCode h ino a text.size)) ∧
      St w w' r ino (n + 1) (if wCode h ino a text.size = 0 ∧ text ≠ ⟨#[]⟩ then l ++ [(a, text)] else l) (if wCode h ino a text.size = 0 then h + text.size else h) := by
  obtain ⟨O, L, hB, hO, rfl, hw⟩ := s
  refine (write_any O r n L h ino a text w1 hB h0 h1 a0 a1 hl hn hh0 hh1 ht).mono fun e w' ⟨he, hB', ho⟩ => ⟨he, _, _, hB', fun k hk => hk.elim (hO k) (fun hk => Nat.le_trans hw.size hk.1), ?_, hw.trans (ho.below hw.size hO)⟩
  split
  · rw [updL_same]
  · rfl
theorem st_over {w w1 : World} {r n : Nat} {ino : Int} {l : List Pt} {h : Int} (s : St w w1 r ino n l h) (file : ByteArray) (h0 : -9223372036854775808 ≤ ino) (h1 : ino ≤ 9223372036854775807) (hg : Good l) (hl : l.length ≤ 1000000) (hf : file.size ≤ 100000) :
    Calls Tryd.prog 12 #[.pointer (some ⟨r, 0, none⟩), .int .i64 ino, .string file] w1 fun e w' => e = .returned (.string ⟨(overL l file.data.toList).toArray⟩) ∧ St w w' r ino n l h := by
  have s' := s
  obtain ⟨O, L, hB, hO, rfl, hw⟩ := s
  exact (over_any O r n L h ino file w1 hB h0 h1 hg hl hf).mono fun e w' ⟨he, hb⟩ => ⟨he, s'.below hb⟩
theorem st_size {w w1 : World} {r n : Nat} {ino : Int} {l : List Pt} {h : Int} (s : St w w1 r ino n l h) (size : Int) (h0 : -9223372036854775808 ≤ ino) (h1 : ino ≤ 9223372036854775807) (hg : Good l) (hl : l.length ≤ 1000000) :
    Calls Tryd.prog 14 #[.pointer (some ⟨r, 0, none⟩), .int .i64 ino, .int .i64 size] w1 fun e w' => e = .returned (.int .i64 (sizeL l size)) ∧ St w w' r ino n l h := by
  have s' := s
  obtain ⟨O, L, hB, hO, rfl, hw⟩ := s
  exact (size_any O r n L h ino size w1 hB h0 h1 hg hl).mono fun e w' ⟨he, hb⟩ => ⟨he, s'.below hb⟩
theorem st_held {w w1 : World} {r n : Nat} {ino : Int} {l : List Pt} {h : Int} (s : St w w1 r ino n l h) :
    Calls Tryd.prog 15 #[.pointer (some ⟨r, 0, none⟩)] w1 fun e w' => e = .returned (.int .i64 h) ∧ w1 = w' := by
  obtain ⟨O, L, hB, hO, rfl, hw⟩ := s
  exact held_any O r n L h w1 hB
theorem st_cut {w w1 : World} {r n : Nat} {ino : Int} {l : List Pt} {h : Int} (s : St w w1 r ino n l h) (z : Int) (h0 : -9223372036854775808 ≤ ino) (h1 : ino ≤ 9223372036854775807) (hs0 : 0 ≤ z) (hs1 : z ≤ 9223372036854775807) (hg : Good l) (hl : l.length ≤ 10000) (hn : n ≤ 100000) (hh0 : -1000000000 ≤ h) (hh1 : h ≤ 65536) :
    Calls Tryd.prog 16 #[.pointer (some ⟨r, 0, none⟩), .int .i64 ino, .int .i64 z] w1 fun e w' => e = .returned (.int .i64 0) ∧ St w w' r ino (n + l.length) (cutL z l) (h - sumL l + sumL (cutL z l)) := by
  obtain ⟨O, L, hB, hO, rfl, hw⟩ := s
  exact (cut_any O r n L h ino z w1 hB h0 h1 hs0 hs1 hg hl hn hh0 hh1).mono fun e w' ⟨he, hB', ho⟩ => ⟨he, _, _, hB', fun k hk => hk.elim (hO k) (fun hk => Nat.le_trans hw.size hk.1), updL_same _ _ _, hw.trans (ho.below hw.size hO)⟩
theorem st_take {w w1 : World} {r n : Nat} {ino : Int} {l : List Pt} {h : Int} (s : St w w1 r ino n l h) (h0 : -9223372036854775808 ≤ ino) (h1 : ino ≤ 9223372036854775807) (hg : Good l) (hl : l.length ≤ 1000000) (hh0 : -1000000000000 ≤ h) (hh1 : h ≤ 65536) :
    Calls Tryd.prog 17 #[.pointer (some ⟨r, 0, none⟩), .int .i64 ino] w1 fun e w' => (∃ A c, e = .returned (.slice A l.length c) ∧ RdP w' A l) ∧ St w w' r ino n [] (h - sumL l) := by
  obtain ⟨O, L, hB, hO, rfl, hw⟩ := s
  exact (take_any O r n L h ino w1 hB h0 h1 hg hl hh0 hh1).mono fun e w' ⟨A, c, he, hR, hB', ho⟩ => ⟨⟨A, c, he, hR⟩, _, _, hB', fun k hk => hO k hk.1, updL_same _ _ _, hw.trans (ho.below hw.size hO)⟩
theorem Tabs.below {w w' : World} (h : Tabs w) (hb : Below w.heap.size w w') : Tabs w' := by
  have hg : Tryd.prog.globalNamed "internal/strconv.uint64pow10" = some 0 := by kernel_rfl
  unfold Tabs Lib.TabIs World.var? at *
  rw [hg] at h ⊢
  simp only [Option.bind_some] at h ⊢
  have hl : 0 < w.heap.size := by
    by_cases hl : 0 < w.heap.size
    · exact hl
    · rw [Array.getElem?_eq_none (by omega)] at h
      cases h
  rw [hb.block _ hl]
  exact h
theorem verf_ne : verfT 1 ≠ verfT 2 := by
  unfold verfT
  rw [show Lib.itoa 1 = [49] from by simp [Lib.itoa, Lib.decDigits], show Lib.itoa 2 = [50] from by simp [Lib.itoa, Lib.decDigits]]
  decide +kernel
set_option maxRecDepth 20000 in
set_option maxHeartbeats 2000000 in
theorem awake_any (w : World) (ht : Tabs w) : Calls Tryd.prog 9 #[] w fun e w' => e = .returned (.bool true) ∧ Below w.heap.size w w' := by
  have HT := Lib.hid ht
  clear ht
  have hgA : Good [((2 : Int), (⟨#[97, 98]⟩ : ByteArray)), (3, ⟨#[88]⟩)] := by
    intro p hp
    simp at hp
    rcases hp with rfl | rfl <;> decide
  have hgB : Good [((2 : Int), (⟨#[97]⟩ : ByteArray))] := by
    intro p hp
    simp at hp
    subst hp
    decide
  replace hgA := Lib.hid hgA
  replace hgB := Lib.hid hgB
  go_enter Tryd.func9, Tryd.ntmps9
  go_wp2_with fail
  refine (st_new w 5).mono ?_
  rintro e w1 ⟨rfl, s1⟩
  generalize w.heap.size + 1 = r at *
  replace s1 := Lib.hid s1
  go_wp2_with fail
  refine (st_write s1.out 2 ⟨#[97, 98]⟩ (by decide) (by decide) (by decide) (by decide) (by decide) (by decide) (by decide) (by decide) (by decide)).mono ?_
  rintro e w2 ⟨rfl, s2⟩
  have e2 : wCode 0 5 2 (ByteArray.size ⟨#[97, 98]⟩) = 0 := by decide
  rw [e2] at s2 ⊢
  rw [if_pos ⟨rfl, by decide⟩, if_pos rfl] at s2
  replace s2 := Lib.hid (show St w w2 r 5 1 [(2, ⟨#[97, 98]⟩)] 2 from s2)
  go_wp2_with fail
  refine (st_write s2.out 3 ⟨#[88]⟩ (by decide) (by decide) (by decide) (by decide) (by decide) (by decide) (by decide) (by decide) (by decide)).mono ?_
  rintro e w3 ⟨rfl, s3⟩
  have e3 : wCode 2 5 3 (ByteArray.size ⟨#[88]⟩) = 0 := by decide
  rw [e3] at s3 ⊢
  rw [if_pos ⟨rfl, by decide⟩, if_pos rfl] at s3
  replace s3 := Lib.hid (show St w w3 r 5 2 [(2, ⟨#[97, 98]⟩), (3, ⟨#[88]⟩)] 3 from s3)
  clear s1 s2 e2 e3
  go_wp2_with fail
  refine (st_over s3.out ⟨#[104, 101, 108, 108, 111]⟩ (by decide) (by decide) hgA.out (by decide) (by decide)).mono ?_
  rw [show overL [((2 : Int), (⟨#[97, 98]⟩ : ByteArray)), (3, ⟨#[88]⟩)] (⟨#[104, 101, 108, 108, 111]⟩ : ByteArray).data.toList = [104, 101, 97, 88, 111] from by decide]
  rintro e w4 ⟨rfl, s4⟩
  replace s4 := Lib.hid s4
  clear s3
  go_wp2_with fail
  refine (st_over s4.out ⟨#[]⟩ (by decide) (by decide) hgA.out (by decide) (by decide)).mono ?_
  rw [show overL [((2 : Int), (⟨#[97, 98]⟩ : ByteArray)), (3, ⟨#[88]⟩)] (⟨#[]⟩ : ByteArray).data.toList = [0, 0, 97, 88] from by decide]
  rintro e w5 ⟨rfl, s5⟩
  replace s5 := Lib.hid s5
  clear s4
  go_wp2_with fail
  refine (st_size s5.out 1 (by decide) (by decide) hgA.out (by decide)).mono ?_
  rw [show sizeL [((2 : Int), (⟨#[97, 98]⟩ : ByteArray)), (3, ⟨#[88]⟩)] 1 = 4 from by decide]
  rintro e w6 ⟨rfl, s6⟩
  replace s6 := Lib.hid s6
  clear s5
  go_wp2_with fail
  refine (st_cut s6.out 3 (by decide) (by decide) (by decide) (by decide) hgA.out (by decide) (by decide) (by decide) (by decide)).mono ?_
  rintro e w7 ⟨rfl, s7⟩
  rw [show cutL 3 [((2 : Int), (⟨#[97, 98]⟩ : ByteArray)), (3, ⟨#[88]⟩)] = [(2, ⟨#[97]⟩)] from by rfl] at s7
  replace s7 := Lib.hid (show St w w7 r 5 4 [(2, ⟨#[97]⟩)] 1 from s7)
  clear s6
  go_wp2_with fail
  refine (st_over s7.out ⟨#[104, 101, 108, 108, 111]⟩ (by decide) (by decide) hgB.out (by decide) (by decide)).mono ?_
  rw [show overL [((2 : Int), (⟨#[97]⟩ : ByteArray))] (⟨#[104, 101, 108, 108, 111]⟩ : ByteArray).data.toList = [104, 101, 97, 108, 111] from by decide]
  rintro e w8 ⟨rfl, s8⟩
  replace s8 := Lib.hid s8
  clear s7
  go_wp2_with fail
  refine (st_take s8.out (by decide) (by decide) hgB.out (by decide) (by decide) (by decide)).mono ?_
  rintro e w9 ⟨⟨A, c, rfl, hR⟩, s9⟩
  replace s9 := Lib.hid (show St w w9 r 5 4 [] 0 from s9)
  obtain ⟨g, rfl, hgl, hcs⟩ := hR (by simp)
  obtain ⟨d0, d1⟩ := hcs 0 (by decide)
  clear s8 hcs hR
  go_wp2_with fail
  refine (st_held s9.out).mono ?_
  rintro e w10 ⟨rfl, rfl⟩
  go_wp2_with fail
  have t9 := Lib.hid (HT.out.below s9.out.frame)
  have HN := Lib.hid verf_ne
  have V1 := Lib.hid (verf_any 1 (by decide) (by decide))
  have V2 := Lib.hid (verf_any 2 (by decide) (by decide))
  generalize verfT 1 = v1 at *
  generalize verfT 2 = v2 at *
  refine (V1.out w9 t9.out).mono ?_
  rintro e w10 ⟨rfl, b10⟩
  have t10 := Lib.hid (t9.out.below b10)
  have b10' := Lib.hid b10
  clear b10 d0 d1
  go_wp2_with fail
  refine (V2.out w10 t10.out).mono ?_
  rintro e w11 ⟨rfl, b11⟩
  have B11 := Lib.hid (((s9.out.frame).trans (b10'.out.mono s9.out.frame.size)).trans (b11.mono (Nat.le_trans s9.out.frame.size b10'.out.size)))
  clear b11
  have hne : decide (v1 = v2) = false := decide_eq_false HN.out
  have hne' := HN.out
  go_wp2_with fail
  go_ret
  exact ⟨by simp [hne'], B11.out⟩
end Go.Proofs.YtpkapichblpdfaaDoor
