/- LAYER 22: two buffers. -/
import Derived.Test.YtpkapichblpdfaaDoorH
set_option linter.unusedVariables false
namespace Go.Proofs.YtpkapichblpdfaaDoor
open Go.RowKit Go.ChangeShapes Go.WideShapes Go.ChangeAt

/-- Two buffers made since, apart, and what they have for one object. -/
def St2 (w w' : World) (ino : Int) (r n : Nat) (l : List Pt) (h : Int) (r2 n2 : Nat) (l2 : List Pt) (h2 : Int) : Prop :=
  ∃ O L O2 L2, Buf O w' r n L h ∧ Buf O2 w' r2 n2 L2 h2 ∧ (∀ k, O k → O2 k → False) ∧ (∀ k, O k → w.heap.size ≤ k) ∧ (∀ k, O2 k → w.heap.size ≤ k) ∧ L ino = l ∧ L2 ino = l2 ∧ Below w.heap.size w w'
theorem St2.swap {w w' : World} {ino : Int} {r n : Nat} {l : List Pt} {h : Int} {r2 n2 : Nat} {l2 : List Pt} {h2 : Int} (s : St2 w w' ino r n l h r2 n2 l2 h2) : St2 w w' ino r2 n2 l2 h2 r n l h := by
  obtain ⟨O, L, O2, L2, a, b, c, d, e, f, g, i⟩ := s
  exact ⟨O2, L2, O, L, b, a, fun k x y => c k y x, e, d, g, f, i⟩
theorem St2.fst {w w' : World} {ino : Int} {r n : Nat} {l : List Pt} {h : Int} {r2 n2 : Nat} {l2 : List Pt} {h2 : Int} (s : St2 w w' ino r n l h r2 n2 l2 h2) : St w w' r ino n l h := by
  obtain ⟨O, L, O2, L2, a, b, c, d, e, f, g, i⟩ := s
  exact ⟨O, L, a, d, f, i⟩
theorem St2.frame {w w' : World} {ino : Int} {r n : Nat} {l : List Pt} {h : Int} {r2 n2 : Nat} {l2 : List Pt} {h2 : Int} (s : St2 w w' ino r n l h r2 n2 l2 h2) : Below w.heap.size w w' := s.fst.frame
theorem St2.below {w w1 w2 : World} {ino : Int} {r n : Nat} {l : List Pt} {h : Int} {r2 n2 : Nat} {l2 : List Pt} {h2 : Int} (s : St2 w w1 ino r n l h r2 n2 l2 h2) (hb : Below w1.heap.size w1 w2) : St2 w w2 ino r n l h r2 n2 l2 h2 := by
  obtain ⟨O, L, O2, L2, a, b, c, d, e, f, g, i⟩ := s
  exact ⟨O, L, O2, L2, a.below hb, b.below hb, c, d, e, f, g, i.trans (hb.mono i.size)⟩
theorem st2_new {w w1 : World} {r n : Nat} {ino : Int} {l : List Pt} {h : Int} (s : St w w1 r ino n l h) : Calls Tryd.prog 11 #[] w1 fun e w' => e = .returned (.pointer (some ⟨w1.heap.size + 1, 0, none⟩)) ∧ St2 w w' ino r n l h (w1.heap.size + 1) 0 [] 0 := by
  obtain ⟨O, L, hB, hO, hl, hw⟩ := s
  have hz := hw.size
  exact (new_any w1).mono fun e w' ⟨he, hB', hb⟩ => ⟨he, _, L, _, _, hB.trim.below hb, hB', fun k x y => by have := x.2; omega, fun k x => hO k x.1, fun k hk => by omega, hl, rfl, hw.trans (hb.mono hz)⟩
theorem st2_write {w w1 : World} {ino : Int} {r n : Nat} {l : List Pt} {h : Int} {r2 n2 : Nat} {l2 : List Pt} {h2 : Int} (s : St2 w w1 ino r n l h r2 n2 l2 h2) (a : Int) (text : ByteArray) (h0 : -9223372036854775808 ≤ ino) (h1 : ino ≤ 9223372036854775807) (a0 : -9223372036854775808 ≤ a) (a1 : a ≤ 9223372036854775807)
    (hl : l.length ≤ 1000000) (hn : n ≤ 1000000) (hh0 : 0 ≤ h) (hh1 : h ≤ 65536) (ht : text.size ≤ 1000000) :
    Calls Tryd.prog 13 #[.pointer (some ⟨r, 0, none⟩), .int .i64 ino, .int .i64 a, .string text] w1 fun e w' => e = .returned (.int .i64 (wCode h ino a text.size)) ∧
      St2 w w' ino r (n + 1) (if wCode h ino a text.size = 0 ∧ text ≠ ⟨#[]⟩ then l ++ [(a, text)] else l) (if wCode h ino a text.size = 0 then h + text.size else h) r2 n2 l2 h2 := by
  obtain ⟨O, L, O2, L2, hB, hB2, hd, hO, hO2, rfl, hl2, hw⟩ := s
  refine (write_any O r n L h ino a text w1 hB h0 h1 a0 a1 hl hn hh0 hh1 ht).mono fun e w' ⟨he, hB', ho⟩ => ⟨he, _, _, _, L2, hB', hB2.trim.off ho (fun x hx hy => hd x hy hx.1), fun k x y => x.elim (fun x => hd k x y.1) (fun x => by have := y.2; omega), fun k hk => hk.elim (hO k) (fun hk => Nat.le_trans hw.size hk.1), fun k hk => hO2 k hk.1, ?_, hl2, hw.trans (ho.below hw.size hO)⟩
  split
  · rw [updL_same]
  · rfl
end Go.Proofs.YtpkapichblpdfaaDoor
