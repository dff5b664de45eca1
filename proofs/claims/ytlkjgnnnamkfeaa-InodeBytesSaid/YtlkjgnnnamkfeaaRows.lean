/-
  No cell of these rows narrows 'for every input' (looked for: loops, veiled, ifaces, maps, wideKeys, modest, calm, conditions, laid).
  DERIVED. THE GIVEN ROWS OF THIS SEAT. 5 by the template 'for every input the law returns true; each argument reads behind the call as it read before'; 0 by the template 'total and deterministic' (their statements: YtlkjgnnnamkfeaaTotals.lean).
  GIVEN WITH THE SEED: the statements are not yours to turn. If you find one false, say at which input.
  Laid BY PROGRAM, IN A SANDBOX (cutbox-rows.mjs): the forced cells as the released guide's own fill.sh prints them over the translation 93317093dca433b7… (all of the seat's roots in one cut). By AI agents, Wed Nov 11 2026. No macro, syntax, notation, axiom, sorry.
-/
import Derived.Test.YtlkjgnnnamkfeaaChecked
import GoSem.Claim
import GoSem.ClaimJoined
import GoSem.ClaimMapViews
import Derived.JoinedTies
import Derived.KernelRfl
namespace Go.Proofs.Ytlkjgnnnamkfeaa
/- THE CELL 'sum', in the pinned program and in every row, IS THE sha256 OF THE DUMP (.gsa) THAT YtlkjgnnnamkfeaaProg.lean LOADS. Nothing in Lean hashes anything: it is a label: what it is worth is what the hold of that sum in a sandbox is worth. -/
noncomputable def Try.pinned : Pinned := { name := "ytlkjgnnnamkfeaa", sum := "93317093dca433b709d981bf882350e65c9885b27e160c9efe1dfdb03e6c1d21", checked := Try.checked }
namespace Rows
def none {H : Type} : Left H := { results := [], args := [] }

/-- 'jettylaw02.RecordBack': WHATEVER THE INPUT: true; the input reads as it did. -/
def recordBackSpec : ChangeSpec := { name := "recordBack", fn := fun _ => fun
  | [d1, d2] => { results := [.lit (.bool true)], args := [d1, d2] }
  | _ => none }
def recordBackRow : OpenClaim := { program := "ytlkjgnnnamkfeaa", sum := "93317093dca433b709d981bf882350e65c9885b27e160c9efe1dfdb03e6c1d21", func := "jetty/jettylaw02.RecordBack", spec := "recordBack", unfollowed := true, recurses := true, apart := false }
def RecordBackSaid : Prop := recordBackRow.holds Try.pinned (OpenSpec.ofChange recordBackSpec)

/-- ITS FALSE NEIGHBOUR: 'it returns false'. Refute it at one input. -/
def recordBackWrong : ChangeSpec := { name := "recordBack", fn := fun _ => fun
  | [d1, d2] => { results := [.lit (.bool false)], args := [d1, d2] }
  | _ => none }
def RecordBackWrongFalsely : Prop := recordBackRow.holds Try.pinned (OpenSpec.ofChange recordBackWrong)

/-- 'jettylaw20.InodeMay': WHATEVER THE INPUT: true; the input reads as it did. -/
def inodeMaySpec : ChangeSpec := { name := "inodeMay", fn := fun _ => fun
  | [d1, d2, d3, d4] => { results := [.lit (.bool true)], args := [d1, d2, d3, d4] }
  | _ => none }
def inodeMayRow : OpenClaim := { program := "ytlkjgnnnamkfeaa", sum := "93317093dca433b709d981bf882350e65c9885b27e160c9efe1dfdb03e6c1d21", func := "jetty/jettylaw20.InodeMay", spec := "inodeMay", apart := false }
def InodeMaySaid : Prop := inodeMayRow.holds Try.pinned (OpenSpec.ofChange inodeMaySpec)

/-- ITS FALSE NEIGHBOUR: 'it returns false'. Refute it at one input. -/
def inodeMayWrong : ChangeSpec := { name := "inodeMay", fn := fun _ => fun
  | [d1, d2, d3, d4] => { results := [.lit (.bool false)], args := [d1, d2, d3, d4] }
  | _ => none }
def InodeMayWrongFalsely : Prop := inodeMayRow.holds Try.pinned (OpenSpec.ofChange inodeMayWrong)

/-- 'jettylaw20.InodeBytes': WHATEVER THE INPUT: true; the input reads as it did. -/
def inodeBytesSpec : ChangeSpec := { name := "inodeBytes", fn := fun _ => fun
  | [d1, d2, d3, d4] => { results := [.lit (.bool true)], args := [d1, d2, d3, d4] }
  | _ => none }
def inodeBytesRow : OpenClaim := { program := "ytlkjgnnnamkfeaa", sum := "93317093dca433b709d981bf882350e65c9885b27e160c9efe1dfdb03e6c1d21", func := "jetty/jettylaw20.InodeBytes", spec := "inodeBytes", apart := false }
def InodeBytesSaid : Prop := inodeBytesRow.holds Try.pinned (OpenSpec.ofChange inodeBytesSpec)

/-- ITS FALSE NEIGHBOUR: 'it returns false'. Refute it at one input. -/
def inodeBytesWrong : ChangeSpec := { name := "inodeBytes", fn := fun _ => fun
  | [d1, d2, d3, d4] => { results := [.lit (.bool false)], args := [d1, d2, d3, d4] }
  | _ => none }
def InodeBytesWrongFalsely : Prop := inodeBytesRow.holds Try.pinned (OpenSpec.ofChange inodeBytesWrong)

/-- 'jettylaw20.InodeNames': WHATEVER THE INPUT: true; the input reads as it did. -/
def inodeNamesSpec : ChangeSpec := { name := "inodeNames", fn := fun _ => fun
  | [] => { results := [.lit (.bool true)], args := [] }
  | _ => none }
def inodeNamesRow : OpenClaim := { program := "ytlkjgnnnamkfeaa", sum := "93317093dca433b709d981bf882350e65c9885b27e160c9efe1dfdb03e6c1d21", func := "jetty/jettylaw20.InodeNames", spec := "inodeNames", apart := false }
def InodeNamesSaid : Prop := inodeNamesRow.holds Try.pinned (OpenSpec.ofChange inodeNamesSpec)

/-- ITS FALSE NEIGHBOUR: 'it returns false'. Refute it at one input. -/
def inodeNamesWrong : ChangeSpec := { name := "inodeNames", fn := fun _ => fun
  | [] => { results := [.lit (.bool false)], args := [] }
  | _ => none }
def InodeNamesWrongFalsely : Prop := inodeNamesRow.holds Try.pinned (OpenSpec.ofChange inodeNamesWrong)

/-- 'jettylaw20.InodeBack': WHATEVER THE INPUT: true; the input reads as it did. -/
def inodeBackSpec : ChangeSpec := { name := "inodeBack", fn := fun _ => fun
  | [d1, d2, d3, d4, d5] => { results := [.lit (.bool true)], args := [d1, d2, d3, d4, d5] }
  | _ => none }
def inodeBackRow : OpenClaim := { program := "ytlkjgnnnamkfeaa", sum := "93317093dca433b709d981bf882350e65c9885b27e160c9efe1dfdb03e6c1d21", func := "jetty/jettylaw20.InodeBack", spec := "inodeBack", apart := false }
def InodeBackSaid : Prop := inodeBackRow.holds Try.pinned (OpenSpec.ofChange inodeBackSpec)

/-- ITS FALSE NEIGHBOUR: 'it returns false'. Refute it at one input. -/
def inodeBackWrong : ChangeSpec := { name := "inodeBack", fn := fun _ => fun
  | [d1, d2, d3, d4, d5] => { results := [.lit (.bool false)], args := [d1, d2, d3, d4, d5] }
  | _ => none }
def InodeBackWrongFalsely : Prop := inodeBackRow.holds Try.pinned (OpenSpec.ofChange inodeBackWrong)

/- THE SECOND FORM. 'bulk': how many values and letters a reading holds, each counted each time it is reached (what is shared counts as often as it is met; a slice's spare places count too). A statement '..UptoSaid' is the law's where the arguments, and the package variables that the reading takes, are together of bulk at most 1048576: NARROWER than '..Said'. Prove '..Said' where nothing that the law and all that it calls make is longer than what came in: it says more and counts as full. Else prove '..UptoSaid'. A law counts once. -/
mutual
def uptoBulk {H : Type} : DataW H → Nat
  | .lit (.string bytes) => bytes.length + 1
  | .lit _ => 1
  | .nil => 1
  | .ptr d => uptoBulk d + 1
  | .slice elems spare => uptoBulkAll elems + uptoBulkAll spare + 1
  | .agg parts => uptoBulkAll parts + 1
  | .iface _ d => uptoBulk d + 1
  | .map entries => uptoBulkEntries entries + 1
  | .held _ => 1
def uptoBulkAll {H : Type} : List (DataW H) → Nat
  | [] => 0
  | d :: r => uptoBulk d + uptoBulkAll r
def uptoBulkEntries {H : Type} : List (Lit × DataW H) → Nat
  | [] => 0
  | x :: r => uptoBulkEntry x + uptoBulkEntries r
def uptoBulkEntry {H : Type} : Lit × DataW H → Nat
  | (.string bytes, d) => bytes.length + uptoBulk d + 1
  | (_, d) => uptoBulk d + 1
 end
def uptoSmall : (H : Type) → List (DataW H) → Bool := fun _ ds => decide (uptoBulkAll ds ≤ 1048576)
def OpenSpec.upto (s : _root_.Go.ChangeSpec) : _root_.Go.OpenSpec := { _root_.Go.OpenSpec.ofChange s with cond := some uptoSmall }

/-- 'jettylaw02.RecordBack', WHERE WHAT IT READS IS OF BULK AT MOST 1048576: true; the input reads as it did. -/
def recordBackUptoRow : OpenClaim := { program := "ytlkjgnnnamkfeaa", sum := "93317093dca433b709d981bf882350e65c9885b27e160c9efe1dfdb03e6c1d21", func := "jetty/jettylaw02.RecordBack", spec := "recordBack", unfollowed := true, recurses := true, apart := false, narrowed := true }
def RecordBackUptoSaid : Prop := recordBackUptoRow.holds Try.pinned (OpenSpec.upto recordBackSpec)

/-- 'jettylaw20.InodeMay', WHERE WHAT IT READS IS OF BULK AT MOST 1048576: true; the input reads as it did. -/
def inodeMayUptoRow : OpenClaim := { program := "ytlkjgnnnamkfeaa", sum := "93317093dca433b709d981bf882350e65c9885b27e160c9efe1dfdb03e6c1d21", func := "jetty/jettylaw20.InodeMay", spec := "inodeMay", apart := false, narrowed := true }
def InodeMayUptoSaid : Prop := inodeMayUptoRow.holds Try.pinned (OpenSpec.upto inodeMaySpec)

/-- 'jettylaw20.InodeBytes', WHERE WHAT IT READS IS OF BULK AT MOST 1048576: true; the input reads as it did. -/
def inodeBytesUptoRow : OpenClaim := { program := "ytlkjgnnnamkfeaa", sum := "93317093dca433b709d981bf882350e65c9885b27e160c9efe1dfdb03e6c1d21", func := "jetty/jettylaw20.InodeBytes", spec := "inodeBytes", apart := false, narrowed := true }
def InodeBytesUptoSaid : Prop := inodeBytesUptoRow.holds Try.pinned (OpenSpec.upto inodeBytesSpec)

/-- 'jettylaw20.InodeNames', WHERE WHAT IT READS IS OF BULK AT MOST 1048576: true; the input reads as it did. -/
def inodeNamesUptoRow : OpenClaim := { program := "ytlkjgnnnamkfeaa", sum := "93317093dca433b709d981bf882350e65c9885b27e160c9efe1dfdb03e6c1d21", func := "jetty/jettylaw20.InodeNames", spec := "inodeNames", apart := false, narrowed := true }
def InodeNamesUptoSaid : Prop := inodeNamesUptoRow.holds Try.pinned (OpenSpec.upto inodeNamesSpec)

/-- 'jettylaw20.InodeBack', WHERE WHAT IT READS IS OF BULK AT MOST 1048576: true; the input reads as it did. -/
def inodeBackUptoRow : OpenClaim := { program := "ytlkjgnnnamkfeaa", sum := "93317093dca433b709d981bf882350e65c9885b27e160c9efe1dfdb03e6c1d21", func := "jetty/jettylaw20.InodeBack", spec := "inodeBack", apart := false, narrowed := true }
def InodeBackUptoSaid : Prop := inodeBackUptoRow.holds Try.pinned (OpenSpec.upto inodeBackSpec)

end Rows
end Go.Proofs.Ytlkjgnnnamkfeaa
