/-
  No cell of these rows narrows 'for every input' (looked for: loops, veiled, ifaces, maps, wideKeys, modest, calm, conditions, laid).
  DERIVED. THE GIVEN ROWS OF THIS SEAT. 3 by the template 'for every input the law returns true; each argument reads behind the call as it read before'; 0 by the template 'total and deterministic' (their statements: YtdiejjhlgacbdaaTotals.lean).
  GIVEN WITH THE SEED: the statements are not yours to turn. If you find one false, say at which input.
  Laid BY PROGRAM, IN A SANDBOX (cutbox-rows.mjs): the forced cells as the released guide's own fill.sh prints them over the translation 39c8190d2c9a39f3… (all of the seat's roots in one cut). By AI agents, Wed Nov 11 2026. No macro, syntax, notation, axiom, sorry.
-/
import Derived.Test.YtdiejjhlgacbdaaChecked
import GoSem.Claim
import GoSem.ClaimJoined
import GoSem.ClaimMapViews
import Derived.JoinedTies
import Derived.KernelRfl
namespace Go.Proofs.Ytdiejjhlgacbdaa
/- THE CELL 'sum', in the pinned program and in every row, IS THE sha256 OF THE DUMP (.gsa) THAT YtdiejjhlgacbdaaProg.lean LOADS. Nothing in Lean hashes anything: it is a label: what it is worth is what the hold of that sum in a sandbox is worth. -/
noncomputable def Try.pinned : Pinned := { name := "ytdiejjhlgacbdaa", sum := "39c8190d2c9a39f39c00d0f684491b4ccbb33072cbf1c083e248b8cf3e08f4e5", checked := Try.checked }
namespace Rows
def none {H : Type} : Left H := { results := [], args := [] }

/-- 'jettylaw16.DeadOnce': WHATEVER THE INPUT: true; the input reads as it did. -/
def deadOnceSpec : ChangeSpec := { name := "deadOnce", fn := fun _ => fun
  | [d] => { results := [.lit (.bool true)], args := [d] }
  | _ => none }
def deadOnceRow : OpenClaim := { program := "ytdiejjhlgacbdaa", sum := "39c8190d2c9a39f39c00d0f684491b4ccbb33072cbf1c083e248b8cf3e08f4e5", func := "jetty/jettylaw16.DeadOnce", spec := "deadOnce", unfollowed := true, recurses := true, apart := false }
def DeadOnceSaid : Prop := deadOnceRow.holds Try.pinned (OpenSpec.ofChange deadOnceSpec)

/-- ITS FALSE NEIGHBOUR: 'it returns false'. Refute it at one input. -/
def deadOnceWrong : ChangeSpec := { name := "deadOnce", fn := fun _ => fun
  | [d] => { results := [.lit (.bool false)], args := [d] }
  | _ => none }
def DeadOnceWrongFalsely : Prop := deadOnceRow.holds Try.pinned (OpenSpec.ofChange deadOnceWrong)

/-- 'jettylaw16.DeadPlays': WHATEVER THE INPUT: true; the input reads as it did. -/
def deadPlaysSpec : ChangeSpec := { name := "deadPlays", fn := fun _ => fun
  | [d] => { results := [.lit (.bool true)], args := [d] }
  | _ => none }
def deadPlaysRow : OpenClaim := { program := "ytdiejjhlgacbdaa", sum := "39c8190d2c9a39f39c00d0f684491b4ccbb33072cbf1c083e248b8cf3e08f4e5", func := "jetty/jettylaw16.DeadPlays", spec := "deadPlays", inPlace := ["maps.clone"], unfollowed := true, recurses := true, apart := false }
def DeadPlaysSaid : Prop := deadPlaysRow.holds Try.pinned (OpenSpec.ofChange deadPlaysSpec)

/-- ITS FALSE NEIGHBOUR: 'it returns false'. Refute it at one input. -/
def deadPlaysWrong : ChangeSpec := { name := "deadPlays", fn := fun _ => fun
  | [d] => { results := [.lit (.bool false)], args := [d] }
  | _ => none }
def DeadPlaysWrongFalsely : Prop := deadPlaysRow.holds Try.pinned (OpenSpec.ofChange deadPlaysWrong)

/-- 'jettylaw16.DeadNames': WHATEVER THE INPUT: true; the input reads as it did. -/
def deadNamesSpec : ChangeSpec := { name := "deadNames", fn := fun _ => fun
  | [] => { results := [.lit (.bool true)], args := [] }
  | _ => none }
def deadNamesRow : OpenClaim := { program := "ytdiejjhlgacbdaa", sum := "39c8190d2c9a39f39c00d0f684491b4ccbb33072cbf1c083e248b8cf3e08f4e5", func := "jetty/jettylaw16.DeadNames", spec := "deadNames", inPlace := ["maps.clone"], unfollowed := true, recurses := true, apart := false }
def DeadNamesSaid : Prop := deadNamesRow.holds Try.pinned (OpenSpec.ofChange deadNamesSpec)

/-- ITS FALSE NEIGHBOUR: 'it returns false'. Refute it at one input. -/
def deadNamesWrong : ChangeSpec := { name := "deadNames", fn := fun _ => fun
  | [] => { results := [.lit (.bool false)], args := [] }
  | _ => none }
def DeadNamesWrongFalsely : Prop := deadNamesRow.holds Try.pinned (OpenSpec.ofChange deadNamesWrong)

/- THE SECOND FORM. 'bulk': how many values and letters a reading holds, each counted each time it is reached (what is shared counts as often as it is met; a slice's spare places count too). A statement '..UptoSaid' is the law's where the arguments, and the package variables that the reading takes, are together of bulk at most 1048576: NARROWER than '..Said'. Prove '..Said' where nothing that the law and all that it calls make is longer than what came in: it says more and counts as full. Else prove '..UptoSaid'. A law counts once. -/
mutual
def uptoBulk {H : Type} : DataW H → Nat
  | .lit (.string bytes) => bytes.length + 1
  | .lit _ => 1
  | .nil => 1
  | .ptr d => uptoBulk d + 1
  | .slice elems spare => uptoBulkAll elems + uptoBulkAll spare + 1
  | .agg parts => uptoBulkAll parts + 1
  | .iface _ d => uptoBulk d + 1
  | .map entries => uptoBulkEntries entries + 1
  | .held _ => 1
def uptoBulkAll {H : Type} : List (DataW H) → Nat
  | [] => 0
  | d :: r => uptoBulk d + uptoBulkAll r
def uptoBulkEntries {H : Type} : List (Lit × DataW H) → Nat
  | [] => 0
  | x :: r => uptoBulkEntry x + uptoBulkEntries r
def uptoBulkEntry {H : Type} : Lit × DataW H → Nat
  | (.string bytes, d) => bytes.length + uptoBulk d + 1
  | (_, d) => uptoBulk d + 1
 end
def uptoSmall : (H : Type) → List (DataW H) → Bool := fun _ ds => decide (uptoBulkAll ds ≤ 1048576)
def OpenSpec.upto (s : _root_.Go.ChangeSpec) : _root_.Go.OpenSpec := { _root_.Go.OpenSpec.ofChange s with cond := some uptoSmall }

/-- 'jettylaw16.DeadOnce', WHERE WHAT IT READS IS OF BULK AT MOST 1048576: true; the input reads as it did. -/
def deadOnceUptoRow : OpenClaim := { program := "ytdiejjhlgacbdaa", sum := "39c8190d2c9a39f39c00d0f684491b4ccbb33072cbf1c083e248b8cf3e08f4e5", func := "jetty/jettylaw16.DeadOnce", spec := "deadOnce", unfollowed := true, recurses := true, apart := false, narrowed := true }
def DeadOnceUptoSaid : Prop := deadOnceUptoRow.holds Try.pinned (OpenSpec.upto deadOnceSpec)

/-- 'jettylaw16.DeadPlays', WHERE WHAT IT READS IS OF BULK AT MOST 1048576: true; the input reads as it did. -/
def deadPlaysUptoRow : OpenClaim := { program := "ytdiejjhlgacbdaa", sum := "39c8190d2c9a39f39c00d0f684491b4ccbb33072cbf1c083e248b8cf3e08f4e5", func := "jetty/jettylaw16.DeadPlays", spec := "deadPlays", inPlace := ["maps.clone"], unfollowed := true, recurses := true, apart := false, narrowed := true }
def DeadPlaysUptoSaid : Prop := deadPlaysUptoRow.holds Try.pinned (OpenSpec.upto deadPlaysSpec)

/-- 'jettylaw16.DeadNames', WHERE WHAT IT READS IS OF BULK AT MOST 1048576: true; the input reads as it did. -/
def deadNamesUptoRow : OpenClaim := { program := "ytdiejjhlgacbdaa", sum := "39c8190d2c9a39f39c00d0f684491b4ccbb33072cbf1c083e248b8cf3e08f4e5", func := "jetty/jettylaw16.DeadNames", spec := "deadNames", inPlace := ["maps.clone"], unfollowed := true, recurses := true, apart := false, narrowed := true }
def DeadNamesUptoSaid : Prop := deadNamesUptoRow.holds Try.pinned (OpenSpec.upto deadNamesSpec)

end Rows
end Go.Proofs.Ytdiejjhlgacbdaa
