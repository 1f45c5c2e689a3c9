/-
  No cell of these rows narrows 'for every input' (looked for: loops, veiled, ifaces, maps, wideKeys, modest, calm, conditions, laid).
  DERIVED. THE GIVEN ROWS OF THIS SEAT. 3 by the template 'for every input the law returns true; each argument reads behind the call as it read before'; 0 by the template 'total and deterministic' (their statements: YthbdijeikfgjeaaTotals.lean).
  GIVEN WITH THE SEED: the statements are not yours to turn. If you find one false, say at which input.
  Laid BY PROGRAM, IN A SANDBOX (cutbox-rows.mjs): the forced cells as the released guide's own fill.sh prints them over the translation 446bc87ab9394614… (all of the seat's roots in one cut). By AI agents, Wed Nov 11 2026. No macro, syntax, notation, axiom, sorry.
-/
import Derived.Test.YthbdijeikfgjeaaChecked
import GoSem.Claim
import GoSem.ClaimJoined
import GoSem.ClaimMapViews
import Derived.JoinedTies
import Derived.KernelRfl
namespace Go.Proofs.Ythbdijeikfgjeaa
/- THE CELL 'sum', in the pinned program and in every row, IS THE sha256 OF THE DUMP (.gsa) THAT YthbdijeikfgjeaaProg.lean LOADS. Nothing in Lean hashes anything: it is a label: what it is worth is what the hold of that sum in a sandbox is worth. -/
noncomputable def Try.pinned : Pinned := { name := "ythbdijeikfgjeaa", sum := "446bc87ab9394614821b1fbe1598f514941fa53db032c02b7c2f662bf5ee355f", checked := Try.checked }
namespace Rows
def none {H : Type} : Left H := { results := [], args := [] }

/-- 'laws.FnExactLastSeq': WHATEVER THE INPUT: true; the input reads as it did. -/
def fnExactLastSeqSpec : ChangeSpec := { name := "fnExactLastSeq", fn := fun _ => fun
  | [d] => { results := [.lit (.bool true)], args := [d] }
  | _ => none }
def fnExactLastSeqRow : OpenClaim := { program := "ythbdijeikfgjeaa", sum := "446bc87ab9394614821b1fbe1598f514941fa53db032c02b7c2f662bf5ee355f", func := "loop.example/g00195/laws.FnExactLastSeq", spec := "fnExactLastSeq", inPlace := ["internal/reflectlite.ValueOf", "internal/reflectlite.Swapper", "(internal/reflectlite.Value).Len"], unfollowed := true, recurses := true, apart := false }
def FnExactLastSeqSaid : Prop := fnExactLastSeqRow.holds Try.pinned (OpenSpec.ofChange fnExactLastSeqSpec)

/-- ITS FALSE NEIGHBOUR: 'it returns false'. Refute it at one input. -/
def fnExactLastSeqWrong : ChangeSpec := { name := "fnExactLastSeq", fn := fun _ => fun
  | [d] => { results := [.lit (.bool false)], args := [d] }
  | _ => none }
def FnExactLastSeqWrongFalsely : Prop := fnExactLastSeqRow.holds Try.pinned (OpenSpec.ofChange fnExactLastSeqWrong)

/-- 'laws.FnScans': WHATEVER THE INPUT: true; the input reads as it did. -/
def fnScansSpec : ChangeSpec := { name := "fnScans", fn := fun _ => fun
  | [d] => { results := [.lit (.bool true)], args := [d] }
  | _ => none }
def fnScansRow : OpenClaim := { program := "ythbdijeikfgjeaa", sum := "446bc87ab9394614821b1fbe1598f514941fa53db032c02b7c2f662bf5ee355f", func := "loop.example/g00195/laws.FnScans", spec := "fnScans", inPlace := ["internal/reflectlite.ValueOf", "internal/reflectlite.Swapper", "(internal/reflectlite.Value).Len"], unfollowed := true, recurses := true, apart := false }
def FnScansSaid : Prop := fnScansRow.holds Try.pinned (OpenSpec.ofChange fnScansSpec)

/-- ITS FALSE NEIGHBOUR: 'it returns false'. Refute it at one input. -/
def fnScansWrong : ChangeSpec := { name := "fnScans", fn := fun _ => fun
  | [d] => { results := [.lit (.bool false)], args := [d] }
  | _ => none }
def FnScansWrongFalsely : Prop := fnScansRow.holds Try.pinned (OpenSpec.ofChange fnScansWrong)

/-- 'laws.FnExactScanAll': WHATEVER THE INPUT: true; the input reads as it did. -/
def fnExactScanAllSpec : ChangeSpec := { name := "fnExactScanAll", fn := fun _ => fun
  | [d] => { results := [.lit (.bool true)], args := [d] }
  | _ => none }
def fnExactScanAllRow : OpenClaim := { program := "ythbdijeikfgjeaa", sum := "446bc87ab9394614821b1fbe1598f514941fa53db032c02b7c2f662bf5ee355f", func := "loop.example/g00195/laws.FnExactScanAll", spec := "fnExactScanAll", inPlace := ["internal/reflectlite.ValueOf", "internal/reflectlite.Swapper", "(internal/reflectlite.Value).Len"], unfollowed := true, recurses := true, apart := false }
def FnExactScanAllSaid : Prop := fnExactScanAllRow.holds Try.pinned (OpenSpec.ofChange fnExactScanAllSpec)

/-- ITS FALSE NEIGHBOUR: 'it returns false'. Refute it at one input. -/
def fnExactScanAllWrong : ChangeSpec := { name := "fnExactScanAll", fn := fun _ => fun
  | [d] => { results := [.lit (.bool false)], args := [d] }
  | _ => none }
def FnExactScanAllWrongFalsely : Prop := fnExactScanAllRow.holds Try.pinned (OpenSpec.ofChange fnExactScanAllWrong)

/- THE SECOND FORM. 'bulk': how many values and letters a reading holds, each counted each time it is reached (what is shared counts as often as it is met; a slice's spare places count too). A statement '..UptoSaid' is the law's where the arguments, and the package variables that the reading takes, are together of bulk at most 1048576: NARROWER than '..Said'. Prove '..Said' where nothing that the law and all that it calls make is longer than what came in: it says more and counts as full. Else prove '..UptoSaid'. A law counts once. -/
mutual
def uptoBulk {H : Type} : DataW H → Nat
  | .lit (.string bytes) => bytes.length + 1
  | .lit _ => 1
  | .nil => 1
  | .ptr d => uptoBulk d + 1
  | .slice elems spare => uptoBulkAll elems + uptoBulkAll spare + 1
  | .agg parts => uptoBulkAll parts + 1
  | .iface _ d => uptoBulk d + 1
  | .map entries => uptoBulkEntries entries + 1
  | .held _ => 1
def uptoBulkAll {H : Type} : List (DataW H) → Nat
  | [] => 0
  | d :: r => uptoBulk d + uptoBulkAll r
def uptoBulkEntries {H : Type} : List (Lit × DataW H) → Nat
  | [] => 0
  | x :: r => uptoBulkEntry x + uptoBulkEntries r
def uptoBulkEntry {H : Type} : Lit × DataW H → Nat
  | (.string bytes, d) => bytes.length + uptoBulk d + 1
  | (_, d) => uptoBulk d + 1
 end
def uptoSmall : (H : Type) → List (DataW H) → Bool := fun _ ds => decide (uptoBulkAll ds ≤ 1048576)
def OpenSpec.upto (s : _root_.Go.ChangeSpec) : _root_.Go.OpenSpec := { _root_.Go.OpenSpec.ofChange s with cond := some uptoSmall }

/-- 'laws.FnExactLastSeq', WHERE WHAT IT READS IS OF BULK AT MOST 1048576: true; the input reads as it did. -/
def fnExactLastSeqUptoRow : OpenClaim := { program := "ythbdijeikfgjeaa", sum := "446bc87ab9394614821b1fbe1598f514941fa53db032c02b7c2f662bf5ee355f", func := "loop.example/g00195/laws.FnExactLastSeq", spec := "fnExactLastSeq", inPlace := ["internal/reflectlite.ValueOf", "internal/reflectlite.Swapper", "(internal/reflectlite.Value).Len"], unfollowed := true, recurses := true, apart := false, narrowed := true }
def FnExactLastSeqUptoSaid : Prop := fnExactLastSeqUptoRow.holds Try.pinned (OpenSpec.upto fnExactLastSeqSpec)

/-- 'laws.FnScans', WHERE WHAT IT READS IS OF BULK AT MOST 1048576: true; the input reads as it did. -/
def fnScansUptoRow : OpenClaim := { program := "ythbdijeikfgjeaa", sum := "446bc87ab9394614821b1fbe1598f514941fa53db032c02b7c2f662bf5ee355f", func := "loop.example/g00195/laws.FnScans", spec := "fnScans", inPlace := ["internal/reflectlite.ValueOf", "internal/reflectlite.Swapper", "(internal/reflectlite.Value).Len"], unfollowed := true, recurses := true, apart := false, narrowed := true }
def FnScansUptoSaid : Prop := fnScansUptoRow.holds Try.pinned (OpenSpec.upto fnScansSpec)

/-- 'laws.FnExactScanAll', WHERE WHAT IT READS IS OF BULK AT MOST 1048576: true; the input reads as it did. -/
def fnExactScanAllUptoRow : OpenClaim := { program := "ythbdijeikfgjeaa", sum := "446bc87ab9394614821b1fbe1598f514941fa53db032c02b7c2f662bf5ee355f", func := "loop.example/g00195/laws.FnExactScanAll", spec := "fnExactScanAll", inPlace := ["internal/reflectlite.ValueOf", "internal/reflectlite.Swapper", "(internal/reflectlite.Value).Len"], unfollowed := true, recurses := true, apart := false, narrowed := true }
def FnExactScanAllUptoSaid : Prop := fnExactScanAllUptoRow.holds Try.pinned (OpenSpec.upto fnExactScanAllSpec)

end Rows
end Go.Proofs.Ythbdijeikfgjeaa
