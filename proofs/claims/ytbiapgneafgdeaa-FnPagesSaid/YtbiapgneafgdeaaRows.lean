/-
  No cell of these rows narrows 'for every input' (looked for: loops, veiled, ifaces, maps, wideKeys, modest, calm, conditions, laid).
  DERIVED. THE GIVEN ROWS OF THIS SEAT. 7 by the template 'for every input the law returns true; each argument reads behind the call as it read before'; 0 by the template 'total and deterministic' (their statements: YtbiapgneafgdeaaTotals.lean).
  GIVEN WITH THE SEED: the statements are not yours to turn. If you find one false, say at which input.
  Laid BY PROGRAM, IN A SANDBOX (cutbox-rows.mjs): the forced cells as the released guide's own fill.sh prints them over the translation c52629666cf6a0e1… (all of the seat's roots in one cut). By AI agents, Wed Nov 11 2026. No macro, syntax, notation, axiom, sorry.
-/
import Derived.Test.YtbiapgneafgdeaaChecked
import GoSem.Claim
import GoSem.ClaimJoined
import GoSem.ClaimMapViews
import Derived.JoinedTies
import Derived.KernelRfl
namespace Go.Proofs.Ytbiapgneafgdeaa
/- THE CELL 'sum', in the pinned program and in every row, IS THE sha256 OF THE DUMP (.gsa) THAT YtbiapgneafgdeaaProg.lean LOADS. Nothing in Lean hashes anything: it is a label: what it is worth is what the hold of that sum in a sandbox is worth. -/
noncomputable def Try.pinned : Pinned := { name := "ytbiapgneafgdeaa", sum := "c52629666cf6a0e1dcc1c02246a0d7b2f95bb85261ad6f9de1a8ab5744882094", checked := Try.checked }
namespace Rows
def none {H : Type} : Left H := { results := [], args := [] }

/-- 'laws.FnExactHashMore': WHATEVER THE INPUT: true; the input reads as it did. -/
def fnExactHashMoreSpec : ChangeSpec := { name := "fnExactHashMore", fn := fun _ => fun
  | [d1, d2] => { results := [.lit (.bool true)], args := [d1, d2] }
  | _ => none }
def fnExactHashMoreRow : OpenClaim := { program := "ytbiapgneafgdeaa", sum := "c52629666cf6a0e1dcc1c02246a0d7b2f95bb85261ad6f9de1a8ab5744882094", func := "loop.example/g00195/laws.FnExactHashMore", spec := "fnExactHashMore", apart := false }
def FnExactHashMoreSaid : Prop := fnExactHashMoreRow.holds Try.pinned (OpenSpec.ofChange fnExactHashMoreSpec)

/-- ITS FALSE NEIGHBOUR: 'it returns false'. Refute it at one input. -/
def fnExactHashMoreWrong : ChangeSpec := { name := "fnExactHashMore", fn := fun _ => fun
  | [d1, d2] => { results := [.lit (.bool false)], args := [d1, d2] }
  | _ => none }
def FnExactHashMoreWrongFalsely : Prop := fnExactHashMoreRow.holds Try.pinned (OpenSpec.ofChange fnExactHashMoreWrong)

/-- 'laws.FnExactHashEnd': WHATEVER THE INPUT: true; the input reads as it did. -/
def fnExactHashEndSpec : ChangeSpec := { name := "fnExactHashEnd", fn := fun _ => fun
  | [d] => { results := [.lit (.bool true)], args := [d] }
  | _ => none }
def fnExactHashEndRow : OpenClaim := { program := "ytbiapgneafgdeaa", sum := "c52629666cf6a0e1dcc1c02246a0d7b2f95bb85261ad6f9de1a8ab5744882094", func := "loop.example/g00195/laws.FnExactHashEnd", spec := "fnExactHashEnd", apart := false }
def FnExactHashEndSaid : Prop := fnExactHashEndRow.holds Try.pinned (OpenSpec.ofChange fnExactHashEndSpec)

/-- ITS FALSE NEIGHBOUR: 'it returns false'. Refute it at one input. -/
def fnExactHashEndWrong : ChangeSpec := { name := "fnExactHashEnd", fn := fun _ => fun
  | [d] => { results := [.lit (.bool false)], args := [d] }
  | _ => none }
def FnExactHashEndWrongFalsely : Prop := fnExactHashEndRow.holds Try.pinned (OpenSpec.ofChange fnExactHashEndWrong)

/-- 'laws.FnExactDigestOf': WHATEVER THE INPUT: true; the input reads as it did. -/
def fnExactDigestOfSpec : ChangeSpec := { name := "fnExactDigestOf", fn := fun _ => fun
  | [d] => { results := [.lit (.bool true)], args := [d] }
  | _ => none }
def fnExactDigestOfRow : OpenClaim := { program := "ytbiapgneafgdeaa", sum := "c52629666cf6a0e1dcc1c02246a0d7b2f95bb85261ad6f9de1a8ab5744882094", func := "loop.example/g00195/laws.FnExactDigestOf", spec := "fnExactDigestOf", apart := false }
def FnExactDigestOfSaid : Prop := fnExactDigestOfRow.holds Try.pinned (OpenSpec.ofChange fnExactDigestOfSpec)

/-- ITS FALSE NEIGHBOUR: 'it returns false'. Refute it at one input. -/
def fnExactDigestOfWrong : ChangeSpec := { name := "fnExactDigestOf", fn := fun _ => fun
  | [d] => { results := [.lit (.bool false)], args := [d] }
  | _ => none }
def FnExactDigestOfWrongFalsely : Prop := fnExactDigestOfRow.holds Try.pinned (OpenSpec.ofChange fnExactDigestOfWrong)

/-- 'laws.FnHashers': WHATEVER THE INPUT: true; the input reads as it did. -/
def fnHashersSpec : ChangeSpec := { name := "fnHashers", fn := fun _ => fun
  | [d] => { results := [.lit (.bool true)], args := [d] }
  | _ => none }
def fnHashersRow : OpenClaim := { program := "ytbiapgneafgdeaa", sum := "c52629666cf6a0e1dcc1c02246a0d7b2f95bb85261ad6f9de1a8ab5744882094", func := "loop.example/g00195/laws.FnHashers", spec := "fnHashers", apart := false }
def FnHashersSaid : Prop := fnHashersRow.holds Try.pinned (OpenSpec.ofChange fnHashersSpec)

/-- ITS FALSE NEIGHBOUR: 'it returns false'. Refute it at one input. -/
def fnHashersWrong : ChangeSpec := { name := "fnHashers", fn := fun _ => fun
  | [d] => { results := [.lit (.bool false)], args := [d] }
  | _ => none }
def FnHashersWrongFalsely : Prop := fnHashersRow.holds Try.pinned (OpenSpec.ofChange fnHashersWrong)

/-- 'laws.FnDigests': WHATEVER THE INPUT: true; the input reads as it did. -/
def fnDigestsSpec : ChangeSpec := { name := "fnDigests", fn := fun _ => fun
  | [d] => { results := [.lit (.bool true)], args := [d] }
  | _ => none }
def fnDigestsRow : OpenClaim := { program := "ytbiapgneafgdeaa", sum := "c52629666cf6a0e1dcc1c02246a0d7b2f95bb85261ad6f9de1a8ab5744882094", func := "loop.example/g00195/laws.FnDigests", spec := "fnDigests", apart := false }
def FnDigestsSaid : Prop := fnDigestsRow.holds Try.pinned (OpenSpec.ofChange fnDigestsSpec)

/-- ITS FALSE NEIGHBOUR: 'it returns false'. Refute it at one input. -/
def fnDigestsWrong : ChangeSpec := { name := "fnDigests", fn := fun _ => fun
  | [d] => { results := [.lit (.bool false)], args := [d] }
  | _ => none }
def FnDigestsWrongFalsely : Prop := fnDigestsRow.holds Try.pinned (OpenSpec.ofChange fnDigestsWrong)

/-- 'laws.FnExactReadPage': WHATEVER THE INPUT: true; the input reads as it did. -/
def fnExactReadPageSpec : ChangeSpec := { name := "fnExactReadPage", fn := fun _ => fun
  | [d] => { results := [.lit (.bool true)], args := [d] }
  | _ => none }
def fnExactReadPageRow : OpenClaim := { program := "ytbiapgneafgdeaa", sum := "c52629666cf6a0e1dcc1c02246a0d7b2f95bb85261ad6f9de1a8ab5744882094", func := "loop.example/g00195/laws.FnExactReadPage", spec := "fnExactReadPage", apart := false }
def FnExactReadPageSaid : Prop := fnExactReadPageRow.holds Try.pinned (OpenSpec.ofChange fnExactReadPageSpec)

/-- ITS FALSE NEIGHBOUR: 'it returns false'. Refute it at one input. -/
def fnExactReadPageWrong : ChangeSpec := { name := "fnExactReadPage", fn := fun _ => fun
  | [d] => { results := [.lit (.bool false)], args := [d] }
  | _ => none }
def FnExactReadPageWrongFalsely : Prop := fnExactReadPageRow.holds Try.pinned (OpenSpec.ofChange fnExactReadPageWrong)

/-- 'laws.FnPages': WHATEVER THE INPUT: true; the input reads as it did. -/
def fnPagesSpec : ChangeSpec := { name := "fnPages", fn := fun _ => fun
  | [d] => { results := [.lit (.bool true)], args := [d] }
  | _ => none }
def fnPagesRow : OpenClaim := { program := "ytbiapgneafgdeaa", sum := "c52629666cf6a0e1dcc1c02246a0d7b2f95bb85261ad6f9de1a8ab5744882094", func := "loop.example/g00195/laws.FnPages", spec := "fnPages", apart := false }
def FnPagesSaid : Prop := fnPagesRow.holds Try.pinned (OpenSpec.ofChange fnPagesSpec)

/-- ITS FALSE NEIGHBOUR: 'it returns false'. Refute it at one input. -/
def fnPagesWrong : ChangeSpec := { name := "fnPages", fn := fun _ => fun
  | [d] => { results := [.lit (.bool false)], args := [d] }
  | _ => none }
def FnPagesWrongFalsely : Prop := fnPagesRow.holds Try.pinned (OpenSpec.ofChange fnPagesWrong)

/- THE SECOND FORM. 'bulk': how many values and letters a reading holds, each counted each time it is reached (what is shared counts as often as it is met; a slice's spare places count too). A statement '..UptoSaid' is the law's where the arguments, and the package variables that the reading takes, are together of bulk at most 1048576: NARROWER than '..Said'. Prove '..Said' where nothing that the law and all that it calls make is longer than what came in: it says more and counts as full. Else prove '..UptoSaid'. A law counts once. -/
mutual
def uptoBulk {H : Type} : DataW H → Nat
  | .lit (.string bytes) => bytes.length + 1
  | .lit _ => 1
  | .nil => 1
  | .ptr d => uptoBulk d + 1
  | .slice elems spare => uptoBulkAll elems + uptoBulkAll spare + 1
  | .agg parts => uptoBulkAll parts + 1
  | .iface _ d => uptoBulk d + 1
  | .map entries => uptoBulkEntries entries + 1
  | .held _ => 1
def uptoBulkAll {H : Type} : List (DataW H) → Nat
  | [] => 0
  | d :: r => uptoBulk d + uptoBulkAll r
def uptoBulkEntries {H : Type} : List (Lit × DataW H) → Nat
  | [] => 0
  | x :: r => uptoBulkEntry x + uptoBulkEntries r
def uptoBulkEntry {H : Type} : Lit × DataW H → Nat
  | (.string bytes, d) => bytes.length + uptoBulk d + 1
  | (_, d) => uptoBulk d + 1
 end
def uptoSmall : (H : Type) → List (DataW H) → Bool := fun _ ds => decide (uptoBulkAll ds ≤ 1048576)
def OpenSpec.upto (s : _root_.Go.ChangeSpec) : _root_.Go.OpenSpec := { _root_.Go.OpenSpec.ofChange s with cond := some uptoSmall }

/-- 'laws.FnExactHashMore', WHERE WHAT IT READS IS OF BULK AT MOST 1048576: true; the input reads as it did. -/
def fnExactHashMoreUptoRow : OpenClaim := { program := "ytbiapgneafgdeaa", sum := "c52629666cf6a0e1dcc1c02246a0d7b2f95bb85261ad6f9de1a8ab5744882094", func := "loop.example/g00195/laws.FnExactHashMore", spec := "fnExactHashMore", apart := false, narrowed := true }
def FnExactHashMoreUptoSaid : Prop := fnExactHashMoreUptoRow.holds Try.pinned (OpenSpec.upto fnExactHashMoreSpec)

/-- 'laws.FnExactHashEnd', WHERE WHAT IT READS IS OF BULK AT MOST 1048576: true; the input reads as it did. -/
def fnExactHashEndUptoRow : OpenClaim := { program := "ytbiapgneafgdeaa", sum := "c52629666cf6a0e1dcc1c02246a0d7b2f95bb85261ad6f9de1a8ab5744882094", func := "loop.example/g00195/laws.FnExactHashEnd", spec := "fnExactHashEnd", apart := false, narrowed := true }
def FnExactHashEndUptoSaid : Prop := fnExactHashEndUptoRow.holds Try.pinned (OpenSpec.upto fnExactHashEndSpec)

/-- 'laws.FnExactDigestOf', WHERE WHAT IT READS IS OF BULK AT MOST 1048576: true; the input reads as it did. -/
def fnExactDigestOfUptoRow : OpenClaim := { program := "ytbiapgneafgdeaa", sum := "c52629666cf6a0e1dcc1c02246a0d7b2f95bb85261ad6f9de1a8ab5744882094", func := "loop.example/g00195/laws.FnExactDigestOf", spec := "fnExactDigestOf", apart := false, narrowed := true }
def FnExactDigestOfUptoSaid : Prop := fnExactDigestOfUptoRow.holds Try.pinned (OpenSpec.upto fnExactDigestOfSpec)

/-- 'laws.FnHashers', WHERE WHAT IT READS IS OF BULK AT MOST 1048576: true; the input reads as it did. -/
def fnHashersUptoRow : OpenClaim := { program := "ytbiapgneafgdeaa", sum := "c52629666cf6a0e1dcc1c02246a0d7b2f95bb85261ad6f9de1a8ab5744882094", func := "loop.example/g00195/laws.FnHashers", spec := "fnHashers", apart := false, narrowed := true }
def FnHashersUptoSaid : Prop := fnHashersUptoRow.holds Try.pinned (OpenSpec.upto fnHashersSpec)

/-- 'laws.FnDigests', WHERE WHAT IT READS IS OF BULK AT MOST 1048576: true; the input reads as it did. -/
def fnDigestsUptoRow : OpenClaim := { program := "ytbiapgneafgdeaa", sum := "c52629666cf6a0e1dcc1c02246a0d7b2f95bb85261ad6f9de1a8ab5744882094", func := "loop.example/g00195/laws.FnDigests", spec := "fnDigests", apart := false, narrowed := true }
def FnDigestsUptoSaid : Prop := fnDigestsUptoRow.holds Try.pinned (OpenSpec.upto fnDigestsSpec)

/-- 'laws.FnExactReadPage', WHERE WHAT IT READS IS OF BULK AT MOST 1048576: true; the input reads as it did. -/
def fnExactReadPageUptoRow : OpenClaim := { program := "ytbiapgneafgdeaa", sum := "c52629666cf6a0e1dcc1c02246a0d7b2f95bb85261ad6f9de1a8ab5744882094", func := "loop.example/g00195/laws.FnExactReadPage", spec := "fnExactReadPage", apart := false, narrowed := true }
def FnExactReadPageUptoSaid : Prop := fnExactReadPageUptoRow.holds Try.pinned (OpenSpec.upto fnExactReadPageSpec)

/-- 'laws.FnPages', WHERE WHAT IT READS IS OF BULK AT MOST 1048576: true; the input reads as it did. -/
def fnPagesUptoRow : OpenClaim := { program := "ytbiapgneafgdeaa", sum := "c52629666cf6a0e1dcc1c02246a0d7b2f95bb85261ad6f9de1a8ab5744882094", func := "loop.example/g00195/laws.FnPages", spec := "fnPages", apart := false, narrowed := true }
def FnPagesUptoSaid : Prop := fnPagesUptoRow.holds Try.pinned (OpenSpec.upto fnPagesSpec)

end Rows
end Go.Proofs.Ytbiapgneafgdeaa
