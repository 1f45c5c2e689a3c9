/-
  No cell of these rows narrows 'for every input' (looked for: loops, veiled, ifaces, maps, wideKeys, modest, calm, conditions, laid).
  DERIVED. THE GIVEN ROWS OF THIS SEAT. 12 by the template 'for every input the law returns true; each argument reads behind the call as it read before'; 0 by the template 'total and deterministic' (their statements: YtbafmoggckeaeaaTotals.lean).
  GIVEN WITH THE SEED: the statements are not yours to turn. If you find one false, say at which input.
  Laid BY PROGRAM, IN A SANDBOX (cutbox-rows.mjs): the forced cells as the released guide's own fill.sh prints them over the translation 58d20d9002aecabb… (all of the seat's roots in one cut). By AI agents, Wed Nov 11 2026. No macro, syntax, notation, axiom, sorry.
-/
import Derived.Test.YtbafmoggckeaeaaChecked
import GoSem.Claim
import GoSem.ClaimJoined
import GoSem.ClaimMapViews
import Derived.JoinedTies
import Derived.KernelRfl
namespace Go.Proofs.Ytbafmoggckeaeaa
/- THE CELL 'sum', in the pinned program and in every row, IS THE sha256 OF THE DUMP (.gsa) THAT YtbafmoggckeaeaaProg.lean LOADS. Nothing in Lean hashes anything: it is a label: what it is worth is what the hold of that sum in a sandbox is worth. -/
noncomputable def Try.pinned : Pinned := { name := "ytbafmoggckeaeaa", sum := "58d20d9002aecabbdc1fdfa29446da29907c74f8dd313ab5f6b0d72af800dd15", checked := Try.checked }
namespace Rows
def none {H : Type} : Left H := { results := [], args := [] }

/-- 'laws.FnPacks': WHATEVER THE INPUT: true; the input reads as it did. -/
def fnPacksSpec : ChangeSpec := { name := "fnPacks", fn := fun _ => fun
  | [d] => { results := [.lit (.bool true)], args := [d] }
  | _ => none }
def fnPacksRow : OpenClaim := { program := "ytbafmoggckeaeaa", sum := "58d20d9002aecabbdc1fdfa29446da29907c74f8dd313ab5f6b0d72af800dd15", func := "loop.example/g00195/laws.FnPacks", spec := "fnPacks", apart := false }
def FnPacksSaid : Prop := fnPacksRow.holds Try.pinned (OpenSpec.ofChange fnPacksSpec)

/-- ITS FALSE NEIGHBOUR: 'it returns false'. Refute it at one input. -/
def fnPacksWrong : ChangeSpec := { name := "fnPacks", fn := fun _ => fun
  | [d] => { results := [.lit (.bool false)], args := [d] }
  | _ => none }
def FnPacksWrongFalsely : Prop := fnPacksRow.holds Try.pinned (OpenSpec.ofChange fnPacksWrong)

/-- 'laws.FnWear': WHATEVER THE INPUT: true; the input reads as it did. -/
def fnWearSpec : ChangeSpec := { name := "fnWear", fn := fun _ => fun
  | [d] => { results := [.lit (.bool true)], args := [d] }
  | _ => none }
def fnWearRow : OpenClaim := { program := "ytbafmoggckeaeaa", sum := "58d20d9002aecabbdc1fdfa29446da29907c74f8dd313ab5f6b0d72af800dd15", func := "loop.example/g00195/laws.FnWear", spec := "fnWear", apart := false }
def FnWearSaid : Prop := fnWearRow.holds Try.pinned (OpenSpec.ofChange fnWearSpec)

/-- ITS FALSE NEIGHBOUR: 'it returns false'. Refute it at one input. -/
def fnWearWrong : ChangeSpec := { name := "fnWear", fn := fun _ => fun
  | [d] => { results := [.lit (.bool false)], args := [d] }
  | _ => none }
def FnWearWrongFalsely : Prop := fnWearRow.holds Try.pinned (OpenSpec.ofChange fnWearWrong)

/-- 'laws.FnPackRuns': WHATEVER THE INPUT: true; the input reads as it did. -/
def fnPackRunsSpec : ChangeSpec := { name := "fnPackRuns", fn := fun _ => fun
  | [d] => { results := [.lit (.bool true)], args := [d] }
  | _ => none }
def fnPackRunsRow : OpenClaim := { program := "ytbafmoggckeaeaa", sum := "58d20d9002aecabbdc1fdfa29446da29907c74f8dd313ab5f6b0d72af800dd15", func := "loop.example/g00195/laws.FnPackRuns", spec := "fnPackRuns", apart := false }
def FnPackRunsSaid : Prop := fnPackRunsRow.holds Try.pinned (OpenSpec.ofChange fnPackRunsSpec)

/-- ITS FALSE NEIGHBOUR: 'it returns false'. Refute it at one input. -/
def fnPackRunsWrong : ChangeSpec := { name := "fnPackRuns", fn := fun _ => fun
  | [d] => { results := [.lit (.bool false)], args := [d] }
  | _ => none }
def FnPackRunsWrongFalsely : Prop := fnPackRunsRow.holds Try.pinned (OpenSpec.ofChange fnPackRunsWrong)

/-- 'laws.FnExactFlashOk': WHATEVER THE INPUT: true; the input reads as it did. -/
def fnExactFlashOkSpec : ChangeSpec := { name := "fnExactFlashOk", fn := fun _ => fun
  | [d] => { results := [.lit (.bool true)], args := [d] }
  | _ => none }
def fnExactFlashOkRow : OpenClaim := { program := "ytbafmoggckeaeaa", sum := "58d20d9002aecabbdc1fdfa29446da29907c74f8dd313ab5f6b0d72af800dd15", func := "loop.example/g00195/laws.FnExactFlashOk", spec := "fnExactFlashOk", apart := false }
def FnExactFlashOkSaid : Prop := fnExactFlashOkRow.holds Try.pinned (OpenSpec.ofChange fnExactFlashOkSpec)

/-- ITS FALSE NEIGHBOUR: 'it returns false'. Refute it at one input. -/
def fnExactFlashOkWrong : ChangeSpec := { name := "fnExactFlashOk", fn := fun _ => fun
  | [d] => { results := [.lit (.bool false)], args := [d] }
  | _ => none }
def FnExactFlashOkWrongFalsely : Prop := fnExactFlashOkRow.holds Try.pinned (OpenSpec.ofChange fnExactFlashOkWrong)

/-- 'laws.FnFills': WHATEVER THE INPUT: true; the input reads as it did. -/
def fnFillsSpec : ChangeSpec := { name := "fnFills", fn := fun _ => fun
  | [d] => { results := [.lit (.bool true)], args := [d] }
  | _ => none }
def fnFillsRow : OpenClaim := { program := "ytbafmoggckeaeaa", sum := "58d20d9002aecabbdc1fdfa29446da29907c74f8dd313ab5f6b0d72af800dd15", func := "loop.example/g00195/laws.FnFills", spec := "fnFills", apart := false }
def FnFillsSaid : Prop := fnFillsRow.holds Try.pinned (OpenSpec.ofChange fnFillsSpec)

/-- ITS FALSE NEIGHBOUR: 'it returns false'. Refute it at one input. -/
def fnFillsWrong : ChangeSpec := { name := "fnFills", fn := fun _ => fun
  | [d] => { results := [.lit (.bool false)], args := [d] }
  | _ => none }
def FnFillsWrongFalsely : Prop := fnFillsRow.holds Try.pinned (OpenSpec.ofChange fnFillsWrong)

/-- 'laws.FnTokens': WHATEVER THE INPUT: true; the input reads as it did. -/
def fnTokensSpec : ChangeSpec := { name := "fnTokens", fn := fun _ => fun
  | [d] => { results := [.lit (.bool true)], args := [d] }
  | _ => none }
def fnTokensRow : OpenClaim := { program := "ytbafmoggckeaeaa", sum := "58d20d9002aecabbdc1fdfa29446da29907c74f8dd313ab5f6b0d72af800dd15", func := "loop.example/g00195/laws.FnTokens", spec := "fnTokens", apart := false }
def FnTokensSaid : Prop := fnTokensRow.holds Try.pinned (OpenSpec.ofChange fnTokensSpec)

/-- ITS FALSE NEIGHBOUR: 'it returns false'. Refute it at one input. -/
def fnTokensWrong : ChangeSpec := { name := "fnTokens", fn := fun _ => fun
  | [d] => { results := [.lit (.bool false)], args := [d] }
  | _ => none }
def FnTokensWrongFalsely : Prop := fnTokensRow.holds Try.pinned (OpenSpec.ofChange fnTokensWrong)

/-- 'laws.FnExactUnpackText': WHATEVER THE INPUT: true; the input reads as it did. -/
def fnExactUnpackTextSpec : ChangeSpec := { name := "fnExactUnpackText", fn := fun _ => fun
  | [d] => { results := [.lit (.bool true)], args := [d] }
  | _ => none }
def fnExactUnpackTextRow : OpenClaim := { program := "ytbafmoggckeaeaa", sum := "58d20d9002aecabbdc1fdfa29446da29907c74f8dd313ab5f6b0d72af800dd15", func := "loop.example/g00195/laws.FnExactUnpackText", spec := "fnExactUnpackText", apart := false }
def FnExactUnpackTextSaid : Prop := fnExactUnpackTextRow.holds Try.pinned (OpenSpec.ofChange fnExactUnpackTextSpec)

/-- ITS FALSE NEIGHBOUR: 'it returns false'. Refute it at one input. -/
def fnExactUnpackTextWrong : ChangeSpec := { name := "fnExactUnpackText", fn := fun _ => fun
  | [d] => { results := [.lit (.bool false)], args := [d] }
  | _ => none }
def FnExactUnpackTextWrongFalsely : Prop := fnExactUnpackTextRow.holds Try.pinned (OpenSpec.ofChange fnExactUnpackTextWrong)

/-- 'laws.FnPrograms': WHATEVER THE INPUT: true; the input reads as it did. -/
def fnProgramsSpec : ChangeSpec := { name := "fnPrograms", fn := fun _ => fun
  | [d] => { results := [.lit (.bool true)], args := [d] }
  | _ => none }
def fnProgramsRow : OpenClaim := { program := "ytbafmoggckeaeaa", sum := "58d20d9002aecabbdc1fdfa29446da29907c74f8dd313ab5f6b0d72af800dd15", func := "loop.example/g00195/laws.FnPrograms", spec := "fnPrograms", apart := false }
def FnProgramsSaid : Prop := fnProgramsRow.holds Try.pinned (OpenSpec.ofChange fnProgramsSpec)

/-- ITS FALSE NEIGHBOUR: 'it returns false'. Refute it at one input. -/
def fnProgramsWrong : ChangeSpec := { name := "fnPrograms", fn := fun _ => fun
  | [d] => { results := [.lit (.bool false)], args := [d] }
  | _ => none }
def FnProgramsWrongFalsely : Prop := fnProgramsRow.holds Try.pinned (OpenSpec.ofChange fnProgramsWrong)

/-- 'laws.FnExactMarkBad': WHATEVER THE INPUT: true; the input reads as it did. -/
def fnExactMarkBadSpec : ChangeSpec := { name := "fnExactMarkBad", fn := fun _ => fun
  | [d1, d2] => { results := [.lit (.bool true)], args := [d1, d2] }
  | _ => none }
def fnExactMarkBadRow : OpenClaim := { program := "ytbafmoggckeaeaa", sum := "58d20d9002aecabbdc1fdfa29446da29907c74f8dd313ab5f6b0d72af800dd15", func := "loop.example/g00195/laws.FnExactMarkBad", spec := "fnExactMarkBad", apart := false }
def FnExactMarkBadSaid : Prop := fnExactMarkBadRow.holds Try.pinned (OpenSpec.ofChange fnExactMarkBadSpec)

/-- ITS FALSE NEIGHBOUR: 'it returns false'. Refute it at one input. -/
def fnExactMarkBadWrong : ChangeSpec := { name := "fnExactMarkBad", fn := fun _ => fun
  | [d1, d2] => { results := [.lit (.bool false)], args := [d1, d2] }
  | _ => none }
def FnExactMarkBadWrongFalsely : Prop := fnExactMarkBadRow.holds Try.pinned (OpenSpec.ofChange fnExactMarkBadWrong)

/-- 'laws.FnWipes': WHATEVER THE INPUT: true; the input reads as it did. -/
def fnWipesSpec : ChangeSpec := { name := "fnWipes", fn := fun _ => fun
  | [d] => { results := [.lit (.bool true)], args := [d] }
  | _ => none }
def fnWipesRow : OpenClaim := { program := "ytbafmoggckeaeaa", sum := "58d20d9002aecabbdc1fdfa29446da29907c74f8dd313ab5f6b0d72af800dd15", func := "loop.example/g00195/laws.FnWipes", spec := "fnWipes", apart := false }
def FnWipesSaid : Prop := fnWipesRow.holds Try.pinned (OpenSpec.ofChange fnWipesSpec)

/-- ITS FALSE NEIGHBOUR: 'it returns false'. Refute it at one input. -/
def fnWipesWrong : ChangeSpec := { name := "fnWipes", fn := fun _ => fun
  | [d] => { results := [.lit (.bool false)], args := [d] }
  | _ => none }
def FnWipesWrongFalsely : Prop := fnWipesRow.holds Try.pinned (OpenSpec.ofChange fnWipesWrong)

/-- 'laws.FnExactWipe': WHATEVER THE INPUT: true; the input reads as it did. -/
def fnExactWipeSpec : ChangeSpec := { name := "fnExactWipe", fn := fun _ => fun
  | [d1, d2] => { results := [.lit (.bool true)], args := [d1, d2] }
  | _ => none }
def fnExactWipeRow : OpenClaim := { program := "ytbafmoggckeaeaa", sum := "58d20d9002aecabbdc1fdfa29446da29907c74f8dd313ab5f6b0d72af800dd15", func := "loop.example/g00195/laws.FnExactWipe", spec := "fnExactWipe", apart := false }
def FnExactWipeSaid : Prop := fnExactWipeRow.holds Try.pinned (OpenSpec.ofChange fnExactWipeSpec)

/-- ITS FALSE NEIGHBOUR: 'it returns false'. Refute it at one input. -/
def fnExactWipeWrong : ChangeSpec := { name := "fnExactWipe", fn := fun _ => fun
  | [d1, d2] => { results := [.lit (.bool false)], args := [d1, d2] }
  | _ => none }
def FnExactWipeWrongFalsely : Prop := fnExactWipeRow.holds Try.pinned (OpenSpec.ofChange fnExactWipeWrong)

/-- 'laws.FnExactProgram': WHATEVER THE INPUT: true; the input reads as it did. -/
def fnExactProgramSpec : ChangeSpec := { name := "fnExactProgram", fn := fun _ => fun
  | [d1, d2, d3, d4] => { results := [.lit (.bool true)], args := [d1, d2, d3, d4] }
  | _ => none }
def fnExactProgramRow : OpenClaim := { program := "ytbafmoggckeaeaa", sum := "58d20d9002aecabbdc1fdfa29446da29907c74f8dd313ab5f6b0d72af800dd15", func := "loop.example/g00195/laws.FnExactProgram", spec := "fnExactProgram", apart := false }
def FnExactProgramSaid : Prop := fnExactProgramRow.holds Try.pinned (OpenSpec.ofChange fnExactProgramSpec)

/-- ITS FALSE NEIGHBOUR: 'it returns false'. Refute it at one input. -/
def fnExactProgramWrong : ChangeSpec := { name := "fnExactProgram", fn := fun _ => fun
  | [d1, d2, d3, d4] => { results := [.lit (.bool false)], args := [d1, d2, d3, d4] }
  | _ => none }
def FnExactProgramWrongFalsely : Prop := fnExactProgramRow.holds Try.pinned (OpenSpec.ofChange fnExactProgramWrong)

/- THE SECOND FORM. 'bulk': how many values and letters a reading holds, each counted each time it is reached (what is shared counts as often as it is met; a slice's spare places count too). A statement '..UptoSaid' is the law's where the arguments, and the package variables that the reading takes, are together of bulk at most 1048576: NARROWER than '..Said'. Prove '..Said' where nothing that the law and all that it calls make is longer than what came in: it says more and counts as full. Else prove '..UptoSaid'. A law counts once. -/
mutual
def uptoBulk {H : Type} : DataW H → Nat
  | .lit (.string bytes) => bytes.length + 1
  | .lit _ => 1
  | .nil => 1
  | .ptr d => uptoBulk d + 1
  | .slice elems spare => uptoBulkAll elems + uptoBulkAll spare + 1
  | .agg parts => uptoBulkAll parts + 1
  | .iface _ d => uptoBulk d + 1
  | .map entries => uptoBulkEntries entries + 1
  | .held _ => 1
def uptoBulkAll {H : Type} : List (DataW H) → Nat
  | [] => 0
  | d :: r => uptoBulk d + uptoBulkAll r
def uptoBulkEntries {H : Type} : List (Lit × DataW H) → Nat
  | [] => 0
  | x :: r => uptoBulkEntry x + uptoBulkEntries r
def uptoBulkEntry {H : Type} : Lit × DataW H → Nat
  | (.string bytes, d) => bytes.length + uptoBulk d + 1
  | (_, d) => uptoBulk d + 1
 end
def uptoSmall : (H : Type) → List (DataW H) → Bool := fun _ ds => decide (uptoBulkAll ds ≤ 1048576)
def OpenSpec.upto (s : _root_.Go.ChangeSpec) : _root_.Go.OpenSpec := { _root_.Go.OpenSpec.ofChange s with cond := some uptoSmall }

/-- 'laws.FnPacks', WHERE WHAT IT READS IS OF BULK AT MOST 1048576: true; the input reads as it did. -/
def fnPacksUptoRow : OpenClaim := { program := "ytbafmoggckeaeaa", sum := "58d20d9002aecabbdc1fdfa29446da29907c74f8dd313ab5f6b0d72af800dd15", func := "loop.example/g00195/laws.FnPacks", spec := "fnPacks", apart := false, narrowed := true }
def FnPacksUptoSaid : Prop := fnPacksUptoRow.holds Try.pinned (OpenSpec.upto fnPacksSpec)

/-- 'laws.FnWear', WHERE WHAT IT READS IS OF BULK AT MOST 1048576: true; the input reads as it did. -/
def fnWearUptoRow : OpenClaim := { program := "ytbafmoggckeaeaa", sum := "58d20d9002aecabbdc1fdfa29446da29907c74f8dd313ab5f6b0d72af800dd15", func := "loop.example/g00195/laws.FnWear", spec := "fnWear", apart := false, narrowed := true }
def FnWearUptoSaid : Prop := fnWearUptoRow.holds Try.pinned (OpenSpec.upto fnWearSpec)

/-- 'laws.FnPackRuns', WHERE WHAT IT READS IS OF BULK AT MOST 1048576: true; the input reads as it did. -/
def fnPackRunsUptoRow : OpenClaim := { program := "ytbafmoggckeaeaa", sum := "58d20d9002aecabbdc1fdfa29446da29907c74f8dd313ab5f6b0d72af800dd15", func := "loop.example/g00195/laws.FnPackRuns", spec := "fnPackRuns", apart := false, narrowed := true }
def FnPackRunsUptoSaid : Prop := fnPackRunsUptoRow.holds Try.pinned (OpenSpec.upto fnPackRunsSpec)

/-- 'laws.FnExactFlashOk', WHERE WHAT IT READS IS OF BULK AT MOST 1048576: true; the input reads as it did. -/
def fnExactFlashOkUptoRow : OpenClaim := { program := "ytbafmoggckeaeaa", sum := "58d20d9002aecabbdc1fdfa29446da29907c74f8dd313ab5f6b0d72af800dd15", func := "loop.example/g00195/laws.FnExactFlashOk", spec := "fnExactFlashOk", apart := false, narrowed := true }
def FnExactFlashOkUptoSaid : Prop := fnExactFlashOkUptoRow.holds Try.pinned (OpenSpec.upto fnExactFlashOkSpec)

/-- 'laws.FnFills', WHERE WHAT IT READS IS OF BULK AT MOST 1048576: true; the input reads as it did. -/
def fnFillsUptoRow : OpenClaim := { program := "ytbafmoggckeaeaa", sum := "58d20d9002aecabbdc1fdfa29446da29907c74f8dd313ab5f6b0d72af800dd15", func := "loop.example/g00195/laws.FnFills", spec := "fnFills", apart := false, narrowed := true }
def FnFillsUptoSaid : Prop := fnFillsUptoRow.holds Try.pinned (OpenSpec.upto fnFillsSpec)

/-- 'laws.FnTokens', WHERE WHAT IT READS IS OF BULK AT MOST 1048576: true; the input reads as it did. -/
def fnTokensUptoRow : OpenClaim := { program := "ytbafmoggckeaeaa", sum := "58d20d9002aecabbdc1fdfa29446da29907c74f8dd313ab5f6b0d72af800dd15", func := "loop.example/g00195/laws.FnTokens", spec := "fnTokens", apart := false, narrowed := true }
def FnTokensUptoSaid : Prop := fnTokensUptoRow.holds Try.pinned (OpenSpec.upto fnTokensSpec)

/-- 'laws.FnExactUnpackText', WHERE WHAT IT READS IS OF BULK AT MOST 1048576: true; the input reads as it did. -/
def fnExactUnpackTextUptoRow : OpenClaim := { program := "ytbafmoggckeaeaa", sum := "58d20d9002aecabbdc1fdfa29446da29907c74f8dd313ab5f6b0d72af800dd15", func := "loop.example/g00195/laws.FnExactUnpackText", spec := "fnExactUnpackText", apart := false, narrowed := true }
def FnExactUnpackTextUptoSaid : Prop := fnExactUnpackTextUptoRow.holds Try.pinned (OpenSpec.upto fnExactUnpackTextSpec)

/-- 'laws.FnPrograms', WHERE WHAT IT READS IS OF BULK AT MOST 1048576: true; the input reads as it did. -/
def fnProgramsUptoRow : OpenClaim := { program := "ytbafmoggckeaeaa", sum := "58d20d9002aecabbdc1fdfa29446da29907c74f8dd313ab5f6b0d72af800dd15", func := "loop.example/g00195/laws.FnPrograms", spec := "fnPrograms", apart := false, narrowed := true }
def FnProgramsUptoSaid : Prop := fnProgramsUptoRow.holds Try.pinned (OpenSpec.upto fnProgramsSpec)

/-- 'laws.FnExactMarkBad', WHERE WHAT IT READS IS OF BULK AT MOST 1048576: true; the input reads as it did. -/
def fnExactMarkBadUptoRow : OpenClaim := { program := "ytbafmoggckeaeaa", sum := "58d20d9002aecabbdc1fdfa29446da29907c74f8dd313ab5f6b0d72af800dd15", func := "loop.example/g00195/laws.FnExactMarkBad", spec := "fnExactMarkBad", apart := false, narrowed := true }
def FnExactMarkBadUptoSaid : Prop := fnExactMarkBadUptoRow.holds Try.pinned (OpenSpec.upto fnExactMarkBadSpec)

/-- 'laws.FnWipes', WHERE WHAT IT READS IS OF BULK AT MOST 1048576: true; the input reads as it did. -/
def fnWipesUptoRow : OpenClaim := { program := "ytbafmoggckeaeaa", sum := "58d20d9002aecabbdc1fdfa29446da29907c74f8dd313ab5f6b0d72af800dd15", func := "loop.example/g00195/laws.FnWipes", spec := "fnWipes", apart := false, narrowed := true }
def FnWipesUptoSaid : Prop := fnWipesUptoRow.holds Try.pinned (OpenSpec.upto fnWipesSpec)

/-- 'laws.FnExactWipe', WHERE WHAT IT READS IS OF BULK AT MOST 1048576: true; the input reads as it did. -/
def fnExactWipeUptoRow : OpenClaim := { program := "ytbafmoggckeaeaa", sum := "58d20d9002aecabbdc1fdfa29446da29907c74f8dd313ab5f6b0d72af800dd15", func := "loop.example/g00195/laws.FnExactWipe", spec := "fnExactWipe", apart := false, narrowed := true }
def FnExactWipeUptoSaid : Prop := fnExactWipeUptoRow.holds Try.pinned (OpenSpec.upto fnExactWipeSpec)

/-- 'laws.FnExactProgram', WHERE WHAT IT READS IS OF BULK AT MOST 1048576: true; the input reads as it did. -/
def fnExactProgramUptoRow : OpenClaim := { program := "ytbafmoggckeaeaa", sum := "58d20d9002aecabbdc1fdfa29446da29907c74f8dd313ab5f6b0d72af800dd15", func := "loop.example/g00195/laws.FnExactProgram", spec := "fnExactProgram", apart := false, narrowed := true }
def FnExactProgramUptoSaid : Prop := fnExactProgramUptoRow.holds Try.pinned (OpenSpec.upto fnExactProgramSpec)

end Rows
end Go.Proofs.Ytbafmoggckeaeaa
