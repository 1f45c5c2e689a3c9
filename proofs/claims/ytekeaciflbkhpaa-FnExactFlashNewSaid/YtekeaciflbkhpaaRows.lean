/-
  No cell of these rows narrows 'for every input' (looked for: loops, veiled, ifaces, maps, wideKeys, modest, calm, conditions, laid).
  DERIVED. THE GIVEN ROWS OF THIS SEAT. 12 by the template 'for every input the law returns true; each argument reads behind the call as it read before'; 0 by the template 'total and deterministic' (their statements: YtekeaciflbkhpaaTotals.lean).
  GIVEN WITH THE SEED: the statements are not yours to turn. If you find one false, say at which input.
  Laid BY PROGRAM, IN A SANDBOX (cutbox-rows.mjs): the forced cells as the released guide's own fill.sh prints them over the translation bc0ae03c406bd7de… (all of the seat's roots in one cut). By AI agents, Wed Nov 11 2026. No macro, syntax, notation, axiom, sorry.
-/
import Derived.Test.YtekeaciflbkhpaaChecked
import GoSem.Claim
import GoSem.ClaimJoined
import GoSem.ClaimMapViews
import Derived.JoinedTies
import Derived.KernelRfl
namespace Go.Proofs.Ytekeaciflbkhpaa
/- THE CELL 'sum', in the pinned program and in every row, IS THE sha256 OF THE DUMP (.gsa) THAT YtekeaciflbkhpaaProg.lean LOADS. Nothing in Lean hashes anything: it is a label: what it is worth is what the hold of that sum in a sandbox is worth. -/
noncomputable def Try.pinned : Pinned := { name := "ytekeaciflbkhpaa", sum := "bc0ae03c406bd7dedc19ff7e03ae24d095f6c30d6a246bf58fcc05eb85bd6bd2", checked := Try.checked }
namespace Rows
def none {H : Type} : Left H := { results := [], args := [] }

/-- 'laws.FnExactHasherNew': WHATEVER THE INPUT: true; the input reads as it did. -/
def fnExactHasherNewSpec : ChangeSpec := { name := "fnExactHasherNew", fn := fun _ => fun
  | [] => { results := [.lit (.bool true)], args := [] }
  | _ => none }
def fnExactHasherNewRow : OpenClaim := { program := "ytekeaciflbkhpaa", sum := "bc0ae03c406bd7dedc19ff7e03ae24d095f6c30d6a246bf58fcc05eb85bd6bd2", func := "loop.example/g00195/laws.FnExactHasherNew", spec := "fnExactHasherNew", apart := false }
def FnExactHasherNewSaid : Prop := fnExactHasherNewRow.holds Try.pinned (OpenSpec.ofChange fnExactHasherNewSpec)

/-- ITS FALSE NEIGHBOUR: 'it returns false'. Refute it at one input. -/
def fnExactHasherNewWrong : ChangeSpec := { name := "fnExactHasherNew", fn := fun _ => fun
  | [] => { results := [.lit (.bool false)], args := [] }
  | _ => none }
def FnExactHasherNewWrongFalsely : Prop := fnExactHasherNewRow.holds Try.pinned (OpenSpec.ofChange fnExactHasherNewWrong)

/-- 'laws.FnExactUnhex': WHATEVER THE INPUT: true; the input reads as it did. -/
def fnExactUnhexSpec : ChangeSpec := { name := "fnExactUnhex", fn := fun _ => fun
  | [d] => { results := [.lit (.bool true)], args := [d] }
  | _ => none }
def fnExactUnhexRow : OpenClaim := { program := "ytekeaciflbkhpaa", sum := "bc0ae03c406bd7dedc19ff7e03ae24d095f6c30d6a246bf58fcc05eb85bd6bd2", func := "loop.example/g00195/laws.FnExactUnhex", spec := "fnExactUnhex", inPlace := ["internal/bytealg.IndexByteString"], apart := false }
def FnExactUnhexSaid : Prop := fnExactUnhexRow.holds Try.pinned (OpenSpec.ofChange fnExactUnhexSpec)

/-- ITS FALSE NEIGHBOUR: 'it returns false'. Refute it at one input. -/
def fnExactUnhexWrong : ChangeSpec := { name := "fnExactUnhex", fn := fun _ => fun
  | [d] => { results := [.lit (.bool false)], args := [d] }
  | _ => none }
def FnExactUnhexWrongFalsely : Prop := fnExactUnhexRow.holds Try.pinned (OpenSpec.ofChange fnExactUnhexWrong)

/-- 'laws.FnTurned': WHATEVER THE INPUT: true; the input reads as it did. -/
def fnTurnedSpec : ChangeSpec := { name := "fnTurned", fn := fun _ => fun
  | [d] => { results := [.lit (.bool true)], args := [d] }
  | _ => none }
def fnTurnedRow : OpenClaim := { program := "ytekeaciflbkhpaa", sum := "bc0ae03c406bd7dedc19ff7e03ae24d095f6c30d6a246bf58fcc05eb85bd6bd2", func := "loop.example/g00195/laws.FnTurned", spec := "fnTurned", apart := false }
def FnTurnedSaid : Prop := fnTurnedRow.holds Try.pinned (OpenSpec.ofChange fnTurnedSpec)

/-- ITS FALSE NEIGHBOUR: 'it returns false'. Refute it at one input. -/
def fnTurnedWrong : ChangeSpec := { name := "fnTurned", fn := fun _ => fun
  | [d] => { results := [.lit (.bool false)], args := [d] }
  | _ => none }
def FnTurnedWrongFalsely : Prop := fnTurnedRow.holds Try.pinned (OpenSpec.ofChange fnTurnedWrong)

/-- 'laws.FnExactNextBlank': WHATEVER THE INPUT: true; the input reads as it did. -/
def fnExactNextBlankSpec : ChangeSpec := { name := "fnExactNextBlank", fn := fun _ => fun
  | [d] => { results := [.lit (.bool true)], args := [d] }
  | _ => none }
def fnExactNextBlankRow : OpenClaim := { program := "ytekeaciflbkhpaa", sum := "bc0ae03c406bd7dedc19ff7e03ae24d095f6c30d6a246bf58fcc05eb85bd6bd2", func := "loop.example/g00195/laws.FnExactNextBlank", spec := "fnExactNextBlank", apart := false }
def FnExactNextBlankSaid : Prop := fnExactNextBlankRow.holds Try.pinned (OpenSpec.ofChange fnExactNextBlankSpec)

/-- ITS FALSE NEIGHBOUR: 'it returns false'. Refute it at one input. -/
def fnExactNextBlankWrong : ChangeSpec := { name := "fnExactNextBlank", fn := fun _ => fun
  | [d] => { results := [.lit (.bool false)], args := [d] }
  | _ => none }
def FnExactNextBlankWrongFalsely : Prop := fnExactNextBlankRow.holds Try.pinned (OpenSpec.ofChange fnExactNextBlankWrong)

/-- 'laws.FnExactPlainOf': WHATEVER THE INPUT: true; the input reads as it did. -/
def fnExactPlainOfSpec : ChangeSpec := { name := "fnExactPlainOf", fn := fun _ => fun
  | [d] => { results := [.lit (.bool true)], args := [d] }
  | _ => none }
def fnExactPlainOfRow : OpenClaim := { program := "ytekeaciflbkhpaa", sum := "bc0ae03c406bd7dedc19ff7e03ae24d095f6c30d6a246bf58fcc05eb85bd6bd2", func := "loop.example/g00195/laws.FnExactPlainOf", spec := "fnExactPlainOf", apart := false }
def FnExactPlainOfSaid : Prop := fnExactPlainOfRow.holds Try.pinned (OpenSpec.ofChange fnExactPlainOfSpec)

/-- ITS FALSE NEIGHBOUR: 'it returns false'. Refute it at one input. -/
def fnExactPlainOfWrong : ChangeSpec := { name := "fnExactPlainOf", fn := fun _ => fun
  | [d] => { results := [.lit (.bool false)], args := [d] }
  | _ => none }
def FnExactPlainOfWrongFalsely : Prop := fnExactPlainOfRow.holds Try.pinned (OpenSpec.ofChange fnExactPlainOfWrong)

/-- 'laws.FnExactPackText': WHATEVER THE INPUT: true; the input reads as it did. -/
def fnExactPackTextSpec : ChangeSpec := { name := "fnExactPackText", fn := fun _ => fun
  | [d] => { results := [.lit (.bool true)], args := [d] }
  | _ => none }
def fnExactPackTextRow : OpenClaim := { program := "ytekeaciflbkhpaa", sum := "bc0ae03c406bd7dedc19ff7e03ae24d095f6c30d6a246bf58fcc05eb85bd6bd2", func := "loop.example/g00195/laws.FnExactPackText", spec := "fnExactPackText", apart := false }
def FnExactPackTextSaid : Prop := fnExactPackTextRow.holds Try.pinned (OpenSpec.ofChange fnExactPackTextSpec)

/-- ITS FALSE NEIGHBOUR: 'it returns false'. Refute it at one input. -/
def fnExactPackTextWrong : ChangeSpec := { name := "fnExactPackText", fn := fun _ => fun
  | [d] => { results := [.lit (.bool false)], args := [d] }
  | _ => none }
def FnExactPackTextWrongFalsely : Prop := fnExactPackTextRow.holds Try.pinned (OpenSpec.ofChange fnExactPackTextWrong)

/-- 'laws.FnExactPageText': WHATEVER THE INPUT: true; the input reads as it did. -/
def fnExactPageTextSpec : ChangeSpec := { name := "fnExactPageText", fn := fun _ => fun
  | [d] => { results := [.lit (.bool true)], args := [d] }
  | _ => none }
def fnExactPageTextRow : OpenClaim := { program := "ytekeaciflbkhpaa", sum := "bc0ae03c406bd7dedc19ff7e03ae24d095f6c30d6a246bf58fcc05eb85bd6bd2", func := "loop.example/g00195/laws.FnExactPageText", spec := "fnExactPageText", apart := false }
def FnExactPageTextSaid : Prop := fnExactPageTextRow.holds Try.pinned (OpenSpec.ofChange fnExactPageTextSpec)

/-- ITS FALSE NEIGHBOUR: 'it returns false'. Refute it at one input. -/
def fnExactPageTextWrong : ChangeSpec := { name := "fnExactPageText", fn := fun _ => fun
  | [d] => { results := [.lit (.bool false)], args := [d] }
  | _ => none }
def FnExactPageTextWrongFalsely : Prop := fnExactPageTextRow.holds Try.pinned (OpenSpec.ofChange fnExactPageTextWrong)

/-- 'laws.FnExactTokensOf': WHATEVER THE INPUT: true; the input reads as it did. -/
def fnExactTokensOfSpec : ChangeSpec := { name := "fnExactTokensOf", fn := fun _ => fun
  | [d] => { results := [.lit (.bool true)], args := [d] }
  | _ => none }
def fnExactTokensOfRow : OpenClaim := { program := "ytekeaciflbkhpaa", sum := "bc0ae03c406bd7dedc19ff7e03ae24d095f6c30d6a246bf58fcc05eb85bd6bd2", func := "loop.example/g00195/laws.FnExactTokensOf", spec := "fnExactTokensOf", apart := false }
def FnExactTokensOfSaid : Prop := fnExactTokensOfRow.holds Try.pinned (OpenSpec.ofChange fnExactTokensOfSpec)

/-- ITS FALSE NEIGHBOUR: 'it returns false'. Refute it at one input. -/
def fnExactTokensOfWrong : ChangeSpec := { name := "fnExactTokensOf", fn := fun _ => fun
  | [d] => { results := [.lit (.bool false)], args := [d] }
  | _ => none }
def FnExactTokensOfWrongFalsely : Prop := fnExactTokensOfRow.holds Try.pinned (OpenSpec.ofChange fnExactTokensOfWrong)

/-- 'laws.FnExactReadLeaf': WHATEVER THE INPUT: true; the input reads as it did. -/
def fnExactReadLeafSpec : ChangeSpec := { name := "fnExactReadLeaf", fn := fun _ => fun
  | [d1, d2, d3] => { results := [.lit (.bool true)], args := [d1, d2, d3] }
  | _ => none }
def fnExactReadLeafRow : OpenClaim := { program := "ytekeaciflbkhpaa", sum := "bc0ae03c406bd7dedc19ff7e03ae24d095f6c30d6a246bf58fcc05eb85bd6bd2", func := "loop.example/g00195/laws.FnExactReadLeaf", spec := "fnExactReadLeaf", apart := false }
def FnExactReadLeafSaid : Prop := fnExactReadLeafRow.holds Try.pinned (OpenSpec.ofChange fnExactReadLeafSpec)

/-- ITS FALSE NEIGHBOUR: 'it returns false'. Refute it at one input. -/
def fnExactReadLeafWrong : ChangeSpec := { name := "fnExactReadLeaf", fn := fun _ => fun
  | [d1, d2, d3] => { results := [.lit (.bool false)], args := [d1, d2, d3] }
  | _ => none }
def FnExactReadLeafWrongFalsely : Prop := fnExactReadLeafRow.holds Try.pinned (OpenSpec.ofChange fnExactReadLeafWrong)

/-- 'laws.FnExactFlashNew': WHATEVER THE INPUT: true; the input reads as it did. -/
def fnExactFlashNewSpec : ChangeSpec := { name := "fnExactFlashNew", fn := fun _ => fun
  | [d] => { results := [.lit (.bool true)], args := [d] }
  | _ => none }
def fnExactFlashNewRow : OpenClaim := { program := "ytekeaciflbkhpaa", sum := "bc0ae03c406bd7dedc19ff7e03ae24d095f6c30d6a246bf58fcc05eb85bd6bd2", func := "loop.example/g00195/laws.FnExactFlashNew", spec := "fnExactFlashNew", apart := false }
def FnExactFlashNewSaid : Prop := fnExactFlashNewRow.holds Try.pinned (OpenSpec.ofChange fnExactFlashNewSpec)

/-- ITS FALSE NEIGHBOUR: 'it returns false'. Refute it at one input. -/
def fnExactFlashNewWrong : ChangeSpec := { name := "fnExactFlashNew", fn := fun _ => fun
  | [d] => { results := [.lit (.bool false)], args := [d] }
  | _ => none }
def FnExactFlashNewWrongFalsely : Prop := fnExactFlashNewRow.holds Try.pinned (OpenSpec.ofChange fnExactFlashNewWrong)

/-- 'laws.FnExactRoomOf': WHATEVER THE INPUT: true; the input reads as it did. -/
def fnExactRoomOfSpec : ChangeSpec := { name := "fnExactRoomOf", fn := fun _ => fun
  | [d] => { results := [.lit (.bool true)], args := [d] }
  | _ => none }
def fnExactRoomOfRow : OpenClaim := { program := "ytekeaciflbkhpaa", sum := "bc0ae03c406bd7dedc19ff7e03ae24d095f6c30d6a246bf58fcc05eb85bd6bd2", func := "loop.example/g00195/laws.FnExactRoomOf", spec := "fnExactRoomOf", apart := false }
def FnExactRoomOfSaid : Prop := fnExactRoomOfRow.holds Try.pinned (OpenSpec.ofChange fnExactRoomOfSpec)

/-- ITS FALSE NEIGHBOUR: 'it returns false'. Refute it at one input. -/
def fnExactRoomOfWrong : ChangeSpec := { name := "fnExactRoomOf", fn := fun _ => fun
  | [d] => { results := [.lit (.bool false)], args := [d] }
  | _ => none }
def FnExactRoomOfWrongFalsely : Prop := fnExactRoomOfRow.holds Try.pinned (OpenSpec.ofChange fnExactRoomOfWrong)

/-- 'laws.FnExactOpenBlock': WHATEVER THE INPUT: true; the input reads as it did. -/
def fnExactOpenBlockSpec : ChangeSpec := { name := "fnExactOpenBlock", fn := fun _ => fun
  | [d] => { results := [.lit (.bool true)], args := [d] }
  | _ => none }
def fnExactOpenBlockRow : OpenClaim := { program := "ytekeaciflbkhpaa", sum := "bc0ae03c406bd7dedc19ff7e03ae24d095f6c30d6a246bf58fcc05eb85bd6bd2", func := "loop.example/g00195/laws.FnExactOpenBlock", spec := "fnExactOpenBlock", apart := false }
def FnExactOpenBlockSaid : Prop := fnExactOpenBlockRow.holds Try.pinned (OpenSpec.ofChange fnExactOpenBlockSpec)

/-- ITS FALSE NEIGHBOUR: 'it returns false'. Refute it at one input. -/
def fnExactOpenBlockWrong : ChangeSpec := { name := "fnExactOpenBlock", fn := fun _ => fun
  | [d] => { results := [.lit (.bool false)], args := [d] }
  | _ => none }
def FnExactOpenBlockWrongFalsely : Prop := fnExactOpenBlockRow.holds Try.pinned (OpenSpec.ofChange fnExactOpenBlockWrong)

/- THE SECOND FORM. 'bulk': how many values and letters a reading holds, each counted each time it is reached (what is shared counts as often as it is met; a slice's spare places count too). A statement '..UptoSaid' is the law's where the arguments, and the package variables that the reading takes, are together of bulk at most 1048576: NARROWER than '..Said'. Prove '..Said' where nothing that the law and all that it calls make is longer than what came in: it says more and counts as full. Else prove '..UptoSaid'. A law counts once. -/
mutual
def uptoBulk {H : Type} : DataW H → Nat
  | .lit (.string bytes) => bytes.length + 1
  | .lit _ => 1
  | .nil => 1
  | .ptr d => uptoBulk d + 1
  | .slice elems spare => uptoBulkAll elems + uptoBulkAll spare + 1
  | .agg parts => uptoBulkAll parts + 1
  | .iface _ d => uptoBulk d + 1
  | .map entries => uptoBulkEntries entries + 1
  | .held _ => 1
def uptoBulkAll {H : Type} : List (DataW H) → Nat
  | [] => 0
  | d :: r => uptoBulk d + uptoBulkAll r
def uptoBulkEntries {H : Type} : List (Lit × DataW H) → Nat
  | [] => 0
  | x :: r => uptoBulkEntry x + uptoBulkEntries r
def uptoBulkEntry {H : Type} : Lit × DataW H → Nat
  | (.string bytes, d) => bytes.length + uptoBulk d + 1
  | (_, d) => uptoBulk d + 1
 end
def uptoSmall : (H : Type) → List (DataW H) → Bool := fun _ ds => decide (uptoBulkAll ds ≤ 1048576)
def OpenSpec.upto (s : _root_.Go.ChangeSpec) : _root_.Go.OpenSpec := { _root_.Go.OpenSpec.ofChange s with cond := some uptoSmall }

/-- 'laws.FnExactHasherNew', WHERE WHAT IT READS IS OF BULK AT MOST 1048576: true; the input reads as it did. -/
def fnExactHasherNewUptoRow : OpenClaim := { program := "ytekeaciflbkhpaa", sum := "bc0ae03c406bd7dedc19ff7e03ae24d095f6c30d6a246bf58fcc05eb85bd6bd2", func := "loop.example/g00195/laws.FnExactHasherNew", spec := "fnExactHasherNew", apart := false, narrowed := true }
def FnExactHasherNewUptoSaid : Prop := fnExactHasherNewUptoRow.holds Try.pinned (OpenSpec.upto fnExactHasherNewSpec)

/-- 'laws.FnExactUnhex', WHERE WHAT IT READS IS OF BULK AT MOST 1048576: true; the input reads as it did. -/
def fnExactUnhexUptoRow : OpenClaim := { program := "ytekeaciflbkhpaa", sum := "bc0ae03c406bd7dedc19ff7e03ae24d095f6c30d6a246bf58fcc05eb85bd6bd2", func := "loop.example/g00195/laws.FnExactUnhex", spec := "fnExactUnhex", inPlace := ["internal/bytealg.IndexByteString"], apart := false, narrowed := true }
def FnExactUnhexUptoSaid : Prop := fnExactUnhexUptoRow.holds Try.pinned (OpenSpec.upto fnExactUnhexSpec)

/-- 'laws.FnTurned', WHERE WHAT IT READS IS OF BULK AT MOST 1048576: true; the input reads as it did. -/
def fnTurnedUptoRow : OpenClaim := { program := "ytekeaciflbkhpaa", sum := "bc0ae03c406bd7dedc19ff7e03ae24d095f6c30d6a246bf58fcc05eb85bd6bd2", func := "loop.example/g00195/laws.FnTurned", spec := "fnTurned", apart := false, narrowed := true }
def FnTurnedUptoSaid : Prop := fnTurnedUptoRow.holds Try.pinned (OpenSpec.upto fnTurnedSpec)

/-- 'laws.FnExactNextBlank', WHERE WHAT IT READS IS OF BULK AT MOST 1048576: true; the input reads as it did. -/
def fnExactNextBlankUptoRow : OpenClaim := { program := "ytekeaciflbkhpaa", sum := "bc0ae03c406bd7dedc19ff7e03ae24d095f6c30d6a246bf58fcc05eb85bd6bd2", func := "loop.example/g00195/laws.FnExactNextBlank", spec := "fnExactNextBlank", apart := false, narrowed := true }
def FnExactNextBlankUptoSaid : Prop := fnExactNextBlankUptoRow.holds Try.pinned (OpenSpec.upto fnExactNextBlankSpec)

/-- 'laws.FnExactPlainOf', WHERE WHAT IT READS IS OF BULK AT MOST 1048576: true; the input reads as it did. -/
def fnExactPlainOfUptoRow : OpenClaim := { program := "ytekeaciflbkhpaa", sum := "bc0ae03c406bd7dedc19ff7e03ae24d095f6c30d6a246bf58fcc05eb85bd6bd2", func := "loop.example/g00195/laws.FnExactPlainOf", spec := "fnExactPlainOf", apart := false, narrowed := true }
def FnExactPlainOfUptoSaid : Prop := fnExactPlainOfUptoRow.holds Try.pinned (OpenSpec.upto fnExactPlainOfSpec)

/-- 'laws.FnExactPackText', WHERE WHAT IT READS IS OF BULK AT MOST 1048576: true; the input reads as it did. -/
def fnExactPackTextUptoRow : OpenClaim := { program := "ytekeaciflbkhpaa", sum := "bc0ae03c406bd7dedc19ff7e03ae24d095f6c30d6a246bf58fcc05eb85bd6bd2", func := "loop.example/g00195/laws.FnExactPackText", spec := "fnExactPackText", apart := false, narrowed := true }
def FnExactPackTextUptoSaid : Prop := fnExactPackTextUptoRow.holds Try.pinned (OpenSpec.upto fnExactPackTextSpec)

/-- 'laws.FnExactPageText', WHERE WHAT IT READS IS OF BULK AT MOST 1048576: true; the input reads as it did. -/
def fnExactPageTextUptoRow : OpenClaim := { program := "ytekeaciflbkhpaa", sum := "bc0ae03c406bd7dedc19ff7e03ae24d095f6c30d6a246bf58fcc05eb85bd6bd2", func := "loop.example/g00195/laws.FnExactPageText", spec := "fnExactPageText", apart := false, narrowed := true }
def FnExactPageTextUptoSaid : Prop := fnExactPageTextUptoRow.holds Try.pinned (OpenSpec.upto fnExactPageTextSpec)

/-- 'laws.FnExactTokensOf', WHERE WHAT IT READS IS OF BULK AT MOST 1048576: true; the input reads as it did. -/
def fnExactTokensOfUptoRow : OpenClaim := { program := "ytekeaciflbkhpaa", sum := "bc0ae03c406bd7dedc19ff7e03ae24d095f6c30d6a246bf58fcc05eb85bd6bd2", func := "loop.example/g00195/laws.FnExactTokensOf", spec := "fnExactTokensOf", apart := false, narrowed := true }
def FnExactTokensOfUptoSaid : Prop := fnExactTokensOfUptoRow.holds Try.pinned (OpenSpec.upto fnExactTokensOfSpec)

/-- 'laws.FnExactReadLeaf', WHERE WHAT IT READS IS OF BULK AT MOST 1048576: true; the input reads as it did. -/
def fnExactReadLeafUptoRow : OpenClaim := { program := "ytekeaciflbkhpaa", sum := "bc0ae03c406bd7dedc19ff7e03ae24d095f6c30d6a246bf58fcc05eb85bd6bd2", func := "loop.example/g00195/laws.FnExactReadLeaf", spec := "fnExactReadLeaf", apart := false, narrowed := true }
def FnExactReadLeafUptoSaid : Prop := fnExactReadLeafUptoRow.holds Try.pinned (OpenSpec.upto fnExactReadLeafSpec)

/-- 'laws.FnExactFlashNew', WHERE WHAT IT READS IS OF BULK AT MOST 1048576: true; the input reads as it did. -/
def fnExactFlashNewUptoRow : OpenClaim := { program := "ytekeaciflbkhpaa", sum := "bc0ae03c406bd7dedc19ff7e03ae24d095f6c30d6a246bf58fcc05eb85bd6bd2", func := "loop.example/g00195/laws.FnExactFlashNew", spec := "fnExactFlashNew", apart := false, narrowed := true }
def FnExactFlashNewUptoSaid : Prop := fnExactFlashNewUptoRow.holds Try.pinned (OpenSpec.upto fnExactFlashNewSpec)

/-- 'laws.FnExactRoomOf', WHERE WHAT IT READS IS OF BULK AT MOST 1048576: true; the input reads as it did. -/
def fnExactRoomOfUptoRow : OpenClaim := { program := "ytekeaciflbkhpaa", sum := "bc0ae03c406bd7dedc19ff7e03ae24d095f6c30d6a246bf58fcc05eb85bd6bd2", func := "loop.example/g00195/laws.FnExactRoomOf", spec := "fnExactRoomOf", apart := false, narrowed := true }
def FnExactRoomOfUptoSaid : Prop := fnExactRoomOfUptoRow.holds Try.pinned (OpenSpec.upto fnExactRoomOfSpec)

/-- 'laws.FnExactOpenBlock', WHERE WHAT IT READS IS OF BULK AT MOST 1048576: true; the input reads as it did. -/
def fnExactOpenBlockUptoRow : OpenClaim := { program := "ytekeaciflbkhpaa", sum := "bc0ae03c406bd7dedc19ff7e03ae24d095f6c30d6a246bf58fcc05eb85bd6bd2", func := "loop.example/g00195/laws.FnExactOpenBlock", spec := "fnExactOpenBlock", apart := false, narrowed := true }
def FnExactOpenBlockUptoSaid : Prop := fnExactOpenBlockUptoRow.holds Try.pinned (OpenSpec.upto fnExactOpenBlockSpec)

end Rows
end Go.Proofs.Ytekeaciflbkhpaa
