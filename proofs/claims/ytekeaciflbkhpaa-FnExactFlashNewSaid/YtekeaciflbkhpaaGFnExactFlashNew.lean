/- What is proved here: the arguments of FnExactFlashNew, as the form reads them, are what its printed contract asks; and the plain statement that is left. No condition of ours. -/
import Derived.Test.YtekeaciflbkhpaaQFnExactFlashNewx4
import Derived.Test.YtekeaciflbkhpaaOpen
import Derived.KernelRfl
namespace Go.Proofs.Ytekeaciflbkhpaa.GFnExactFlashNew
open Go.RowKit Go.ChangeShapes Go.WideShapes Go.Proofs.Ytekeaciflbkhpaa.QFnExactFlashNew Go.Proofs.YtekeaciflbkhpaaW.PrintWords Go.Proofs.Ytekeaciflbkhpaa.Open
set_option linter.unusedVariables false

/-- The plain statement of FnExactFlashNew. -/
def Plain : Prop := ∀ (a0 : Int), (Lit.int .i64 a0).wf = true → ∃ k, laws_FnExactFlashNew.f k a0 = some true
theorem walk (P : Plain) (a0 : Int) (w : World) (w0 : (Lit.int .i64 a0).wf = true) :
    Calls Try.prog 12 #[.int .i64 a0] w fun e w' => e = .returned (.bool true) ∧ Below w.heap.size w w' := by
  obtain ⟨k, h⟩ := P a0 w0
  refine (laws_FnExactFlashNew.calls k a0 true w h).mono ?_
  rintro e w' ⟨rfl, hd⟩
  exact ⟨rfl, hd⟩
end Go.Proofs.Ytekeaciflbkhpaa.GFnExactFlashNew
