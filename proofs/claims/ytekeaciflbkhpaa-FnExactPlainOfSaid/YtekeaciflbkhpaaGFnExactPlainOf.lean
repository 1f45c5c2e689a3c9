/- What is proved here: the arguments of FnExactPlainOf, as the form reads them, are what its printed contract asks; and the plain statement that is left. No condition of ours. -/
import Derived.Test.YtekeaciflbkhpaaQFnExactPlainOfx4
import Derived.Test.YtekeaciflbkhpaaOpen
import Derived.KernelRfl
namespace Go.Proofs.Ytekeaciflbkhpaa.GFnExactPlainOf
open Go.RowKit Go.ChangeShapes Go.WideShapes Go.Proofs.Ytekeaciflbkhpaa.QFnExactPlainOf Go.Proofs.YtekeaciflbkhpaaW.PrintWords Go.Proofs.Ytekeaciflbkhpaa.Open
set_option linter.unusedVariables false

instance : Inhabited S101 := ⟨z101⟩
def G101 (x : S101) : Prop := (Lit.int .i64 x.f0).wf = true ∧ (Lit.int .i64 x.f1).wf = true ∧ x.f2.size ≤ 9223372036854775807
set_option maxRecDepth 100000 in
theorem opens101 : Opens Try.prog k101 101 G101 := by
  intro H enc w base spare held fuel cs x h
  obtain ⟨hl, hg⟩ := trod_fields Try.underlying101 (by kernel_rfl) (by kernel_rfl) h
  obtain ⟨c0, y0, n0, e0, g0⟩ := hg 0 _ rfl
  obtain ⟨a0, k0, w0⟩ := (opens_int Try.underlying3) enc w base spare held n0 _ y0 g0
  obtain ⟨c1, y1, n1, e1, g1⟩ := hg 1 _ rfl
  obtain ⟨a1, k1, w1⟩ := (opens_int Try.underlying3) enc w base spare held n1 _ y1 g1
  obtain ⟨c2, y2, n2, e2, g2⟩ := hg 2 _ rfl
  obtain ⟨a2, k2, w2⟩ := (opens_string Try.underlying9) enc w base spare held n2 _ y2 g2
  match cs, hl with
  | [b0, b1, b2], _ =>
    obtain rfl := Option.some.inj e0
    obtain rfl := Option.some.inj e1
    obtain rfl := Option.some.inj e2
    exact ⟨⟨a0, a1, a2⟩, ⟨[b0], [b1, b2], rfl, k0, ⟨[b1], [b2], rfl, k1, k2⟩⟩, ⟨w0, w1, w2⟩⟩
/-- The plain statement of FnExactPlainOf. -/
def Plain : Prop := ∀ (l0 : List (S101)), (l0.length ≤ 9223372036854775807 ∧ ∀ y ∈ l0, G101 y) → ∃ k, laws_FnExactPlainOf.f k l0 = some true
theorem walk (P : Plain) (A0 : Option Addr) (c0 : Nat) (l0 : List (S101)) (w : World) (hr0 : Kd.C k101 w A0 l0.length l0) (hc0 : l0.length ≤ c0) (w0 : (l0.length ≤ 9223372036854775807 ∧ ∀ y ∈ l0, G101 y)) :
    Calls Try.prog 7 #[.slice A0 l0.length c0] w fun e w' => e = .returned (.bool true) ∧ Below w.heap.size w w' := by
  obtain ⟨k, h⟩ := P l0 w0
  refine (laws_FnExactPlainOf.calls k A0 c0 l0 true w hr0 hc0 h).mono ?_
  rintro e w' ⟨rfl, hd⟩
  exact ⟨rfl, hd⟩
end Go.Proofs.Ytekeaciflbkhpaa.GFnExactPlainOf
