/- What is proved here: the arguments of FnExactHashEnd, as the form reads them, are what its printed contract asks; and the plain statement that is left. No condition of ours. -/
import Derived.Test.YtbiapgneafgdeaaQFnExactHashEndx5
import Derived.Test.YtbiapgneafgdeaaOpen
import Derived.KernelRfl
namespace Go.Proofs.Ytbiapgneafgdeaa.GFnExactHashEnd
open Go.RowKit Go.ChangeShapes Go.WideShapes Go.Proofs.Ytbiapgneafgdeaa.QFnExactHashEnd Go.Proofs.YtbiapgneafgdeaaW.PrintWords Go.Proofs.Ytbiapgneafgdeaa.Open
set_option linter.unusedVariables false

/-- The plain statement of FnExactHashEnd. -/
def Plain : Prop := ∀ (a0_0 : ByteArray) (a0_1 : ByteArray) (a0_2 : Int), a0_0.size ≤ 9223372036854775807 → a0_1.size ≤ 9223372036854775807 → (Lit.int .i64 a0_2).wf = true → ∃ k, laws_FnExactHashEnd.f k a0_0 a0_1 a0_2 = some true
set_option maxRecDepth 100000 in
theorem args0 {H : Type} {enc : TypeId × Value → H} {W : World} {r : Reach} {b0 base : Nat} {spare : Nat → Bool} {held : Bool} {v : Value} {d : DataW H} {p : List MemPlace} (hv : Value.okWide Try.prog W r b0 23 v) (h : DataW.Trod enc Try.prog W base spare held 23 v d p) :
    ∃ (a0_0 : ByteArray) (a0_1 : ByteArray) (a0_2 : Int), v = .agg #[.string a0_0, .string a0_1, .int .i64 a0_2] ∧ a0_0.size ≤ 9223372036854775807 ∧ a0_1.size ≤ 9223372036854775807 ∧ (Lit.int .i64 a0_2).wf = true := by
  obtain ⟨l, rfl, hl, hg⟩ := open_cells Try.underlying23 (by kernel_rfl) (by kernel_rfl) hv h
  obtain ⟨b0, y0, n0, e0, g0⟩ := hg 0 _ rfl
  obtain ⟨a0_0, r0, w0_0⟩ := (opens_string Try.underlying9) enc W _ _ _ n0 _ y0 g0
  obtain rfl : b0 = .string a0_0 := (List.cons.inj r0).1
  obtain ⟨b1, y1, n1, e1, g1⟩ := hg 1 _ rfl
  obtain ⟨a0_1, r1, w0_1⟩ := (opens_string Try.underlying9) enc W _ _ _ n1 _ y1 g1
  obtain rfl : b1 = .string a0_1 := (List.cons.inj r1).1
  obtain ⟨b2, y2, n2, e2, g2⟩ := hg 2 _ rfl
  obtain ⟨a0_2, r2, w0_2⟩ := (opens_int Try.underlying3) enc W _ _ _ n2 _ y2 g2
  obtain rfl : b2 = .int .i64 a0_2 := (List.cons.inj r2).1
  obtain rfl := list3 hl e0 e1 e2
  exact ⟨a0_0, a0_1, a0_2, rfl, w0_0, w0_1, w0_2⟩
theorem walk (P : Plain) (a0_0 : ByteArray) (a0_1 : ByteArray) (a0_2 : Int) (w : World) (w0_0 : a0_0.size ≤ 9223372036854775807) (w0_1 : a0_1.size ≤ 9223372036854775807) (w0_2 : (Lit.int .i64 a0_2).wf = true) :
    Calls Try.prog 4 #[.agg #[.string a0_0, .string a0_1, .int .i64 a0_2]] w fun e w' => e = .returned (.bool true) ∧ Below w.heap.size w w' := by
  obtain ⟨k, h⟩ := P a0_0 a0_1 a0_2 w0_0 w0_1 w0_2
  refine (laws_FnExactHashEnd.calls k a0_0 a0_1 a0_2 true w h).mono ?_
  rintro e w' ⟨rfl, hd⟩
  exact ⟨rfl, hd⟩
end Go.Proofs.Ytbiapgneafgdeaa.GFnExactHashEnd
