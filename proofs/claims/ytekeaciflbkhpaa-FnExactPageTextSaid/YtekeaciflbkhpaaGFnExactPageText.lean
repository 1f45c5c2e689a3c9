/- What is proved here: the arguments of FnExactPageText, as the form reads them, are what its printed contract asks; and the plain statement that is left. No condition of ours. -/
import Derived.Test.YtekeaciflbkhpaaQFnExactPageTextx5
import Derived.Test.YtekeaciflbkhpaaOpen
import Derived.KernelRfl
namespace Go.Proofs.Ytekeaciflbkhpaa.GFnExactPageText
open Go.RowKit Go.ChangeShapes Go.WideShapes Go.Proofs.Ytekeaciflbkhpaa.QFnExactPageText Go.Proofs.YtekeaciflbkhpaaW.PrintWords Go.Proofs.Ytekeaciflbkhpaa.Open
set_option linter.unusedVariables false

/-- The plain statement of FnExactPageText. -/
def Plain : Prop := ∀ (a0_0 : Int) (a0_1 : Int) (a0_2 : Int) (a0_3 : Int) (a0_4 : Int) (a0_5 : ByteArray), (Lit.int .i64 a0_0).wf = true → (Lit.int .i64 a0_1).wf = true → (Lit.int .i64 a0_2).wf = true → (Lit.int .i64 a0_3).wf = true → (Lit.int .i64 a0_4).wf = true → a0_5.size ≤ 9223372036854775807 → ∃ k, laws_FnExactPageText.f k a0_0 a0_1 a0_2 a0_3 a0_4 a0_5 = some true
set_option maxRecDepth 100000 in
theorem args0 {H : Type} {enc : TypeId × Value → H} {W : World} {r : Reach} {b0 base : Nat} {spare : Nat → Bool} {held : Bool} {v : Value} {d : DataW H} {p : List MemPlace} (hv : Value.okWide Try.prog W r b0 57 v) (h : DataW.Trod enc Try.prog W base spare held 57 v d p) :
    ∃ (a0_0 : Int) (a0_1 : Int) (a0_2 : Int) (a0_3 : Int) (a0_4 : Int) (a0_5 : ByteArray), v = .agg #[.int .i64 a0_0, .int .i64 a0_1, .int .i64 a0_2, .int .i64 a0_3, .int .i64 a0_4, .string a0_5] ∧ (Lit.int .i64 a0_0).wf = true ∧ (Lit.int .i64 a0_1).wf = true ∧ (Lit.int .i64 a0_2).wf = true ∧ (Lit.int .i64 a0_3).wf = true ∧ (Lit.int .i64 a0_4).wf = true ∧ a0_5.size ≤ 9223372036854775807 := by
  obtain ⟨l, rfl, hl, hg⟩ := open_cells Try.underlying57 (by kernel_rfl) (by kernel_rfl) hv h
  obtain ⟨b0, y0, n0, e0, g0⟩ := hg 0 _ rfl
  obtain ⟨a0_0, r0, w0_0⟩ := (opens_int Try.underlying3) enc W _ _ _ n0 _ y0 g0
  obtain rfl : b0 = .int .i64 a0_0 := (List.cons.inj r0).1
  obtain ⟨b1, y1, n1, e1, g1⟩ := hg 1 _ rfl
  obtain ⟨a0_1, r1, w0_1⟩ := (opens_int Try.underlying3) enc W _ _ _ n1 _ y1 g1
  obtain rfl : b1 = .int .i64 a0_1 := (List.cons.inj r1).1
  obtain ⟨b2, y2, n2, e2, g2⟩ := hg 2 _ rfl
  obtain ⟨a0_2, r2, w0_2⟩ := (opens_int Try.underlying3) enc W _ _ _ n2 _ y2 g2
  obtain rfl : b2 = .int .i64 a0_2 := (List.cons.inj r2).1
  obtain ⟨b3, y3, n3, e3, g3⟩ := hg 3 _ rfl
  obtain ⟨a0_3, r3, w0_3⟩ := (opens_int Try.underlying3) enc W _ _ _ n3 _ y3 g3
  obtain rfl : b3 = .int .i64 a0_3 := (List.cons.inj r3).1
  obtain ⟨b4, y4, n4, e4, g4⟩ := hg 4 _ rfl
  obtain ⟨a0_4, r4, w0_4⟩ := (opens_int Try.underlying3) enc W _ _ _ n4 _ y4 g4
  obtain rfl : b4 = .int .i64 a0_4 := (List.cons.inj r4).1
  obtain ⟨b5, y5, n5, e5, g5⟩ := hg 5 _ rfl
  obtain ⟨a0_5, r5, w0_5⟩ := (opens_string Try.underlying9) enc W _ _ _ n5 _ y5 g5
  obtain rfl : b5 = .string a0_5 := (List.cons.inj r5).1
  obtain rfl := list6 hl e0 e1 e2 e3 e4 e5
  exact ⟨a0_0, a0_1, a0_2, a0_3, a0_4, a0_5, rfl, w0_0, w0_1, w0_2, w0_3, w0_4, w0_5⟩
theorem walk (P : Plain) (a0_0 : Int) (a0_1 : Int) (a0_2 : Int) (a0_3 : Int) (a0_4 : Int) (a0_5 : ByteArray) (w : World) (w0_0 : (Lit.int .i64 a0_0).wf = true) (w0_1 : (Lit.int .i64 a0_1).wf = true) (w0_2 : (Lit.int .i64 a0_2).wf = true) (w0_3 : (Lit.int .i64 a0_3).wf = true) (w0_4 : (Lit.int .i64 a0_4).wf = true) (w0_5 : a0_5.size ≤ 9223372036854775807) :
    Calls Try.prog 9 #[.agg #[.int .i64 a0_0, .int .i64 a0_1, .int .i64 a0_2, .int .i64 a0_3, .int .i64 a0_4, .string a0_5]] w fun e w' => e = .returned (.bool true) ∧ Below w.heap.size w w' := by
  obtain ⟨k, h⟩ := P a0_0 a0_1 a0_2 a0_3 a0_4 a0_5 w0_0 w0_1 w0_2 w0_3 w0_4 w0_5
  refine (laws_FnExactPageText.calls k a0_0 a0_1 a0_2 a0_3 a0_4 a0_5 true w h).mono ?_
  rintro e w' ⟨rfl, hd⟩
  exact ⟨rfl, hd⟩
end Go.Proofs.Ytekeaciflbkhpaa.GFnExactPageText
