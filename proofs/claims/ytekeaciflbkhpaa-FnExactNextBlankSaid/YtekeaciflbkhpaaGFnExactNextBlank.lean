/- What is proved here: the arguments of FnExactNextBlank, as the form reads them, are what its printed contract asks; and the plain statement that is left. No condition of ours. -/
import Derived.Test.YtekeaciflbkhpaaPFnExactNextBlankx2
import Derived.Test.YtekeaciflbkhpaaOpen
import Derived.KernelRfl
namespace Go.Proofs.Ytekeaciflbkhpaa.GFnExactNextBlank
open Go.RowKit Go.ChangeShapes Go.WideShapes Go.Proofs.Ytekeaciflbkhpaa.PFnExactNextBlank Go.Proofs.YtekeaciflbkhpaaW.PrintWords Go.Proofs.Ytekeaciflbkhpaa.Open
set_option linter.unusedVariables false

instance : Inhabited S119 := ⟨z119⟩
def G119 (x : S119) : Prop := (Lit.int .i64 x.f0).wf = true ∧ x.f1.size ≤ 9223372036854775807
set_option maxRecDepth 100000 in
theorem opens119 : Opens Try.prog k119 119 G119 := by
  intro H enc w base spare held fuel cs x h
  obtain ⟨hl, hg⟩ := trod_fields Try.underlying119 (by kernel_rfl) (by kernel_rfl) h
  obtain ⟨c0, y0, n0, e0, g0⟩ := hg 0 _ rfl
  obtain ⟨a0, k0, w0⟩ := (opens_int Try.underlying3) enc w base spare held n0 _ y0 g0
  obtain ⟨c1, y1, n1, e1, g1⟩ := hg 1 _ rfl
  obtain ⟨a1, k1, w1⟩ := (opens_string Try.underlying9) enc w base spare held n1 _ y1 g1
  match cs, hl with
  | [b0, b1], _ =>
    obtain rfl := Option.some.inj e0
    obtain rfl := Option.some.inj e1
    exact ⟨⟨a0, a1⟩, ⟨[b0], [b1], rfl, k0, k1⟩, ⟨w0, w1⟩⟩
/-- The plain statement of FnExactNextBlank. -/
def Plain : Prop := ∀ (a0_0 : Bool) (a0_1 : Int) (l0_2 : List (S119)), (Lit.int .i64 a0_1).wf = true → (l0_2.length ≤ 9223372036854775807 ∧ ∀ y ∈ l0_2, G119 y) → ∃ k, laws_FnExactNextBlank.f k a0_0 a0_1 l0_2 = some true
set_option maxRecDepth 100000 in
theorem args0 {H : Type} {enc : TypeId × Value → H} {W : World} {r : Reach} {b0 base : Nat} {spare : Nat → Bool} {held : Bool} {v : Value} {d : DataW H} {p : List MemPlace} (hv : Value.okWide Try.prog W r b0 40 v) (h : DataW.Trod enc Try.prog W base spare held 40 v d p) :
    ∃ (a0_0 : Bool) (a0_1 : Int) (A0_2 : Option Addr) (c0_2 : Nat) (l0_2 : List (S119)), v = .agg #[.bool a0_0, .int .i64 a0_1, .slice A0_2 l0_2.length c0_2] ∧ True ∧ (Lit.int .i64 a0_1).wf = true ∧ l0_2.length ≤ c0_2 ∧ Kd.C k119 W A0_2 l0_2.length l0_2 ∧ (l0_2.length ≤ 9223372036854775807 ∧ ∀ y ∈ l0_2, G119 y) := by
  obtain ⟨l, rfl, hl, hg⟩ := open_cells Try.underlying40 (by kernel_rfl) (by kernel_rfl) hv h
  obtain ⟨b0, y0, n0, e0, g0⟩ := hg 0 _ rfl
  obtain ⟨a0_0, r0, w0_0⟩ := (opens_bool Try.underlying4) enc W _ _ _ n0 _ y0 g0
  obtain rfl : b0 = .bool a0_0 := (List.cons.inj r0).1
  obtain ⟨b1, y1, n1, e1, g1⟩ := hg 1 _ rfl
  obtain ⟨a0_1, r1, w0_1⟩ := (opens_int Try.underlying3) enc W _ _ _ n1 _ y1 g1
  obtain rfl : b1 = .int .i64 a0_1 := (List.cons.inj r1).1
  obtain ⟨b2, y2, n2, e2, g2⟩ := hg 2 _ rfl
  obtain ⟨l0_2, ⟨A0_2, c0_2, r2, hc0_2, hr0_2⟩, w0_2⟩ := (opens_slice Try.underlying38 (by kernel_rfl) opens119) enc W _ _ _ n2 _ y2 g2
  obtain rfl : b2 = .slice A0_2 l0_2.length c0_2 := (List.cons.inj r2).1
  obtain rfl := list3 hl e0 e1 e2
  exact ⟨a0_0, a0_1, A0_2, c0_2, l0_2, rfl, w0_0, w0_1, hc0_2, hr0_2, w0_2⟩
theorem walk (P : Plain) (a0_0 : Bool) (a0_1 : Int) (A0_2 : Option Addr) (c0_2 : Nat) (l0_2 : List (S119)) (w : World) (hr0_2 : Kd.C k119 w A0_2 l0_2.length l0_2) (hc0_2 : l0_2.length ≤ c0_2) (w0_1 : (Lit.int .i64 a0_1).wf = true) (w0_2 : (l0_2.length ≤ 9223372036854775807 ∧ ∀ y ∈ l0_2, G119 y)) :
    Calls Try.prog 6 #[.agg #[.bool a0_0, .int .i64 a0_1, .slice A0_2 l0_2.length c0_2]] w fun e w' => e = .returned (.bool true) ∧ Below w.heap.size w w' := by
  obtain ⟨k, h⟩ := P a0_0 a0_1 l0_2 w0_1 w0_2
  refine (laws_FnExactNextBlank.calls k a0_0 a0_1 A0_2 c0_2 l0_2 true w hr0_2 hc0_2 h).mono ?_
  rintro e w' ⟨rfl, hd⟩
  exact ⟨rfl, hd⟩
end Go.Proofs.Ytekeaciflbkhpaa.GFnExactNextBlank
