/- What is proved here: the arguments of FnExactWipe, as the form reads them, are what its printed contract asks; and the plain statement that is left. No condition of ours. -/
import Derived.Test.YtbafmoggckeaeaaQFnExactWipex7
import Derived.Test.YtbafmoggckeaeaaOpen
import Derived.KernelRfl
namespace Go.Proofs.Ytbafmoggckeaeaa.GFnExactWipe
open Go.RowKit Go.ChangeShapes Go.WideShapes Go.Proofs.Ytbafmoggckeaeaa.QFnExactWipe Go.Proofs.YtbafmoggckeaeaaW.PrintWords Go.Proofs.Ytbafmoggckeaeaa.Open
set_option linter.unusedVariables false

instance : Inhabited S111 := ⟨z111⟩
def G111 (x : S111) : Prop := (Lit.int .i64 x.f0).wf = true ∧ x.f1.size ≤ 9223372036854775807
set_option maxRecDepth 100000 in
theorem opens111 : Opens Try.prog k111 111 G111 := by
  intro H enc w base spare held fuel cs x h
  obtain ⟨hl, hg⟩ := trod_fields Try.underlying111 (by kernel_rfl) (by kernel_rfl) h
  obtain ⟨c0, y0, n0, e0, g0⟩ := hg 0 _ rfl
  obtain ⟨a0, k0, w0⟩ := (opens_int Try.underlying3) enc w base spare held n0 _ y0 g0
  obtain ⟨c1, y1, n1, e1, g1⟩ := hg 1 _ rfl
  obtain ⟨a1, k1, w1⟩ := (opens_string Try.underlying9) enc w base spare held n1 _ y1 g1
  match cs, hl with
  | [b0, b1], _ =>
    obtain rfl := Option.some.inj e0
    obtain rfl := Option.some.inj e1
    exact ⟨⟨a0, a1⟩, ⟨[b0], [b1], rfl, k0, k1⟩, ⟨w0, w1⟩⟩
instance : Inhabited S103 := ⟨z103⟩
def G103 (x : S103) : Prop := True ∧ (Lit.int .i64 x.f1).wf = true ∧ (x.f2.length ≤ 9223372036854775807 ∧ ∀ y ∈ x.f2, G111 y)
set_option maxRecDepth 100000 in
theorem opens103 : Opens Try.prog k103 103 G103 := by
  intro H enc w base spare held fuel cs x h
  obtain ⟨hl, hg⟩ := trod_fields Try.underlying103 (by kernel_rfl) (by kernel_rfl) h
  obtain ⟨c0, y0, n0, e0, g0⟩ := hg 0 _ rfl
  obtain ⟨a0, k0, w0⟩ := (opens_bool Try.underlying4) enc w base spare held n0 _ y0 g0
  obtain ⟨c1, y1, n1, e1, g1⟩ := hg 1 _ rfl
  obtain ⟨a1, k1, w1⟩ := (opens_int Try.underlying3) enc w base spare held n1 _ y1 g1
  obtain ⟨c2, y2, n2, e2, g2⟩ := hg 2 _ rfl
  obtain ⟨a2, k2, w2⟩ := (opens_slice Try.underlying101 (by kernel_rfl) opens111) enc w base spare held n2 _ y2 g2
  match cs, hl with
  | [b0, b1, b2], _ =>
    obtain rfl := Option.some.inj e0
    obtain rfl := Option.some.inj e1
    obtain rfl := Option.some.inj e2
    exact ⟨⟨a0, a1, a2⟩, ⟨[b0], [b1, b2], rfl, k0, ⟨[b1], [b2], rfl, k1, k2⟩⟩, ⟨w0, w1, w2⟩⟩
/-- The plain statement of FnExactWipe. -/
def Plain : Prop := ∀ (l0_0 : List (S103)) (a1 : Int), (l0_0.length ≤ 9223372036854775807 ∧ ∀ y ∈ l0_0, G103 y) → (Lit.int .i64 a1).wf = true → ∃ k, laws_FnExactWipe.f k l0_0 a1 = some true
set_option maxRecDepth 100000 in
theorem args0 {H : Type} {enc : TypeId × Value → H} {W : World} {r : Reach} {b0 base : Nat} {spare : Nat → Bool} {held : Bool} {v : Value} {d : DataW H} {p : List MemPlace} (hv : Value.okWide Try.prog W r b0 44 v) (h : DataW.Trod enc Try.prog W base spare held 44 v d p) :
    ∃ (A0_0 : Option Addr) (c0_0 : Nat) (l0_0 : List (S103)), v = .agg #[.slice A0_0 l0_0.length c0_0] ∧ l0_0.length ≤ c0_0 ∧ Kd.C k103 W A0_0 l0_0.length l0_0 ∧ (l0_0.length ≤ 9223372036854775807 ∧ ∀ y ∈ l0_0, G103 y) := by
  obtain ⟨l, rfl, hl, hg⟩ := open_cells Try.underlying44 (by kernel_rfl) (by kernel_rfl) hv h
  obtain ⟨b0, y0, n0, e0, g0⟩ := hg 0 _ rfl
  obtain ⟨l0_0, ⟨A0_0, c0_0, r0, hc0_0, hr0_0⟩, w0_0⟩ := (opens_slice Try.underlying42 (by kernel_rfl) opens103) enc W _ _ _ n0 _ y0 g0
  obtain rfl : b0 = .slice A0_0 l0_0.length c0_0 := (List.cons.inj r0).1
  obtain rfl := list1 hl e0
  exact ⟨A0_0, c0_0, l0_0, rfl, hc0_0, hr0_0, w0_0⟩
theorem walk (P : Plain) (A0_0 : Option Addr) (c0_0 : Nat) (l0_0 : List (S103)) (a1 : Int) (w : World) (hr0_0 : Kd.C k103 w A0_0 l0_0.length l0_0) (hc0_0 : l0_0.length ≤ c0_0) (w0_0 : (l0_0.length ≤ 9223372036854775807 ∧ ∀ y ∈ l0_0, G103 y)) (w1 : (Lit.int .i64 a1).wf = true) :
    Calls Try.prog 13 #[.agg #[.slice A0_0 l0_0.length c0_0], .int .i64 a1] w fun e w' => e = .returned (.bool true) ∧ Below w.heap.size w w' := by
  obtain ⟨k, h⟩ := P l0_0 a1 w0_0 w1
  refine (laws_FnExactWipe.calls k A0_0 c0_0 l0_0 a1 true w hr0_0 hc0_0 h).mono ?_
  rintro e w' ⟨rfl, hd⟩
  exact ⟨rfl, hd⟩
end Go.Proofs.Ytbafmoggckeaeaa.GFnExactWipe
