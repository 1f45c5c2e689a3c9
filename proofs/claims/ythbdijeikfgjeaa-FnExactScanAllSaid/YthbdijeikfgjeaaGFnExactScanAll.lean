/- What is proved here: the arguments of FnExactScanAll, as the form reads them, are what its printed contract asks; and the plain statement that is left. No condition of ours. -/
import Derived.Test.YthbdijeikfgjeaaQFnExactScanAllx12
import Derived.Test.YthbdijeikfgjeaaOpen
import Derived.KernelRfl
namespace Go.Proofs.Ythbdijeikfgjeaa.GFnExactScanAll
open Go.RowKit Go.ChangeShapes Go.WideShapes Go.Proofs.Ythbdijeikfgjeaa.QFnExactScanAll Go.Proofs.YthbdijeikfgjeaaW.PrintWords Go.Proofs.Ythbdijeikfgjeaa.Open
set_option linter.unusedVariables false

instance : Inhabited S125 := ⟨z125⟩
def G125 (x : S125) : Prop := (Lit.int .i64 x.f0).wf = true ∧ x.f1.size ≤ 9223372036854775807
set_option maxRecDepth 100000 in
theorem opens125 : Opens Try.prog k125 125 G125 := by
  intro H enc w base spare held fuel cs x h
  obtain ⟨hl, hg⟩ := trod_fields Try.underlying125 (by kernel_rfl) (by kernel_rfl) h
  obtain ⟨c0, y0, n0, e0, g0⟩ := hg 0 _ rfl
  obtain ⟨a0, k0, w0⟩ := (opens_int Try.underlying3) enc w base spare held n0 _ y0 g0
  obtain ⟨c1, y1, n1, e1, g1⟩ := hg 1 _ rfl
  obtain ⟨a1, k1, w1⟩ := (opens_string Try.underlying9) enc w base spare held n1 _ y1 g1
  match cs, hl with
  | [b0, b1], _ =>
    obtain rfl := Option.some.inj e0
    obtain rfl := Option.some.inj e1
    exact ⟨⟨a0, a1⟩, ⟨[b0], [b1], rfl, k0, k1⟩, ⟨w0, w1⟩⟩
instance : Inhabited S75 := ⟨z75⟩
def G75 (x : S75) : Prop := True ∧ (Lit.int .i64 x.f1).wf = true ∧ (x.f2.length ≤ 9223372036854775807 ∧ ∀ y ∈ x.f2, G125 y)
set_option maxRecDepth 100000 in
theorem opens75 : Opens Try.prog k75 75 G75 := by
  intro H enc w base spare held fuel cs x h
  obtain ⟨hl, hg⟩ := trod_fields Try.underlying75 (by kernel_rfl) (by kernel_rfl) h
  obtain ⟨c0, y0, n0, e0, g0⟩ := hg 0 _ rfl
  obtain ⟨a0, k0, w0⟩ := (opens_bool Try.underlying4) enc w base spare held n0 _ y0 g0
  obtain ⟨c1, y1, n1, e1, g1⟩ := hg 1 _ rfl
  obtain ⟨a1, k1, w1⟩ := (opens_int Try.underlying3) enc w base spare held n1 _ y1 g1
  obtain ⟨c2, y2, n2, e2, g2⟩ := hg 2 _ rfl
  obtain ⟨a2, k2, w2⟩ := (opens_slice Try.underlying73 (by kernel_rfl) opens125) enc w base spare held n2 _ y2 g2
  match cs, hl with
  | [b0, b1, b2], _ =>
    obtain rfl := Option.some.inj e0
    obtain rfl := Option.some.inj e1
    obtain rfl := Option.some.inj e2
    exact ⟨⟨a0, a1, a2⟩, ⟨[b0], [b1, b2], rfl, k0, ⟨[b1], [b2], rfl, k1, k2⟩⟩, ⟨w0, w1, w2⟩⟩
/-- The plain statement of FnExactScanAll. -/
def Plain : Prop := ∀ (l0_0 : List (S75)), (l0_0.length ≤ 9223372036854775807 ∧ ∀ y ∈ l0_0, G75 y) → ∃ k, laws_FnExactScanAll.f k l0_0 = some true
set_option maxRecDepth 100000 in
theorem args0 {H : Type} {enc : TypeId × Value → H} {W : World} {r : Reach} {b0 base : Nat} {spare : Nat → Bool} {held : Bool} {v : Value} {d : DataW H} {p : List MemPlace} (hv : Value.okWide Try.prog W r b0 24 v) (h : DataW.Trod enc Try.prog W base spare held 24 v d p) :
    ∃ (A0_0 : Option Addr) (c0_0 : Nat) (l0_0 : List (S75)), v = .agg #[.slice A0_0 l0_0.length c0_0] ∧ l0_0.length ≤ c0_0 ∧ Kd.C k75 W A0_0 l0_0.length l0_0 ∧ (l0_0.length ≤ 9223372036854775807 ∧ ∀ y ∈ l0_0, G75 y) := by
  obtain ⟨l, rfl, hl, hg⟩ := open_cells Try.underlying24 (by kernel_rfl) (by kernel_rfl) hv h
  obtain ⟨b0, y0, n0, e0, g0⟩ := hg 0 _ rfl
  obtain ⟨l0_0, ⟨A0_0, c0_0, r0, hc0_0, hr0_0⟩, w0_0⟩ := (opens_slice Try.underlying22 (by kernel_rfl) opens75) enc W _ _ _ n0 _ y0 g0
  obtain rfl : b0 = .slice A0_0 l0_0.length c0_0 := (List.cons.inj r0).1
  obtain rfl := list1 hl e0
  exact ⟨A0_0, c0_0, l0_0, rfl, hc0_0, hr0_0, w0_0⟩
theorem walk (P : Plain) (A0_0 : Option Addr) (c0_0 : Nat) (l0_0 : List (S75)) (w : World) (hr0_0 : Kd.C k75 w A0_0 l0_0.length l0_0) (hc0_0 : l0_0.length ≤ c0_0) (w0_0 : (l0_0.length ≤ 9223372036854775807 ∧ ∀ y ∈ l0_0, G75 y)) :
    Calls Try.prog 5 #[.agg #[.slice A0_0 l0_0.length c0_0]] w fun e w' => e = .returned (.bool true) ∧ Below w.heap.size w w' := by
  obtain ⟨k, h⟩ := P l0_0 w0_0
  refine (laws_FnExactScanAll.calls k A0_0 c0_0 l0_0 true w hr0_0 hc0_0 h).mono ?_
  rintro e w' ⟨rfl, hd⟩
  exact ⟨rfl, hd⟩
end Go.Proofs.Ythbdijeikfgjeaa.GFnExactScanAll
