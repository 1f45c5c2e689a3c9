/- What is proved here: the law FnExactUnhex, told as a plain function over numbers and lists, answers true at all arguments. Conditions: those of the row alone, none of ours. -/
import Derived.Test.YtekeaciflbkhpaaQFnExactUnhexx1
import Derived.Test.YtekeaciflbkhpaaKit
namespace Go.Proofs.Ytekeaciflbkhpaa.Pure
open Go.RowKit Go.Proofs.Ytekeaciflbkhpaa.QFnExactUnhex Go.Proofs.YtekeaciflbkhpaaW.PrintWords Go.Proofs.YtekeaciflbkhpaaW.PrintLast Go.Proofs.Ytekeaciflbkhpaa.Kit Go.Proofs.YtekeaciflbkhpaaW.PrintMore
set_option linter.unusedSimpArgs false
set_option linter.unusedVariables false

/-! what a figure is worth; both loops go the same way -/
def val (c : Int) : Int := if 48 ≤ c ∧ c ≤ 57 then c - 48 else if 97 ≤ c ∧ c ≤ 102 then c - 87 else -1
theorem spec_val (c : Int) (h0 : 0 ≤ c) (h1 : c ≤ 255) : Ev (fun k => spec_l01Value.f k c) (val c) := by
  simp only [spec_l01Value.f]
  unfold val
  by_cases a : c ≥ 48
  · simp only [a, ↓reduceIte]
    refine ev_st ?_
    simp only [spec_l01Value.j0]
    by_cases b : c ≤ 57
    · simp only [b, decide_true, ↓reduceIte, and_self, ge_iff_le, show (48 : Int) ≤ c from by omega]
      rw [w64 (n := c) (by omega) (by omega), w64 (by omega) (by omega)]
      exact Ev.now _
    · simp only [b, decide_false, Bool.false_eq_true, and_false, ↓reduceIte, ge_iff_le]
      by_cases e : 97 ≤ c
      · by_cases f : c ≤ 102
        · simp only [e, f, and_self, ↓reduceIte]
          rw [w64 (n := c) (by omega) (by omega), w64 (n := c - 97) (by omega) (by omega), w64 (by omega) (by omega), show c - 97 + 10 = c - 87 from by omega]
          exact Ev.now _
        · simp only [e, f, and_false, ↓reduceIte]; exact Ev.now _
      · simp only [e, false_and, ↓reduceIte]; exact Ev.now _
  · simp only [a, ↓reduceIte]
    refine ev_st ?_
    simp only [spec_l01Value.j0, Bool.false_eq_true, ↓reduceIte, ge_iff_le, show ¬ (97 : Int) ≤ c from by omega, show ¬ ((48 : Int) ≤ c ∧ c ≤ 57) from by omega, show ¬ ((97 : Int) ≤ c ∧ c ≤ 102) from by omega]
    exact Ev.now _
theorem impl_val (c : Int) (h0 : 0 ≤ c) (h1 : c ≤ 255) : strings_IndexByte.f (⟨#[48, 49, 50, 51, 52, 53, 54, 55, 56, 57, 97, 98, 99, 100, 101, 102]⟩ : ByteArray) c = some (val c) := by
  have key : ∀ n : Fin 256, strings_IndexByte.f (⟨#[48, 49, 50, 51, 52, 53, 54, 55, 56, 57, 97, 98, 99, 100, 101, 102]⟩ : ByteArray) ((n.val : Nat) : Int) = some (val ((n.val : Nat) : Int)) := by decide +kernel
  obtain ⟨m, rfl⟩ := Int.eq_ofNat_of_zero_le h0
  exact key ⟨m, by omega⟩
theorem unhex_l0 (s : ByteArray) (z : Nat) (hs : s.size = 2 * z) (hz : z ≤ 20000) : ∀ (d i : Nat), i + d = z → ∀ acc : List Int, acc.length + d ≤ 20000 →
    ∃ r, Ev (fun k => spec_Unhex.l0 k s acc ((2 * i : Nat) : Int)) r ∧ Ev (fun k => impl_Unhex.l0 k s acc ((2 * i : Nat) : Int)) r := by
  intro d
  induction d with
  | zero =>
    intro i hi acc _
    have hn : ¬ (((2 * i : Nat) : Int) < (s.size : Int)) := by omega
    refine ⟨(strOfNums acc, true), ev_st ?_, ev_st ?_⟩
    · simp only [spec_Unhex.l0, hn, ↓reduceIte]; exact Ev.now _
    · simp only [impl_Unhex.l0, hn, ↓reduceIte]; exact Ev.now _
  | succ d ih =>
    intro i hi acc ha
    have h1 : ((2 * i : Nat) : Int) < (s.size : Int) := by omega
    have h2 : (0 : Int) ≤ ((2 * i : Nat) : Int) := by omega
    have e1 : wrap64 (((2 * i : Nat) : Int) + 1) = ((2 * i + 1 : Nat) : Int) := by rw [w64 (by omega) (by omega)]; omega
    have e2 : wrap64 (((2 * i : Nat) : Int) + 2) = ((2 * (i + 1) : Nat) : Int) := by rw [w64 (by omega) (by omega)]; omega
    have h3 : ((2 * i + 1 : Nat) : Int) < (s.size : Int) := by omega
    have h4 : (0 : Int) ≤ ((2 * i + 1 : Nat) : Int) := by omega
    have h5 : acc.length < 140737488355328 := by omega
    have b1 := bt_range s ((2 * i : Nat) : Int)
    have b2 := bt_range s ((2 * i + 1 : Nat) : Int)
    obtain ⟨r, g1, g2⟩ := ih (i + 1) (by omega) (acc ++ [(wrap64 ((wrap64 (16 * val (bt s ((2 * i : Nat) : Int)))) + val (bt s ((2 * i + 1 : Nat) : Int)))) % 256]) (by simp; omega)
    by_cases v1 : val (bt s ((2 * i : Nat) : Int)) < 0
    · refine ⟨((⟨#[]⟩ : ByteArray), false), ev_st ?_, ev_st ?_⟩
      · simp only [spec_Unhex.l0, h1, h2, ↓reduceIte, e1, h3, h4]
        refine Ev.bind (spec_val _ b1.1 b1.2) (Ev.bind (spec_val _ b2.1 b2.2) ?_)
        simp only [v1, ↓reduceIte]; exact Ev.now _
      · simp only [impl_Unhex.l0, h1, h2, ↓reduceIte, e1, h3, h4, impl_val _ b1.1 b1.2, impl_val _ b2.1 b2.2, Option.bind_some, v1]
        exact Ev.now _
    · by_cases v2 : val (bt s ((2 * i + 1 : Nat) : Int)) < 0
      · refine ⟨((⟨#[]⟩ : ByteArray), false), ev_st ?_, ev_st ?_⟩
        · simp only [spec_Unhex.l0, h1, h2, ↓reduceIte, e1, h3, h4]
          refine Ev.bind (spec_val _ b1.1 b1.2) (Ev.bind (spec_val _ b2.1 b2.2) ?_)
          simp only [v1, v2, ↓reduceIte]; exact Ev.now _
        · simp only [impl_Unhex.l0, h1, h2, ↓reduceIte, e1, h3, h4, impl_val _ b1.1 b1.2, impl_val _ b2.1 b2.2, Option.bind_some, v1, v2]
          exact Ev.now _
      · refine ⟨r, ev_st ?_, ev_st ?_⟩
        · simp only [spec_Unhex.l0, h1, h2, ↓reduceIte, e1, h3, h4]
          refine Ev.bind (spec_val _ b1.1 b1.2) (Ev.bind (spec_val _ b2.1 b2.2) ?_)
          simp only [v1, v2, h5, ↓reduceIte, e2]; exact g1
        · simp only [impl_Unhex.l0, h1, h2, ↓reduceIte, e1, h3, h4, impl_val _ b1.1 b1.2, impl_val _ b2.1 b2.2, Option.bind_some, v1, v2, h5, e2]
          exact g2
theorem unhex_same (s : ByteArray) : ∃ r, Ev (fun k => spec_Unhex.f k s) r ∧ Ev (fun k => impl_Unhex.f k s) r := by
  simp only [spec_Unhex.f, impl_Unhex.f]
  by_cases a : (s.size : Int) > 40000
  · refine ⟨((⟨#[]⟩ : ByteArray), false), ?_, ?_⟩
    · simp only [a, ↓reduceIte]
      refine ev_st ?_
      simp only [spec_Unhex.j0, ↓reduceIte]; exact Ev.now _
    · by_cases b : (s.size : Int) % 2 = 0
      · simp only [a, b, ↓reduceIte, decide_true]
        refine ev_st ?_
        simp only [impl_Unhex.j0, ↓reduceIte]; exact Ev.now _
      · simp only [b, ↓reduceIte]
        refine ev_st ?_
        simp only [impl_Unhex.j0, ↓reduceIte]; exact Ev.now _
  · by_cases b : (s.size : Int) % 2 = 0
    · obtain ⟨r, g1, g2⟩ := unhex_l0 s (s.size / 2) (by omega) (by omega) (s.size / 2) 0 (by omega) [] (by simp; omega)
      refine ⟨r, ?_, ?_⟩
      · simp only [a, b, ↓reduceIte, bne_self_eq_false]
        refine ev_st ?_
        simp only [spec_Unhex.j0, Bool.false_eq_true, ↓reduceIte]; exact g1
      · simp only [a, b, ↓reduceIte, decide_false]
        refine ev_st ?_
        simp only [impl_Unhex.j0, Bool.false_eq_true, ↓reduceIte]; exact g2
    · refine ⟨((⟨#[]⟩ : ByteArray), false), ?_, ?_⟩
      · have e : ((s.size : Int) % 2 != 0) = true := by simpa using b
        simp only [a, e, ↓reduceIte]
        refine ev_st ?_
        simp only [spec_Unhex.j0, ↓reduceIte]; exact Ev.now _
      · simp only [b, ↓reduceIte]
        refine ev_st ?_
        simp only [impl_Unhex.j0, ↓reduceIte]; exact Ev.now _

theorem FnExactUnhex : laws_FnExactUnhex.Pure := by
  intro a0 h0
  refine Ev.rounds ?_
  simp only [laws_FnExactUnhex.f]
  by_cases hb : (a0.size : Int) > 1048576
  · simp only [hb, ↓reduceIte]; exact Ev.now _
  · simp only [hb, ↓reduceIte]
    obtain ⟨r, g1, g2⟩ := unhex_same a0
    refine Ev.bind g1 (Ev.bind g2 ?_)
    simp only [bne_self_eq_false, Bool.false_eq_true, ↓reduceIte]
    exact Ev.now _

end Go.Proofs.Ytekeaciflbkhpaa.Pure
