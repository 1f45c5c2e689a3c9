/- What is proved here: the law FnExactVarText, told as a plain function over numbers and lists, answers true at all arguments. Conditions: those of the row alone, none of ours. -/
import Derived.Test.YtjaohcbfgpfmcaaPFnExactVarTextx1
import Derived.Test.YtjaohcbfgpfmcaaKit
namespace Go.Proofs.Ytjaohcbfgpfmcaa.Pure
open Go.RowKit Go.Proofs.Ytjaohcbfgpfmcaa.PFnExactVarText Go.Proofs.YtjaohcbfgpfmcaaW.PrintWords Go.Proofs.YtjaohcbfgpfmcaaW.PrintLast Go.Proofs.Ytjaohcbfgpfmcaa.Kit Go.Proofs.YtjaohcbfgpfmcaaW.PrintMore
set_option linter.unusedSimpArgs false
set_option linter.unusedVariables false

/-! a number's bytes -/
def vt (n : Nat) : List Int := if 127 < n then ((n % 128 + 128 : Nat) : Int) :: vt (n / 128) else [(n : Int)]
termination_by n
decreasing_by omega
theorem vt_range (n : Nat) : ∀ x ∈ vt n, 0 ≤ x ∧ x < 256 := by
  induction n using Nat.strongRecOn with
  | _ n ih =>
    rw [vt]
    split
    · intro x hx
      rcases List.mem_cons.1 hx with rfl | hx
      · omega
      · exact ih (n / 128) (by omega) x hx
    · intro x hx
      obtain rfl := List.mem_singleton.1 hx
      omega
theorem vt_len (n : Nat) : ∀ j : Nat, n < 128 ^ (j + 1) → (vt n).length ≤ j + 1 := by
  intro j
  induction j generalizing n with
  | zero => intro h; rw [vt, if_neg (by omega)]; simp
  | succ j ih =>
    intro h
    rw [vt]
    split
    · have := ih (n / 128) (by rw [Nat.div_lt_iff_lt_mul (by omega)]; rw [Nat.pow_succ] at h; exact h)
      simp only [List.length_cons]; omega
    · simp
theorem vt_len5 (n : Nat) (h : n ≤ 1000000000) : (vt n).length ≤ 5 := vt_len n 4 (by omega)
def varS (n : Int) : ByteArray := strOfNums (vt n.toNat)
theorem tdiv128 (n : Nat) (h : n ≤ 1000000000000) : wrap64 (Int.tdiv (n : Int) 128) = ((n / 128 : Nat) : Int) := by
  rw [Int.tdiv_eq_ediv_of_nonneg (by omega), w64 (by omega) (by omega)]; omega
theorem tmod128 (n : Nat) (h : n ≤ 1000000000000) : wrap64 (Int.tmod (n : Int) 128 + 128) % 256 = ((n % 128 + 128 : Nat) : Int) := by
  rw [Int.tmod_eq_emod_of_nonneg (by omega), w64 (by omega) (by omega)]; omega

theorem spec_l01Var_l0 (n : Nat) : n ≤ 1000000000000 → ∀ acc : List Int, acc.length + n < 140737488355328 → Ev (fun k => spec_l01Var.l0 k (n : Int) acc) (strOfNums (acc ++ vt n)) := by
  induction n using Nat.strongRecOn with
  | _ n ih =>
    intro hn acc ha
    refine ev_st ?_
    have hl : acc.length < 140737488355328 := by omega
    rw [vt]
    by_cases h : 127 < n
    · simp only [spec_l01Var.l0, show (n : Int) > 127 from by omega, hl, h, ↓reduceIte, tdiv128 n hn, tmod128 n hn]
      have g := ih (n / 128) (by omega) (by omega) (acc ++ [((n % 128 + 128 : Nat) : Int)]) (by simp; omega)
      rw [List.append_assoc] at g
      exact g
    · simp only [spec_l01Var.l0, show ¬ ((n : Int) > 127) from by omega, hl, h, ↓reduceIte, show (n : Int) % 256 = (n : Int) from by omega]
      exact Ev.now _
theorem spec_l01Var_ev (n : Int) (h0 : 0 ≤ n) (h1 : n ≤ 1000000000000) : Ev (fun k => spec_l01Var.f k n) (varS n) := by
  obtain ⟨m, rfl⟩ := Int.eq_ofNat_of_zero_le h0
  exact spec_l01Var_l0 m (by omega) [] (by simp; omega)

theorem spec_l01In_eq (a b c : Int) : spec_l01In.f a b c = some (decide (b ≤ a ∧ a ≤ c)) := by
  unfold spec_l01In.f
  by_cases h : b ≤ a <;> simp [h, GE.ge]

theorem impl_in_eq (a b c : Int) : impl_in.f a b c = some (decide (b ≤ a ∧ a ≤ c)) := by
  unfold impl_in.f
  by_cases h : b ≤ a <;> simp [h, GE.ge]

def varTextOf (n : Int) : ByteArray × Bool := if 0 ≤ n ∧ n ≤ 1000000000 then (varS n, true) else ((⟨#[]⟩ : ByteArray), false)

theorem impl_VarText_l0 (n : Nat) : n ≤ 1000000000000 → ∀ acc : List Int, acc.length + n < 140737488355328 → Ev (fun k => impl_VarText.l0 k (n : Int) acc) (strOfNums (acc ++ vt n), true) := by
  induction n using Nat.strongRecOn with
  | _ n ih =>
    intro hn acc ha
    refine ev_st ?_
    have hl : acc.length < 140737488355328 := by omega
    rw [vt]
    by_cases h : 127 < n
    · simp only [impl_VarText.l0, show (n : Int) > 127 from by omega, hl, h, ↓reduceIte, tdiv128 n hn, tmod128 n hn]
      have g := ih (n / 128) (by omega) (by omega) (acc ++ [((n % 128 + 128 : Nat) : Int)]) (by simp; omega)
      rw [List.append_assoc] at g
      exact g
    · simp only [impl_VarText.l0, show ¬ ((n : Int) > 127) from by omega, hl, h, ↓reduceIte, show (n : Int) % 256 = (n : Int) from by omega]
      exact Ev.now _
theorem impl_VarText_ev (n : Int) : Ev (fun k => impl_VarText.f k n) (varTextOf n) := by
  simp only [impl_VarText.f, impl_in_eq, Option.bind_some, decide_eq_true_eq]
  unfold varTextOf
  by_cases h : 0 ≤ n ∧ n ≤ 1000000000
  · simp only [h, and_self, ↓reduceIte]
    obtain ⟨m, rfl⟩ := Int.eq_ofNat_of_zero_le h.1
    exact impl_VarText_l0 m (by omega) [] (by simp; omega)
  · simp only [h, ↓reduceIte]
    exact Ev.now _

theorem spec_VarText_ev (n : Int) : Ev (fun k => spec_VarText.f k n) (varTextOf n) := by
  simp only [spec_VarText.f, spec_l01In_eq, Option.bind_some, decide_eq_true_eq]
  unfold varTextOf
  by_cases h : 0 ≤ n ∧ n ≤ 1000000000
  · simp only [h, and_self, ↓reduceIte]
    exact Ev.bind (spec_l01Var_ev n h.1 (by omega)) (Ev.now _)
  · simp only [h, ↓reduceIte]
    exact Ev.now _

theorem FnExactVarText : laws_FnExactVarText.Pure := by
  intro a0 h0
  refine Ev.rounds ?_
  simp only [laws_FnExactVarText.f]
  refine Ev.bind (spec_VarText_ev a0) (Ev.bind (impl_VarText_ev a0) ?_)
  simp only [bne_self_eq_false, Bool.false_eq_true, ↓reduceIte]
  exact Ev.now _

end Go.Proofs.Ytjaohcbfgpfmcaa.Pure
