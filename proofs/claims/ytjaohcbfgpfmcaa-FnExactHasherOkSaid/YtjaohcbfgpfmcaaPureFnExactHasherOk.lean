/- What is proved here: the law FnExactHasherOk, told as a plain function over numbers and lists, answers true at all arguments. Conditions: those of the row alone, none of ours. -/
import Derived.Test.YtjaohcbfgpfmcaaGFnExactHasherOk
import Derived.Test.YtjaohcbfgpfmcaaKit
namespace Go.Proofs.Ytjaohcbfgpfmcaa.Pure
open Go.RowKit Go.Proofs.Ytjaohcbfgpfmcaa.PFnExactHasherOk Go.Proofs.Ytjaohcbfgpfmcaa.GFnExactHasherOk Go.Proofs.YtjaohcbfgpfmcaaW.PrintWords Go.Proofs.YtjaohcbfgpfmcaaW.PrintLast Go.Proofs.Ytjaohcbfgpfmcaa.Kit Go.Proofs.YtjaohcbfgpfmcaaW.PrintMore
set_option linter.unusedSimpArgs false
set_option linter.unusedVariables false

theorem spec_l01In_eq (a b c : Int) : spec_l01In.f a b c = some (decide (b ≤ a ∧ a ≤ c)) := by
  unfold spec_l01In.f
  by_cases h : b ≤ a <;> simp [h, GE.ge]

theorem impl_in_eq (a b c : Int) : impl_in.f a b c = some (decide (b ≤ a ∧ a ≤ c)) := by
  unfold impl_in.f
  by_cases h : b ≤ a <;> simp [h, GE.ge]

def hasherOk (st rest : ByteArray) (n : Int) : Bool := decide ((st.size : Int) = 32 ∧ (rest.size : Int) < 64 ∧ (0 ≤ n ∧ n ≤ 1000000000) ∧ (rest.size : Int) = n % 64)
theorem spec_HasherOk_eq (a b : ByteArray) (n : Int) : spec_HasherOk.f a b n = some (hasherOk a b n) := by
  unfold spec_HasherOk.f hasherOk
  by_cases h1 : (a.size : Int) = 32
  · by_cases h2 : (b.size : Int) < 64
    · rw [if_pos h1, if_pos h2, spec_l01In_eq, Option.bind_some]
      by_cases h3 : 0 ≤ n ∧ n ≤ 1000000000
      · have e : Int.tmod n 64 = n % 64 := Int.tmod_eq_emod_of_nonneg h3.1
        rw [if_pos (by simpa using h3), e]
        congr 1
        rw [Bool.eq_iff_iff]
        simp only [beq_iff_eq, decide_eq_true_eq, h1, h2, h3, true_and, and_self]
        omega
      · rw [if_neg (by simpa using h3)]
        congr 1
        symm
        simp [h3]
    · rw [if_pos h1, if_neg h2]; simp [h2]
  · rw [if_neg h1]; simp [h1]
theorem impl_HasherOk_eq (a b : ByteArray) (n : Int) : impl_HasherOk.f a b n = some (hasherOk a b n) := by
  unfold impl_HasherOk.f hasherOk
  by_cases h1 : (a.size : Int) = 32
  · by_cases h2 : (b.size : Int) < 64
    · rw [if_pos h1, if_pos h2, impl_in_eq, Option.bind_some]
      by_cases h3 : 0 ≤ n ∧ n ≤ 1000000000
      · have e : Int.tmod n 64 = n % 64 := Int.tmod_eq_emod_of_nonneg h3.1
        rw [if_pos (by simpa using h3), e]
        congr 1
        rw [Bool.eq_iff_iff]
        simp only [beq_iff_eq, decide_eq_true_eq, h1, h2, h3, true_and, and_self]
      · rw [if_neg (by simpa using h3)]
        congr 1
        symm
        simp [h3]
    · rw [if_pos h1, if_neg h2]; simp [h2]
  · rw [if_neg h1]; simp [h1]

theorem FnExactHasherOk : Plain := by
  intro a b n _ _ _
  unfold laws_FnExactHasherOk.f laws_szHasher.f laws_toHasher.f
  have key : ∀ t : Int, (if t < 0 then some true else ((some (a, b, n)).bind fun x => (spec_HasherOk.f x.1 x.2.1 x.2.2).bind fun t1 => (some (a, b, n)).bind fun y => (impl_HasherOk.f y.1 y.2.1 y.2.2).bind fun t2 => if (t2 != t1) = true then some false else some true)) = some true := by
    intro t
    split
    · rfl
    · simp only [Option.bind_some, spec_HasherOk_eq, impl_HasherOk_eq, bne_self_eq_false, Bool.false_eq_true, if_false]
  split
  · rw [Option.bind_some]; exact key _
  · split
    · rw [Option.bind_some]; exact key _
    · rw [Option.bind_some]; exact key _

end Go.Proofs.Ytjaohcbfgpfmcaa.Pure
