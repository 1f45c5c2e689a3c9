/- What is proved here: the law FnExactPageOk, told as a plain function over numbers and lists, answers true at all arguments. Conditions: those of the row alone, none of ours. -/
import Derived.Test.YtjaohcbfgpfmcaaGFnExactPageOk
import Derived.Test.YtjaohcbfgpfmcaaKit
namespace Go.Proofs.Ytjaohcbfgpfmcaa.Pure
open Go.RowKit Go.Proofs.Ytjaohcbfgpfmcaa.PFnExactPageOk Go.Proofs.Ytjaohcbfgpfmcaa.GFnExactPageOk Go.Proofs.YtjaohcbfgpfmcaaW.PrintWords Go.Proofs.YtjaohcbfgpfmcaaW.PrintLast Go.Proofs.Ytjaohcbfgpfmcaa.Kit Go.Proofs.YtjaohcbfgpfmcaaW.PrintMore
set_option linter.unusedSimpArgs false
set_option linter.unusedVariables false

theorem spec_l01In_eq (a b c : Int) : spec_l01In.f a b c = some (decide (b ≤ a ∧ a ≤ c)) := by
  unfold spec_l01In.f
  by_cases h : b ≤ a <;> simp [h, GE.ge]

theorem impl_in_eq (a b c : Int) : impl_in.f a b c = some (decide (b ≤ a ∧ a ≤ c)) := by
  unfold impl_in.f
  by_cases h : b ≤ a <;> simp [h, GE.ge]

def pageOk (kind seq tx part count : Int) (text : ByteArray) : Bool :=
  decide ((1 ≤ seq ∧ seq ≤ 1000000000) ∧ (1 ≤ tx ∧ tx ≤ 1000000000) ∧ (1 ≤ count ∧ count ≤ 9) ∧ (0 ≤ part ∧ part ≤ count - 1) ∧ ¬ ((text.size : Int) > 90) ∧ (kind = 2 ∨ (kind = 1 ∧ count = 1)))
theorem spec_PageOk_eq (a b c d e : Int) (t : ByteArray) (hd : -9223372036854775808 ≤ d ∧ d ≤ 9223372036854775807) (he : -9223372036854775808 ≤ e ∧ e ≤ 9223372036854775807) : spec_PageOk.f a b c d e t = some (pageOk a b c d e t) := by
  unfold spec_PageOk.f pageOk
  simp only [spec_l01In_eq, Option.bind_some, decide_eq_true_eq]
  by_cases h1 : 1 ≤ b ∧ b ≤ 1000000000
  · by_cases h2 : 1 ≤ c ∧ c ≤ 1000000000
    · by_cases h3 : 1 ≤ e ∧ e ≤ 9
      · rw [w64 (n := e - 1) (by omega) (by omega)]
        by_cases h4 : 0 ≤ d ∧ d ≤ e - 1
        · by_cases h5 : (t.size : Int) > 90
          · simp [h1, h2, h3, h4, h5]
          · by_cases h6 : a = 2
            · simp [h1, h2, h3, h4, h5, h6]
            · by_cases h7 : a = 1
              · simp only [h1, h2, h3, h4, h5, h6, h7, and_self, if_true, if_false, true_and, not_false_eq_true, false_or]
                simp
                by_cases h8 : e = 1 <;> simp [h8]
              · have : ¬ (1 ≤ a ∧ a ≤ 2) := by omega
                simp [this, h6, h7]
        · simp [h1, h2, h3, h4]
      · simp [h1, h2, h3]
    · simp [h1, h2]
  · simp [h1]
theorem impl_PageOk_eq (a b c d e : Int) (t : ByteArray) (hd : -9223372036854775808 ≤ d ∧ d ≤ 9223372036854775807) (he : -9223372036854775808 ≤ e ∧ e ≤ 9223372036854775807) : impl_PageOk.f a b c d e t = some (pageOk a b c d e t) := by
  unfold impl_PageOk.f pageOk
  simp only [impl_in_eq, Option.bind_some, decide_eq_true_eq]
  by_cases h1 : 1 ≤ b ∧ b ≤ 1000000000
  · by_cases h2 : 1 ≤ c ∧ c ≤ 1000000000
    · by_cases h3 : 1 ≤ e ∧ e ≤ 9
      · rw [w64 (n := e - 1) (by omega) (by omega)]
        by_cases h4 : 0 ≤ d ∧ d ≤ e - 1
        · by_cases h5 : (t.size : Int) > 90
          · simp [h1, h2, h3, h4, h5]
          · by_cases h6 : a = 2
            · simp [h1, h2, h3, h4, h5, h6]
            · by_cases h7 : a = 1
              · simp only [h1, h2, h3, h4, h5, h6, h7, and_self, if_true, if_false, true_and, not_false_eq_true, false_or]
                simp
                by_cases h8 : e = 1 <;> simp [h8]
              · simp [h1, h2, h3, h4, h5, h6, h7]
        · simp [h1, h2, h3, h4]
      · simp [h1, h2, h3]
    · simp [h1, h2]
  · simp [h1]

theorem FnExactPageOk : Plain := by
  intro a b c d e t _ _ _ hd he _
  have hd := wf64 hd
  have he := wf64 he
  unfold laws_FnExactPageOk.f laws_szPage.f laws_toPage.f
  have key : ∀ u : Int, (if u < 0 then some true else ((some (a, b, c, d, e, t)).bind fun x => (spec_PageOk.f x.1 x.2.1 x.2.2.1 x.2.2.2.1 x.2.2.2.2.1 x.2.2.2.2.2).bind fun t1 => (some (a, b, c, d, e, t)).bind fun y => (impl_PageOk.f y.1 y.2.1 y.2.2.1 y.2.2.2.1 y.2.2.2.2.1 y.2.2.2.2.2).bind fun t2 => if (t2 != t1) = true then some false else some true)) = some true := by
    intro u
    split
    · rfl
    · simp only [Option.bind_some, spec_PageOk_eq a b c d e t hd he, impl_PageOk_eq a b c d e t hd he, bne_self_eq_false, Bool.false_eq_true, if_false]
  split
  · rw [Option.bind_some]; exact key _
  · rw [Option.bind_some]; exact key _

end Go.Proofs.Ytjaohcbfgpfmcaa.Pure
