/- What is proved here: the law FnExactHex, told as a plain function over numbers and lists, answers true at all arguments. Conditions: those of the row alone, none of ours. -/
import Derived.Test.YtjaohcbfgpfmcaaPFnExactHexx1
import Derived.Test.YtjaohcbfgpfmcaaKit
namespace Go.Proofs.Ytjaohcbfgpfmcaa.Pure
open Go.RowKit Go.Proofs.Ytjaohcbfgpfmcaa.PFnExactHex Go.Proofs.YtjaohcbfgpfmcaaW.PrintWords Go.Proofs.YtjaohcbfgpfmcaaW.PrintLast Go.Proofs.Ytjaohcbfgpfmcaa.Kit Go.Proofs.YtjaohcbfgpfmcaaW.PrintMore
set_option linter.unusedSimpArgs false
set_option linter.unusedVariables false

/-! figures of sixteen -/
def hx (d : Int) : Int := if d < 10 then 48 + d else 87 + d
def hexL : List Int → List Int
  | [] => []
  | b :: t => hx (b / 16) :: hx (b % 16) :: hexL t
def hexOf (s : ByteArray) : ByteArray × Bool := if (s.size : Int) > 20000 then ((⟨#[]⟩ : ByteArray), false) else (strOfNums (hexL (bytesOf s)), true)

theorem spec_l01Figure_eq (d : Int) (h0 : 0 ≤ d) (h1 : d < 16) : spec_l01Figure.f d = some (hx d) := by
  unfold spec_l01Figure.f hx
  by_cases h : d < 10
  · rw [if_pos h, if_pos h, w64 (by omega) (by omega)]; congr 1; omega
  · rw [if_neg h, if_neg h, w64 (n := 97 + d) (by omega) (by omega), w64 (by omega) (by omega)]; congr 1; omega

theorem spec_Hex_l0 (s : ByteArray) (hs : s.size ≤ 20000) : ∀ (d i : Nat), i + d = s.size → ∀ acc : List Int, acc.length + 2 * d ≤ 40000 →
    Ev (fun k => spec_Hex.l0 k s acc (i : Int)) (strOfNums (acc ++ hexL ((bytesOf s).drop i)), true) := by
  intro d
  induction d with
  | zero =>
    intro i hi acc _
    refine ev_st ?_
    obtain rfl : i = s.size := by omega
    simp only [spec_Hex.l0, show ¬ ((s.size : Int) < (s.size : Int)) from by omega, ↓reduceIte, drop_end, hexL, List.append_nil]
    exact Ev.now _
  | succ d ih =>
    intro i hi acc ha
    refine ev_st ?_
    have b := bt_range s i
    have e1 : wrap64 (Int.tdiv (bt s i) 16) = bt s i / 16 := by rw [Int.tdiv_eq_ediv_of_nonneg b.1, w64 (by omega) (by omega)]
    have e2 : Int.tmod (bt s i) 16 = bt s i % 16 := Int.tmod_eq_emod_of_nonneg b.1
    have e3 : wrap64 ((i : Int) + 1) = ((i + 1 : Nat) : Int) := by rw [w64 (by omega) (by omega)]; omega
    simp only [spec_Hex.l0, show (i : Int) < (s.size : Int) from by omega, show (0 : Int) ≤ (i : Int) from by omega, ↓reduceIte, bt_wrap, e1, e2, e3, spec_l01Figure_eq (bt s i / 16) (by omega) (by omega), spec_l01Figure_eq (bt s i % 16) (by omega) (by omega), Option.bind_some,
      List.length_cons, List.length_nil, show acc.length + (0 + 1 + 1) < 140737488355328 from by omega]
    rw [drop_bt s i (by omega), hexL]
    have g := ih (i + 1) (by omega) (acc ++ [hx (bt s i / 16), hx (bt s i % 16)]) (by simp; omega)
    rw [List.append_assoc] at g
    exact g
theorem spec_Hex_ev (s : ByteArray) : Ev (fun k => spec_Hex.f k s) (hexOf s) := by
  simp only [spec_Hex.f]
  unfold hexOf
  by_cases h : (s.size : Int) > 20000
  · simp only [h, ↓reduceIte]; exact Ev.now _
  · simp only [h, ↓reduceIte]
    exact spec_Hex_l0 s (by omega) s.size 0 (by omega) [] (by simp; omega)

theorem hexDigit (d : Int) (h0 : 0 ≤ d) (h1 : d < 16) : bt (⟨#[48, 49, 50, 51, 52, 53, 54, 55, 56, 57, 97, 98, 99, 100, 101, 102]⟩ : ByteArray) d = hx d := by
  have key : ∀ n : Fin 16, bt (⟨#[48, 49, 50, 51, 52, 53, 54, 55, 56, 57, 97, 98, 99, 100, 101, 102]⟩ : ByteArray) ((n.val : Nat) : Int) = hx ((n.val : Nat) : Int) := by decide +kernel
  obtain ⟨m, rfl⟩ := Int.eq_ofNat_of_zero_le h0
  exact key ⟨m, by omega⟩
theorem impl_Hex_l0 (s : ByteArray) (hs : s.size ≤ 20000) : ∀ (d i : Nat), i + d = s.size → ∀ acc : List Int, acc.length + 2 * d ≤ 40000 →
    Ev (fun k => impl_Hex.l0 k s acc (i : Int)) (strOfNums (acc ++ hexL ((bytesOf s).drop i)), true) := by
  intro d
  induction d with
  | zero =>
    intro i hi acc _
    refine ev_st ?_
    obtain rfl : i = s.size := by omega
    simp only [impl_Hex.l0, show ¬ ((s.size : Int) < (s.size : Int)) from by omega, ↓reduceIte, drop_end, hexL, List.append_nil]
    exact Ev.now _
  | succ d ih =>
    intro i hi acc ha
    refine ev_st ?_
    have b := bt_range s i
    have e2 : Go.bits .and .u8 (bt s i) 15 = bt s i % 16 := u8_and15 _ b.1 (by omega)
    have e3 : wrap64 ((i : Int) + 1) = ((i + 1 : Nat) : Int) := by rw [w64 (by omega) (by omega)]; omega
    simp only [impl_Hex.l0, show (i : Int) < (s.size : Int) from by omega, show (0 : Int) ≤ (i : Int) from by omega, ↓reduceIte, e2, e3, hexDigit (bt s i / 16) (by omega) (by omega), hexDigit (bt s i % 16) (by omega) (by omega), Option.bind_some,
      show (0 : Int) ≤ bt s i / 16 from by omega, show bt s i / 16 < 16 from by omega, show (0 : Int) ≤ bt s i % 16 from by omega, show bt s i % 16 < 16 from by omega,
      List.length_cons, List.length_nil, show acc.length + (0 + 1 + 1) < 140737488355328 from by omega]
    rw [drop_bt s i (by omega), hexL]
    have g := ih (i + 1) (by omega) (acc ++ [hx (bt s i / 16), hx (bt s i % 16)]) (by simp; omega)
    rw [List.append_assoc] at g
    exact g
theorem impl_Hex_ev (s : ByteArray) : Ev (fun k => impl_Hex.f k s) (hexOf s) := by
  simp only [impl_Hex.f]
  unfold hexOf
  by_cases h : (s.size : Int) > 20000
  · simp only [h, ↓reduceIte]; exact Ev.now _
  · simp only [h, ↓reduceIte]
    exact impl_Hex_l0 s (by omega) s.size 0 (by omega) [] (by simp; omega)

theorem FnExactHex : laws_FnExactHex.Pure := by
  intro a0 h0
  refine Ev.rounds ?_
  simp only [laws_FnExactHex.f]
  by_cases hb : (a0.size : Int) > 1048576
  · simp only [hb, ↓reduceIte]; exact Ev.now _
  · simp only [hb, ↓reduceIte]
    refine Ev.bind (spec_Hex_ev a0) (Ev.bind (impl_Hex_ev a0) ?_)
    simp only [bne_self_eq_false, Bool.false_eq_true, ↓reduceIte]
    exact Ev.now _

end Go.Proofs.Ytjaohcbfgpfmcaa.Pure
