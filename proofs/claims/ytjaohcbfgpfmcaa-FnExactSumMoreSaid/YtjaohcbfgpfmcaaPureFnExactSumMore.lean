/- What is proved here: the law FnExactSumMore, told as a plain function over numbers and lists, answers true at all arguments. Conditions: those of the row alone, none of ours. -/
import Derived.Test.YtjaohcbfgpfmcaaPFnExactSumMorex1
import Derived.Test.YtjaohcbfgpfmcaaKit
namespace Go.Proofs.Ytjaohcbfgpfmcaa.Pure
open Go.RowKit Go.Proofs.Ytjaohcbfgpfmcaa.PFnExactSumMore Go.Proofs.YtjaohcbfgpfmcaaW.PrintWords Go.Proofs.YtjaohcbfgpfmcaaW.PrintLast Go.Proofs.Ytjaohcbfgpfmcaa.Kit Go.Proofs.YtjaohcbfgpfmcaaW.PrintMore
set_option linter.unusedSimpArgs false
set_option linter.unusedVariables false

/-! the sum -/
def cstep (x : Int) : Int := if x % 2 = 1 then Go.bits .xor .u32 (x / 2) 3558460437 else x / 2
def cbits : Nat → Int → Int
  | 0, x => x
  | n + 1, x => cbits n (cstep x)
def cbyte (x b : Int) : Int := cbits 8 (Go.bits .xor .u32 x b)
def crc (x : Int) (l : List Int) : Int := l.foldl cbyte x
theorem cstep_range {x : Int} (h0 : 0 ≤ x) (h1 : x < 4294967296) : 0 ≤ cstep x ∧ cstep x < 4294967296 := by
  unfold cstep
  split
  · exact xor32_range _ _
  · omega
theorem cbits_range : ∀ (n : Nat) {x : Int}, 0 ≤ x → x < 4294967296 → 0 ≤ cbits n x ∧ cbits n x < 4294967296
  | 0, _, h0, h1 => ⟨h0, h1⟩
  | n + 1, _, h0, h1 => cbits_range n (cstep_range h0 h1).1 (cstep_range h0 h1).2
theorem cbyte_range (x b : Int) : 0 ≤ cbyte x b ∧ cbyte x b < 4294967296 := cbits_range 8 (xor32_range x b).1 (xor32_range x b).2
theorem crc_range : ∀ (l : List Int) {x : Int}, 0 ≤ x → x < 4294967296 → 0 ≤ crc x l ∧ crc x l < 4294967296
  | [], _, h0, h1 => ⟨h0, h1⟩
  | b :: l, x, _, _ => crc_range l (cbyte_range x b).1 (cbyte_range x b).2
theorem and1_u32 {x : Int} (h0 : 0 ≤ x) (h1 : x < 4294967296) : Go.bits .and .u32 x 1 = x % 2 :=
  bits_mask .u32 32 (by decide) (fun n h h' => by rw [IntKind.wrap_u32]; omega) 1 (by decide) x h0 h1


theorem spec_SumMore_l1 (s : ByteArray) (i r : Int) : ∀ j : Nat, j ≤ 8 → ∀ x : Int, 0 ≤ x → x < 4294967296 → Ev (fun k => spec_SumMore.l0 k (cbits j x) s (wrap64 (i + 1))) r →
    Ev (fun k => spec_SumMore.l1 k x s i (8 - (j : Int))) r := by
  intro j
  induction j with
  | zero =>
    intro _ x h0 h1 h
    refine ev_st ?_
    simp only [spec_SumMore.l1, show ¬ ((8 : Int) - ((0 : Nat) : Int) < 8) from by omega, ↓reduceIte]
    exact h
  | succ j ih =>
    intro hj x h0 h1 h
    refine ev_st ?_
    have e : wrap64 ((8 : Int) - ((j + 1 : Nat) : Int) + 1) = 8 - (j : Int) := by rw [w64 (by omega) (by omega)]; omega
    have t : Int.tmod x 2 = x % 2 := Int.tmod_eq_emod_of_nonneg h0
    have d : Int.tdiv x 2 % 4294967296 = x / 2 := by rw [Int.tdiv_eq_ediv_of_nonneg h0]; omega
    have c := cstep_range h0 h1
    have g := ih (by omega) (cstep x) c.1 c.2 h
    simp only [spec_SumMore.l1, show (8 : Int) - ((j + 1 : Nat) : Int) < 8 from by omega, ↓reduceIte, e, t, d]
    unfold cstep at g
    by_cases hp : x % 2 = 1
    · simp only [hp, ↓reduceIte] at g ⊢
      exact g
    · simp only [hp, ↓reduceIte] at g ⊢
      exact g
theorem spec_SumMore_l0 (s : ByteArray) (hs : s.size ≤ 140737488351232) : ∀ (d i : Nat), i + d = s.size → ∀ x : Int, 0 ≤ x → x < 4294967296 →
    Ev (fun k => spec_SumMore.l0 k x s (i : Int)) (crc x ((bytesOf s).drop i)) := by
  intro d
  induction d with
  | zero =>
    intro i hi x h0 h1
    refine ev_st ?_
    obtain rfl : i = s.size := by omega
    simp only [spec_SumMore.l0, show ¬ ((s.size : Int) < (s.size : Int)) from by omega, ↓reduceIte, drop_end]
    exact Ev.now _
  | succ d ih =>
    intro i hi x h0 h1
    refine ev_st ?_
    have b := bt_range s i
    have e : bt s i % 4294967296 = bt s i := by omega
    simp only [spec_SumMore.l0, show (i : Int) < (s.size : Int) from by omega, show (0 : Int) ≤ (i : Int) from by omega, ↓reduceIte, e]
    rw [drop_bt s i (by omega)]
    have g := spec_SumMore_l1 s i (crc x (bt s i :: (bytesOf s).drop (i + 1))) 8 (by omega) (Go.bits .xor .u32 x (bt s i)) (xor32_range _ _).1 (xor32_range _ _).2
    rw [show (8 : Int) - ((8 : Nat) : Int) = 0 from rfl] at g
    refine g ?_
    rw [w64 (by omega) (by omega), show (i : Int) + 1 = ((i + 1 : Nat) : Int) from by omega]
    exact ih (i + 1) (by omega) _ (cbyte_range _ _).1 (cbyte_range _ _).2
theorem spec_SumMore_ev (s : ByteArray) (hs : s.size ≤ 140737488351232) (x : Int) (h0 : 0 ≤ x) (h1 : x < 4294967296) : Ev (fun k => spec_SumMore.f k x s) (crc x (bytesOf s)) :=
  spec_SumMore_l0 s hs s.size 0 (by omega) x h0 h1


theorem impl_SumMore_l1 (s : ByteArray) (i r : Int) : ∀ j : Nat, j ≤ 8 → ∀ x : Int, 0 ≤ x → x < 4294967296 → Ev (fun k => impl_SumMore.l0 k (cbits j x) s (wrap64 (i + 1))) r →
    Ev (fun k => impl_SumMore.l1 k x s i (8 - (j : Int))) r := by
  intro j
  induction j with
  | zero =>
    intro _ x h0 h1 h
    refine ev_st ?_
    simp only [impl_SumMore.l1, show ¬ ((8 : Int) - ((0 : Nat) : Int) < 8) from by omega, ↓reduceIte]
    exact h
  | succ j ih =>
    intro hj x h0 h1 h
    refine ev_st ?_
    have e : wrap64 ((8 : Int) - ((j + 1 : Nat) : Int) + 1) = 8 - (j : Int) := by rw [w64 (by omega) (by omega)]; omega
    have t := and1_u32 h0 h1
    have c := cstep_range h0 h1
    have g := ih (by omega) (cstep x) c.1 c.2 h
    simp only [impl_SumMore.l1, show (8 : Int) - ((j + 1 : Nat) : Int) < 8 from by omega, ↓reduceIte, e, t]
    unfold cstep at g
    by_cases hp : x % 2 = 1
    · simp only [hp, ↓reduceIte] at g ⊢
      exact g
    · simp only [hp, ↓reduceIte] at g ⊢
      exact g
theorem impl_SumMore_l0 (s : ByteArray) (hs : s.size ≤ 140737488351232) : ∀ (d i : Nat), i + d = s.size → ∀ x : Int, 0 ≤ x → x < 4294967296 →
    Ev (fun k => impl_SumMore.l0 k x s (i : Int)) (crc x ((bytesOf s).drop i)) := by
  intro d
  induction d with
  | zero =>
    intro i hi x h0 h1
    refine ev_st ?_
    obtain rfl : i = s.size := by omega
    simp only [impl_SumMore.l0, show ¬ ((s.size : Int) < (s.size : Int)) from by omega, ↓reduceIte, drop_end]
    exact Ev.now _
  | succ d ih =>
    intro i hi x h0 h1
    refine ev_st ?_
    have b := bt_range s i
    have e : bt s i % 4294967296 = bt s i := by omega
    simp only [impl_SumMore.l0, show (i : Int) < (s.size : Int) from by omega, show (0 : Int) ≤ (i : Int) from by omega, ↓reduceIte, e]
    rw [drop_bt s i (by omega)]
    have g := impl_SumMore_l1 s i (crc x (bt s i :: (bytesOf s).drop (i + 1))) 8 (by omega) (Go.bits .xor .u32 x (bt s i)) (xor32_range _ _).1 (xor32_range _ _).2
    rw [show (8 : Int) - ((8 : Nat) : Int) = 0 from rfl] at g
    refine g ?_
    rw [w64 (by omega) (by omega), show (i : Int) + 1 = ((i + 1 : Nat) : Int) from by omega]
    exact ih (i + 1) (by omega) _ (cbyte_range _ _).1 (cbyte_range _ _).2
theorem impl_SumMore_ev (s : ByteArray) (hs : s.size ≤ 140737488351232) (x : Int) (h0 : 0 ≤ x) (h1 : x < 4294967296) : Ev (fun k => impl_SumMore.f k x s) (crc x (bytesOf s)) :=
  impl_SumMore_l0 s hs s.size 0 (by omega) x h0 h1

theorem FnExactSumMore : laws_FnExactSumMore.Pure := by
  intro a0 a1 h0 h1
  refine Ev.rounds ?_
  simp only [laws_FnExactSumMore.f]
  by_cases hb : (a1.size : Int) > 1048576
  · simp only [hb, ↓reduceIte]; exact Ev.now _
  · simp only [hb, ↓reduceIte]
    refine Ev.bind (spec_SumMore_ev a1 h1 a0 (wfu32 h0).1 (wfu32 h0).2) (Ev.bind (impl_SumMore_ev a1 h1 a0 (wfu32 h0).1 (wfu32 h0).2) ?_)
    simp only [bne_self_eq_false, Bool.false_eq_true, ↓reduceIte]
    exact Ev.now _

end Go.Proofs.Ytjaohcbfgpfmcaa.Pure
