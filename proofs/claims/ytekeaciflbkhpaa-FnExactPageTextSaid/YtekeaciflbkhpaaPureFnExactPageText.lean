/- What is proved here: the law FnExactPageText, told as a plain function over numbers and lists, answers true at all arguments. Conditions: those of the row alone, none of ours. -/
import Derived.Test.YtekeaciflbkhpaaGFnExactPageText
import Derived.Test.YtekeaciflbkhpaaKit
namespace Go.Proofs.Ytekeaciflbkhpaa.Pure
open Go.RowKit Go.Proofs.Ytekeaciflbkhpaa.QFnExactPageText Go.Proofs.Ytekeaciflbkhpaa.GFnExactPageText Go.Proofs.YtekeaciflbkhpaaW.PrintWords Go.Proofs.YtekeaciflbkhpaaW.PrintLast Go.Proofs.Ytekeaciflbkhpaa.Kit Go.Proofs.YtekeaciflbkhpaaW.PrintMore
set_option linter.unusedSimpArgs false
set_option linter.unusedVariables false

/-! a number's bytes -/
def vt (n : Nat) : List Int := if 127 < n then ((n % 128 + 128 : Nat) : Int) :: vt (n / 128) else [(n : Int)]
termination_by n
decreasing_by omega
theorem vt_range (n : Nat) : ∀ x ∈ vt n, 0 ≤ x ∧ x < 256 := by
  induction n using Nat.strongRecOn with
  | _ n ih =>
    rw [vt]
    split
    · intro x hx
      rcases List.mem_cons.1 hx with rfl | hx
      · omega
      · exact ih (n / 128) (by omega) x hx
    · intro x hx
      obtain rfl := List.mem_singleton.1 hx
      omega
theorem vt_len (n : Nat) : ∀ j : Nat, n < 128 ^ (j + 1) → (vt n).length ≤ j + 1 := by
  intro j
  induction j generalizing n with
  | zero => intro h; rw [vt, if_neg (by omega)]; simp
  | succ j ih =>
    intro h
    rw [vt]
    split
    · have := ih (n / 128) (by rw [Nat.div_lt_iff_lt_mul (by omega)]; rw [Nat.pow_succ] at h; exact h)
      simp only [List.length_cons]; omega
    · simp
theorem vt_len5 (n : Nat) (h : n ≤ 1000000000) : (vt n).length ≤ 5 := vt_len n 4 (by omega)
def varS (n : Int) : ByteArray := strOfNums (vt n.toNat)
theorem tdiv128 (n : Nat) (h : n ≤ 1000000000000) : wrap64 (Int.tdiv (n : Int) 128) = ((n / 128 : Nat) : Int) := by
  rw [Int.tdiv_eq_ediv_of_nonneg (by omega), w64 (by omega) (by omega)]; omega
theorem tmod128 (n : Nat) (h : n ≤ 1000000000000) : wrap64 (Int.tmod (n : Int) 128 + 128) % 256 = ((n % 128 + 128 : Nat) : Int) := by
  rw [Int.tmod_eq_emod_of_nonneg (by omega), w64 (by omega) (by omega)]; omega

theorem spec_l01Var_l0 (n : Nat) : n ≤ 1000000000000 → ∀ acc : List Int, acc.length + n < 140737488355328 → Ev (fun k => spec_l01Var.l0 k (n : Int) acc) (strOfNums (acc ++ vt n)) := by
  induction n using Nat.strongRecOn with
  | _ n ih =>
    intro hn acc ha
    refine ev_st ?_
    have hl : acc.length < 140737488355328 := by omega
    rw [vt]
    by_cases h : 127 < n
    · simp only [spec_l01Var.l0, show (n : Int) > 127 from by omega, hl, h, ↓reduceIte, tdiv128 n hn, tmod128 n hn]
      have g := ih (n / 128) (by omega) (by omega) (acc ++ [((n % 128 + 128 : Nat) : Int)]) (by simp; omega)
      rw [List.append_assoc] at g
      exact g
    · simp only [spec_l01Var.l0, show ¬ ((n : Int) > 127) from by omega, hl, h, ↓reduceIte, show (n : Int) % 256 = (n : Int) from by omega]
      exact Ev.now _
theorem spec_l01Var_ev (n : Int) (h0 : 0 ≤ n) (h1 : n ≤ 1000000000000) : Ev (fun k => spec_l01Var.f k n) (varS n) := by
  obtain ⟨m, rfl⟩ := Int.eq_ofNat_of_zero_le h0
  exact spec_l01Var_l0 m (by omega) [] (by simp; omega)

theorem spec_l01In_eq (a b c : Int) : spec_l01In.f a b c = some (decide (b ≤ a ∧ a ≤ c)) := by
  unfold spec_l01In.f
  by_cases h : b ≤ a <;> simp [h, GE.ge]

theorem impl_in_eq (a b c : Int) : impl_in.f a b c = some (decide (b ≤ a ∧ a ≤ c)) := by
  unfold impl_in.f
  by_cases h : b ≤ a <;> simp [h, GE.ge]

def varTextOf (n : Int) : ByteArray × Bool := if 0 ≤ n ∧ n ≤ 1000000000 then (varS n, true) else ((⟨#[]⟩ : ByteArray), false)

theorem impl_VarText_l0 (n : Nat) : n ≤ 1000000000000 → ∀ acc : List Int, acc.length + n < 140737488355328 → Ev (fun k => impl_VarText.l0 k (n : Int) acc) (strOfNums (acc ++ vt n), true) := by
  induction n using Nat.strongRecOn with
  | _ n ih =>
    intro hn acc ha
    refine ev_st ?_
    have hl : acc.length < 140737488355328 := by omega
    rw [vt]
    by_cases h : 127 < n
    · simp only [impl_VarText.l0, show (n : Int) > 127 from by omega, hl, h, ↓reduceIte, tdiv128 n hn, tmod128 n hn]
      have g := ih (n / 128) (by omega) (by omega) (acc ++ [((n % 128 + 128 : Nat) : Int)]) (by simp; omega)
      rw [List.append_assoc] at g
      exact g
    · simp only [impl_VarText.l0, show ¬ ((n : Int) > 127) from by omega, hl, h, ↓reduceIte, show (n : Int) % 256 = (n : Int) from by omega]
      exact Ev.now _
theorem impl_VarText_ev (n : Int) : Ev (fun k => impl_VarText.f k n) (varTextOf n) := by
  simp only [impl_VarText.f, impl_in_eq, Option.bind_some, decide_eq_true_eq]
  unfold varTextOf
  by_cases h : 0 ≤ n ∧ n ≤ 1000000000
  · simp only [h, and_self, ↓reduceIte]
    obtain ⟨m, rfl⟩ := Int.eq_ofNat_of_zero_le h.1
    exact impl_VarText_l0 m (by omega) [] (by simp; omega)
  · simp only [h, ↓reduceIte]
    exact Ev.now _

theorem impl_varOf_ev (n : Int) (h0 : 0 ≤ n) (h1 : n ≤ 1000000000) : Ev (fun k => impl_varOf.f k n) (varS n) := by
  refine Ev.bind (impl_VarText_ev n) ?_
  unfold varTextOf
  rw [if_pos ⟨h0, h1⟩]
  exact Ev.now _

def shortOf (s : ByteArray) : ByteArray × Bool := if (s.size : Int) > 20000 then ((⟨#[]⟩ : ByteArray), false) else (varS (s.size : Int) ++ s, true)
theorem varS_size (n : Int) (h0 : 0 ≤ n) (h1 : n ≤ 1000000000) : (varS n).size ≤ 5 := by
  unfold varS
  rw [strOfNums_size]
  exact vt_len5 _ (by omega)

/-! the sum -/
def cstep (x : Int) : Int := if x % 2 = 1 then Go.bits .xor .u32 (x / 2) 3558460437 else x / 2
def cbits : Nat → Int → Int
  | 0, x => x
  | n + 1, x => cbits n (cstep x)
def cbyte (x b : Int) : Int := cbits 8 (Go.bits .xor .u32 x b)
def crc (x : Int) (l : List Int) : Int := l.foldl cbyte x
theorem cstep_range {x : Int} (h0 : 0 ≤ x) (h1 : x < 4294967296) : 0 ≤ cstep x ∧ cstep x < 4294967296 := by
  unfold cstep
  split
  · exact xor32_range _ _
  · omega
theorem cbits_range : ∀ (n : Nat) {x : Int}, 0 ≤ x → x < 4294967296 → 0 ≤ cbits n x ∧ cbits n x < 4294967296
  | 0, _, h0, h1 => ⟨h0, h1⟩
  | n + 1, _, h0, h1 => cbits_range n (cstep_range h0 h1).1 (cstep_range h0 h1).2
theorem cbyte_range (x b : Int) : 0 ≤ cbyte x b ∧ cbyte x b < 4294967296 := cbits_range 8 (xor32_range x b).1 (xor32_range x b).2
theorem crc_range : ∀ (l : List Int) {x : Int}, 0 ≤ x → x < 4294967296 → 0 ≤ crc x l ∧ crc x l < 4294967296
  | [], _, h0, h1 => ⟨h0, h1⟩
  | b :: l, x, _, _ => crc_range l (cbyte_range x b).1 (cbyte_range x b).2
theorem and1_u32 {x : Int} (h0 : 0 ≤ x) (h1 : x < 4294967296) : Go.bits .and .u32 x 1 = x % 2 :=
  bits_mask .u32 32 (by decide) (fun n h h' => by rw [IntKind.wrap_u32]; omega) 1 (by decide) x h0 h1


theorem spec_SumMore_l1 (s : ByteArray) (i r : Int) : ∀ j : Nat, j ≤ 8 → ∀ x : Int, 0 ≤ x → x < 4294967296 → Ev (fun k => spec_SumMore.l0 k (cbits j x) s (wrap64 (i + 1))) r →
    Ev (fun k => spec_SumMore.l1 k x s i (8 - (j : Int))) r := by
  intro j
  induction j with
  | zero =>
    intro _ x h0 h1 h
    refine ev_st ?_
    simp only [spec_SumMore.l1, show ¬ ((8 : Int) - ((0 : Nat) : Int) < 8) from by omega, ↓reduceIte]
    exact h
  | succ j ih =>
    intro hj x h0 h1 h
    refine ev_st ?_
    have e : wrap64 ((8 : Int) - ((j + 1 : Nat) : Int) + 1) = 8 - (j : Int) := by rw [w64 (by omega) (by omega)]; omega
    have t : Int.tmod x 2 = x % 2 := Int.tmod_eq_emod_of_nonneg h0
    have d : Int.tdiv x 2 % 4294967296 = x / 2 := by rw [Int.tdiv_eq_ediv_of_nonneg h0]; omega
    have c := cstep_range h0 h1
    have g := ih (by omega) (cstep x) c.1 c.2 h
    simp only [spec_SumMore.l1, show (8 : Int) - ((j + 1 : Nat) : Int) < 8 from by omega, ↓reduceIte, e, t, d]
    unfold cstep at g
    by_cases hp : x % 2 = 1
    · simp only [hp, ↓reduceIte] at g ⊢
      exact g
    · simp only [hp, ↓reduceIte] at g ⊢
      exact g
theorem spec_SumMore_l0 (s : ByteArray) (hs : s.size ≤ 140737488351232) : ∀ (d i : Nat), i + d = s.size → ∀ x : Int, 0 ≤ x → x < 4294967296 →
    Ev (fun k => spec_SumMore.l0 k x s (i : Int)) (crc x ((bytesOf s).drop i)) := by
  intro d
  induction d with
  | zero =>
    intro i hi x h0 h1
    refine ev_st ?_
    obtain rfl : i = s.size := by omega
    simp only [spec_SumMore.l0, show ¬ ((s.size : Int) < (s.size : Int)) from by omega, ↓reduceIte, drop_end]
    exact Ev.now _
  | succ d ih =>
    intro i hi x h0 h1
    refine ev_st ?_
    have b := bt_range s i
    have e : bt s i % 4294967296 = bt s i := by omega
    simp only [spec_SumMore.l0, show (i : Int) < (s.size : Int) from by omega, show (0 : Int) ≤ (i : Int) from by omega, ↓reduceIte, e]
    rw [drop_bt s i (by omega)]
    have g := spec_SumMore_l1 s i (crc x (bt s i :: (bytesOf s).drop (i + 1))) 8 (by omega) (Go.bits .xor .u32 x (bt s i)) (xor32_range _ _).1 (xor32_range _ _).2
    rw [show (8 : Int) - ((8 : Nat) : Int) = 0 from rfl] at g
    refine g ?_
    rw [w64 (by omega) (by omega), show (i : Int) + 1 = ((i + 1 : Nat) : Int) from by omega]
    exact ih (i + 1) (by omega) _ (cbyte_range _ _).1 (cbyte_range _ _).2
theorem spec_SumMore_ev (s : ByteArray) (hs : s.size ≤ 140737488351232) (x : Int) (h0 : 0 ≤ x) (h1 : x < 4294967296) : Ev (fun k => spec_SumMore.f k x s) (crc x (bytesOf s)) :=
  spec_SumMore_l0 s hs s.size 0 (by omega) x h0 h1


theorem impl_SumMore_l1 (s : ByteArray) (i r : Int) : ∀ j : Nat, j ≤ 8 → ∀ x : Int, 0 ≤ x → x < 4294967296 → Ev (fun k => impl_SumMore.l0 k (cbits j x) s (wrap64 (i + 1))) r →
    Ev (fun k => impl_SumMore.l1 k x s i (8 - (j : Int))) r := by
  intro j
  induction j with
  | zero =>
    intro _ x h0 h1 h
    refine ev_st ?_
    simp only [impl_SumMore.l1, show ¬ ((8 : Int) - ((0 : Nat) : Int) < 8) from by omega, ↓reduceIte]
    exact h
  | succ j ih =>
    intro hj x h0 h1 h
    refine ev_st ?_
    have e : wrap64 ((8 : Int) - ((j + 1 : Nat) : Int) + 1) = 8 - (j : Int) := by rw [w64 (by omega) (by omega)]; omega
    have t := and1_u32 h0 h1
    have c := cstep_range h0 h1
    have g := ih (by omega) (cstep x) c.1 c.2 h
    simp only [impl_SumMore.l1, show (8 : Int) - ((j + 1 : Nat) : Int) < 8 from by omega, ↓reduceIte, e, t]
    unfold cstep at g
    by_cases hp : x % 2 = 1
    · simp only [hp, ↓reduceIte] at g ⊢
      exact g
    · simp only [hp, ↓reduceIte] at g ⊢
      exact g
theorem impl_SumMore_l0 (s : ByteArray) (hs : s.size ≤ 140737488351232) : ∀ (d i : Nat), i + d = s.size → ∀ x : Int, 0 ≤ x → x < 4294967296 →
    Ev (fun k => impl_SumMore.l0 k x s (i : Int)) (crc x ((bytesOf s).drop i)) := by
  intro d
  induction d with
  | zero =>
    intro i hi x h0 h1
    refine ev_st ?_
    obtain rfl : i = s.size := by omega
    simp only [impl_SumMore.l0, show ¬ ((s.size : Int) < (s.size : Int)) from by omega, ↓reduceIte, drop_end]
    exact Ev.now _
  | succ d ih =>
    intro i hi x h0 h1
    refine ev_st ?_
    have b := bt_range s i
    have e : bt s i % 4294967296 = bt s i := by omega
    simp only [impl_SumMore.l0, show (i : Int) < (s.size : Int) from by omega, show (0 : Int) ≤ (i : Int) from by omega, ↓reduceIte, e]
    rw [drop_bt s i (by omega)]
    have g := impl_SumMore_l1 s i (crc x (bt s i :: (bytesOf s).drop (i + 1))) 8 (by omega) (Go.bits .xor .u32 x (bt s i)) (xor32_range _ _).1 (xor32_range _ _).2
    rw [show (8 : Int) - ((8 : Nat) : Int) = 0 from rfl] at g
    refine g ?_
    rw [w64 (by omega) (by omega), show (i : Int) + 1 = ((i + 1 : Nat) : Int) from by omega]
    exact ih (i + 1) (by omega) _ (cbyte_range _ _).1 (cbyte_range _ _).2
theorem impl_SumMore_ev (s : ByteArray) (hs : s.size ≤ 140737488351232) (x : Int) (h0 : 0 ≤ x) (h1 : x < 4294967296) : Ev (fun k => impl_SumMore.f k x s) (crc x (bytesOf s)) :=
  impl_SumMore_l0 s hs s.size 0 (by omega) x h0 h1

theorem spec_SumOf_ev (s : ByteArray) (hs : s.size ≤ 140737488351232) : Ev (fun k => spec_SumOf.f k s) (crc 4294967295 (bytesOf s)) :=
  Ev.bind (spec_SumMore_ev s hs 4294967295 (by omega) (by omega)) (Ev.now _)

theorem impl_SumOf_ev (s : ByteArray) (hs : s.size ≤ 140737488351232) : Ev (fun k => impl_SumOf.f k s) (crc 4294967295 (bytesOf s)) :=
  Ev.bind (impl_SumMore_ev s hs 4294967295 (by omega) (by omega)) (Ev.now _)

/-! a text with its sum -/
def fourOf (x : Int) : ByteArray := strOfNums [x / 16777216 % 256, x / 65536 % 256, x / 256 % 256, x % 256]
theorem fourOf_size (x : Int) : (fourOf x).size = 4 := by unfold fourOf; rw [strOfNums_size]; rfl
def sumFour (s : ByteArray) : ByteArray := fourOf (crc 4294967295 (bytesOf s))
theorem sumFour_size (s : ByteArray) : (sumFour s).size = 4 := fourOf_size _
def sealOf (s : ByteArray) : ByteArray × Bool := if (s.size : Int) > 20000 then ((⟨#[]⟩ : ByteArray), false) else (s ++ sumFour s, true)

theorem spec_Sealed_ev (s : ByteArray) (hs : s.size ≤ 140737488351232) : Ev (fun k => spec_Sealed.f k s) (sealOf s) := by
  simp only [spec_Sealed.f]
  unfold sealOf
  by_cases h : (s.size : Int) > 20000
  · simp only [h, ↓reduceIte]; exact Ev.now _
  · simp only [h, ↓reduceIte]
    refine Ev.bind (spec_SumOf_ev s hs) ?_
    have h4 := sumFour_size s
    simp only [spec_l02Four.f, Option.bind_some]
    unfold sumFour fourOf at h4 ⊢
    simp only [show s.size + (strOfNums [crc 4294967295 (bytesOf s) / 16777216 % 256, crc 4294967295 (bytesOf s) / 65536 % 256, crc 4294967295 (bytesOf s) / 256 % 256, crc 4294967295 (bytesOf s) % 256]).size ≤ 9223372036854775807 from by omega, ↓reduceIte]
    exact Ev.now _

theorem impl_Sealed_ev (s : ByteArray) (hs : s.size ≤ 140737488351232) : Ev (fun k => impl_Sealed.f k s) (sealOf s) := by
  simp only [impl_Sealed.f]
  unfold sealOf
  by_cases h : (s.size : Int) > 20000
  · simp only [h, ↓reduceIte]; exact Ev.now _
  · simp only [h, ↓reduceIte]
    refine Ev.bind (impl_SumOf_ev s hs) ?_
    have h4 := sumFour_size s
    simp only [Option.bind_some]
    unfold sumFour fourOf at h4 ⊢
    simp only [show s.size + (strOfNums [crc 4294967295 (bytesOf s) / 16777216 % 256, crc 4294967295 (bytesOf s) / 65536 % 256, crc 4294967295 (bytesOf s) / 256 % 256, crc 4294967295 (bytesOf s) % 256]).size ≤ 9223372036854775807 from by omega, ↓reduceIte]
    exact Ev.now _

def pageOk (kind seq tx part count : Int) (text : ByteArray) : Bool :=
  decide ((1 ≤ seq ∧ seq ≤ 1000000000) ∧ (1 ≤ tx ∧ tx ≤ 1000000000) ∧ (1 ≤ count ∧ count ≤ 9) ∧ (0 ≤ part ∧ part ≤ count - 1) ∧ ¬ ((text.size : Int) > 90) ∧ (kind = 2 ∨ (kind = 1 ∧ count = 1)))
theorem spec_PageOk_eq (a b c d e : Int) (t : ByteArray) (hd : -9223372036854775808 ≤ d ∧ d ≤ 9223372036854775807) (he : -9223372036854775808 ≤ e ∧ e ≤ 9223372036854775807) : spec_PageOk.f a b c d e t = some (pageOk a b c d e t) := by
  unfold spec_PageOk.f pageOk
  simp only [spec_l01In_eq, Option.bind_some, decide_eq_true_eq]
  by_cases h1 : 1 ≤ b ∧ b ≤ 1000000000
  · by_cases h2 : 1 ≤ c ∧ c ≤ 1000000000
    · by_cases h3 : 1 ≤ e ∧ e ≤ 9
      · rw [w64 (n := e - 1) (by omega) (by omega)]
        by_cases h4 : 0 ≤ d ∧ d ≤ e - 1
        · by_cases h5 : (t.size : Int) > 90
          · simp [h1, h2, h3, h4, h5]
          · by_cases h6 : a = 2
            · simp [h1, h2, h3, h4, h5, h6]
            · by_cases h7 : a = 1
              · simp only [h1, h2, h3, h4, h5, h6, h7, and_self, if_true, if_false, true_and, not_false_eq_true, false_or]
                simp
                by_cases h8 : e = 1 <;> simp [h8]
              · have : ¬ (1 ≤ a ∧ a ≤ 2) := by omega
                simp [this, h6, h7]
        · simp [h1, h2, h3, h4]
      · simp [h1, h2, h3]
    · simp [h1, h2]
  · simp [h1]
theorem impl_PageOk_eq (a b c d e : Int) (t : ByteArray) (hd : -9223372036854775808 ≤ d ∧ d ≤ 9223372036854775807) (he : -9223372036854775808 ≤ e ∧ e ≤ 9223372036854775807) : impl_PageOk.f a b c d e t = some (pageOk a b c d e t) := by
  unfold impl_PageOk.f pageOk
  simp only [impl_in_eq, Option.bind_some, decide_eq_true_eq]
  by_cases h1 : 1 ≤ b ∧ b ≤ 1000000000
  · by_cases h2 : 1 ≤ c ∧ c ≤ 1000000000
    · by_cases h3 : 1 ≤ e ∧ e ≤ 9
      · rw [w64 (n := e - 1) (by omega) (by omega)]
        by_cases h4 : 0 ≤ d ∧ d ≤ e - 1
        · by_cases h5 : (t.size : Int) > 90
          · simp [h1, h2, h3, h4, h5]
          · by_cases h6 : a = 2
            · simp [h1, h2, h3, h4, h5, h6]
            · by_cases h7 : a = 1
              · simp only [h1, h2, h3, h4, h5, h6, h7, and_self, if_true, if_false, true_and, not_false_eq_true, false_or]
                simp
                by_cases h8 : e = 1 <;> simp [h8]
              · simp [h1, h2, h3, h4, h5, h6, h7]
        · simp [h1, h2, h3, h4]
      · simp [h1, h2, h3]
    · simp [h1, h2]
  · simp [h1]

def pageTextOf (kind seq tx part count : Int) (text : ByteArray) : ByteArray × Bool :=
  if pageOk kind seq tx part count text = true then sealOf (((((strOfNums [kind % 256] ++ varS seq) ++ varS tx) ++ varS part) ++ varS count) ++ text) else ((⟨#[]⟩ : ByteArray), false)
theorem page_sizes {kind seq tx part count : Int} {text : ByteArray} (h : pageOk kind seq tx part count text = true) : (1 ≤ seq ∧ seq ≤ 1000000000) ∧ (1 ≤ tx ∧ tx ≤ 1000000000) ∧ (0 ≤ part ∧ part ≤ 9) ∧ (1 ≤ count ∧ count ≤ 9) ∧ text.size ≤ 90 ∧
    (varS seq).size ≤ 5 ∧ (varS tx).size ≤ 5 ∧ (varS part).size ≤ 5 ∧ (varS count).size ≤ 5 := by
  unfold pageOk at h
  have h := of_decide_eq_true h
  obtain ⟨h1, h2, h3, h4, h5, _⟩ := h
  refine ⟨h1, h2, by omega, h3, by omega, varS_size _ (by omega) (by omega), varS_size _ (by omega) (by omega), varS_size _ (by omega) (by omega), varS_size _ (by omega) (by omega)⟩

theorem spec_PageText_ev (a b c d e : Int) (t : ByteArray) (hd : -9223372036854775808 ≤ d ∧ d ≤ 9223372036854775807) (he : -9223372036854775808 ≤ e ∧ e ≤ 9223372036854775807) : Ev (fun k => spec_PageText.f k a b c d e t) (pageTextOf a b c d e t) := by
  simp only [spec_PageText.f, spec_PageOk_eq a b c d e t hd he, Option.bind_some]
  unfold pageTextOf
  by_cases h : pageOk a b c d e t = true
  · obtain ⟨h1, h2, h3, h4, h5, z1, z2, z3, z4⟩ := page_sizes h
    have z0 : (strOfNums [a % 256]).size = 1 := by rw [strOfNums_size]; rfl
    simp only [h, ↓reduceIte, spec_l06Byte.f, Option.bind_some]
    refine Ev.bind (spec_l01Var_ev b (by omega) (by omega)) ?_
    simp only [show (strOfNums [a % 256]).size + (varS b).size ≤ 9223372036854775807 from by omega, ↓reduceIte]
    refine Ev.bind (spec_l01Var_ev c (by omega) (by omega)) ?_
    simp only [ByteArray.size_append, show (strOfNums [a % 256]).size + (varS b).size + (varS c).size ≤ 9223372036854775807 from by omega, ↓reduceIte]
    refine Ev.bind (spec_l01Var_ev d (by omega) (by omega)) ?_
    simp only [show (strOfNums [a % 256]).size + (varS b).size + (varS c).size + (varS d).size ≤ 9223372036854775807 from by omega, ↓reduceIte]
    refine Ev.bind (spec_l01Var_ev e (by omega) (by omega)) ?_
    simp only [show (strOfNums [a % 256]).size + (varS b).size + (varS c).size + (varS d).size + (varS e).size ≤ 9223372036854775807 from by omega, ↓reduceIte,
      show (strOfNums [a % 256]).size + (varS b).size + (varS c).size + (varS d).size + (varS e).size + t.size ≤ 9223372036854775807 from by omega]
    refine Ev.bind (spec_Sealed_ev _ (by simp only [ByteArray.size_append]; omega)) (Ev.now _)
  · simp only [h, ↓reduceIte, Bool.false_eq_true]
    exact Ev.now _

theorem impl_PageText_ev (a b c d e : Int) (t : ByteArray) (hd : -9223372036854775808 ≤ d ∧ d ≤ 9223372036854775807) (he : -9223372036854775808 ≤ e ∧ e ≤ 9223372036854775807) : Ev (fun k => impl_PageText.f k a b c d e t) (pageTextOf a b c d e t) := by
  simp only [impl_PageText.f, impl_PageOk_eq a b c d e t hd he, Option.bind_some]
  unfold pageTextOf
  by_cases h : pageOk a b c d e t = true
  · obtain ⟨h1, h2, h3, h4, h5, z1, z2, z3, z4⟩ := page_sizes h
    have z0 : (strOfNums [a % 256]).size = 1 := by rw [strOfNums_size]; rfl
    simp only [h, ↓reduceIte, Option.bind_some]
    refine Ev.bind (impl_varOf_ev b (by omega) (by omega)) ?_
    simp only [show (strOfNums [a % 256]).size + (varS b).size ≤ 9223372036854775807 from by omega, ↓reduceIte]
    refine Ev.bind (impl_varOf_ev c (by omega) (by omega)) ?_
    simp only [ByteArray.size_append, show (strOfNums [a % 256]).size + (varS b).size + (varS c).size ≤ 9223372036854775807 from by omega, ↓reduceIte]
    refine Ev.bind (impl_varOf_ev d (by omega) (by omega)) ?_
    simp only [show (strOfNums [a % 256]).size + (varS b).size + (varS c).size + (varS d).size ≤ 9223372036854775807 from by omega, ↓reduceIte]
    refine Ev.bind (impl_varOf_ev e (by omega) (by omega)) ?_
    simp only [show (strOfNums [a % 256]).size + (varS b).size + (varS c).size + (varS d).size + (varS e).size ≤ 9223372036854775807 from by omega, ↓reduceIte,
      show (strOfNums [a % 256]).size + (varS b).size + (varS c).size + (varS d).size + (varS e).size + t.size ≤ 9223372036854775807 from by omega]
    refine Ev.bind (impl_Sealed_ev _ (by simp only [ByteArray.size_append]; omega)) (Ev.now _)
  · simp only [h, ↓reduceIte, Bool.false_eq_true]
    exact Ev.now _

theorem FnExactPageText : Plain := by
  intro a b c d e t _ _ _ hd he _
  have hd := wf64 hd
  have he := wf64 he
  refine Ev.rounds ?_
  simp only [laws_FnExactPageText.f, laws_szPage.f]
  have key : ∀ u : Int, Ev (fun k => if u < 0 then some true else (laws_toPage.f a b c d e t).bind fun x => (spec_PageText.f k x.1 x.2.1 x.2.2.1 x.2.2.2.1 x.2.2.2.2.1 x.2.2.2.2.2).bind fun t1 => (laws_toPage.f a b c d e t).bind fun y => (impl_PageText.f k y.1 y.2.1 y.2.2.1 y.2.2.2.1 y.2.2.2.2.1 y.2.2.2.2.2).bind fun t2 => if t2.1.toList = t1.1.toList then if (t2.2 != t1.2) = true then some false else some true else some false) true := by
    intro u
    by_cases hu : u < 0
    · simp only [hu, ↓reduceIte]; exact Ev.now _
    · simp only [hu, ↓reduceIte, laws_toPage.f, Option.bind_some]
      refine Ev.bind (spec_PageText_ev a b c d e t hd he) (Ev.bind (impl_PageText_ev a b c d e t hd he) ?_)
      simp only [↓reduceIte, bne_self_eq_false, Bool.false_eq_true]
      exact Ev.now _
  by_cases hu : wrap64 (1048576 - (t.size : Int)) < 0
  · simp only [hu, ↓reduceIte, Option.bind_some]; exact key _
  · have g := key (wrap64 (1048576 - (t.size : Int)))
    simp only [hu, ↓reduceIte, Option.bind_some] at g ⊢
    exact g

end Go.Proofs.Ytekeaciflbkhpaa.Pure
