/- What is proved here: the law FnTurned, told as a plain function over numbers and lists, answers true at all arguments. Conditions: those of the row alone, none of ours. -/
import Derived.Test.YtekeaciflbkhpaaQFnTurnedx2
import Derived.Test.YtekeaciflbkhpaaKit
namespace Go.Proofs.Ytekeaciflbkhpaa.Pure
open Go.RowKit Go.Proofs.Ytekeaciflbkhpaa.QFnTurned Go.Proofs.YtekeaciflbkhpaaW.PrintWords Go.Proofs.YtekeaciflbkhpaaW.PrintLast Go.Proofs.Ytekeaciflbkhpaa.Kit Go.Proofs.YtekeaciflbkhpaaW.PrintMore
set_option linter.unusedSimpArgs false
set_option linter.unusedVariables false

/-! the sum -/
def cstep (x : Int) : Int := if x % 2 = 1 then Go.bits .xor .u32 (x / 2) 3558460437 else x / 2
def cbits : Nat → Int → Int
  | 0, x => x
  | n + 1, x => cbits n (cstep x)
def cbyte (x b : Int) : Int := cbits 8 (Go.bits .xor .u32 x b)
def crc (x : Int) (l : List Int) : Int := l.foldl cbyte x
theorem cstep_range {x : Int} (h0 : 0 ≤ x) (h1 : x < 4294967296) : 0 ≤ cstep x ∧ cstep x < 4294967296 := by
  unfold cstep
  split
  · exact xor32_range _ _
  · omega
theorem cbits_range : ∀ (n : Nat) {x : Int}, 0 ≤ x → x < 4294967296 → 0 ≤ cbits n x ∧ cbits n x < 4294967296
  | 0, _, h0, h1 => ⟨h0, h1⟩
  | n + 1, _, h0, h1 => cbits_range n (cstep_range h0 h1).1 (cstep_range h0 h1).2
theorem cbyte_range (x b : Int) : 0 ≤ cbyte x b ∧ cbyte x b < 4294967296 := cbits_range 8 (xor32_range x b).1 (xor32_range x b).2
theorem crc_range : ∀ (l : List Int) {x : Int}, 0 ≤ x → x < 4294967296 → 0 ≤ crc x l ∧ crc x l < 4294967296
  | [], _, h0, h1 => ⟨h0, h1⟩
  | b :: l, x, _, _ => crc_range l (cbyte_range x b).1 (cbyte_range x b).2
theorem and1_u32 {x : Int} (h0 : 0 ≤ x) (h1 : x < 4294967296) : Go.bits .and .u32 x 1 = x % 2 :=
  bits_mask .u32 32 (by decide) (fun n h h' => by rw [IntKind.wrap_u32]; omega) 1 (by decide) x h0 h1


theorem impl_SumMore_l1 (s : ByteArray) (i r : Int) : ∀ j : Nat, j ≤ 8 → ∀ x : Int, 0 ≤ x → x < 4294967296 → Ev (fun k => impl_SumMore.l0 k (cbits j x) s (wrap64 (i + 1))) r →
    Ev (fun k => impl_SumMore.l1 k x s i (8 - (j : Int))) r := by
  intro j
  induction j with
  | zero =>
    intro _ x h0 h1 h
    refine ev_st ?_
    simp only [impl_SumMore.l1, show ¬ ((8 : Int) - ((0 : Nat) : Int) < 8) from by omega, ↓reduceIte]
    exact h
  | succ j ih =>
    intro hj x h0 h1 h
    refine ev_st ?_
    have e : wrap64 ((8 : Int) - ((j + 1 : Nat) : Int) + 1) = 8 - (j : Int) := by rw [w64 (by omega) (by omega)]; omega
    have t := and1_u32 h0 h1
    have c := cstep_range h0 h1
    have g := ih (by omega) (cstep x) c.1 c.2 h
    simp only [impl_SumMore.l1, show (8 : Int) - ((j + 1 : Nat) : Int) < 8 from by omega, ↓reduceIte, e, t]
    unfold cstep at g
    by_cases hp : x % 2 = 1
    · simp only [hp, ↓reduceIte] at g ⊢
      exact g
    · simp only [hp, ↓reduceIte] at g ⊢
      exact g
theorem impl_SumMore_l0 (s : ByteArray) (hs : s.size ≤ 140737488351232) : ∀ (d i : Nat), i + d = s.size → ∀ x : Int, 0 ≤ x → x < 4294967296 →
    Ev (fun k => impl_SumMore.l0 k x s (i : Int)) (crc x ((bytesOf s).drop i)) := by
  intro d
  induction d with
  | zero =>
    intro i hi x h0 h1
    refine ev_st ?_
    obtain rfl : i = s.size := by omega
    simp only [impl_SumMore.l0, show ¬ ((s.size : Int) < (s.size : Int)) from by omega, ↓reduceIte, drop_end]
    exact Ev.now _
  | succ d ih =>
    intro i hi x h0 h1
    refine ev_st ?_
    have b := bt_range s i
    have e : bt s i % 4294967296 = bt s i := by omega
    simp only [impl_SumMore.l0, show (i : Int) < (s.size : Int) from by omega, show (0 : Int) ≤ (i : Int) from by omega, ↓reduceIte, e]
    rw [drop_bt s i (by omega)]
    have g := impl_SumMore_l1 s i (crc x (bt s i :: (bytesOf s).drop (i + 1))) 8 (by omega) (Go.bits .xor .u32 x (bt s i)) (xor32_range _ _).1 (xor32_range _ _).2
    rw [show (8 : Int) - ((8 : Nat) : Int) = 0 from rfl] at g
    refine g ?_
    rw [w64 (by omega) (by omega), show (i : Int) + 1 = ((i + 1 : Nat) : Int) from by omega]
    exact ih (i + 1) (by omega) _ (cbyte_range _ _).1 (cbyte_range _ _).2
theorem impl_SumMore_ev (s : ByteArray) (hs : s.size ≤ 140737488351232) (x : Int) (h0 : 0 ≤ x) (h1 : x < 4294967296) : Ev (fun k => impl_SumMore.f k x s) (crc x (bytesOf s)) :=
  impl_SumMore_l0 s hs s.size 0 (by omega) x h0 h1

theorem impl_SumOf_ev (s : ByteArray) (hs : s.size ≤ 140737488351232) : Ev (fun k => impl_SumOf.f k s) (crc 4294967295 (bytesOf s)) :=
  Ev.bind (impl_SumMore_ev s hs 4294967295 (by omega) (by omega)) (Ev.now _)

/-! a text with its sum -/
def fourOf (x : Int) : ByteArray := strOfNums [x / 16777216 % 256, x / 65536 % 256, x / 256 % 256, x % 256]
theorem fourOf_size (x : Int) : (fourOf x).size = 4 := by unfold fourOf; rw [strOfNums_size]; rfl
def sumFour (s : ByteArray) : ByteArray := fourOf (crc 4294967295 (bytesOf s))
theorem sumFour_size (s : ByteArray) : (sumFour s).size = 4 := fourOf_size _
def sealOf (s : ByteArray) : ByteArray × Bool := if (s.size : Int) > 20000 then ((⟨#[]⟩ : ByteArray), false) else (s ++ sumFour s, true)

theorem impl_Sealed_ev (s : ByteArray) (hs : s.size ≤ 140737488351232) : Ev (fun k => impl_Sealed.f k s) (sealOf s) := by
  simp only [impl_Sealed.f]
  unfold sealOf
  by_cases h : (s.size : Int) > 20000
  · simp only [h, ↓reduceIte]; exact Ev.now _
  · simp only [h, ↓reduceIte]
    refine Ev.bind (impl_SumOf_ev s hs) ?_
    have h4 := sumFour_size s
    simp only [Option.bind_some]
    unfold sumFour fourOf at h4 ⊢
    simp only [show s.size + (strOfNums [crc 4294967295 (bytesOf s) / 16777216 % 256, crc 4294967295 (bytesOf s) / 65536 % 256, crc 4294967295 (bytesOf s) / 256 % 256, crc 4294967295 (bytesOf s) % 256]).size ≤ 9223372036854775807 from by omega, ↓reduceIte]
    exact Ev.now _

/-! a text without its sum -/
def unsealOf (t : ByteArray) : ByteArray × Bool :=
  if t.size < 4 then ((⟨#[]⟩ : ByteArray), false) else if sealOf (t.extract 0 (t.size - 4)) = (t, true) then (t.extract 0 (t.size - 4), true) else ((⟨#[]⟩ : ByteArray), false)
theorem split4 (t : ByteArray) (h : 4 ≤ t.size) : t.extract 0 (t.size - 4) ++ t.extract (t.size - 4) t.size = t := by
  refine bytesOf_inj ?_
  rw [bytesOf_append, bytesOf_extract, bytesOf_extract, List.drop_zero, List.take_of_length_le (l := bytesOf t) (i := t.size) (by rw [bytesOf_length]; exact Nat.le_refl _), List.take_append_drop]

theorem impl_Unsealed_ev (t : ByteArray) (hs : t.size ≤ 140737488351232) : Ev (fun k => impl_Unsealed.f k t) (unsealOf t) := by
  simp only [impl_Unsealed.f]
  unfold unsealOf
  by_cases h : t.size < 4
  · simp only [show (t.size : Int) < 4 from by omega, h, ↓reduceIte]; exact Ev.now _
  · have hz : (t.extract 0 (t.size - 4)).size = t.size - 4 := by rw [ByteArray.size_extract]; omega
    have e : wrap64 ((t.size : Int) - 4) = (t.size : Int) - 4 := w64 (by omega) (by omega)
    simp only [e, show ¬ ((t.size : Int) < 4) from by omega, h, show (0 : Int) ≤ (t.size : Int) - 4 from by omega, show (t.size : Int) - 4 ≤ (t.size : Int) from by omega, ↓reduceIte, show ((t.size : Int) - 4).toNat = t.size - 4 from by omega]
    refine Ev.bind (impl_Sealed_ev _ (by rw [hz]; omega)) ?_
    generalize sealOf (t.extract 0 (t.size - 4)) = q
    obtain ⟨a, b⟩ := q
    cases b with
    | false => simp; exact Ev.now _
    | true =>
      simp only [toList_inj, Prod.mk.injEq, and_true, ↓reduceIte]
      split
      · exact Ev.now _
      · exact Ev.now _

/-! the sum tells one byte's turn -/
theorem xor_cancel {a b c : Nat} (h : a ^^^ c = b ^^^ c) : a = b := by
  have h2 : (a ^^^ c) ^^^ c = (b ^^^ c) ^^^ c := by rw [h]
  rw [Nat.xor_assoc, Nat.xor_assoc, Nat.xor_self, Nat.xor_zero, Nat.xor_zero] at h2
  exact h2
theorem cstep_nat (x : Nat) (h : x < 4294967296) : cstep (x : Int) = ((if x % 2 = 1 then (x / 2) ^^^ 3558460437 else x / 2 : Nat) : Int) := by
  unfold cstep
  by_cases hp : x % 2 = 1
  · rw [if_pos (by omega), if_pos hp, show (x : Int) / 2 = ((x / 2 : Nat) : Int) from by omega]
    exact xor32_nat (x / 2) 3558460437 (by omega) (by omega)
  · rw [if_neg (by omega), if_neg hp]; omega
theorem cstep_apart (x y : Nat) (hx : x < 2147483648) (hy : y < 2147483648) : x ^^^ 3558460437 ≠ y := by
  intro h
  have h2 := congrArg (fun n => n.testBit 31) h
  simp only [Nat.testBit_xor, Nat.testBit_lt_two_pow (show x < 2 ^ 31 from hx), Nat.testBit_lt_two_pow (show y < 2 ^ 31 from hy)] at h2
  revert h2
  decide
theorem cstep_inj {x y : Int} (h0 : 0 ≤ x) (h1 : x < 4294967296) (h2 : 0 ≤ y) (h3 : y < 4294967296) (h : cstep x = cstep y) : x = y := by
  obtain ⟨a, rfl⟩ := Int.eq_ofNat_of_zero_le h0
  obtain ⟨b, rfl⟩ := Int.eq_ofNat_of_zero_le h2
  rw [cstep_nat a (by omega), cstep_nat b (by omega)] at h
  have h := Int.ofNat.inj h
  by_cases hp : a % 2 = 1 <;> by_cases hq : b % 2 = 1
  · rw [if_pos hp, if_pos hq] at h
    have := xor_cancel h
    omega
  · rw [if_pos hp, if_neg hq] at h
    exact absurd h (cstep_apart _ _ (by omega) (by omega))
  · rw [if_neg hp, if_pos hq] at h
    exact absurd h.symm (cstep_apart _ _ (by omega) (by omega))
  · rw [if_neg hp, if_neg hq] at h
    omega
theorem cbits_inj : ∀ (n : Nat) {x y : Int}, 0 ≤ x → x < 4294967296 → 0 ≤ y → y < 4294967296 → cbits n x = cbits n y → x = y
  | 0, _, _, _, _, _, _, h => h
  | n + 1, _, _, h0, h1, h2, h3, h => cstep_inj h0 h1 h2 h3 (cbits_inj n (cstep_range h0 h1).1 (cstep_range h0 h1).2 (cstep_range h2 h3).1 (cstep_range h2 h3).2 h)
theorem xor32_left {x y b : Int} (h0 : 0 ≤ x) (h1 : x < 4294967296) (h2 : 0 ≤ y) (h3 : y < 4294967296) (b0 : 0 ≤ b) (b1 : b < 256) (h : Go.bits .xor .u32 x b = Go.bits .xor .u32 y b) : x = y := by
  obtain ⟨m, rfl⟩ := Int.eq_ofNat_of_zero_le h0
  obtain ⟨n, rfl⟩ := Int.eq_ofNat_of_zero_le h2
  obtain ⟨c, rfl⟩ := Int.eq_ofNat_of_zero_le b0
  rw [xor32_nat m c (by omega) (by omega), xor32_nat n c (by omega) (by omega)] at h
  have := xor_cancel (Int.ofNat.inj h)
  omega
theorem xor32_right {x b c : Int} (h0 : 0 ≤ x) (h1 : x < 4294967296) (b0 : 0 ≤ b) (b1 : b < 256) (c0 : 0 ≤ c) (c1 : c < 256) (h : Go.bits .xor .u32 x b = Go.bits .xor .u32 x c) : b = c := by
  obtain ⟨m, rfl⟩ := Int.eq_ofNat_of_zero_le h0
  obtain ⟨n, rfl⟩ := Int.eq_ofNat_of_zero_le b0
  obtain ⟨d, rfl⟩ := Int.eq_ofNat_of_zero_le c0
  rw [xor32_nat m n (by omega) (by omega), xor32_nat m d (by omega) (by omega)] at h
  have h2 := Int.ofNat.inj h
  rw [Nat.xor_comm m n, Nat.xor_comm m d] at h2
  have := xor_cancel h2
  omega
theorem cbyte_left {x y b : Int} (h0 : 0 ≤ x) (h1 : x < 4294967296) (h2 : 0 ≤ y) (h3 : y < 4294967296) (b0 : 0 ≤ b) (b1 : b < 256) (h : cbyte x b = cbyte y b) : x = y :=
  xor32_left h0 h1 h2 h3 b0 b1 (cbits_inj 8 (xor32_range _ _).1 (xor32_range _ _).2 (xor32_range _ _).1 (xor32_range _ _).2 h)
theorem cbyte_right {x b c : Int} (h0 : 0 ≤ x) (h1 : x < 4294967296) (b0 : 0 ≤ b) (b1 : b < 256) (c0 : 0 ≤ c) (c1 : c < 256) (h : cbyte x b = cbyte x c) : b = c :=
  xor32_right h0 h1 b0 b1 c0 c1 (cbits_inj 8 (xor32_range _ _).1 (xor32_range _ _).2 (xor32_range _ _).1 (xor32_range _ _).2 h)
theorem crc_left : ∀ (l : List Int), (∀ b ∈ l, 0 ≤ b ∧ b < 256) → ∀ {x y : Int}, 0 ≤ x → x < 4294967296 → 0 ≤ y → y < 4294967296 → crc x l = crc y l → x = y
  | [], _, _, _, _, _, _, _, h => h
  | b :: l, hl, x, y, h0, h1, h2, h3, h => by
    have hb := hl b (List.mem_cons_self ..)
    exact cbyte_left h0 h1 h2 h3 hb.1 hb.2 (crc_left l (fun c hc => hl c (List.mem_cons_of_mem _ hc)) (cbyte_range x b).1 (cbyte_range x b).2 (cbyte_range y b).1 (cbyte_range y b).2 h)
theorem crc_append (x : Int) (p q : List Int) : crc x (p ++ q) = crc (crc x p) q := by unfold crc; rw [List.foldl_append]
/-- One byte that is another turns the sum. -/
theorem crc_turned (p q : List Int) (b c : Int) (hq : ∀ d ∈ q, 0 ≤ d ∧ d < 256) (b0 : 0 ≤ b) (b1 : b < 256) (c0 : 0 ≤ c) (c1 : c < 256) {x : Int} (h0 : 0 ≤ x) (h1 : x < 4294967296)
    (h : crc x (p ++ b :: q) = crc x (p ++ c :: q)) : b = c := by
  rw [crc_append, crc_append] at h
  have r := crc_range p h0 h1
  exact cbyte_right r.1 r.2 b0 b1 c0 c1 (crc_left q hq (cbyte_range _ _).1 (cbyte_range _ _).2 (cbyte_range _ _).1 (cbyte_range _ _).2 h)

/-! what is drawn -/
theorem bits_and255 (x : Int) : 0 ≤ Go.bits .and .i64 x 255 ∧ Go.bits .and .i64 x 255 ≤ 255 := by
  have h : (BitVec.ofInt IntKind.i64.bits x &&& BitVec.ofInt IntKind.i64.bits 255).toNat ≤ 255 := by
    rw [BitVec.toNat_and]
    exact Nat.le_trans Nat.and_le_right (by decide)
  simp only [Go.bits, IntKind.wrap_i64]
  omega
theorem l01Byte_is (l : List Int) (i s : Int) (hl : l.length ≤ 1048576) (hi : 0 ≤ i) : ∃ b j t, spec_l01Byte.f l i s = some (b, j, t) ∧ 0 ≤ b ∧ b ≤ 255 ∧ 0 ≤ j := by
  unfold spec_l01Byte.f
  by_cases h : i < (l.length : Int)
  · simp only [h, hi, ↓reduceIte]
    have e : wrap64 (i + 1) = i + 1 := w64 (by omega) (by omega)
    exact ⟨_, _, _, rfl, (bits_and255 _).1, (bits_and255 _).2, by omega⟩
  · simp only [h, ↓reduceIte]
    exact ⟨_, _, _, rfl, (bits_and255 _).1, (bits_and255 _).2, hi⟩
theorem tmod_range (a n : Int) (ha : 0 ≤ a) (hn : 1 ≤ n) : 0 ≤ Int.tmod a n ∧ Int.tmod a n < n := by
  rw [Int.tmod_eq_emod_of_nonneg ha]
  exact ⟨Int.emod_nonneg _ (by omega), Int.emod_lt_of_pos _ (by omega)⟩
theorem l01Below_is (l : List Int) (i s n : Int) (hl : l.length ≤ 1048576) (hi : 0 ≤ i) : ∃ b j t, spec_l01Below.f l i s n = some (b, j, t) ∧ 0 ≤ b ∧ (1 ≤ n → b < n) ∧ 0 ≤ j := by
  unfold spec_l01Below.f
  by_cases h : n ≤ 0
  · simp only [h, ↓reduceIte]
    exact ⟨_, _, _, rfl, by omega, fun h => by omega, hi⟩
  · simp only [h, show ¬ n = 0 from by omega, ↓reduceIte]
    obtain ⟨b1, j1, t1, e1, g1, g2, g3⟩ := l01Byte_is l i s hl hi
    by_cases h2 : n ≤ 256
    · have q := tmod_range b1 n g1 (by omega)
      simp only [h2, ↓reduceIte, e1, Option.bind_some]
      exact ⟨_, _, _, rfl, q.1, fun _ => q.2, g3⟩
    · obtain ⟨b2, j2, t2, e2, k1, k2, k3⟩ := l01Byte_is l j1 t1 hl g3
      obtain ⟨b3, j3, t3, e3, m1, m2, m3⟩ := l01Byte_is l j2 t2 hl k3
      obtain ⟨b4, j4, t4, e4, n1, n2, n3⟩ := l01Byte_is l j3 t3 hl m3
      simp only [h2, ↓reduceIte, e1, e2, e3, e4, Option.bind_some]
      have q := tmod_range (wrap64 ((wrap64 ((wrap64 ((wrap64 (b1 * 16777216)) + (wrap64 (b2 * 65536)))) + (wrap64 (b3 * 256)))) + b4)) n (by
        rw [w64 (n := b1 * 16777216) (by omega) (by omega), w64 (n := b2 * 65536) (by omega) (by omega), w64 (n := b3 * 256) (by omega) (by omega), w64 (n := b1 * 16777216 + b2 * 65536) (by omega) (by omega), w64 (n := b1 * 16777216 + b2 * 65536 + b3 * 256) (by omega) (by omega), w64 (by omega) (by omega)]
        omega) (by omega)
      exact ⟨_, _, _, rfl, q.1, fun _ => q.2, n3⟩
theorem l01New_l0 (l : List Int) (hl : l.length ≤ 1048576) : ∀ (d i : Nat), i + d = l.length → ∀ x : Int, ∃ y, Ev (fun k => spec_l01New.l0 k l x (i : Int)) (l, 0, y) := by
  intro d
  induction d with
  | zero =>
    intro i hi x
    obtain rfl : i = l.length := by omega
    refine ⟨x, ev_st ?_⟩
    simp only [spec_l01New.l0, Int.lt_irrefl, ↓reduceIte]
    exact Ev.now _
  | succ d ih =>
    intro i hi x
    have h1 : (i : Int) < (l.length : Int) := by omega
    have h2 : (0 : Int) ≤ (i : Int) := by omega
    have e : wrap64 ((i : Int) + 1) = ((i + 1 : Nat) : Int) := by rw [w64 (by omega) (by omega)]; omega
    by_cases h3 : (i : Int) < 4000
    · obtain ⟨y, hy⟩ := ih (i + 1) (by omega) (Go.bits .and .i64 (wrap64 ((wrap64 ((wrap64 (x * 131)) + (wrap64 (rd l (i : Int))))) + 7)) 1073741823)
      refine ⟨y, ev_st ?_⟩
      simp only [spec_l01New.l0, h1, h2, h3, ↓reduceIte, e]
      exact hy
    · refine ⟨x, ev_st ?_⟩
      simp only [spec_l01New.l0, h1, h3, ↓reduceIte]
      exact Ev.now _
theorem l01New_ev (l : List Int) (hl : l.length ≤ 1048576) : ∃ y, Ev (fun k => spec_l01New.f k l) (l, 0, y) := by
  obtain ⟨y, hy⟩ := l01New_l0 l hl l.length 0 (by omega) (wrap64 (36501 + (l.length : Int)))
  exact ⟨y, by simpa [spec_l01New.f] using hy⟩

/-! twelve places -/
theorem DrawPlaces_l0 (l : List Int) (hl : l.length ≤ 1048576) : ∀ (d n : Nat), n + d = 12 → ∀ (xs : List Int) (i s : Int), 0 ≤ i → xs.length = n → (∀ x ∈ xs, 0 ≤ x ∧ x < 10000) → ∃ p, Ev (fun k => spec_DrawPlaces.l0 k xs (n : Int) l i s) p ∧ p.length = 12 ∧ ∀ x ∈ p, 0 ≤ x ∧ x < 10000 := by
  intro d
  induction d with
  | zero =>
    intro n hn xs i s hi hx hr
    refine ⟨xs, ev_st ?_, by omega, hr⟩
    simp only [spec_DrawPlaces.l0, show ¬ ((n : Int) < 12) from by omega, ↓reduceIte]
    exact Ev.now _
  | succ d ih =>
    intro n hn xs i s hi hx hr
    obtain ⟨b, j, t, e, h1, h2, h3⟩ := l01Below_is l i s 10000 hl hi
    have h4 := h2 (by omega)
    have e4 : wrap64 ((n : Int) + 1) = ((n + 1 : Nat) : Int) := by rw [w64 (by omega) (by omega)]; omega
    obtain ⟨p, q1, q2, q3⟩ := ih (n + 1) (by omega) (xs ++ [b]) j t h3 (by rw [List.length_append, List.length_singleton]; omega) (by
      intro x hx
      rcases List.mem_append.1 hx with hx | hx
      · exact hr x hx
      · simp only [List.mem_singleton] at hx; omega)
    refine ⟨p, ev_st ?_, q2, q3⟩
    simp only [spec_DrawPlaces.l0, show (n : Int) < 12 from by omega, ↓reduceIte, e, Option.bind_some, show xs.length < 17592186044416 from by omega, e4]
    exact q1
theorem DrawPlaces_ev (l : List Int) (hl : l.length ≤ 1048576) : ∃ p, Ev (fun k => spec_DrawPlaces.f k l) p ∧ p.length = 12 ∧ ∀ x ∈ p, 0 ≤ x ∧ x < 10000 := by
  obtain ⟨y, hy⟩ := l01New_ev l hl
  obtain ⟨b, j, t, e, h1, h2, h3⟩ := l01Byte_is l 0 y hl (by omega)
  obtain ⟨p, q1, q2, q3⟩ := DrawPlaces_l0 l hl 12 0 (by omega) [] j t h3 rfl (by simp)
  refine ⟨p, ?_, q2, q3⟩
  simp only [spec_DrawPlaces.f]
  refine Ev.bind hy ?_
  simp only [e, Option.bind_some]
  exact q1
theorem place_at (p : List Int) (hp : p.length = 12) (hr : ∀ x ∈ p, 0 ≤ x ∧ x < 10000) (i : Nat) (hi : i < 12) : 0 ≤ rd p (i : Int) ∧ rd p (i : Int) < 10000 := by
  unfold rd
  rw [Int.toNat_natCast, List.getD_eq_getElem?_getD, List.getElem?_eq_getElem (by omega)]
  exact hr _ (List.getElem_mem _)

theorem l01Text_l0 (l : List Int) (hl : l.length ≤ 1048576) (N : Nat) (hN : N ≤ 5000) : ∀ (d n : Nat), n + d = N → ∀ (xs : List Int) (i s : Int), 0 ≤ i → xs.length = n → ∃ r j t, Ev (fun k => spec_l01Text.l0 k (N : Int) xs (n : Int) l i s) (r, j, t) ∧ r.size = N ∧ 0 ≤ j := by
  intro d
  induction d with
  | zero =>
    intro n hn xs i s hi hx
    refine ⟨strOfNums xs, i, s, ev_st ?_, by rw [strOfNums_size]; omega, hi⟩
    simp only [spec_l01Text.l0, show ¬ ((n : Int) < (N : Int)) from by omega, ↓reduceIte]
    exact Ev.now _
  | succ d ih =>
    intro n hn xs i s hi hx
    have c1 : (n : Int) < (N : Int) := by omega
    have c2 : xs.length < 140737488355328 := by omega
    have e1 : wrap64 ((n : Int) + 1) = ((n + 1 : Nat) : Int) := by rw [w64 (by omega) (by omega)]; omega
    obtain ⟨b, j, t, h1, h2, h3, h4⟩ := l01Byte_is l i s hl hi
    obtain ⟨r, j2, t2, e, h5, h6⟩ := ih (n + 1) (by omega) (xs ++ [b % 256]) j t h4 (by simp; omega)
    refine ⟨r, j2, t2, ev_st ?_, h5, h6⟩
    simp only [spec_l01Text.l0, c1, ↓reduceIte, h1, Option.bind_some, c2, e1]
    exact e
theorem l01Text_ev (l : List Int) (hl : l.length ≤ 1048576) (i s : Int) (hi : 0 ≤ i) (n : Nat) (hn : n ≤ 5000) : ∃ r j t, Ev (fun k => spec_l01Text.f k l i s (n : Int)) (r, j, t) ∧ r.size = n ∧ 0 ≤ j := by
  obtain ⟨r, j, t, e, h1, h2⟩ := l01Text_l0 l hl n hn n 0 (by omega) [] i s hi rfl
  refine ⟨r, j, t, ?_, h1, h2⟩
  simp only [spec_l01Text.f, show ¬ ((n : Int) > 5000) from by omega, ↓reduceIte]
  refine ev_st ?_
  simp only [spec_l01Text.j0]
  exact e

theorem DrawSumOf_ev (l : List Int) (hl : l.length ≤ 1048576) : ∃ r, Ev (fun k => spec_DrawSumOf.f k l) r ∧ r.size ≤ 40 := by
  obtain ⟨y, q⟩ := l01New_ev l hl
  obtain ⟨b, j, t, h1, h2, h3, h4⟩ := l01Below_is l 0 y 40 hl (by omega)
  have hb := h3 (by omega)
  obtain ⟨r, j2, t2, e, h5, h6⟩ := l01Text_ev l hl j t h4 b.toNat (by omega)
  refine ⟨r, ?_, by omega⟩
  rw [show ((b.toNat : Nat) : Int) = b from by omega] at e
  simp only [spec_DrawSumOf.f]
  refine Ev.bind q ?_
  simp only [h1, Option.bind_some]
  exact Ev.bind e (Ev.now _)

theorem xor8 (x y : Nat) (hx : x < 256) (hy : y < 256) : Go.bits .xor .u8 (x : Int) (y : Int) = ((x ^^^ y : Nat) : Int) := by
  have h : x ^^^ y < 2 ^ 8 := Nat.xor_lt_two_pow hx hy
  have e1 : x % 2 ^ IntKind.u8.bits = x := Nat.mod_eq_of_lt hx
  have e2 : y % 2 ^ IntKind.u8.bits = y := Nat.mod_eq_of_lt hy
  simp only [Go.bits, IntKind.wrap_u8, BitVec.ofInt_natCast, BitVec.toNat_xor, BitVec.toNat_ofNat, e1, e2]
  omega
theorem xor8_turn {x d : Int} (h0 : 0 ≤ x) (h1 : x < 256) (d0 : 0 < d) (d1 : d < 256) : Go.bits .xor .u8 x d ≠ x ∧ 0 ≤ Go.bits .xor .u8 x d ∧ Go.bits .xor .u8 x d < 256 := by
  obtain ⟨m, rfl⟩ := Int.eq_ofNat_of_zero_le h0
  obtain ⟨n, rfl⟩ := Int.eq_ofNat_of_zero_le (show 0 ≤ d from by omega)
  rw [xor8 m n (by omega) (by omega)]
  have h : m ^^^ n < 2 ^ 8 := Nat.xor_lt_two_pow (show m < 2 ^ 8 from by omega) (show n < 2 ^ 8 from by omega)
  refine ⟨fun e => ?_, by omega, by omega⟩
  have e2 := Int.ofNat.inj e
  have e3 : m ^^^ (m ^^^ n) = m ^^^ m := by rw [e2]
  rw [← Nat.xor_assoc, Nat.xor_self, Nat.zero_xor] at e3
  omega
theorem fourOf_inj {x y : Int} (h0 : 0 ≤ x) (h1 : x < 4294967296) (h2 : 0 ≤ y) (h3 : y < 4294967296) (h : fourOf x = fourOf y) : x = y := by
  unfold fourOf at h
  rw [str_inj (by simp only [List.mem_cons, List.not_mem_nil, or_false, forall_eq_or_imp, forall_eq]; omega) (by simp only [List.mem_cons, List.not_mem_nil, or_false, forall_eq_or_imp, forall_eq]; omega)] at h
  simp only [List.cons.injEq, and_true] at h
  omega
/-- A sealed text of which one byte has been turned is not unsealed. -/
theorem turned_bad (s : ByteArray) (i : Nat) (y : Int) (hi : i < s.size + 4) (hy : y ≠ rd (bytesOf (s ++ sumFour s)) (i : Int)) (y0 : 0 ≤ y) (y1 : y < 256) :
    (unsealOf (strOfNums ((bytesOf (s ++ sumFour s)).set i y))).2 = false := by
  have hT : (bytesOf (s ++ sumFour s)).length = s.size + 4 := by rw [bytesOf_length, ByteArray.size_append, sumFour_size]
  have hr : ∀ x ∈ (bytesOf (s ++ sumFour s)).set i y, 0 ≤ x ∧ x < 256 := by
    intro x hx
    rcases List.mem_or_eq_of_mem_set hx with h | rfl
    · exact bytesOf_range _ x h
    · exact ⟨y0, y1⟩
  have hu : (strOfNums ((bytesOf (s ++ sumFour s)).set i y)).size = s.size + 4 := by rw [strOfNums_size, List.length_set, hT]
  unfold unsealOf
  rw [if_neg (by omega)]
  split
  · next h =>
    exfalso
    rw [hu, show s.size + 4 - 4 = s.size from by omega] at h
    unfold sealOf at h
    split at h
    · injection h with _ h; cases h
    · injection h with h _
      have hb := congrArg bytesOf h
      rw [bytesOf_append, bytesOf_extract, List.drop_zero, bytesOf_str hr] at hb
      by_cases hlt : i < s.size
      · -- a byte of the text
        have e1 : ((bytesOf (s ++ sumFour s)).set i y).take s.size = (bytesOf s).set i y := by
          rw [List.take_set, bytesOf_append, List.take_left' (bytesOf_length s)]
        have e2 : ((bytesOf (s ++ sumFour s)).set i y).drop s.size = bytesOf (sumFour s) := by
          rw [List.drop_set_of_lt (by omega), bytesOf_append, List.drop_left' (bytesOf_length s)]
        have e3 := congrArg (List.drop s.size) hb
        rw [List.drop_left' (by rw [e1, List.length_set, bytesOf_length]), e2] at e3
        have e4 : fourOf (crc 4294967295 (bytesOf ((strOfNums ((bytesOf (s ++ sumFour s)).set i y)).extract 0 s.size))) = fourOf (crc 4294967295 (bytesOf s)) := bytesOf_inj e3
        have e5 : bytesOf ((strOfNums ((bytesOf (s ++ sumFour s)).set i y)).extract 0 s.size) = (bytesOf s).set i y := by rw [bytesOf_extract, List.drop_zero, bytesOf_str hr, e1]
        rw [e5] at e4
        have e6 := fourOf_inj (crc_range _ (by omega) (by omega)).1 (crc_range _ (by omega) (by omega)).2 (crc_range _ (by omega) (by omega)).1 (crc_range _ (by omega) (by omega)).2 e4
        have hl : i < (bytesOf s).length := by rw [bytesOf_length]; exact hlt
        have p1 : bytesOf s = (bytesOf s).take i ++ (bytesOf s)[i] :: (bytesOf s).drop (i + 1) := by rw [← List.drop_eq_getElem_cons hl, List.take_append_drop]
        have p2 : (bytesOf s).set i y = (bytesOf s).take i ++ y :: (bytesOf s).drop (i + 1) := List.set_eq_take_append_cons_drop.trans (if_pos hl)
        rw [p2] at e6
        have e6 := e6.trans (congrArg (crc 4294967295) p1)
        have g := bytesOf_range s _ (List.getElem_mem hl)
        have e7 := crc_turned ((bytesOf s).take i) ((bytesOf s).drop (i + 1)) y (bytesOf s)[i] (fun d hd => bytesOf_range s d (List.mem_of_mem_drop hd)) y0 y1 g.1 g.2 (x := 4294967295) (by omega) (by omega) e6
        refine hy (e7.trans ?_)
        unfold rd
        rw [Int.toNat_natCast, List.getD_eq_getElem?_getD, bytesOf_append, List.getElem?_append_left hl, List.getElem?_eq_getElem hl]
        rfl
      · -- a byte of the sum
        have e1 : ((bytesOf (s ++ sumFour s)).set i y).take s.size = bytesOf s := by
          rw [List.take_set_of_le (by omega), bytesOf_append, List.take_left' (bytesOf_length s)]
        have e5 : (strOfNums ((bytesOf (s ++ sumFour s)).set i y)).extract 0 s.size = s := by
          apply bytesOf_inj
          rw [bytesOf_extract, List.drop_zero, bytesOf_str hr, e1]
        rw [e5, e1, ← bytesOf_append] at hb
        refine hy ?_
        rw [hb]
        unfold rd
        rw [Int.toNat_natCast, List.getD_eq_getElem?_getD, List.getElem?_set_self (by omega)]
        rfl
  · rfl
theorem unseal_seal (s : ByteArray) (h : s.size ≤ 20000) : sealOf s = (s ++ sumFour s, true) ∧ unsealOf (s ++ sumFour s) = (s, true) := by
  have e : sealOf s = (s ++ sumFour s, true) := by unfold sealOf; rw [if_neg (by omega)]
  have hz : (s ++ sumFour s).size = s.size + 4 := by rw [ByteArray.size_append, sumFour_size]
  have e2 : (s ++ sumFour s).extract 0 s.size = s := by
    apply bytesOf_inj
    rw [bytesOf_extract, List.drop_zero, bytesOf_append, List.take_left' (bytesOf_length s)]
  refine ⟨e, ?_⟩
  unfold unsealOf
  rw [if_neg (by omega), hz, show s.size + 4 - 4 = s.size from by omega, e2, if_pos e]
theorem FnTurned : laws_FnTurned.Pure := by
  intro c _ _ _
  refine Ev.rounds ?_
  simp only [laws_FnTurned.f, laws_big.f, Option.bind_some]
  by_cases hb : (c.length : Int) > 1048576
  · simp only [hb, decide_true, ↓reduceIte]; exact Ev.now _
  · simp only [hb, decide_false, Bool.false_eq_true, ↓reduceIte]
    obtain ⟨s, qs, hs⟩ := DrawSumOf_ev c (by omega)
    obtain ⟨p, q1, q2, q3⟩ := DrawPlaces_ev c (by omega)
    refine Ev.bind qs (Ev.bind q1 ?_)
    obtain ⟨u1, u2⟩ := unseal_seal s (by omega)
    have hz : (s ++ sumFour s).size = s.size + 4 := by rw [ByteArray.size_append, sumFour_size]
    have k1 := impl_Sealed_ev s (by omega)
    have k2 := impl_Unsealed_ev (s ++ sumFour s) (by omega)
    rw [u1] at k1
    rw [u2] at k2
    refine Ev.bind k1 (Ev.bind k2 ?_)
    have e0 : (((s ++ sumFour s).size : Int) != wrap64 ((s.size : Int) + 4)) = false := by
      rw [w64 (by omega) (by omega), hz]
      simp
    simp only [↓reduceIte, e0]
    have h0 := place_at p q2 q3 0 (by omega)
    have h1 := place_at p q2 q3 1 (by omega)
    simp only [Int.natCast_zero, Int.natCast_one] at h0 h1
    have m0 := tmod_range (rd p 0) ((bytesOf (s ++ sumFour s)).length : Int) h0.1 (by rw [bytesOf_length]; omega)
    have m1 := tmod_range (rd p 1) 255 h1.1 (by omega)
    have hL : ((bytesOf (s ++ sumFour s)).length : Int) = (s.size : Int) + 4 := by rw [bytesOf_length, hz]; omega
    have w1 : wrap64 (1 + Int.tmod (rd p 1) 255) % 256 = 1 + Int.tmod (rd p 1) 255 := by rw [w64 (by omega) (by omega)]; omega
    refine ev_st ?_
    have c1 : (s ++ sumFour s).size < 140737488355328 := by omega
    have c2 : ¬ (((bytesOf (s ++ sumFour s)).length : Int) = 0) := by omega
    have c3 : (0 : Int) < (p.length : Int) := by omega
    have c4 : (1 : Int) < (p.length : Int) := by omega
    simp only [laws_FnTurned.j0, Bool.false_eq_true, ↓reduceIte, c1, c2, c3, c4, m0.1, m0.2, Option.bind_some, w1]
    generalize hj : Int.tmod (rd p 0) ((bytesOf (s ++ sumFour s)).length : Int) = j at m0
    have g := bytesOf_range (s ++ sumFour s) (rd (bytesOf (s ++ sumFour s)) j) (by
      unfold rd
      rw [List.getD_eq_getElem?_getD, List.getElem?_eq_getElem (by omega)]
      exact List.getElem_mem _)
    have t := xor8_turn g.1 g.2 (show 0 < 1 + Int.tmod (rd p 1) 255 from by omega) (show 1 + Int.tmod (rd p 1) 255 < 256 from by omega)
    have bad := turned_bad s j.toNat (Go.bits .xor .u8 (rd (bytesOf (s ++ sumFour s)) j) (1 + Int.tmod (rd p 1) 255)) (by omega) (by rw [show ((j.toNat : Nat) : Int) = j from by omega]; exact t.1) t.2.1 t.2.2
    have k3 := impl_Unsealed_ev (strOfNums ((bytesOf (s ++ sumFour s)).set j.toNat (Go.bits .xor .u8 (rd (bytesOf (s ++ sumFour s)) j) (1 + Int.tmod (rd p 1) 255)))) (by rw [strOfNums_size, List.length_set]; omega)
    refine Ev.bind k3 ?_
    simp only [bad, Bool.false_eq_true, ↓reduceIte]
    refine Ev.bind (impl_SumOf_ev s (by omega)) ?_
    have r := crc_range (bytesOf s) (x := 4294967295) (by omega) (by omega)
    refine Ev.bind (impl_SumMore_ev (⟨#[120]⟩ : ByteArray) (by decide) _ r.1 r.2) ?_
    have c5 : s.size + 1 ≤ 9223372036854775807 := by omega
    simp only [c5, ↓reduceIte]
    refine Ev.bind (impl_SumOf_ev (s ++ (⟨#[120]⟩ : ByteArray)) (by rw [ByteArray.size_append]; have : (⟨#[120]⟩ : ByteArray).size = 1 := rfl; omega)) ?_
    rw [bytesOf_append, crc_append, beq_self_eq_true]
    exact Ev.now _

end Go.Proofs.Ytekeaciflbkhpaa.Pure
