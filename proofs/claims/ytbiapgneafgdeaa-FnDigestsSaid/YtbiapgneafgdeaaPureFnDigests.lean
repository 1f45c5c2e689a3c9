/- What is proved here: the law FnDigests, told as a plain function over numbers and lists, answers true at all arguments. Conditions: those of the row alone, none of ours. -/
import Derived.Test.YtbiapgneafgdeaaQFnDigestsx8
import Derived.Test.YtbiapgneafgdeaaKit
namespace Go.Proofs.Ytbiapgneafgdeaa.Pure
open Go.RowKit Go.Proofs.Ytbiapgneafgdeaa.QFnDigests Go.Proofs.YtbiapgneafgdeaaW.PrintWords Go.Proofs.YtbiapgneafgdeaaW.PrintLast Go.Proofs.Ytbiapgneafgdeaa.Kit Go.Proofs.YtbiapgneafgdeaaW.PrintMore
set_option linter.unusedSimpArgs false
set_option linter.unusedVariables false

theorem spec_l01In_eq (a b c : Int) : spec_l01In.f a b c = some (decide (b ≤ a ∧ a ≤ c)) := by
  unfold spec_l01In.f
  by_cases h : b ≤ a <;> simp [h, GE.ge]

theorem impl_in_eq (a b c : Int) : impl_in.f a b c = some (decide (b ≤ a ∧ a ≤ c)) := by
  unfold impl_in.f
  by_cases h : b ≤ a <;> simp [h, GE.ge]

def hasherOk (st rest : ByteArray) (n : Int) : Bool := decide ((st.size : Int) = 32 ∧ (rest.size : Int) < 64 ∧ (0 ≤ n ∧ n ≤ 1000000000) ∧ (rest.size : Int) = n % 64)
theorem spec_HasherOk_eq (a b : ByteArray) (n : Int) : spec_HasherOk.f a b n = some (hasherOk a b n) := by
  unfold spec_HasherOk.f hasherOk
  by_cases h1 : (a.size : Int) = 32
  · by_cases h2 : (b.size : Int) < 64
    · rw [if_pos h1, if_pos h2, spec_l01In_eq, Option.bind_some]
      by_cases h3 : 0 ≤ n ∧ n ≤ 1000000000
      · have e : Int.tmod n 64 = n % 64 := Int.tmod_eq_emod_of_nonneg h3.1
        rw [if_pos (by simpa using h3), e]
        congr 1
        rw [Bool.eq_iff_iff]
        simp only [beq_iff_eq, decide_eq_true_eq, h1, h2, h3, true_and, and_self]
        omega
      · rw [if_neg (by simpa using h3)]
        congr 1
        symm
        simp [h3]
    · rw [if_pos h1, if_neg h2]; simp [h2]
  · rw [if_neg h1]; simp [h1]
theorem impl_HasherOk_eq (a b : ByteArray) (n : Int) : impl_HasherOk.f a b n = some (hasherOk a b n) := by
  unfold impl_HasherOk.f hasherOk
  by_cases h1 : (a.size : Int) = 32
  · by_cases h2 : (b.size : Int) < 64
    · rw [if_pos h1, if_pos h2, impl_in_eq, Option.bind_some]
      by_cases h3 : 0 ≤ n ∧ n ≤ 1000000000
      · have e : Int.tmod n 64 = n % 64 := Int.tmod_eq_emod_of_nonneg h3.1
        rw [if_pos (by simpa using h3), e]
        congr 1
        rw [Bool.eq_iff_iff]
        simp only [beq_iff_eq, decide_eq_true_eq, h1, h2, h3, true_and, and_self]
      · rw [if_neg (by simpa using h3)]
        congr 1
        symm
        simp [h3]
    · rw [if_pos h1, if_neg h2]; simp [h2]
  · rw [if_neg h1]; simp [h1]

/-! words of 32 bits: turns, sums and exclusive ors -/
theorem or32_nat (x y : Nat) (hx : x < 4294967296) (hy : y < 4294967296) : Go.bits .or .u32 (x : Int) (y : Int) = ((x ||| y : Nat) : Int) := by
  have h : x ||| y < 2 ^ 32 := Nat.or_lt_two_pow hx hy
  have e1 : x % 2 ^ IntKind.u32.bits = x := Nat.mod_eq_of_lt hx
  have e2 : y % 2 ^ IntKind.u32.bits = y := Nat.mod_eq_of_lt hy
  simp only [Go.bits, IntKind.wrap_u32, BitVec.ofInt_natCast, BitVec.toNat_or, BitVec.toNat_ofNat, e1, e2]
  omega
theorem or_add (a b k : Nat) (h : b < 2 ^ k) : (a * 2 ^ k) ||| b = a * 2 ^ k + b := by
  rw [← Nat.shiftLeft_eq, Nat.shiftLeft_add_eq_or_of_lt h]
theorem rot_nat (x n : Nat) (hn : n < 32) : (x * 2 ^ (32 - n)) % 4294967296 ||| (x / 2 ^ n % 4294967296) = (x % 2 ^ n) * 2 ^ (32 - n) ||| (x / 2 ^ n % 4294967296) := by
  have e : (2 : Nat) ^ 32 = 2 ^ n * 2 ^ (32 - n) := by rw [← Nat.pow_add]; congr 1; omega
  rw [show (4294967296 : Nat) = 2 ^ n * 2 ^ (32 - n) from e]
  rw [Nat.mul_mod_mul_right]
theorem div_lt_rot (x n : Nat) (hx : x < 4294967296) (hn : n < 32) : x / 2 ^ n < 2 ^ (32 - n) := by
  rw [Nat.div_lt_iff_lt_mul (Nat.pow_pos (by omega))]
  have e : (2 : Nat) ^ 32 = 2 ^ (32 - n) * 2 ^ n := by rw [← Nat.pow_add]; congr 1; omega
  omega
theorem turn_and : ∀ n : Fin 32, 0 < n.val → Go.bits .and .u64 (IntKind.u64.wrap (wrap64 (-((n.val : Nat) : Int)))) 31 = ((32 - n.val : Nat) : Int) := by decide +kernel
theorem sha_r_eq (x n : Nat) (hx : x < 4294967296) (h0 : 0 < n) (hn : n < 32) : sha_r (x : Int) (n : Int) = ((x / 2 ^ n + (x % 2 ^ n) * 2 ^ (32 - n) : Nat) : Int) := by
  have a := turn_and ⟨n, hn⟩ h0
  simp only at a
  unfold sha_r impl_right.f bits_RotateLeft32.f
  rw [a, if_pos (by omega)]
  have b : IntKind.u64.wrap (32 - ((32 - n : Nat) : Int)) = (n : Int) := by rw [IntKind.wrap_u64]; omega
  rw [b, if_pos (by omega)]
  simp only [Option.bind_some, Option.getD_some]
  have c : shl .u32 (x : Int) ((32 - n : Nat) : Int) = (((x * 2 ^ (32 - n)) % 4294967296 : Nat) : Int) := by
    unfold shl
    rw [Int.toNat_natCast, show IntKind.u32.bits = 32 from rfl, Nat.min_eq_left (by omega), IntKind.wrap_u32, Int.natCast_emod, Int.natCast_mul, Int.natCast_pow]
    rfl
  have d : shr .u32 (x : Int) (n : Int) = ((x / 2 ^ n : Nat) : Int) := by
    unfold shr
    rw [Int.toNat_natCast, show IntKind.u32.bits = 32 from rfl, Nat.min_eq_left (by omega), Int.natCast_ediv, Int.natCast_pow]
    rfl
  have lt := div_lt_rot x n hx hn
  have lt2 : x / 2 ^ n < 4294967296 := Nat.lt_of_le_of_lt (Nat.div_le_self _ _) hx
  rw [c, d, or32_nat _ _ (Nat.mod_lt _ (by omega)) lt2]
  have e := rot_nat x n hn
  rw [Nat.mod_eq_of_lt lt2] at e
  rw [e, or_add _ _ _ lt]
  congr 1
  omega
theorem sha_r_lt (x n : Nat) (hx : x < 4294967296) (h0 : 0 < n) (hn : n < 32) : x / 2 ^ n + (x % 2 ^ n) * 2 ^ (32 - n) < 4294967296 := by
  have lt := div_lt_rot x n hx hn
  have m : x % 2 ^ n ≤ 2 ^ n - 1 := by have := Nat.mod_lt x (Nat.pow_pos (n := n) (show 0 < 2 from by omega)); omega
  have e : (2 : Nat) ^ 32 = 2 ^ n * 2 ^ (32 - n) := by rw [← Nat.pow_add]; congr 1; omega
  have k := Nat.mul_le_mul_right (2 ^ (32 - n)) m
  rw [Nat.sub_mul, Nat.one_mul, ← e] at k
  have p := Nat.pow_pos (n := 32 - n) (show 0 < 2 from by omega)
  have q : 2 ^ (32 - n) ≤ 2 ^ 32 := Nat.pow_le_pow_right (by omega) (by omega)
  omega
/-- A word: a number of 32 bits. -/
def U32 (x : Int) : Prop := 0 ≤ x ∧ x < 4294967296
theorem U32.nat {x : Int} (h : U32 x) : ∃ n : Nat, x = (n : Int) ∧ n < 4294967296 := ⟨x.toNat, by have := h.1; omega, by have := h.1; have := h.2; omega⟩
theorem U32.mod (x : Int) : U32 (x % 4294967296) := ⟨by omega, by omega⟩
theorem U32.xor (x y : Int) : U32 (Go.bits .xor .u32 x y) := xor32_range x y
theorem U32.turn {x : Int} (hx : U32 x) (n : Nat) (h0 : 0 < n) (hn : n < 32) : U32 (sha_r x (n : Int)) := by
  obtain ⟨m, rfl, hm⟩ := hx.nat
  rw [sha_r_eq m n hm h0 hn]
  have := sha_r_lt m n hm h0 hn
  generalize m / 2 ^ n + m % 2 ^ n * 2 ^ (32 - n) = q at this
  exact ⟨by omega, by omega⟩
/-- The reference's turn. -/
theorem right_eq {x : Int} (hx : U32 x) (n : Nat) (h0 : 0 < n) (hn : n < 32) (lo hi : Int) (hlo : lo = ((2 ^ n : Nat) : Int)) (hhi : hi = ((2 ^ (32 - n) : Nat) : Int)) :
    spec_l03Right.f x lo hi = some (sha_r x (n : Int)) := by
  obtain ⟨m, rfl, hm⟩ := hx.nat
  have p := Nat.pow_pos (n := n) (show 0 < 2 from by omega)
  have lt := sha_r_lt m n hm h0 hn
  rw [sha_r_eq m n hm h0 hn]
  unfold spec_l03Right.f
  subst hlo hhi
  rw [if_neg (by omega), Int.tdiv_eq_ediv_of_nonneg (by omega), Int.tmod_eq_emod_of_nonneg (by omega)]
  have e1 : ((m : Int) / ((2 ^ n : Nat) : Int)) = ((m / 2 ^ n : Nat) : Int) := (Int.natCast_ediv _ _).symm
  have e2 : ((m : Int) % ((2 ^ n : Nat) : Int)) * ((2 ^ (32 - n) : Nat) : Int) = ((m % 2 ^ n * 2 ^ (32 - n) : Nat) : Int) := by rw [Int.natCast_mul, Int.natCast_emod]
  rw [e1, e2]
  generalize m / 2 ^ n = A at lt ⊢
  generalize m % 2 ^ n * 2 ^ (32 - n) = B at lt ⊢
  congr 1
  omega

/-! words out of bytes; the schedule -/
theorem u8_nat (s : ByteArray) (i : Int) : ∃ b : Nat, bt s i = (b : Int) ∧ b < 256 := ⟨(bt s i).toNat, by have := bt_range s i; omega, by have := bt_range s i; omega⟩
def wv (s : ByteArray) (i : Nat) : Int := bt s ((i : Nat) : Int) * 16777216 + bt s ((i + 1 : Nat) : Int) * 65536 + bt s ((i + 2 : Nat) : Int) * 256 + bt s ((i + 3 : Nat) : Int)
theorem wv_u32 (s : ByteArray) (i : Nat) : U32 (wv s i) := by
  unfold wv
  have a := bt_range s ((i : Nat) : Int); have b := bt_range s ((i + 1 : Nat) : Int); have c := bt_range s ((i + 2 : Nat) : Int); have d := bt_range s ((i + 3 : Nat) : Int)
  exact ⟨by omega, by omega⟩
theorem sha_at_wv (s : ByteArray) (i : Nat) (h : i + 4 ≤ s.size) (hs : s.size ≤ 4611686018427387904) : sha_at s (i : Int) = wv s i := by
  unfold sha_at impl_wordAt.f wv
  have e1 : wrap64 ((i : Int) + 1) = ((i + 1 : Nat) : Int) := by rw [w64 (by omega) (by omega)]; omega
  have e2 : wrap64 ((i : Int) + 2) = ((i + 2 : Nat) : Int) := by rw [w64 (by omega) (by omega)]; omega
  have e3 : wrap64 ((i : Int) + 3) = ((i + 3 : Nat) : Int) := by rw [w64 (by omega) (by omega)]; omega
  rw [e1, e2, e3, if_pos (by omega), if_pos (by omega), if_pos (by omega), if_pos (by omega), if_pos (by omega), if_pos (by omega), if_pos (by omega), if_pos (by omega)]
  obtain ⟨b0, h0, l0⟩ := u8_nat s ((i : Nat) : Int)
  obtain ⟨b1, h1, l1⟩ := u8_nat s ((i + 1 : Nat) : Int)
  obtain ⟨b2, h2, l2⟩ := u8_nat s ((i + 2 : Nat) : Int)
  obtain ⟨b3, h3, l3⟩ := u8_nat s ((i + 3 : Nat) : Int)
  rw [h0, h1, h2, h3]
  have f0 : ((b0 : Int) % 4294967296 * 16777216) % 4294967296 = ((b0 * 2 ^ 24 : Nat) : Int) := by omega
  have f1 : ((b1 : Int) % 4294967296 * 65536) % 4294967296 = ((b1 * 2 ^ 16 : Nat) : Int) := by omega
  have f2 : ((b2 : Int) % 4294967296 * 256) % 4294967296 = ((b2 * 2 ^ 8 : Nat) : Int) := by omega
  have f3 : ((b3 : Int) % 4294967296) = ((b3 : Nat) : Int) := by omega
  rw [f0, f1, f2, f3, or32_nat _ _ (by omega) (by omega), or_add b0 (b1 * 2 ^ 16) 24 (by omega)]
  rw [show b0 * 2 ^ 24 + b1 * 2 ^ 16 = (b0 * 256 + b1) * 2 ^ 16 from by omega, or32_nat _ _ (by omega) (by omega), or_add _ (b2 * 2 ^ 8) 16 (by omega)]
  rw [show (b0 * 256 + b1) * 2 ^ 16 + b2 * 2 ^ 8 = ((b0 * 256 + b1) * 256 + b2) * 2 ^ 8 from by omega, or32_nat _ _ (by omega) (by omega), or_add _ b3 8 (by omega)]
  simp only [Option.getD_some]
  omega
theorem l03Word_eq (s : ByteArray) (i : Nat) (h : i + 4 ≤ s.size) (hs : s.size ≤ 4611686018427387904) : spec_l03Word.f s (i : Int) = some (wv s i) := by
  unfold spec_l03Word.f wv
  have e1 : wrap64 ((i : Int) + 1) = ((i + 1 : Nat) : Int) := by rw [w64 (by omega) (by omega)]; omega
  have e2 : wrap64 ((i : Int) + 2) = ((i + 2 : Nat) : Int) := by rw [w64 (by omega) (by omega)]; omega
  have e3 : wrap64 ((i : Int) + 3) = ((i + 3 : Nat) : Int) := by rw [w64 (by omega) (by omega)]; omega
  rw [e1, e2, e3, if_pos (by omega), if_pos (by omega), if_pos (by omega), if_pos (by omega), if_pos (by omega), if_pos (by omega), if_pos (by omega), if_pos (by omega)]
  have a := bt_range s ((i : Nat) : Int); have b := bt_range s ((i + 1 : Nat) : Int); have c := bt_range s ((i + 2 : Nat) : Int); have d := bt_range s ((i + 3 : Nat) : Int)
  congr 1
  omega
/-- n words from the t-th on. -/
def ws (s : ByteArray) : Nat → Nat → List Int
  | _, 0 => []
  | t, n + 1 => wv s (4 * t) :: ws s (t + 1) n
theorem ws_len (s : ByteArray) : ∀ (n t : Nat), (ws s t n).length = n
  | 0, _ => rfl
  | n + 1, t => by rw [ws, List.length_cons, ws_len s n]
theorem l03Words_l0 (s : ByteArray) (z : Nat) (hz : z ≤ 16) (hs : s.size = 4 * z) : ∀ (d t : Nat), t + d = z → ∀ acc : List Int, acc.length + d ≤ 16 → Ev (fun k => spec_l03Words.l0 k s acc ((4 * t : Nat) : Int)) (acc ++ ws s t d) := by
  intro d
  induction d with
  | zero =>
    intro t ht acc _
    refine ev_st ?_
    have e : wrap64 (((4 * t : Nat) : Int) + 4) = ((4 * t + 4 : Nat) : Int) := by rw [w64 (by omega) (by omega)]; omega
    simp only [spec_l03Words.l0, e, show ¬ (((4 * t + 4 : Nat) : Int) ≤ (s.size : Int)) from by omega, ↓reduceIte, ws, List.append_nil]
    exact Ev.now _
  | succ d ih =>
    intro t ht acc ha
    refine ev_st ?_
    have e : wrap64 (((4 * t : Nat) : Int) + 4) = ((4 * (t + 1) : Nat) : Int) := by rw [w64 (by omega) (by omega)]; omega
    simp only [spec_l03Words.l0, e, show ((4 * (t + 1) : Nat) : Int) ≤ (s.size : Int) from by omega, ↓reduceIte, l03Word_eq s (4 * t) (by omega) (by omega), Option.bind_some, show acc.length < 35184372088832 from by omega]
    have g := ih (t + 1) (by omega) (acc ++ [wv s (4 * t)]) (by simp; omega)
    rw [List.append_assoc] at g
    exact g
theorem l03Words_ev (s : ByteArray) (z : Nat) (hz : z ≤ 16) (hs : s.size = 4 * z) : Ev (fun k => spec_l03Words.f k s) (ws s 0 z) := by
  simp only [spec_l03Words.f]
  exact l03Words_l0 s z hz hs z 0 (by omega) [] (by simp; omega)
theorem sha_s_ws (s : ByteArray) (h : 32 ≤ s.size) (hs : s.size ≤ 4611686018427387904) : sha_s s 8 = ws s 0 8 := by
  have e : ∀ t : Nat, t < 8 → sha_at s ((4 * t : Nat) : Int) = wv s (4 * t) := fun t ht => sha_at_wv s (4 * t) (by omega) hs
  simp only [sha_s, ws, e 0 (by omega), e 1 (by omega), e 2 (by omega), e 3 (by omega), e 4 (by omega), e 5 (by omega), e 6 (by omega), e 7 (by omega)]
  rfl
theorem sha_w_ws (b : ByteArray) (h : 64 ≤ b.size) (hs : b.size ≤ 4611686018427387904) : (sha_w b 16).take 16 = ws b 0 16 := by
  have e : ∀ t : Nat, t < 16 → sha_at b ((4 * t : Nat) : Int) = wv b (4 * t) := fun t ht => sha_at_wv b (4 * t) (by omega) hs
  simp only [sha_w, ws, show (0 : Nat) < 16 from by omega, show (1 : Nat) < 16 from by omega, show (2 : Nat) < 16 from by omega, show (3 : Nat) < 16 from by omega, show (4 : Nat) < 16 from by omega, show (5 : Nat) < 16 from by omega, show (6 : Nat) < 16 from by omega, show (7 : Nat) < 16 from by omega,
    show (8 : Nat) < 16 from by omega, show (9 : Nat) < 16 from by omega, show (10 : Nat) < 16 from by omega, show (11 : Nat) < 16 from by omega, show (12 : Nat) < 16 from by omega, show (13 : Nat) < 16 from by omega, show (14 : Nat) < 16 from by omega, show (15 : Nat) < 16 from by omega, ↓reduceIte,
    e 0 (by omega), e 1 (by omega), e 2 (by omega), e 3 (by omega), e 4 (by omega), e 5 (by omega), e 6 (by omega), e 7 (by omega), e 8 (by omega), e 9 (by omega), e 10 (by omega), e 11 (by omega), e 12 (by omega), e 13 (by omega), e 14 (by omega), e 15 (by omega)]
  rfl
theorem rd_set (l : List Int) (t j : Nat) (x : Int) : rd (l.set t x) (j : Int) = if t = j ∧ j < l.length then x else rd l (j : Int) := by
  unfold rd
  rw [Int.toNat_natCast, List.getD_eq_getElem?_getD, List.getD_eq_getElem?_getD, List.getElem?_set]
  by_cases h : t = j
  · subst h
    by_cases h2 : t < l.length
    · simp [h2]
    · simp [h2]
  · simp [h]
theorem rd_take (l : List Int) (t j : Nat) (h : j < t) : rd (l.take t) (j : Int) = rd l (j : Int) := by
  unfold rd
  rw [Int.toNat_natCast, List.getD_eq_getElem?_getD, List.getD_eq_getElem?_getD, List.getElem?_take_of_lt h]
theorem sha_w_u32 (b : ByteArray) (h : 64 ≤ b.size) (hs : b.size ≤ 4611686018427387904) : ∀ (t j : Nat), t ≤ 64 → U32 (rd (sha_w b t) (j : Int))
  | 0, j, _ => by
    unfold rd sha_w
    rw [Int.toNat_natCast, List.getD_eq_getElem?_getD, List.getElem?_replicate]
    split <;> exact ⟨by simp, by simp⟩
  | t + 1, j, ht => by
    rw [sha_w, rd_set]
    split
    · split
      · rw [sha_at_wv b (4 * t) (by omega) hs]; exact wv_u32 _ _
      · exact U32.mod _
    · exact sha_w_u32 b h hs t j (by omega)
theorem pow_halves : ∀ n : Fin 32, 0 < n.val → ((Int.tdiv 2147483648 ((2 ^ n.val : Nat) : Int)) % 4294967296 * 2) % 4294967296 = ((2 ^ (32 - n.val) : Nat) : Int) := by decide +kernel
theorem l03S_true {x : Int} (hx : U32 x) (m n : Nat) (c : Int) (hm : 0 < m ∧ m < 32) (hn : 0 < n ∧ n < 32) (hc : 0 < c) : spec_l03S.f x ((2 ^ m : Nat) : Int) ((2 ^ n : Nat) : Int) c true = some (Go.bits .xor .u32 (Go.bits .xor .u32 (sha_r x (m : Int)) (sha_r x (n : Int))) (x / c)) := by
  have pm := Nat.pow_pos (n := m) (show 0 < 2 from by omega)
  have pn := Nat.pow_pos (n := n) (show 0 < 2 from by omega)
  have am := pow_halves ⟨m, hm.2⟩ hm.1
  have an := pow_halves ⟨n, hn.2⟩ hn.1
  simp only at am an
  unfold spec_l03S.f
  rw [if_neg (by omega), am, right_eq hx m hm.1 hm.2 _ _ rfl rfl, Option.bind_some, if_neg (by omega), an, right_eq hx n hn.1 hn.2 _ _ rfl rfl, Option.bind_some, if_neg (by omega), if_pos rfl, Int.tdiv_eq_ediv_of_nonneg hx.1]
  have q : 0 ≤ x / c ∧ x / c ≤ x := ⟨Int.ediv_nonneg hx.1 (by omega), Int.ediv_le_self _ hx.1⟩
  have := hx.2
  rw [show x / c % 4294967296 = x / c from by omega]
theorem l03S_false {x : Int} (hx : U32 x) (m n q : Nat) (hm : 0 < m ∧ m < 32) (hn : 0 < n ∧ n < 32) (hq : 0 < q ∧ q < 32) : spec_l03S.f x ((2 ^ m : Nat) : Int) ((2 ^ n : Nat) : Int) ((2 ^ q : Nat) : Int) false = some (Go.bits .xor .u32 (Go.bits .xor .u32 (sha_r x (m : Int)) (sha_r x (n : Int))) (sha_r x (q : Int))) := by
  have pm := Nat.pow_pos (n := m) (show 0 < 2 from by omega)
  have pn := Nat.pow_pos (n := n) (show 0 < 2 from by omega)
  have pq := Nat.pow_pos (n := q) (show 0 < 2 from by omega)
  have am := pow_halves ⟨m, hm.2⟩ hm.1
  have an := pow_halves ⟨n, hn.2⟩ hn.1
  have aq := pow_halves ⟨q, hq.2⟩ hq.1
  simp only at am an aq
  unfold spec_l03S.f
  rw [if_neg (by omega), am, right_eq hx m hm.1 hm.2 _ _ rfl rfl, Option.bind_some, if_neg (by omega), an, right_eq hx n hn.1 hn.2 _ _ rfl rfl, Option.bind_some, if_neg (by omega), if_neg (by simp), aq, right_eq hx q hq.1 hq.2 _ _ rfl rfl, Option.bind_some]

/-! one block, both ways -/
theorem compl_eq {x : Int} (h : U32 x) : Go.bits .xor .u32 IntKind.u32.max x = (4294967295 - x) % 4294967296 := by
  obtain ⟨n, rfl, hn⟩ := h.nat
  have e : IntKind.u32.max = ((4294967295 : Nat) : Int) := by decide
  rw [e, xor32_nat _ _ (by omega) hn]
  have k : 4294967295 ^^^ n = 4294967295 - n := by
    have a : (BitVec.allOnes 32 ^^^ BitVec.ofNat 32 n).toNat = (~~~ (BitVec.ofNat 32 n)).toNat := by rw [BitVec.allOnes_xor]
    rw [BitVec.toNat_xor, BitVec.toNat_not, BitVec.toNat_allOnes, BitVec.toNat_ofNat, Nat.mod_eq_of_lt hn] at a
    exact a
  rw [k]
  omega
def All8 (V : List Int) : Prop := V.length = 8 ∧ ∀ x ∈ V, U32 x
theorem All8.at8 {V : List Int} (h : All8 V) (j : Nat) (hj : j < 8) : U32 (rd V (j : Int)) := by
  unfold rd
  rw [Int.toNat_natCast, List.getD_eq_getElem?_getD, List.getElem?_eq_getElem (by rw [h.1]; exact hj)]
  exact h.2 _ (List.getElem_mem _)
theorem All8.mk8 {V : List Int} (h : All8 V) : ∃ a b c d e f g i : Int, V = [a, b, c, d, e, f, g, i] ∧ U32 a ∧ U32 b ∧ U32 c ∧ U32 d ∧ U32 e ∧ U32 f ∧ U32 g ∧ U32 i := by
  match V, h with
  | [a, b, c, d, e, f, g, i], h =>
    have k := h.2
    simp only [List.mem_cons, List.not_mem_nil, or_false, forall_eq_or_imp, forall_eq] at k
    exact ⟨a, b, c, d, e, f, g, i, rfl, k⟩
theorem step_all8 (K W : List Int) (t : Nat) {V : List Int} (h : All8 V) : All8 (sha_step K W t V) := by
  refine ⟨rfl, ?_⟩
  unfold sha_step
  simp only [List.mem_cons, List.not_mem_nil, or_false, forall_eq_or_imp, forall_eq]
  exact ⟨U32.mod _, h.at8 0 (by omega), h.at8 1 (by omega), h.at8 2 (by omega), U32.mod _, h.at8 4 (by omega), h.at8 5 (by omega), h.at8 6 (by omega)⟩
theorem v_all8 (K W : List Int) {S : List Int} (h : All8 S) : ∀ t, All8 (sha_v S K W t)
  | 0 => h
  | t + 1 => step_all8 K W t (v_all8 K W h t)
theorem o_all8 {S V : List Int} (h : All8 S) (k : All8 V) : All8 (sha_o S V 8) := by
  obtain ⟨a, b, c, d, e, f, g, i, rfl, _⟩ := h.mk8
  obtain ⟨a', b', c', d', e', f', g', i', rfl, _⟩ := k.mk8
  refine ⟨rfl, ?_⟩
  show ∀ x ∈ [(a + a') % 4294967296, (b + b') % 4294967296, (c + c') % 4294967296, (d + d') % 4294967296, (e + e') % 4294967296, (f + f') % 4294967296, (g + g') % 4294967296, (i + i') % 4294967296], U32 x
  simp only [List.mem_cons, List.not_mem_nil, or_false, forall_eq_or_imp, forall_eq]
  exact ⟨U32.mod _, U32.mod _, U32.mod _, U32.mod _, U32.mod _, U32.mod _, U32.mod _, U32.mod _⟩
theorem l3_ev (S V : List Int) (h : All8 S) (k : All8 V) : Ev (fun n => spec_l03Round.l3 n S V [] 0) (sha_o S V 8) := by
  obtain ⟨a, b, c, d, e, f, g, i, rfl, _⟩ := h.mk8
  obtain ⟨a', b', c', d', e', f', g', i', rfl, _⟩ := k.mk8
  refine ⟨9, fun n hn => ?_⟩
  obtain ⟨m, rfl⟩ : ∃ m, n = m + 9 := ⟨n - 9, by omega⟩
  simp [spec_l03Round.l3, wrap64, rd, sha_o]
theorem l2_shift (S K W : List Int) (a b c d e f g i t t1 t2 : Int) (m : Nat) : spec_l03Round.l2 (m + 8) S K W [a, b, c, d, e, f, g, i] t t1 t2 7 = spec_l03Round.l1 m S K W [(t1 + t2) % 4294967296, a, b, c, (d + t1) % 4294967296, e, f, g] (wrap64 (t + 1)) := by
  simp [spec_l03Round.l2, wrap64, rd]
theorem l1_ev (S W : List Int) (hS : All8 S) (hW : W.length = 64) : ∀ (d t : Nat), t + d = 64 → ∀ V, All8 V → V = sha_v S sha_K W t → Ev (fun n => spec_l03Round.l1 n S sha_K W V (t : Int)) (sha_o S (sha_v S sha_K W 64) 8) := by
  intro d
  induction d with
  | zero =>
    intro t ht V h8 hV
    obtain rfl : t = 64 := by omega
    refine ev_st ?_
    simp only [spec_l03Round.l1, show ¬ (((64 : Nat) : Int) < 64) from by omega, ↓reduceIte]
    rw [← hV]
    exact l3_ev S V hS h8
  | succ d ih =>
    intro t ht V h8 hV
    have e1 : wrap64 ((t : Int) + 1) = ((t + 1 : Nat) : Int) := by rw [w64 (by omega) (by omega)]; omega
    have g := ih (t + 1) (by omega) (sha_step sha_K W t V) (step_all8 sha_K W t h8) (by rw [sha_v, ← hV])
    have u0 := h8.at8 0 (by omega)
    have u4 := h8.at8 4 (by omega)
    have c4 := compl_eq u4
    have s4 := l03S_false u4 6 11 25 (by omega) (by omega) (by omega)
    have s0 := l03S_false u0 2 13 22 (by omega) (by omega) (by omega)
    obtain ⟨a, b, c, d', e, f, g', i, rfl, _⟩ := h8.mk8
    refine ev_st ?_
    have hKl : (sha_K.length : Int) = 64 := rfl
    have q1 : (t : Int) < 64 := by omega
    have q2 : (0 : Int) ≤ (t : Int) := by omega
    have q3 : (t : Int) < (W.length : Int) := by omega
    have q4 : (t : Int) < (sha_K.length : Int) := by omega
    have s4' : spec_l03S.f (rd [a, b, c, d', e, f, g', i] 4) 64 2048 33554432 false = _ := s4
    have s0' : spec_l03S.f (rd [a, b, c, d', e, f, g', i] 0) 4 8192 4194304 false = _ := s0
    simp only [spec_l03Round.l1, q1, q2, q3, q4, ↓reduceIte, List.length_cons, List.length_nil, s4', s0', Option.bind_some,
      show (4 : Int) < ((0 + 1 + 1 + 1 + 1 + 1 + 1 + 1 + 1 : Nat) : Int) from by omega, show (5 : Int) < ((0 + 1 + 1 + 1 + 1 + 1 + 1 + 1 + 1 : Nat) : Int) from by omega, show (6 : Int) < ((0 + 1 + 1 + 1 + 1 + 1 + 1 + 1 + 1 : Nat) : Int) from by omega, show (7 : Int) < ((0 + 1 + 1 + 1 + 1 + 1 + 1 + 1 + 1 : Nat) : Int) from by omega,
      show (0 : Int) < ((0 + 1 + 1 + 1 + 1 + 1 + 1 + 1 + 1 : Nat) : Int) from by omega, show (1 : Int) < ((0 + 1 + 1 + 1 + 1 + 1 + 1 + 1 + 1 : Nat) : Int) from by omega, show (2 : Int) < ((0 + 1 + 1 + 1 + 1 + 1 + 1 + 1 + 1 : Nat) : Int) from by omega]
    obtain ⟨N, hN⟩ := g
    refine ⟨N + 8, fun n hn => ?_⟩
    obtain ⟨m, rfl⟩ : ∃ m, n = m + 8 := ⟨n - 8, by omega⟩
    refine (l2_shift S sha_K W a b c d' e f g' i t _ _ m).trans ?_
    rw [e1]
    have r := hN m (by omega)
    unfold sha_step at r
    rw [show (4 : Int) = ((4 : Nat) : Int) from rfl, c4] at r
    exact r
theorem take_set_succ (l : List Int) (t : Nat) (x : Int) (h : t < l.length) : (l.set t x).take (t + 1) = l.take t ++ [x] := by
  rw [List.take_succ_eq_append_getElem (by rw [List.length_set]; exact h), List.getElem_set_self, List.take_set_of_le (Nat.le_refl _)]
theorem l0_ev (S : List Int) (b : ByteArray) (h : 64 ≤ b.size) (hs : b.size ≤ 4611686018427387904) (hS : S.length = 8) (r : List Int) (hr : Ev (fun n => spec_l03Round.l1 n S sha_K (sha_w b 64) S 0) r) :
    ∀ (d t : Nat), 16 ≤ t → t + d = 64 → Ev (fun n => spec_l03Round.l0 n S sha_K ((sha_w b t).take t) (t : Int)) r := by
  intro d
  induction d with
  | zero =>
    intro t h16 ht
    obtain rfl : t = 64 := by omega
    refine ev_st ?_
    simp only [spec_l03Round.l0, show ¬ (((64 : Nat) : Int) < 64) from by omega, ↓reduceIte, Option.bind_some, List.length_nil, hS, show 0 + 8 < 35184372088832 from by omega, List.nil_append]
    rw [List.take_of_length_le (by rw [sha_w_len]; exact Nat.le_refl _)]
    exact hr
  | succ d ih =>
    intro t h16 ht
    have g := ih (t + 1) (by omega) (by omega)
    have e1 : wrap64 ((t : Int) + 1) = ((t + 1 : Nat) : Int) := by rw [w64 (by omega) (by omega)]; omega
    have ix : ∀ j : Nat, j ≤ 16 → 0 < j → wrap64 ((t : Int) - (j : Int)) = ((t - j : Nat) : Int) ∧ (0 : Int) ≤ ((t - j : Nat) : Int) ∧ ((t - j : Nat) : Int) < (((sha_w b t).take t).length : Int) ∧ rd ((sha_w b t).take t) ((t - j : Nat) : Int) = rd (sha_w b t) ((t - j : Nat) : Int) := fun j hj h0 =>
      ⟨by rw [w64 (by omega) (by omega)]; omega, by omega, by rw [List.length_take, sha_w_len]; omega, rd_take _ _ _ (by omega)⟩
    obtain ⟨i2, p2, l2, r2⟩ := ix 2 (by omega) (by omega)
    obtain ⟨i7, p7, l7, r7⟩ := ix 7 (by omega) (by omega)
    obtain ⟨i15, p15, l15, r15⟩ := ix 15 (by omega) (by omega)
    obtain ⟨i16, p16, l16, r16⟩ := ix 16 (by omega) (by omega)
    have u2 := l03S_true (sha_w_u32 b h hs t (t - 2) (by omega)) 17 19 1024 (by omega) (by omega) (by omega)
    have u15 := l03S_true (sha_w_u32 b h hs t (t - 15) (by omega)) 7 18 8 (by omega) (by omega) (by omega)
    have u2' : spec_l03S.f (rd (sha_w b t) ((t - 2 : Nat) : Int)) 131072 524288 1024 true = _ := u2
    have u15' : spec_l03S.f (rd (sha_w b t) ((t - 15 : Nat) : Int)) 128 262144 8 true = _ := u15
    refine ev_st ?_
    have q1 : (t : Int) < 64 := by omega
    have q5 : ((sha_w b t).take t).length < 35184372088832 := by rw [List.length_take]; omega
    have j2 : wrap64 ((t : Int) - 2) = ((t - 2 : Nat) : Int) := i2
    have j7 : wrap64 ((t : Int) - 7) = ((t - 7 : Nat) : Int) := i7
    have j15 : wrap64 ((t : Int) - 15) = ((t - 15 : Nat) : Int) := i15
    have j16 : wrap64 ((t : Int) - 16) = ((t - 16 : Nat) : Int) := i16
    simp only [spec_l03Round.l0, q1, ↓reduceIte, j2, j7, j15, j16, p2, p7, p15, p16, l2, l7, l15, l16, r2, r7, r15, r16, u2', u15', Option.bind_some, q5, e1]
    have k : (sha_w b (t + 1)).take (t + 1) = (sha_w b t).take t ++ [sha_nx (sha_w b t) t] := by
      rw [sha_w, if_neg (by omega)]
      exact take_set_succ _ _ _ (by rw [sha_w_len]; omega)
    rw [k] at g
    exact g
theorem ws_u32 (s : ByteArray) : ∀ (n t : Nat), ∀ x ∈ ws s t n, U32 x
  | 0, _, x, h => by cases h
  | n + 1, t, x, h => by
    rw [ws] at h
    rcases List.mem_cons.1 h with rfl | h
    · exact wv_u32 _ _
    · exact ws_u32 s n _ x h
theorem ws_all8 (s : ByteArray) : All8 (ws s 0 8) := ⟨ws_len s 8 0, ws_u32 s 8 0⟩
/-- What a block makes of a state's words. -/
def blk (S : List Int) (b : ByteArray) : List Int := sha_o S (sha_v S sha_K (sha_w b 64) 64) 8
theorem blk_all8 {S : List Int} (h : All8 S) (b : ByteArray) : All8 (blk S b) := o_all8 h (v_all8 _ _ h _)
theorem l03Round_ev {S : List Int} (hS : All8 S) (b : ByteArray) (hb : b.size = 64) : Ev (fun n => spec_l03Round.f n S sha_K b) (blk S b) := by
  simp only [spec_l03Round.f]
  refine Ev.bind (l03Words_ev b 16 (by omega) (by omega)) ?_
  have k := l0_ev S b (by omega) (by omega) hS.1 (blk S b) (l1_ev S (sha_w b 64) hS (sha_w_len b 64) 64 0 (by omega) S hS rfl) 48 16 (by omega) (by omega)
  rw [sha_w_ws b (by omega) (by omega)] at k
  exact k
def outB : List Int → List Int
  | [] => []
  | x :: t => (x / 16777216) % 256 :: (x / 65536) % 256 :: (x / 256) % 256 :: x % 256 :: outB t
theorem sha_out_eq {L : List Int} (h : All8 L) : sha_out L = strOfNums (outB L) := by
  have k := sha_out_is L h.1
  obtain ⟨a, b, c, d, e, f, g, i, rfl, _⟩ := h.mk8
  have q : impl_wordBytes.f 9 [a, b, c, d, e, f, g, i] = some (strOfNums (outB [a, b, c, d, e, f, g, i])) := by
    simp [impl_wordBytes.f, impl_wordBytes.l0, wrap64, outB, rd]
  rw [q] at k
  exact (Option.some.inj k).symm
theorem outB_range : ∀ L : List Int, ∀ x ∈ outB L, 0 ≤ x ∧ x < 256
  | [], x, h => by cases h
  | y :: t, x, h => by
    simp only [outB, List.mem_cons] at h
    rcases h with rfl | rfl | rfl | rfl | h
    · omega
    · omega
    · omega
    · omega
    · exact outB_range t x h
theorem outB_len : ∀ L : List Int, (outB L).length = 4 * L.length
  | [] => rfl
  | y :: t => by simp only [outB, List.length_cons, outB_len t]; omega
theorem str_size {xs : List Int} : (strOfNums xs).size = xs.length := by
  have : (strOfNums xs).data.toList.length = xs.length := by rw [strOfNums_data, List.length_map]
  simpa using this
theorem bt_strOf {xs : List Int} (h : ∀ x ∈ xs, 0 ≤ x ∧ x < 256) (i : Int) : bt (strOfNums xs) i = rd xs i := by
  rw [← rd_bytesOf, bytesOf_str h]
theorem sha_out_size {L : List Int} (h : All8 L) : (sha_out L).size = 32 := by rw [sha_out_eq h, str_size, outB_len, h.1]
theorem ws_out {L : List Int} (h : All8 L) : ws (sha_out L) 0 8 = L := by
  rw [sha_out_eq h]
  have r := outB_range L
  obtain ⟨a, b, c, d, e, f, g, i, rfl, ua, ub, uc, ud, ue, uf, ug, ui⟩ := h.mk8
  have one : ∀ (j : Nat) (x : Int), U32 x → rd (outB [a, b, c, d, e, f, g, i]) ((j : Nat) : Int) = (x / 16777216) % 256 → rd (outB [a, b, c, d, e, f, g, i]) ((j + 1 : Nat) : Int) = (x / 65536) % 256 → rd (outB [a, b, c, d, e, f, g, i]) ((j + 2 : Nat) : Int) = (x / 256) % 256 → rd (outB [a, b, c, d, e, f, g, i]) ((j + 3 : Nat) : Int) = x % 256 → wv (strOfNums (outB [a, b, c, d, e, f, g, i])) j = x := by
    intro j x u h0 h1 h2 h3
    unfold wv
    rw [bt_strOf r, bt_strOf r, bt_strOf r, bt_strOf r, h0, h1, h2, h3]
    have := u.1
    have := u.2
    omega
  simp only [ws]
  rw [one 0 a ua rfl rfl rfl rfl, one 4 b ub rfl rfl rfl rfl, one 8 c uc rfl rfl rfl rfl, one 12 d ud rfl rfl rfl rfl, one 16 e ue rfl rfl rfl rfl, one 20 f uf rfl rfl rfl rfl, one 24 g ug rfl rfl rfl rfl, one 28 i ui rfl rfl rfl rfl]
theorem l03Bytes_ev {L : List Int} (h : All8 L) : Ev (fun n => spec_l03Bytes.f n L) (sha_out L) := by
  rw [sha_out_eq h]
  obtain ⟨a, b, c, d, e, f, g, i, rfl, ua, ub, uc, ud, ue, uf, ug, ui⟩ := h.mk8
  have q : ∀ x : Int, U32 x → ((Int.tdiv x 16777216) % 4294967296) % 256 = (x / 16777216) % 256 ∧ ((Int.tdiv x 65536) % 4294967296) % 256 = (x / 65536) % 256 ∧ ((Int.tdiv x 256) % 4294967296) % 256 = (x / 256) % 256 ∧ (Int.tmod x 256) % 256 = x % 256 := fun x u => by
    have := u.1
    have := u.2
    rw [Int.tdiv_eq_ediv_of_nonneg u.1, Int.tdiv_eq_ediv_of_nonneg u.1, Int.tdiv_eq_ediv_of_nonneg u.1, Int.tmod_eq_emod_of_nonneg u.1]
    refine ⟨by omega, by omega, by omega, by omega⟩
  refine ⟨9, fun n hn => ?_⟩
  obtain ⟨m, rfl⟩ : ∃ m, n = m + 9 := ⟨n - 9, by omega⟩
  simp only [spec_l03Bytes.f]
  have z : spec_l03Bytes.l0 (m + 9) [a, b, c, d, e, f, g, i] [] 0 = some (strOfNums [((Int.tdiv a 16777216) % 4294967296) % 256, ((Int.tdiv a 65536) % 4294967296) % 256, ((Int.tdiv a 256) % 4294967296) % 256, (Int.tmod a 256) % 256, ((Int.tdiv b 16777216) % 4294967296) % 256, ((Int.tdiv b 65536) % 4294967296) % 256, ((Int.tdiv b 256) % 4294967296) % 256, (Int.tmod b 256) % 256,
    ((Int.tdiv c 16777216) % 4294967296) % 256, ((Int.tdiv c 65536) % 4294967296) % 256, ((Int.tdiv c 256) % 4294967296) % 256, (Int.tmod c 256) % 256, ((Int.tdiv d 16777216) % 4294967296) % 256, ((Int.tdiv d 65536) % 4294967296) % 256, ((Int.tdiv d 256) % 4294967296) % 256, (Int.tmod d 256) % 256,
    ((Int.tdiv e 16777216) % 4294967296) % 256, ((Int.tdiv e 65536) % 4294967296) % 256, ((Int.tdiv e 256) % 4294967296) % 256, (Int.tmod e 256) % 256, ((Int.tdiv f 16777216) % 4294967296) % 256, ((Int.tdiv f 65536) % 4294967296) % 256, ((Int.tdiv f 256) % 4294967296) % 256, (Int.tmod f 256) % 256,
    ((Int.tdiv g 16777216) % 4294967296) % 256, ((Int.tdiv g 65536) % 4294967296) % 256, ((Int.tdiv g 256) % 4294967296) % 256, (Int.tmod g 256) % 256, ((Int.tdiv i 16777216) % 4294967296) % 256, ((Int.tdiv i 65536) % 4294967296) % 256, ((Int.tdiv i 256) % 4294967296) % 256, (Int.tmod i 256) % 256]) := by
    simp [spec_l03Bytes.l0, wrap64, rd]
  rw [z, (q a ua).1, (q a ua).2.1, (q a ua).2.2.1, (q a ua).2.2.2, (q b ub).1, (q b ub).2.1, (q b ub).2.2.1, (q b ub).2.2.2, (q c uc).1, (q c uc).2.1, (q c uc).2.2.1, (q c uc).2.2.2, (q d ud).1, (q d ud).2.1, (q d ud).2.2.1, (q d ud).2.2.2,
    (q e ue).1, (q e ue).2.1, (q e ue).2.2.1, (q e ue).2.2.2, (q f uf).1, (q f uf).2.1, (q f uf).2.2.1, (q f uf).2.2.2, (q g ug).1, (q g ug).2.1, (q g ug).2.2.1, (q g ug).2.2.2, (q i ui).1, (q i ui).2.1, (q i ui).2.2.1, (q i ui).2.2.2]
  rfl
/-- The program's block. -/
theorem impl_round_eq (s b : ByteArray) (hs : s.size = 32) (hb : b.size = 64) : impl_round.f s b = some (sha_out (blk (ws s 0 8) b)) := by
  unfold impl_round.f blk
  rw [if_pos ⟨⟨by omega, by omega⟩, ⟨by omega, by omega⟩⟩, sha_s_ws s (by omega) (by omega)]

/-! blocks -/
theorem list_rd {xs ys : List Int} (h : xs.length = ys.length) (k : ∀ j : Nat, j < xs.length → rd xs (j : Int) = rd ys (j : Int)) : xs = ys := by
  apply List.ext_getElem h
  intro n h1 h2
  have q := k n h1
  unfold rd at q
  rw [Int.toNat_natCast, List.getD_eq_getElem?_getD, List.getD_eq_getElem?_getD, List.getElem?_eq_getElem h1, List.getElem?_eq_getElem h2] at q
  exact q
theorem out_ws (s : ByteArray) (h : s.size = 32) : sha_out (ws s 0 8) = s := by
  rw [sha_out_eq (ws_all8 s), ← str_bytesOf s]
  congr 1
  rw [str_bytesOf s]
  refine list_rd (by rw [outB_len, ws_len, bytesOf_length, h]) ?_
  rw [outB_len, ws_len]
  have one : ∀ i : Nat, wv s i / 16777216 % 256 = bt s ((i : Nat) : Int) ∧ wv s i / 65536 % 256 = bt s ((i + 1 : Nat) : Int) ∧ wv s i / 256 % 256 = bt s ((i + 2 : Nat) : Int) ∧ wv s i % 256 = bt s ((i + 3 : Nat) : Int) := by
    intro i
    unfold wv
    have a := bt_range s ((i : Nat) : Int); have b := bt_range s ((i + 1 : Nat) : Int); have c := bt_range s ((i + 2 : Nat) : Int); have d := bt_range s ((i + 3 : Nat) : Int)
    refine ⟨by omega, by omega, by omega, by omega⟩
  simp only [ws, outB, (one _).1, (one _).2.1, (one _).2.2.1, (one _).2.2.2]
  intro j hj
  rw [rd_bytesOf]
  match j, hj with
  | 0, _ | 1, _ | 2, _ | 3, _ | 4, _ | 5, _ | 6, _ | 7, _ | 8, _ | 9, _ | 10, _ | 11, _ | 12, _ | 13, _ | 14, _ | 15, _ | 16, _ | 17, _ | 18, _ | 19, _ | 20, _ | 21, _ | 22, _ | 23, _ | 24, _ | 25, _ | 26, _ | 27, _ | 28, _ | 29, _ | 30, _ | 31, _ => rfl
  | n + 32, h => exact absurd h (by omega)
theorem spec_l03K_eq : spec_l03K.f = some sha_K := rfl
/-- n blocks of a text, from the t-th on. -/
def blks (b : ByteArray) : Nat → Nat → List Int → List Int
  | _, 0, S => S
  | t, d + 1, S => blks b (t + 1) d (blk S (b.extract (64 * t) (64 * t + 64)))
theorem blks_all8 (b : ByteArray) : ∀ (d t : Nat) {S : List Int}, All8 S → All8 (blks b t d S)
  | 0, _, _, h => h
  | d + 1, t, _, h => blks_all8 b d (t + 1) (blk_all8 h _)
theorem extract_extract' (b : ByteArray) (i j z : Nat) (h : i + j ≤ z) (hz : z ≤ b.size) : (b.extract i b.size).extract j (b.extract i b.size).size = b.extract (i + j) b.size := by
  apply bytesOf_inj
  simp only [bytesOf_extract, ByteArray.size_extract, Nat.min_self]
  rw [List.take_of_length_le (i := b.size) (by rw [bytesOf_length]; exact Nat.le_refl _), List.take_of_length_le (by rw [List.length_drop, bytesOf_length]; exact Nat.le_refl _), List.drop_drop]
theorem extract_head (b : ByteArray) (i j : Nat) (hz : i + j ≤ b.size) : (b.extract i b.size).extract 0 j = b.extract i (i + j) := by
  apply bytesOf_inj
  simp only [bytesOf_extract, List.drop_zero]
  rw [List.take_of_length_le (i := b.size) (by rw [bytesOf_length]; exact Nat.le_refl _), List.drop_take, Nat.add_sub_cancel_left]
theorem blocks_l0 (buf : ByteArray) : ∀ (d t : Nat), t + d = buf.size / 64 → ∀ S, All8 S → Ev (fun k => impl_blocks.l0 k (sha_out S) (buf.extract (64 * t) buf.size)) (sha_out (blks buf t d S), buf.extract (64 * (buf.size / 64)) buf.size) := by
  intro d
  induction d with
  | zero =>
    intro t ht S hS
    refine ev_st ?_
    have e : ¬ (((buf.extract (64 * t) buf.size).size : Int) ≥ 64) := by rw [ByteArray.size_extract]; omega
    simp only [impl_blocks.l0, e, ↓reduceIte, blks]
    rw [show t = buf.size / 64 from by omega]
    exact Ev.now _
  | succ d ih =>
    intro t ht S hS
    refine ev_st ?_
    have e : ((buf.extract (64 * t) buf.size).size : Int) ≥ 64 := by rw [ByteArray.size_extract]; omega
    have e' : (64 : Int) ≤ ((buf.extract (64 * t) buf.size).size : Int) := e
    have hz : (buf.extract (64 * t) (64 * t + 64)).size = 64 := by rw [ByteArray.size_extract]; omega
    have g := ih (t + 1) (by omega) (blk S (buf.extract (64 * t) (64 * t + 64))) (blk_all8 hS _)
    simp only [impl_blocks.l0, e, e', ↓reduceIte, show (0 : Int) ≤ 64 from by omega, extract_head buf (64 * t) 64 (by omega), impl_round_eq _ _ (sha_out_size hS) hz, ws_out hS, Option.bind_some,
      extract_extract' buf (64 * t) 64 buf.size (by omega) (Nat.le_refl _)]
    exact g
theorem ok_facts {st rest : ByteArray} {n : Int} (h : hasherOk st rest n = true) : st.size = 32 ∧ rest.size < 64 ∧ 0 ≤ n ∧ n ≤ 1000000000 ∧ (rest.size : Int) = n % 64 := by
  unfold hasherOk at h
  have := of_decide_eq_true h
  exact ⟨by omega, by omega, by omega, by omega, by omega⟩

/-! HashMore, both ways -/
theorem more_l0 (a1 buf x0 x1 : ByteArray) (n : Int) (hb : buf.size ≤ 4611686018427387904) : ∀ (d t : Nat), t + d = buf.size / 64 → ∀ S, All8 S →
    Ev (fun k => spec_HashMore.l0 k a1 S sha_K buf ((64 * t : Nat) : Int) x0 x1 n) (sha_out (blks buf t d S), buf.extract (64 * (buf.size / 64)) buf.size, wrap64 (n + (a1.size : Int))) := by
  intro d
  induction d with
  | zero =>
    intro t ht S hS
    refine ev_st ?_
    have e : wrap64 (((64 * t : Nat) : Int) + 64) = ((64 * t + 64 : Nat) : Int) := by rw [w64 (by omega) (by omega)]; omega
    simp only [spec_HashMore.l0, e, show ¬ (((64 * t + 64 : Nat) : Int) ≤ (buf.size : Int)) from by omega, ↓reduceIte, blks]
    refine Ev.bind (l03Bytes_ev hS) ?_
    rw [if_pos (by omega), if_pos (by omega), Int.toNat_natCast, show t = buf.size / 64 from by omega]
    exact Ev.now _
  | succ d ih =>
    intro t ht S hS
    refine ev_st ?_
    have e : wrap64 (((64 * t : Nat) : Int) + 64) = ((64 * t + 64 : Nat) : Int) := by rw [w64 (by omega) (by omega)]; omega
    simp only [spec_HashMore.l0, e, show ((64 * t + 64 : Nat) : Int) ≤ (buf.size : Int) from by omega, ↓reduceIte, show (0 : Int) ≤ ((64 * t : Nat) : Int) from by omega, show ((64 * t : Nat) : Int) ≤ ((64 * t + 64 : Nat) : Int) from by omega, Int.toNat_natCast]
    have hz : (buf.extract (64 * t) (64 * t + 64)).size = 64 := by rw [ByteArray.size_extract]; omega
    refine Ev.bind (l03Round_ev hS _ hz) ?_
    have g := ih (t + 1) (by omega) (blk S (buf.extract (64 * t) (64 * t + 64))) (blk_all8 hS _)
    exact g
/-- What HashMore answers. -/
def more (st rest : ByteArray) (n : Int) (s : ByteArray) : ByteArray × ByteArray × Int :=
  if hasherOk st rest n = true ∧ n + (s.size : Int) ≤ 1000000000 then (sha_out (blks (rest ++ s) 0 ((rest ++ s).size / 64) (ws st 0 8)), (rest ++ s).extract (64 * ((rest ++ s).size / 64)) (rest ++ s).size, n + (s.size : Int)) else (st, rest, n)
theorem specMore_ev (st rest : ByteArray) (n : Int) (s : ByteArray) (hs : s.size ≤ 4611686018427387000) : Ev (fun k => spec_HashMore.f k st rest n s) (more st rest n s) := by
  simp only [spec_HashMore.f, spec_HasherOk_eq, Option.bind_some]
  by_cases ho : hasherOk st rest n = true
  · obtain ⟨h32, h64, h0, h9, _⟩ := ok_facts ho
    have e : wrap64 (n + (s.size : Int)) = n + (s.size : Int) := w64 (by omega) (by omega)
    simp only [ho, ↓reduceIte, e]
    by_cases hn : n + (s.size : Int) ≤ 1000000000
    · rw [decide_eq_false (by omega)]
      refine ev_st ?_
      simp only [spec_HashMore.j0, Bool.false_eq_true, ↓reduceIte]
      refine Ev.bind (l03Words_ev st 8 (by omega) (by omega)) ?_
      have c2 : rest.size + s.size ≤ 9223372036854775807 := by omega
      simp only [spec_l03K_eq, Option.bind_some, c2, ↓reduceIte]
      have hz : (rest ++ s).size = rest.size + s.size := ByteArray.size_append
      have g := more_l0 s (rest ++ s) st rest n (by omega) ((rest ++ s).size / 64) 0 (by omega) (ws st 0 8) (ws_all8 st)
      rw [e] at g
      have w : more st rest n s = (sha_out (blks (rest ++ s) 0 ((rest ++ s).size / 64) (ws st 0 8)), (rest ++ s).extract (64 * ((rest ++ s).size / 64)) (rest ++ s).size, n + (s.size : Int)) := by unfold more; rw [if_pos ⟨ho, hn⟩]
      rw [w]
      exact g
    · rw [decide_eq_true (by omega)]
      refine ev_st ?_
      have w : more st rest n s = (st, rest, n) := by unfold more; rw [if_neg (fun h => hn h.2)]
      simp only [spec_HashMore.j0, ↓reduceIte]
      rw [w]
      exact Ev.now _
  · simp only [ho, Bool.false_eq_true, ↓reduceIte]
    refine ev_st ?_
    have w : more st rest n s = (st, rest, n) := by unfold more; rw [if_neg (fun h => ho h.1)]
    simp only [spec_HashMore.j0, ↓reduceIte]
    rw [w]
    exact Ev.now _

theorem implMore_ev (st rest : ByteArray) (n : Int) (s : ByteArray) (hs : s.size ≤ 4611686018427387000) : Ev (fun k => impl_HashMore.f k st rest n s) (more st rest n s) := by
  simp only [impl_HashMore.f, impl_HasherOk_eq, Option.bind_some]
  by_cases ho : hasherOk st rest n = true
  · obtain ⟨h32, h64, h0, h9, _⟩ := ok_facts ho
    have e : wrap64 (n + (s.size : Int)) = n + (s.size : Int) := w64 (by omega) (by omega)
    have e2 : wrap64 (1000000000 - n) = 1000000000 - n := w64 (by omega) (by omega)
    simp only [ho, ↓reduceIte, e, e2]
    by_cases hn : n + (s.size : Int) ≤ 1000000000
    · have c1 : ¬ ((s.size : Int) > 1000000000 - n) := by omega
      have c2 : rest.size + s.size ≤ 9223372036854775807 := by omega
      simp only [c1, c2, ↓reduceIte]
      have g := blocks_l0 (rest ++ s) ((rest ++ s).size / 64) 0 (by omega) (ws st 0 8) (ws_all8 st)
      rw [out_ws st h32, Nat.mul_zero, ByteArray.extract_zero_size] at g
      have w : more st rest n s = (sha_out (blks (rest ++ s) 0 ((rest ++ s).size / 64) (ws st 0 8)), (rest ++ s).extract (64 * ((rest ++ s).size / 64)) (rest ++ s).size, n + (s.size : Int)) := by unfold more; rw [if_pos ⟨ho, hn⟩]
      rw [w]
      simp only [impl_blocks.f]
      exact Ev.bind g (Ev.now _)
    · have w : more st rest n s = (st, rest, n) := by unfold more; rw [if_neg (fun h => hn h.2)]
      have c1 : (s.size : Int) > 1000000000 - n := by omega
      simp only [c1, ↓reduceIte]
      rw [w]
      exact Ev.now _
  · have w : more st rest n s = (st, rest, n) := by unfold more; rw [if_neg (fun h => ho h.1)]
    simp only [ho, Bool.false_eq_true, ↓reduceIte]
    rw [w]
    exact Ev.now _

/-! HashEnd, both ways -/
def downs (v : Nat) : Nat → List Int
  | 0 => []
  | i + 1 => ((v / 256 ^ i % 256 : Nat) : Int) :: downs v i
theorem downs_len (v : Nat) : ∀ i, (downs v i).length = i
  | 0 => rfl
  | i + 1 => by rw [downs, List.length_cons, downs_len v i]
theorem downs_range (v : Nat) : ∀ i, ∀ x ∈ downs v i, 0 ≤ x ∧ x < 256
  | 0, x, h => by cases h
  | i + 1, x, h => by
    rw [downs] at h
    rcases List.mem_cons.1 h with rfl | h
    · have := Nat.mod_lt (v / 256 ^ i) (show 0 < 256 from by omega)
      exact ⟨by omega, by omega⟩
    · exact downs_range v i x h
/-- What is hashed last: the rest, a bit, noughts, the count of bits. -/
def endL (rest : ByteArray) (n : Int) : List Int := bytesOf rest ++ [128] ++ List.replicate ((119 - rest.size) % 64) 0 ++ downs (8 * n).toNat 8
theorem endL_len (rest : ByteArray) (n : Int) : (endL rest n).length = rest.size + 1 + (119 - rest.size) % 64 + 8 := by
  simp only [endL, List.length_append, List.length_replicate, bytesOf_length, List.length_singleton, downs_len]
theorem endL_range (rest : ByteArray) (n : Int) : ∀ x ∈ endL rest n, 0 ≤ x ∧ x < 256 := by
  intro x h
  simp only [endL, List.mem_append, List.mem_singleton, List.mem_replicate] at h
  rcases h with ((h | rfl) | ⟨_, rfl⟩) | h
  · exact bytesOf_range rest x h
  · omega
  · omega
  · exact downs_range _ _ x h
theorem endL_mod (rest : ByteArray) (n : Int) (h : rest.size < 64) : (endL rest n).length % 64 = 0 ∧ (endL rest n).length < 200 := by
  rw [endL_len]
  omega
/-- The digest. -/
def fin (st rest : ByteArray) (n : Int) : ByteArray := sha_out (blks (strOfNums (endL rest n)) 0 ((endL rest n).length / 64) (ws st 0 8))
theorem fin_size (st rest : ByteArray) (n : Int) : (fin st rest n).size = 32 := sha_out_size (blks_all8 _ _ _ (ws_all8 st))
theorem cut_str {T : List Int} (h : ∀ x ∈ T, 0 ≤ x ∧ x < 256) (a b : Nat) : strOfNums ((T.take b).drop a) = (strOfNums T).extract a b := by
  apply bytesOf_inj
  rw [bytesOf_extract, bytesOf_str h, bytesOf_str]
  intro x hx
  exact h x (List.mem_of_mem_take (List.mem_of_mem_drop hx))

theorem end_l3 (T : List Int) (hr : ∀ x ∈ T, 0 ≤ x ∧ x < 256) (q : Nat) (hq : T.length = 64 * q) (hb : q ≤ 1000) : ∀ (d t : Nat), t + d = q → ∀ S, All8 S →
    Ev (fun k => spec_HashEnd.l3 k T S sha_K ((64 * t : Nat) : Int)) (sha_out (blks (strOfNums T) t d S)) := by
  intro d
  induction d with
  | zero =>
    intro t ht S hS
    refine ev_st ?_
    simp only [spec_HashEnd.l3, show ¬ (((64 * t : Nat) : Int) < (T.length : Int)) from by omega, ↓reduceIte, blks]
    exact Ev.bind (l03Bytes_ev hS) (Ev.now _)
  | succ d ih =>
    intro t ht S hS
    refine ev_st ?_
    have e : wrap64 (((64 * t : Nat) : Int) + 64) = ((64 * t + 64 : Nat) : Int) := by rw [w64 (by omega) (by omega)]; omega
    simp only [spec_HashEnd.l3, e, show ((64 * t : Nat) : Int) < (T.length : Int) from by omega, ↓reduceIte, show (0 : Int) ≤ ((64 * t : Nat) : Int) from by omega, show ((64 * t : Nat) : Int) ≤ ((64 * t + 64 : Nat) : Int) from by omega,
      show ((64 * t + 64 : Nat) : Int) ≤ (T.length : Int) from by omega, Int.toNat_natCast, cut_str hr]
    have hz : ((strOfNums T).extract (64 * t) (64 * t + 64)).size = 64 := by rw [ByteArray.size_extract, str_size]; omega
    refine Ev.bind (l03Round_ev hS _ hz) ?_
    exact ih (t + 1) (by omega) _ (blk_all8 hS _)
theorem end_l2 (x3 : List Int) (x4 : Int) (a b : ByteArray) (n : Int) (i : Nat) (hi : i ≤ 100) (h3 : x3.length < 100000) (R : ByteArray) : ∀ (d j v : Nat), j + d = i → v < 4611686018427387904 →
    Ev (fun k => spec_HashEnd.l1 k (x3 ++ [((v / 256 ^ d % 256 : Nat) : Int)]) x4 ((i : Int) - 1) a b n) R → Ev (fun k => spec_HashEnd.l2 k x3 x4 (i : Int) (v : Int) (j : Int) a b n) R := by
  intro d
  induction d with
  | zero =>
    intro j v hj hv h
    refine ev_st ?_
    have e1 : wrap64 ((i : Int) - 1) = (i : Int) - 1 := w64 (by omega) (by omega)
    have e2 : Int.tmod (v : Int) 256 % 256 = ((v / 256 ^ 0 % 256 : Nat) : Int) := by rw [Int.tmod_eq_emod_of_nonneg (by omega), Nat.pow_zero, Nat.div_one]; omega
    simp only [spec_HashEnd.l2, show ¬ ((j : Int) < (i : Int)) from by omega, ↓reduceIte, e1, e2, show x3.length < 140737488355328 from by omega]
    exact h
  | succ d ih =>
    intro j v hj hv h
    refine ev_st ?_
    have e1 : wrap64 (Int.tdiv (v : Int) 256) = ((v / 256 : Nat) : Int) := by rw [Int.tdiv_eq_ediv_of_nonneg (by omega), w64 (by omega) (by omega)]; omega
    have e2 : wrap64 ((j : Int) + 1) = ((j + 1 : Nat) : Int) := by rw [w64 (by omega) (by omega)]; omega
    simp only [spec_HashEnd.l2, show (j : Int) < (i : Int) from by omega, ↓reduceIte, e1, e2]
    refine ih (j + 1) (v / 256) (by omega) (by omega) ?_
    have e3 : v / 256 / 256 ^ d = v / 256 ^ (d + 1) := by rw [Nat.div_div_eq_div_mul, Nat.pow_succ, Nat.mul_comm]
    rw [e3]
    exact h
theorem end_l1 (st b : ByteArray) (n : Int) (v : Nat) (hv : v < 4611686018427387904) (R : ByteArray) : ∀ (i : Nat) (L : List Int), i ≤ 8 → L.length + i < 10000 →
    Ev (fun k => spec_HashEnd.l1 k (L ++ downs v i) (v : Int) (-1) st b n) R → Ev (fun k => spec_HashEnd.l1 k L (v : Int) ((i : Int) - 1) st b n) R := by
  intro i
  induction i with
  | zero =>
    intro L hi hL h
    rw [downs, List.append_nil] at h
    exact h
  | succ i ih =>
    intro L hi hL h
    refine ev_st ?_
    have e1 : ((i + 1 : Nat) : Int) - 1 = (i : Int) := by omega
    simp only [e1, spec_HashEnd.l1, show (i : Int) ≥ 0 from by omega, ↓reduceIte]
    refine end_l2 L (v : Int) st b n i (by omega) (by omega) R i 0 v (by omega) hv ?_
    refine ih _ (by omega) (by simp; omega) ?_
    rw [List.append_assoc]
    exact h
theorem end_l0 (st b : ByteArray) (n : Int) (R : ByteArray) : ∀ (z : Nat) (L : List Int), (∀ j, j < z → (L.length + j) % 64 ≠ 56) → (L.length + z) % 64 = 56 → L.length + z < 10000 →
    Ev (fun k => spec_HashEnd.l1 k (L ++ List.replicate z 0) (wrap64 (8 * n)) 7 st b n) R → Ev (fun k => spec_HashEnd.l0 k L st b n) R := by
  intro z
  induction z with
  | zero =>
    intro L h0 h1 h2 h
    refine ev_st ?_
    rw [List.replicate_zero, List.append_nil] at h
    simp only [spec_HashEnd.l0, show ((L.length : Int) % 64) = 56 from by omega, ↓reduceIte]
    exact h
  | succ z ih =>
    intro L h0 h1 h2 h
    refine ev_st ?_
    have q := h0 0 (by omega)
    simp only [spec_HashEnd.l0, show ¬ (((L.length : Int) % 64) = 56) from by omega, ↓reduceIte, show L.length < 140737488355328 from by omega]
    refine ih (L ++ [0]) (fun j hj => ?_) ?_ ?_ ?_
    · have := h0 (j + 1) (by omega)
      rw [List.length_append, List.length_singleton]
      omega
    · rw [List.length_append, List.length_singleton]; omega
    · rw [List.length_append, List.length_singleton]; omega
    · rw [List.append_assoc, List.singleton_append, ← List.replicate_succ]
      exact h
theorem specEnd_ev (st rest : ByteArray) (n : Int) : Ev (fun k => spec_HashEnd.f k st rest n) (if hasherOk st rest n = true then fin st rest n else (⟨#[]⟩ : ByteArray)) := by
  simp only [spec_HashEnd.f, spec_HasherOk_eq, Option.bind_some]
  by_cases ho : hasherOk st rest n = true
  · obtain ⟨h32, h64, h0, h9, hm⟩ := ok_facts ho
    have c1 : rest.size < 140737488355328 := by omega
    have c2 : (bytesOf rest).length < 140737488355328 := by rw [bytesOf_length]; omega
    simp only [ho, ↓reduceIte, c1, c2]
    have hL : (bytesOf rest ++ [128]).length = rest.size + 1 := by rw [List.length_append, bytesOf_length, List.length_singleton]
    have hv : ((8 * n).toNat : Int) = 8 * n := by omega
    have hw : wrap64 (8 * n) = (((8 * n).toNat : Nat) : Int) := by rw [w64 (by omega) (by omega)]; omega
    refine end_l0 st rest n _ ((119 - rest.size) % 64) _ (fun j hj => by rw [hL]; omega) (by rw [hL]; omega) (by rw [hL]; omega) ?_
    rw [hw]
    refine end_l1 st rest n (8 * n).toNat (by omega) _ 8 _ (by omega) (by rw [List.length_append, hL, List.length_replicate]; omega) ?_
    have el := endL_mod rest n h64
    refine ev_st ?_
    simp only [spec_HashEnd.l1, show ¬ ((-1 : Int) ≥ 0) from by omega, ↓reduceIte]
    refine Ev.bind (l03Words_ev st 8 (by omega) (by omega)) ?_
    simp only [spec_l03K_eq, Option.bind_some]
    exact end_l3 (endL rest n) (endL_range rest n) ((endL rest n).length / 64) (by omega) (by omega) _ 0 (by omega) _ (ws_all8 st)
  · simp only [ho, Bool.false_eq_true, ↓reduceIte]
    exact Ev.now _

theorem shr_v (v i : Nat) (hi : i ≤ 7) : (shr .i64 (v : Int) ((8 * i : Nat) : Int)) % 256 = ((v / 256 ^ i % 256 : Nat) : Int) := by
  unfold shr
  rw [Int.toNat_natCast, show IntKind.i64.bits = 64 from rfl, Nat.min_eq_left (by omega), Int.natCast_emod, Int.natCast_ediv, Int.natCast_pow, Int.pow_mul]
  rfl
theorem fin_l1 (st b : ByteArray) (n : Int) (v : Nat) (hw : wrap64 (8 * n) = (v : Int)) (R : ByteArray) : ∀ (i : Nat) (L : List Int), i ≤ 8 → L.length + i < 10000 →
    Ev (fun k => impl_finish.l1 k n (L ++ downs v i) (-8) st b) R → Ev (fun k => impl_finish.l1 k n L (8 * (i : Int) - 8) st b) R := by
  intro i
  induction i with
  | zero =>
    intro L hi hL h
    rw [downs, List.append_nil] at h
    exact h
  | succ i ih =>
    intro L hi hL h
    refine ev_st ?_
    have e1 : 8 * ((i + 1 : Nat) : Int) - 8 = ((8 * i : Nat) : Int) := by omega
    have e2 : wrap64 (((8 * i : Nat) : Int) - 8) = 8 * (i : Int) - 8 := by rw [w64 (by omega) (by omega)]; omega
    simp only [e1, impl_finish.l1, show ((8 * i : Nat) : Int) ≥ 0 from by omega, show (0 : Int) ≤ ((8 * i : Nat) : Int) from by omega, ↓reduceIte, hw, shr_v v i (by omega), e2, show L.length < 140737488355328 from by omega]
    refine ih _ (by omega) (by simp; omega) ?_
    rw [List.append_assoc]
    exact h
theorem fin_l0 (st b : ByteArray) (n : Int) (R : ByteArray) : ∀ (z : Nat) (L : List Int), (∀ j, j < z → (L.length + j) % 64 ≠ 56) → (L.length + z) % 64 = 56 → L.length + z < 10000 →
    Ev (fun k => impl_finish.l1 k n (L ++ List.replicate z 0) 56 st b) R → Ev (fun k => impl_finish.l0 k n L st b) R := by
  intro z
  induction z with
  | zero =>
    intro L h0 h1 h2 h
    refine ev_st ?_
    rw [List.replicate_zero, List.append_nil] at h
    simp only [impl_finish.l0, show ((L.length : Int) % 64) = 56 from by omega, ↓reduceIte]
    exact h
  | succ z ih =>
    intro L h0 h1 h2 h
    refine ev_st ?_
    have q := h0 0 (by omega)
    simp only [impl_finish.l0, show ¬ (((L.length : Int) % 64) = 56) from by omega, ↓reduceIte, show L.length < 140737488355328 from by omega]
    refine ih (L ++ [0]) (fun j hj => ?_) ?_ ?_ ?_
    · have := h0 (j + 1) (by omega)
      rw [List.length_append, List.length_singleton]
      omega
    · rw [List.length_append, List.length_singleton]; omega
    · rw [List.length_append, List.length_singleton]; omega
    · rw [List.append_assoc, List.singleton_append, ← List.replicate_succ]
      exact h
theorem finish_ev (st rest : ByteArray) (n : Int) (h32 : st.size = 32) (h64 : rest.size < 64) (h0 : 0 ≤ n) (h9 : n ≤ 1000000000) : Ev (fun k => impl_finish.f k st rest n) (fin st rest n) := by
  have c1 : rest.size < 140737488355328 := by omega
  have c2 : (bytesOf rest).length < 140737488355328 := by rw [bytesOf_length]; omega
  simp only [impl_finish.f, Option.bind_some, ↓reduceIte, c1, c2]
  have hL : (bytesOf rest ++ [128]).length = rest.size + 1 := by rw [List.length_append, bytesOf_length, List.length_singleton]
  have hw : wrap64 (8 * n) = (((8 * n).toNat : Nat) : Int) := by rw [w64 (by omega) (by omega)]; omega
  refine fin_l0 st rest n _ ((119 - rest.size) % 64) _ (fun j hj => by rw [hL]; omega) (by rw [hL]; omega) (by rw [hL]; omega) ?_
  refine fin_l1 st rest n (8 * n).toNat hw _ 8 _ (by omega) (by rw [List.length_append, hL, List.length_replicate]; omega) ?_
  have el := endL_mod rest n h64
  refine ev_st ?_
  simp only [impl_finish.l1, show ¬ ((-8 : Int) ≥ 0) from by omega, ↓reduceIte]
  have hz : (strOfNums (endL rest n)).size = (endL rest n).length := str_size
  have g := blocks_l0 (strOfNums (endL rest n)) ((endL rest n).length / 64) 0 (by omega) (ws st 0 8) (ws_all8 st)
  rw [out_ws st h32, Nat.mul_zero, ByteArray.extract_zero_size] at g
  simp only [impl_blocks.f]
  exact Ev.bind g (Ev.now _)

theorem implEnd_ev (st rest : ByteArray) (n : Int) : Ev (fun k => impl_HashEnd.f k st rest n) (if hasherOk st rest n = true then fin st rest n else (⟨#[]⟩ : ByteArray)) := by
  simp only [impl_HashEnd.f, impl_HasherOk_eq, Option.bind_some]
  by_cases ho : hasherOk st rest n = true
  · obtain ⟨h32, h64, h0, h9, hm⟩ := ok_facts ho
    simp only [ho, ↓reduceIte]
    exact Ev.bind (finish_ev st rest n h32 h64 h0 h9) (Ev.now _)
  · simp only [ho, Bool.false_eq_true, ↓reduceIte]
    exact Ev.now _

/-! a hasher of nothing; more keeps it right -/
def S0 : List Int := [1779033703, 3144134277, 1013904242, 2773480762, 1359893119, 2600822924, 528734635, 1541459225]
theorem S0_all8 : All8 S0 := by
  refine ⟨rfl, ?_⟩
  unfold S0
  simp only [List.mem_cons, List.not_mem_nil, or_false, forall_eq_or_imp, forall_eq, U32]
  omega
def st0 : ByteArray := sha_out S0
theorem st0_size : st0.size = 32 := sha_out_size S0_all8
theorem specNew_ev : Ev (fun k => spec_HasherNew.f k) (st0, (⟨#[]⟩ : ByteArray), 0) := by
  simp only [spec_HasherNew.f]
  have e : spec_l03First.f = some S0 := rfl
  simp only [e, Option.bind_some]
  exact Ev.bind (l03Bytes_ev S0_all8) (Ev.now _)
theorem ok_new : hasherOk st0 (⟨#[]⟩ : ByteArray) 0 = true := by
  unfold hasherOk
  rw [decide_eq_true]
  have := st0_size
  have e : (⟨#[]⟩ : ByteArray).size = 0 := rfl
  rw [this, e]
  omega
theorem more_ok {st rest : ByteArray} {n : Int} (s : ByteArray) (h : hasherOk st rest n = true) : hasherOk (more st rest n s).1 (more st rest n s).2.1 (more st rest n s).2.2 = true := by
  obtain ⟨h32, h64, h0, h9, hm⟩ := ok_facts h
  unfold more
  by_cases hn : n + (s.size : Int) ≤ 1000000000
  · rw [if_pos ⟨h, hn⟩]
    unfold hasherOk
    have a : (sha_out (blks (rest ++ s) 0 ((rest ++ s).size / 64) (ws st 0 8))).size = 32 := sha_out_size (blks_all8 _ _ _ (ws_all8 st))
    have b : ((rest ++ s).extract (64 * ((rest ++ s).size / 64)) (rest ++ s).size).size = (rest ++ s).size - 64 * ((rest ++ s).size / 64) := by rw [ByteArray.size_extract, Nat.min_self]
    have c : (rest ++ s).size = rest.size + s.size := ByteArray.size_append
    simp only [a, b]
    rw [decide_eq_true]
    omega
  · rw [if_neg (fun k => hn k.2)]
    exact h
theorem more_bad {st rest : ByteArray} {n : Int} (s : ByteArray) (h : ¬ hasherOk st rest n = true) : more st rest n s = (st, rest, n) := by
  unfold more
  rw [if_neg (fun k => h k.1)]
def endOf (st rest : ByteArray) (n : Int) : ByteArray := if hasherOk st rest n = true then fin st rest n else (⟨#[]⟩ : ByteArray)
theorem nil_append (s : ByteArray) : (⟨#[]⟩ : ByteArray) ++ s = s := by
  apply bytesOf_inj
  rw [bytesOf_append]
  rfl
/-- The digest of a text. -/
def dig (s : ByteArray) : ByteArray := fin (sha_out (blks s 0 (s.size / 64) S0)) (s.extract (64 * (s.size / 64)) s.size) (s.size : Int)
theorem dig_size (s : ByteArray) : (dig s).size = 32 := fin_size _ _ _
theorem more_new (s : ByteArray) (hs : s.size ≤ 1000000000) : more st0 (⟨#[]⟩ : ByteArray) 0 s = (sha_out (blks s 0 (s.size / 64) S0), s.extract (64 * (s.size / 64)) s.size, (s.size : Int)) := by
  unfold more
  have e : ws st0 0 8 = S0 := ws_out S0_all8
  rw [if_pos ⟨ok_new, by omega⟩, nil_append, e, Int.zero_add]
theorem end_new (s : ByteArray) (hs : s.size ≤ 1000000000) : endOf (more st0 (⟨#[]⟩ : ByteArray) 0 s).1 (more st0 (⟨#[]⟩ : ByteArray) 0 s).2.1 (more st0 (⟨#[]⟩ : ByteArray) 0 s).2.2 = dig s := by
  have h := more_ok s ok_new
  unfold endOf
  rw [if_pos h, more_new s hs]
  rfl

theorem firstState_ev : Ev (fun k => impl_firstState.f k) st0 := by
  simp only [impl_firstState.f]
  have k := Ev.of (impl_wordBytes.mono S0) (sha_out_is S0 rfl)
  exact Ev.bind k (Ev.now _)

theorem specDigest_ev (s : ByteArray) (hs : s.size ≤ 1000000000) : Ev (fun k => spec_DigestOf.f k s) (dig s) := by
  simp only [spec_DigestOf.f]
  refine Ev.bind specNew_ev (Ev.bind (specMore_ev st0 _ 0 s (by omega)) ?_)
  rw [← end_new s hs]
  exact Ev.bind (specEnd_ev _ _ _) (Ev.now _)
theorem implDigest_ev (s : ByteArray) (hs : s.size ≤ 1000000000) : Ev (fun k => impl_DigestOf.f k s) (dig s) := by
  simp only [impl_DigestOf.f]
  refine Ev.bind firstState_ev ?_
  have g := blocks_l0 s (s.size / 64) 0 (by omega) S0 S0_all8
  rw [Nat.mul_zero, ByteArray.extract_zero_size] at g
  simp only [impl_blocks.f]
  refine Ev.bind g ?_
  exact Ev.bind (finish_ev _ _ (s.size : Int) (sha_out_size (blks_all8 _ _ _ S0_all8)) (by rw [ByteArray.size_extract]; omega) (by omega) (by omega)) (Ev.now _)

/-! what is drawn -/
theorem bits_and255 (x : Int) : 0 ≤ Go.bits .and .i64 x 255 ∧ Go.bits .and .i64 x 255 ≤ 255 := by
  have h : (BitVec.ofInt IntKind.i64.bits x &&& BitVec.ofInt IntKind.i64.bits 255).toNat ≤ 255 := by
    rw [BitVec.toNat_and]
    exact Nat.le_trans Nat.and_le_right (by decide)
  simp only [Go.bits, IntKind.wrap_i64]
  omega
theorem l01Byte_is (l : List Int) (i s : Int) (hl : l.length ≤ 1048576) (hi : 0 ≤ i) : ∃ b j t, spec_l01Byte.f l i s = some (b, j, t) ∧ 0 ≤ b ∧ b ≤ 255 ∧ 0 ≤ j := by
  unfold spec_l01Byte.f
  by_cases h : i < (l.length : Int)
  · simp only [h, hi, ↓reduceIte]
    have e : wrap64 (i + 1) = i + 1 := w64 (by omega) (by omega)
    exact ⟨_, _, _, rfl, (bits_and255 _).1, (bits_and255 _).2, by omega⟩
  · simp only [h, ↓reduceIte]
    exact ⟨_, _, _, rfl, (bits_and255 _).1, (bits_and255 _).2, hi⟩
theorem tmod_range (a n : Int) (ha : 0 ≤ a) (hn : 1 ≤ n) : 0 ≤ Int.tmod a n ∧ Int.tmod a n < n := by
  rw [Int.tmod_eq_emod_of_nonneg ha]
  exact ⟨Int.emod_nonneg _ (by omega), Int.emod_lt_of_pos _ (by omega)⟩
theorem l01Below_is (l : List Int) (i s n : Int) (hl : l.length ≤ 1048576) (hi : 0 ≤ i) : ∃ b j t, spec_l01Below.f l i s n = some (b, j, t) ∧ 0 ≤ b ∧ (1 ≤ n → b < n) ∧ 0 ≤ j := by
  unfold spec_l01Below.f
  by_cases h : n ≤ 0
  · simp only [h, ↓reduceIte]
    exact ⟨_, _, _, rfl, by omega, fun h => by omega, hi⟩
  · simp only [h, show ¬ n = 0 from by omega, ↓reduceIte]
    obtain ⟨b1, j1, t1, e1, g1, g2, g3⟩ := l01Byte_is l i s hl hi
    by_cases h2 : n ≤ 256
    · have q := tmod_range b1 n g1 (by omega)
      simp only [h2, ↓reduceIte, e1, Option.bind_some]
      exact ⟨_, _, _, rfl, q.1, fun _ => q.2, g3⟩
    · obtain ⟨b2, j2, t2, e2, k1, k2, k3⟩ := l01Byte_is l j1 t1 hl g3
      obtain ⟨b3, j3, t3, e3, m1, m2, m3⟩ := l01Byte_is l j2 t2 hl k3
      obtain ⟨b4, j4, t4, e4, n1, n2, n3⟩ := l01Byte_is l j3 t3 hl m3
      simp only [h2, ↓reduceIte, e1, e2, e3, e4, Option.bind_some]
      have q := tmod_range (wrap64 ((wrap64 ((wrap64 ((wrap64 (b1 * 16777216)) + (wrap64 (b2 * 65536)))) + (wrap64 (b3 * 256)))) + b4)) n (by
        rw [w64 (n := b1 * 16777216) (by omega) (by omega), w64 (n := b2 * 65536) (by omega) (by omega), w64 (n := b3 * 256) (by omega) (by omega), w64 (n := b1 * 16777216 + b2 * 65536) (by omega) (by omega), w64 (n := b1 * 16777216 + b2 * 65536 + b3 * 256) (by omega) (by omega), w64 (by omega) (by omega)]
        omega) (by omega)
      exact ⟨_, _, _, rfl, q.1, fun _ => q.2, n3⟩
theorem l01New_l0 (l : List Int) (hl : l.length ≤ 1048576) : ∀ (d i : Nat), i + d = l.length → ∀ x : Int, ∃ y, Ev (fun k => spec_l01New.l0 k l x (i : Int)) (l, 0, y) := by
  intro d
  induction d with
  | zero =>
    intro i hi x
    obtain rfl : i = l.length := by omega
    refine ⟨x, ev_st ?_⟩
    simp only [spec_l01New.l0, Int.lt_irrefl, ↓reduceIte]
    exact Ev.now _
  | succ d ih =>
    intro i hi x
    have h1 : (i : Int) < (l.length : Int) := by omega
    have h2 : (0 : Int) ≤ (i : Int) := by omega
    have e : wrap64 ((i : Int) + 1) = ((i + 1 : Nat) : Int) := by rw [w64 (by omega) (by omega)]; omega
    by_cases h3 : (i : Int) < 4000
    · obtain ⟨y, hy⟩ := ih (i + 1) (by omega) (Go.bits .and .i64 (wrap64 ((wrap64 ((wrap64 (x * 131)) + (wrap64 (rd l (i : Int))))) + 7)) 1073741823)
      refine ⟨y, ev_st ?_⟩
      simp only [spec_l01New.l0, h1, h2, h3, ↓reduceIte, e]
      exact hy
    · refine ⟨x, ev_st ?_⟩
      simp only [spec_l01New.l0, h1, h3, ↓reduceIte]
      exact Ev.now _
theorem l01New_ev (l : List Int) (hl : l.length ≤ 1048576) : ∃ y, Ev (fun k => spec_l01New.f k l) (l, 0, y) := by
  obtain ⟨y, hy⟩ := l01New_l0 l hl l.length 0 (by omega) (wrap64 (36501 + (l.length : Int)))
  exact ⟨y, by simpa [spec_l01New.f] using hy⟩

theorem l01Text_l0 (l : List Int) (hl : l.length ≤ 1048576) (N : Nat) (hN : N ≤ 5000) : ∀ (d n : Nat), n + d = N → ∀ (xs : List Int) (i s : Int), 0 ≤ i → xs.length = n → ∃ r j t, Ev (fun k => spec_l01Text.l0 k (N : Int) xs (n : Int) l i s) (r, j, t) ∧ r.size = N ∧ 0 ≤ j := by
  intro d
  induction d with
  | zero =>
    intro n hn xs i s hi hx
    refine ⟨strOfNums xs, i, s, ev_st ?_, by rw [strOfNums_size]; omega, hi⟩
    simp only [spec_l01Text.l0, show ¬ ((n : Int) < (N : Int)) from by omega, ↓reduceIte]
    exact Ev.now _
  | succ d ih =>
    intro n hn xs i s hi hx
    have c1 : (n : Int) < (N : Int) := by omega
    have c2 : xs.length < 140737488355328 := by omega
    have e1 : wrap64 ((n : Int) + 1) = ((n + 1 : Nat) : Int) := by rw [w64 (by omega) (by omega)]; omega
    obtain ⟨b, j, t, h1, h2, h3, h4⟩ := l01Byte_is l i s hl hi
    obtain ⟨r, j2, t2, e, h5, h6⟩ := ih (n + 1) (by omega) (xs ++ [b % 256]) j t h4 (by simp; omega)
    refine ⟨r, j2, t2, ev_st ?_, h5, h6⟩
    simp only [spec_l01Text.l0, c1, ↓reduceIte, h1, Option.bind_some, c2, e1]
    exact e
theorem l01Text_ev (l : List Int) (hl : l.length ≤ 1048576) (i s : Int) (hi : 0 ≤ i) (n : Nat) (hn : n ≤ 5000) : ∃ r j t, Ev (fun k => spec_l01Text.f k l i s (n : Int)) (r, j, t) ∧ r.size = n ∧ 0 ≤ j := by
  obtain ⟨r, j, t, e, h1, h2⟩ := l01Text_l0 l hl n hn n 0 (by omega) [] i s hi rfl
  refine ⟨r, j, t, ?_, h1, h2⟩
  simp only [spec_l01Text.f, show ¬ ((n : Int) > 5000) from by omega, ↓reduceIte]
  refine ev_st ?_
  simp only [spec_l01Text.j0]
  exact e

theorem l01PickInt_is (l : List Int) (i s : Int) (m : List Int) (hl : l.length ≤ 1048576) (hi : 0 ≤ i) (hm : 1 ≤ m.length) : ∃ b j t, spec_l01PickInt.f l i s m = some (b, j, t) ∧ b ∈ m ∧ 0 ≤ j := by
  obtain ⟨b, j, t, e, h1, h2, h3⟩ := l01Below_is l i s (m.length : Int) hl hi
  have h4 := h2 (by omega)
  unfold spec_l01PickInt.f
  simp only [e, Option.bind_some, h1, h4, ↓reduceIte]
  refine ⟨_, _, _, rfl, ?_, h3⟩
  unfold rd
  rw [List.getD_eq_getElem?_getD, List.getElem?_eq_getElem (by omega)]
  exact List.getElem_mem _

theorem l01Long_l0 (n x1 : Int) : ∀ (d i : Nat) (xs : List Int), i + d = xs.length → (xs.length : Int) = n → xs.length ≤ 1000 → ∃ r, Ev (fun k => spec_l01Long.l0 k n x1 xs (i : Int)) r ∧ r.size = xs.length := by
  intro d
  induction d with
  | zero =>
    intro i xs hi hn hx
    refine ⟨strOfNums xs, ev_st ?_, strOfNums_size xs⟩
    simp only [spec_l01Long.l0, show ¬ ((i : Int) < n) from by omega, ↓reduceIte]
    exact Ev.now _
  | succ d ih =>
    intro i xs hi hn hx
    obtain ⟨r, h1, h2⟩ := ih (i + 1) (xs.set i x1) (by rw [List.length_set]; omega) (by rw [List.length_set]; exact hn) (by rw [List.length_set]; exact hx)
    have e4 : wrap64 ((i : Int) + 1) = ((i + 1 : Nat) : Int) := by rw [w64 (by omega) (by omega)]; omega
    refine ⟨r, ev_st ?_, by rw [h2, List.length_set]⟩
    simp only [spec_l01Long.l0, show (i : Int) < n from by omega, show (0 : Int) ≤ (i : Int) from by omega, show (i : Int) < (xs.length : Int) from by omega, ↓reduceIte, Int.toNat_natCast, e4]
    exact h1
theorem l01Long_ev (n : Nat) (hn : n ≤ 1000) (x1 : Int) : ∃ r, Ev (fun k => spec_l01Long.f k (n : Int) x1) r ∧ r.size = n := by
  obtain ⟨r, h1, h2⟩ := l01Long_l0 (n : Int) x1 n 0 (List.replicate n 0) (by simp) (by simp) (by simpa using hn)
  refine ⟨r, ?_, by simpa using h2⟩
  simp only [spec_l01Long.f, show (0 : Int) ≤ (n : Int) from by omega, ↓reduceIte, Int.toNat_natCast, show n ≤ 281474976710656 from by omega]
  exact h1

theorem l03Text_ev (l : List Int) (hl : l.length ≤ 1048576) (i s : Int) (hi : 0 ≤ i) : ∃ r j t, Ev (fun k => spec_l03Text.f k l i s) (r, j, t) ∧ r.size ≤ 140 ∧ 0 ≤ j := by
  obtain ⟨b, j, t, h1, h2, h3⟩ := l01PickInt_is l i s [0, 3, 10, 54, 55, 56, 57, 63, 64, 65, 119, 120, 130] hl hi (by simp)
  have hb : 0 ≤ b ∧ b ≤ 130 := by
    simp only [List.mem_cons, List.not_mem_nil, or_false] at h2
    omega
  obtain ⟨c, j2, t2, g1, g2, g3, g4⟩ := l01Below_is l j t 5 hl h3
  have hc := g3 (by omega)
  obtain ⟨r, j3, t3, e, k1, k2⟩ := l01Text_ev l hl j2 t2 g4 c.toNat (by omega)
  obtain ⟨d, j4, t4, m1, m2, m3, m4⟩ := l01Below_is l j3 t3 20 hl k2
  obtain ⟨q, n1, n2⟩ := l01Long_ev b.toNat (by omega) ((wrap64 (65 + d)) % 256)
  rw [show ((c.toNat : Nat) : Int) = c from by omega] at e
  rw [show ((b.toNat : Nat) : Int) = b from by omega] at n1
  have hz : (r ++ q).size = r.size + q.size := ByteArray.size_append
  refine ⟨r ++ q, j4, t4, ?_, by omega, m4⟩
  simp only [spec_l03Text.f, h1, g1, Option.bind_some]
  refine Ev.bind e ?_
  simp only [m1, Option.bind_some]
  refine Ev.bind n1 ?_
  have c1 : r.size + q.size ≤ 9223372036854775807 := by omega
  simp only [c1, ↓reduceIte]
  exact Ev.now _

/-! twelve places -/
theorem DrawPlaces_l0 (l : List Int) (hl : l.length ≤ 1048576) : ∀ (d n : Nat), n + d = 12 → ∀ (xs : List Int) (i s : Int), 0 ≤ i → xs.length = n → (∀ x ∈ xs, 0 ≤ x ∧ x < 10000) → ∃ p, Ev (fun k => spec_DrawPlaces.l0 k xs (n : Int) l i s) p ∧ p.length = 12 ∧ ∀ x ∈ p, 0 ≤ x ∧ x < 10000 := by
  intro d
  induction d with
  | zero =>
    intro n hn xs i s hi hx hr
    refine ⟨xs, ev_st ?_, by omega, hr⟩
    simp only [spec_DrawPlaces.l0, show ¬ ((n : Int) < 12) from by omega, ↓reduceIte]
    exact Ev.now _
  | succ d ih =>
    intro n hn xs i s hi hx hr
    obtain ⟨b, j, t, e, h1, h2, h3⟩ := l01Below_is l i s 10000 hl hi
    have h4 := h2 (by omega)
    have e4 : wrap64 ((n : Int) + 1) = ((n + 1 : Nat) : Int) := by rw [w64 (by omega) (by omega)]; omega
    obtain ⟨p, q1, q2, q3⟩ := ih (n + 1) (by omega) (xs ++ [b]) j t h3 (by rw [List.length_append, List.length_singleton]; omega) (by
      intro x hx
      rcases List.mem_append.1 hx with hx | hx
      · exact hr x hx
      · simp only [List.mem_singleton] at hx; omega)
    refine ⟨p, ev_st ?_, q2, q3⟩
    simp only [spec_DrawPlaces.l0, show (n : Int) < 12 from by omega, ↓reduceIte, e, Option.bind_some, show xs.length < 17592186044416 from by omega, e4]
    exact q1
theorem DrawPlaces_ev (l : List Int) (hl : l.length ≤ 1048576) : ∃ p, Ev (fun k => spec_DrawPlaces.f k l) p ∧ p.length = 12 ∧ ∀ x ∈ p, 0 ≤ x ∧ x < 10000 := by
  obtain ⟨y, hy⟩ := l01New_ev l hl
  obtain ⟨b, j, t, e, h1, h2, h3⟩ := l01Byte_is l 0 y hl (by omega)
  obtain ⟨p, q1, q2, q3⟩ := DrawPlaces_l0 l hl 12 0 (by omega) [] j t h3 rfl (by simp)
  refine ⟨p, ?_, q2, q3⟩
  simp only [spec_DrawPlaces.f]
  refine Ev.bind hy ?_
  simp only [e, Option.bind_some]
  exact q1
theorem place_at (p : List Int) (hp : p.length = 12) (hr : ∀ x ∈ p, 0 ≤ x ∧ x < 10000) (i : Nat) (hi : i < 12) : 0 ≤ rd p (i : Int) ∧ rd p (i : Int) < 10000 := by
  unfold rd
  rw [Int.toNat_natCast, List.getD_eq_getElem?_getD, List.getElem?_eq_getElem (by omega)]
  exact hr _ (List.getElem_mem _)

/-! a text that comes in two parts -/
theorem blks_add (b : ByteArray) : ∀ (d t e : Nat) (S : List Int), blks b t (d + e) S = blks b (t + d) e (blks b t d S)
  | 0, t, e, S => by rw [Nat.zero_add, Nat.add_zero]; rfl
  | d + 1, t, e, S => by
    rw [show d + 1 + e = (d + e) + 1 from by omega, blks, blks, blks_add b d (t + 1) e, show t + 1 + d = t + (d + 1) from by omega]
theorem blks_congr (b b' : ByteArray) (q : Nat) : ∀ (d t : Nat) (S : List Int), (∀ j, j < d → b.extract (64 * (t + q + j)) (64 * (t + q + j) + 64) = b'.extract (64 * (t + j)) (64 * (t + j) + 64)) → blks b (t + q) d S = blks b' t d S
  | 0, _, _, _ => rfl
  | d + 1, t, S, h => by
    have h0 := h 0 (by omega)
    simp only [Nat.add_zero] at h0
    rw [blks, blks, h0, show t + q + 1 = t + 1 + q from by omega]
    exact blks_congr b b' q d (t + 1) _ (fun j hj => by
      have := h (j + 1) (by omega)
      rw [show t + q + (j + 1) = t + 1 + q + j from by omega, show t + (j + 1) = t + 1 + j from by omega] at this
      exact this)
theorem cut_left (x y : ByteArray) (i j : Nat) (h : j ≤ x.size) : (x ++ y).extract i j = x.extract i j := by
  apply bytesOf_inj
  simp only [bytesOf_extract, bytesOf_append]
  rw [List.take_append_of_le_length (by rw [bytesOf_length]; exact h)]
theorem cut_right (x y : ByteArray) (k i j : Nat) (h : k ≤ x.size) (hi : k ≤ i) (hj : i ≤ j) : (x ++ y).extract i j = ((x.extract k x.size) ++ y).extract (i - k) (j - k) := by
  apply bytesOf_inj
  simp only [bytesOf_extract, bytesOf_append]
  rw [List.take_of_length_le (i := x.size) (by rw [bytesOf_length]; exact Nat.le_refl _)]
  rw [show bytesOf x ++ bytesOf y = (bytesOf x).take k ++ ((bytesOf x).drop k ++ bytesOf y) from by rw [← List.append_assoc, List.take_append_drop]]
  have hk : ((bytesOf x).take k).length = k := by rw [List.length_take, bytesOf_length]; omega
  rw [List.take_append, hk, List.drop_append, List.length_take, hk, Nat.min_eq_right (by omega), List.drop_of_length_le (i := i) (by rw [List.length_take, hk]; omega), List.nil_append]
theorem more_more (st rest a b : ByteArray) (n : Int) (ho : hasherOk st rest n = true) (hn : n + (a.size : Int) + (b.size : Int) ≤ 1000000000) :
    more (more st rest n a).1 (more st rest n a).2.1 (more st rest n a).2.2 b = more st rest n (a ++ b) := by
  have h2 := more_ok a ho
  obtain ⟨h32, h64, h0, h9, hm⟩ := ok_facts ho
  have ab : (a ++ b).size = a.size + b.size := ByteArray.size_append
  have e1 : more st rest n a = (sha_out (blks (rest ++ a) 0 ((rest ++ a).size / 64) (ws st 0 8)), (rest ++ a).extract (64 * ((rest ++ a).size / 64)) (rest ++ a).size, n + (a.size : Int)) := by
    unfold more
    rw [if_pos ⟨ho, by omega⟩]
  rw [e1] at h2 ⊢
  simp only at h2 ⊢
  have w8 : All8 (blks (rest ++ a) 0 ((rest ++ a).size / 64) (ws st 0 8)) := blks_all8 _ _ _ (ws_all8 st)
  unfold more
  rw [if_pos ⟨h2, by omega⟩, if_pos ⟨ho, by omega⟩, ws_out w8, show rest ++ (a ++ b) = (rest ++ a) ++ b from (ByteArray.append_assoc).symm]
  generalize hx : rest ++ a = x
  rw [hx] at w8
  have hq : 64 * (x.size / 64) ≤ x.size := Nat.mul_div_le _ _
  have hz : (x.extract (64 * (x.size / 64)) x.size ++ b).size = x.size - 64 * (x.size / 64) + b.size := by rw [ByteArray.size_append, ByteArray.size_extract, Nat.min_self]
  have hz2 : (x ++ b).size = x.size + b.size := ByteArray.size_append
  have hc : (x ++ b).size / 64 = x.size / 64 + (x.extract (64 * (x.size / 64)) x.size ++ b).size / 64 := by
    rw [hz, hz2, show x.size + b.size = 64 * (x.size / 64) + (x.size - 64 * (x.size / 64) + b.size) from by omega, Nat.mul_add_div (by omega)]
  rw [hc, blks_add]
  have f1 : blks (x ++ b) 0 (x.size / 64) (ws st 0 8) = blks x 0 (x.size / 64) (ws st 0 8) := by
    have := blks_congr (x ++ b) x 0 (x.size / 64) 0 (ws st 0 8) (fun j hj => cut_left x b _ _ (by
      have : 64 * (0 + j) + 64 ≤ 64 * (x.size / 64) := by omega
      simp only [Nat.zero_add, Nat.add_zero] at this ⊢
      omega))
    exact this
  rw [f1]
  have f2 := blks_congr (x ++ b) (x.extract (64 * (x.size / 64)) x.size ++ b) (x.size / 64) ((x.extract (64 * (x.size / 64)) x.size ++ b).size / 64) 0 (blks x 0 (x.size / 64) (ws st 0 8)) (fun j hj => by
    rw [cut_right x b (64 * (x.size / 64)) _ _ hq (by omega) (by omega)]
    congr 1 <;> omega)
  have f3 : (x ++ b).extract (64 * (x.size / 64 + (x.extract (64 * (x.size / 64)) x.size ++ b).size / 64)) (x ++ b).size = (x.extract (64 * (x.size / 64)) x.size ++ b).extract (64 * ((x.extract (64 * (x.size / 64)) x.size ++ b).size / 64)) (x.extract (64 * (x.size / 64)) x.size ++ b).size := by
    rw [cut_right x b (64 * (x.size / 64)) _ _ hq (by omega) (by rw [hz2]; omega)]
    congr 1
    · omega
    · rw [hz, hz2]; omega
  rw [f2, f3]
  refine Prod.ext rfl (Prod.ext rfl ?_)
  show n + (a.size : Int) + (b.size : Int) = n + ((a ++ b).size : Int)
  rw [ab]
  omega
theorem append_nil (s : ByteArray) : s ++ (⟨#[]⟩ : ByteArray) = s := by
  apply bytesOf_inj
  rw [bytesOf_append]
  have : bytesOf (⟨#[]⟩ : ByteArray) = [] := rfl
  rw [this, List.append_nil]

theorem DrawDigestOf_ev (l : List Int) (hl : l.length ≤ 1048576) : ∃ r, Ev (fun k => spec_DrawDigestOf.f k l) r ∧ r.size ≤ 140 := by
  obtain ⟨y, q⟩ := l01New_ev l hl
  obtain ⟨r, j, t, e, h1, h2⟩ := l03Text_ev l hl 0 y (by omega)
  refine ⟨r, ?_, h1⟩
  simp only [spec_DrawDigestOf.f]
  exact Ev.bind q (Ev.bind e (Ev.now _))
theorem FnDigests : laws_FnDigests.Pure := by
  intro c _ _ _
  refine Ev.rounds ?_
  simp only [laws_FnDigests.f, laws_big.f, Option.bind_some]
  by_cases hb : (c.length : Int) > 1048576
  · simp only [hb, decide_true, ↓reduceIte]; exact Ev.now _
  · simp only [hb, decide_false, Bool.false_eq_true, ↓reduceIte]
    obtain ⟨s, qs, hs⟩ := DrawDigestOf_ev c (by omega)
    obtain ⟨p, q1, q2, q3⟩ := DrawPlaces_ev c (by omega)
    refine Ev.bind qs (Ev.bind q1 ?_)
    have p0 := place_at p q2 q3 0 (by omega)
    simp only [Int.natCast_zero] at p0
    have e1 : wrap64 ((s.size : Int) + 1) = (s.size : Int) + 1 := w64 (by omega) (by omega)
    have m0 := tmod_range (rd p 0) ((s.size : Int) + 1) p0.1 (by omega)
    have c1 : (0 : Int) < (p.length : Int) := by omega
    have c2 : ¬ ((s.size : Int) + 1 = 0) := by omega
    generalize hj : Int.tmod (rd p 0) ((s.size : Int) + 1) = j at m0
    have c3 : j ≤ (s.size : Int) := by omega
    simp only [e1, c1, c2, hj, m0.1, c3, ↓reduceIte]
    have kn : Ev (fun k => impl_HasherNew.f k) (st0, (⟨#[]⟩ : ByteArray), 0) := by
      simp only [impl_HasherNew.f]
      exact Ev.bind firstState_ev (Ev.now _)
    refine Ev.bind kn ?_
    generalize ha : s.extract 0 j.toNat = a
    generalize hb2 : s.extract j.toNat s.size = b
    have hab : a ++ b = s := by
      rw [← ha, ← hb2]
      apply bytesOf_inj
      rw [bytesOf_append, bytesOf_extract, bytesOf_extract, List.drop_zero, List.take_of_length_le (i := s.size) (by rw [bytesOf_length]; exact Nat.le_refl _), List.take_append_drop]
    have hz : a.size + b.size = s.size := by rw [← hab, ByteArray.size_append]
    refine Ev.bind (implMore_ev st0 _ 0 a (by omega)) ?_
    refine Ev.bind (implMore_ev _ _ _ b (by omega)) ?_
    refine Ev.bind (implDigest_ev s (by omega)) ?_
    have o1 := more_ok a ok_new
    have o2 := more_ok b o1
    have mm := more_more st0 (⟨#[]⟩ : ByteArray) a b 0 ok_new (by omega)
    rw [hab] at mm
    simp only [impl_HasherOk_eq, Option.bind_some, o1, o2, ↓reduceIte]
    have k := implEnd_ev (more (more st0 (⟨#[]⟩ : ByteArray) 0 a).1 (more st0 (⟨#[]⟩ : ByteArray) 0 a).2.1 (more st0 (⟨#[]⟩ : ByteArray) 0 a).2.2 b).1 (more (more st0 (⟨#[]⟩ : ByteArray) 0 a).1 (more st0 (⟨#[]⟩ : ByteArray) 0 a).2.1 (more st0 (⟨#[]⟩ : ByteArray) 0 a).2.2 b).2.1 (more (more st0 (⟨#[]⟩ : ByteArray) 0 a).1 (more st0 (⟨#[]⟩ : ByteArray) 0 a).2.1 (more st0 (⟨#[]⟩ : ByteArray) 0 a).2.2 b).2.2
    have en := end_new s (by omega)
    unfold endOf at en
    have o3 := more_ok s ok_new
    rw [if_pos o3] at en
    rw [mm] at o2 k ⊢
    rw [if_pos o2, en] at k
    refine Ev.bind k ?_
    have z : ((dig s).size : Int) = 32 := by rw [dig_size]; rfl
    have nn := more_new s (by omega)
    have n2 : (more st0 (⟨#[]⟩ : ByteArray) 0 s).2.2 = (s.size : Int) := by rw [nn]
    simp only [z, ↓reduceIte, n2]
    refine Ev.bind (specDigest_ev s (by omega)) ?_
    simp only [↓reduceIte]
    have k3 := implMore_ev (more st0 (⟨#[]⟩ : ByteArray) 0 s).1 (more st0 (⟨#[]⟩ : ByteArray) 0 s).2.1 (more st0 (⟨#[]⟩ : ByteArray) 0 s).2.2 (⟨#[]⟩ : ByteArray) (by decide)
    have m3 := more_more st0 (⟨#[]⟩ : ByteArray) s (⟨#[]⟩ : ByteArray) 0 ok_new (by have : (⟨#[]⟩ : ByteArray).size = 0 := rfl; omega)
    rw [append_nil] at m3
    rw [m3] at k3
    rw [n2] at k3
    refine Ev.bind k3 ?_
    have k4 := implEnd_ev (more st0 (⟨#[]⟩ : ByteArray) 0 s).1 (more st0 (⟨#[]⟩ : ByteArray) 0 s).2.1 (more st0 (⟨#[]⟩ : ByteArray) 0 s).2.2
    rw [if_pos o3, en] at k4
    refine Ev.bind k4 ?_
    rw [beq_self_eq_true]
    exact Ev.now _

end Go.Proofs.Ytbiapgneafgdeaa.Pure
