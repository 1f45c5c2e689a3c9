/- What is proved here: the law FnExactReadShort, told as a plain function over numbers and lists, answers true at all arguments. Conditions: those of the row alone, none of ours. -/
import Derived.Test.YtjaohcbfgpfmcaaPFnExactReadShortx2
import Derived.Test.YtjaohcbfgpfmcaaKit
namespace Go.Proofs.Ytjaohcbfgpfmcaa.Pure
open Go.RowKit Go.Proofs.Ytjaohcbfgpfmcaa.PFnExactReadShort Go.Proofs.YtjaohcbfgpfmcaaW.PrintWords Go.Proofs.YtjaohcbfgpfmcaaW.PrintLast Go.Proofs.Ytjaohcbfgpfmcaa.Kit Go.Proofs.YtjaohcbfgpfmcaaW.PrintMore
set_option linter.unusedSimpArgs false
set_option linter.unusedVariables false

/-! a number's bytes -/
def vt (n : Nat) : List Int := if 127 < n then ((n % 128 + 128 : Nat) : Int) :: vt (n / 128) else [(n : Int)]
termination_by n
decreasing_by omega
theorem vt_range (n : Nat) : ∀ x ∈ vt n, 0 ≤ x ∧ x < 256 := by
  induction n using Nat.strongRecOn with
  | _ n ih =>
    rw [vt]
    split
    · intro x hx
      rcases List.mem_cons.1 hx with rfl | hx
      · omega
      · exact ih (n / 128) (by omega) x hx
    · intro x hx
      obtain rfl := List.mem_singleton.1 hx
      omega
theorem vt_len (n : Nat) : ∀ j : Nat, n < 128 ^ (j + 1) → (vt n).length ≤ j + 1 := by
  intro j
  induction j generalizing n with
  | zero => intro h; rw [vt, if_neg (by omega)]; simp
  | succ j ih =>
    intro h
    rw [vt]
    split
    · have := ih (n / 128) (by rw [Nat.div_lt_iff_lt_mul (by omega)]; rw [Nat.pow_succ] at h; exact h)
      simp only [List.length_cons]; omega
    · simp
theorem vt_len5 (n : Nat) (h : n ≤ 1000000000) : (vt n).length ≤ 5 := vt_len n 4 (by omega)
def varS (n : Int) : ByteArray := strOfNums (vt n.toNat)
theorem tdiv128 (n : Nat) (h : n ≤ 1000000000000) : wrap64 (Int.tdiv (n : Int) 128) = ((n / 128 : Nat) : Int) := by
  rw [Int.tdiv_eq_ediv_of_nonneg (by omega), w64 (by omega) (by omega)]; omega
theorem tmod128 (n : Nat) (h : n ≤ 1000000000000) : wrap64 (Int.tmod (n : Int) 128 + 128) % 256 = ((n % 128 + 128 : Nat) : Int) := by
  rw [Int.tmod_eq_emod_of_nonneg (by omega), w64 (by omega) (by omega)]; omega

theorem spec_l01Var_l0 (n : Nat) : n ≤ 1000000000000 → ∀ acc : List Int, acc.length + n < 140737488355328 → Ev (fun k => spec_l01Var.l0 k (n : Int) acc) (strOfNums (acc ++ vt n)) := by
  induction n using Nat.strongRecOn with
  | _ n ih =>
    intro hn acc ha
    refine ev_st ?_
    have hl : acc.length < 140737488355328 := by omega
    rw [vt]
    by_cases h : 127 < n
    · simp only [spec_l01Var.l0, show (n : Int) > 127 from by omega, hl, h, ↓reduceIte, tdiv128 n hn, tmod128 n hn]
      have g := ih (n / 128) (by omega) (by omega) (acc ++ [((n % 128 + 128 : Nat) : Int)]) (by simp; omega)
      rw [List.append_assoc] at g
      exact g
    · simp only [spec_l01Var.l0, show ¬ ((n : Int) > 127) from by omega, hl, h, ↓reduceIte, show (n : Int) % 256 = (n : Int) from by omega]
      exact Ev.now _
theorem spec_l01Var_ev (n : Int) (h0 : 0 ≤ n) (h1 : n ≤ 1000000000000) : Ev (fun k => spec_l01Var.f k n) (varS n) := by
  obtain ⟨m, rfl⟩ := Int.eq_ofNat_of_zero_le h0
  exact spec_l01Var_l0 m (by omega) [] (by simp; omega)

theorem spec_l01In_eq (a b c : Int) : spec_l01In.f a b c = some (decide (b ≤ a ∧ a ≤ c)) := by
  unfold spec_l01In.f
  by_cases h : b ≤ a <;> simp [h, GE.ge]

/-! a number is read -/
def rvPre : Nat → List Int → Option (List Int)
  | 0, _ => none
  | _ + 1, [] => none
  | f + 1, b :: t => if 128 ≤ b then (rvPre f t).map (b :: ·) else some [b]
def vval : List Int → Int
  | [] => 0
  | b :: t => b % 128 + 128 * vval t
def rvFail (w : List Int) : Prop := (1 < w.length ∧ w.getLast? = some 0) ∨ vval w > 1000000000
instance (w : List Int) : Decidable (rvFail w) := by unfold rvFail; infer_instance
def rvRes (at' : Int) (q : List Int) : Option (List Int) → Int × Int × Bool
  | none => (0, 0, false)
  | some p => if rvFail (q ++ p) then (0, 0, false) else (vval (q ++ p), at' + ((q ++ p).length : Int), true)
def readVarOf (s : ByteArray) (at' : Int) : Int × Int × Bool := if 0 ≤ at' ∧ at' ≤ (s.size : Int) then rvRes at' [] (rvPre 5 ((bytesOf s).drop at'.toNat)) else (0, 0, false)
theorem rvRes_step (at' : Int) (q : List Int) (f : Nat) (b : Int) (t : List Int) (h : 128 ≤ b) : rvRes at' q (rvPre (f + 1) (b :: t)) = rvRes at' (q ++ [b]) (rvPre f t) := by
  rw [rvPre, if_pos h]
  cases rvPre f t with
  | none => rfl
  | some p => simp only [Option.map_some, rvRes, List.append_assoc, List.singleton_append]
theorem vval_snoc (q : List Int) (b : Int) : vval (q ++ [b]) = vval q + b % 128 * 128 ^ q.length := by
  induction q with
  | nil => simp [vval]
  | cons c q ih =>
    simp only [List.cons_append, vval, ih, List.length_cons]
    rw [Int.pow_succ]
    have : 128 * (b % 128 * 128 ^ q.length) = b % 128 * (128 ^ q.length * 128) := by rw [Int.mul_comm, Int.mul_assoc]
    rw [Int.mul_add, this]; omega
theorem vval_bound (q : List Int) : 0 ≤ vval q ∧ vval q < 128 ^ q.length := by
  induction q with
  | nil => simp [vval]
  | cons c q ih =>
    simp only [vval, List.length_cons]
    rw [Int.pow_succ]
    generalize (128 : Int) ^ q.length = p at ih ⊢
    omega
theorem vval_bound_le (q : List Int) (j : Nat) (h : q.length ≤ j) : 0 ≤ vval q ∧ vval q < 128 ^ j := by
  have b := vval_bound q
  have : (128 : Int) ^ q.length ≤ 128 ^ j := pow128_le h
  omega
/-- What is written as a number tells that number. -/
theorem vval_vt (n : Nat) : vval (vt n) = n := by
  induction n using Nat.strongRecOn with
  | _ n ih =>
    rw [vt]
    split
    · rw [vval, ih (n / 128) (by omega)]; omega
    · simp only [vval]; omega
/-- All but the last go on, the last does not. -/
def Ends : List Int → Prop
  | [] => False
  | [b] => 0 ≤ b ∧ b < 128
  | b :: t => 128 ≤ b ∧ b < 256 ∧ Ends t
theorem ends_vt (n : Nat) : Ends (vt n) := by
  induction n using Nat.strongRecOn with
  | _ n ih =>
    rw [vt]
    split
    · have g := ih (n / 128) (by omega)
      generalize vt (n / 128) = l at g ⊢
      cases l with
      | nil => exact g.elim
      | cons c t => exact ⟨by omega, by omega, g⟩
    · exact ⟨by omega, by omega⟩
theorem last_vt (n : Nat) (h : 1 ≤ n) : (vt n).getLast? ≠ some 0 := by
  induction n using Nat.strongRecOn with
  | _ n ih =>
    rw [vt]
    split
    · have g := ih (n / 128) (by omega) (by omega)
      have e := ends_vt (n / 128)
      generalize vt (n / 128) = l at g e ⊢
      cases l with
      | nil => exact e.elim
      | cons c t => rw [List.getLast?_cons_cons]; exact g
    · simp; omega
theorem vval_pos (l : List Int) (h : Ends l) (hz : l.getLast? ≠ some 0) : 1 ≤ vval l := by
  induction l with
  | nil => exact h.elim
  | cons b t ih =>
    cases t with
    | nil =>
      simp [vval] at hz ⊢
      obtain ⟨h0, h1⟩ := h
      omega
    | cons c t =>
      obtain ⟨_, _, h2⟩ := h
      rw [List.getLast?_cons_cons] at hz
      have := ih h2 hz
      simp only [vval] at this ⊢
      omega
theorem vt_vval (l : List Int) (h : Ends l) (hz : 1 < l.length → l.getLast? ≠ some 0) : vt (vval l).toNat = l := by
  induction l with
  | nil => exact h.elim
  | cons b t ih =>
    cases t with
    | nil =>
      obtain ⟨h0, h1⟩ := h
      have e : vval [b] = b := by simp only [vval]; omega
      rw [e, vt, if_neg (by omega)]
      simp; omega
    | cons c t =>
      obtain ⟨h0, h1, h2⟩ := h
      have hz2 : (c :: t).getLast? ≠ some 0 := by
        have := hz (by simp)
        rw [List.getLast?_cons_cons] at this
        exact this
      have p := vval_pos (c :: t) h2 hz2
      have g := ih h2 (fun _ => hz2)
      have e : vval (b :: c :: t) = b % 128 + 128 * vval (c :: t) := rfl
      generalize hv : vval (c :: t) = v at *
      rw [vt, if_pos (by omega)]
      have e1 : (vval (b :: c :: t)).toNat / 128 = v.toNat := by omega
      rw [e1, g]
      congr 1
      omega
/-- The reference's test by writing anew, and the program's test of the last byte. -/
theorem vt_iff (l : List Int) (h : Ends l) : vt (vval l).toNat = l ↔ ¬ (1 < l.length ∧ l.getLast? = some 0) := by
  constructor
  · rintro e ⟨h1, h2⟩
    have p : 1 ≤ (vval l).toNat := by
      rcases Nat.lt_or_ge (vval l).toNat 1 with q | q
      · rw [show (vval l).toNat = 0 from by omega, vt, if_neg (by omega)] at e
        rw [← e] at h1
        simp at h1
      · exact q
    exact last_vt _ p (by rw [e]; exact h2)
  · intro q
    exact vt_vval l h (fun h1 h2 => q ⟨h1, h2⟩)
theorem ends_snoc (q : List Int) (b : Int) (hq : ∀ x ∈ q, 128 ≤ x ∧ x < 256) (h0 : 0 ≤ b) (h1 : b < 128) : Ends (q ++ [b]) := by
  induction q with
  | nil => exact ⟨h0, h1⟩
  | cons c q ih =>
    have := ih (fun x hx => hq x (List.mem_cons_of_mem _ hx))
    have hc := hq c (List.mem_cons_self ..)
    rw [List.cons_append]
    generalize q ++ [b] = l at this ⊢
    cases l with
    | nil => exact this.elim
    | cons d t => exact ⟨hc.1, hc.2, this⟩

theorem term7 (b : Int) (h0 : 0 ≤ b) (q : List Int) (hq : q.length < 5) : wrap64 (vval q + b % 128 * 128 ^ q.length) = vval (q ++ [b]) := by
  have g := vval_bound_le (q ++ [b]) 5 (by simp; omega)
  rw [vval_snoc] at g
  rw [vval_snoc]
  exact w64 (by omega) (by omega)
theorem term7a (b : Int) (h0 : 0 ≤ b) (q : List Int) (hq : q.length < 5) : wrap64 (b % 128 * 128 ^ q.length) = b % 128 * 128 ^ q.length := by
  have g := vval_bound_le (q ++ [b]) 5 (by simp; omega)
  have g2 := vval_bound q
  rw [vval_snoc] at g
  have h : 0 ≤ b % 128 * 128 ^ q.length := Int.mul_nonneg (by omega) (Int.le_of_lt (pow128_pos _))
  exact w64 (by omega) (by omega)
theorem scale7 (q : List Int) (hq : q.length < 5) : wrap64 ((128 : Int) ^ q.length * 128) = 128 ^ (q.length + 1) := by
  have h : (128 : Int) ^ q.length ≤ 128 ^ 4 := pow128_le (by omega)
  have h2 := pow128_pos q.length
  rw [w64 (by omega) (by omega), Int.pow_succ]
theorem rvRes_last (at' : Int) (q : List Int) (f : Nat) (b : Int) (t : List Int) (h : ¬ 128 ≤ b) : rvRes at' q (rvPre (f + 1) (b :: t)) = if rvFail (q ++ [b]) then (0, 0, false) else (vval (q ++ [b]), at' + ((q ++ [b]).length : Int), true) := by
  rw [rvPre, if_neg h]; rfl
theorem rvFail_iff (q : List Int) (b : Int) : rvFail (q ++ [b]) ↔ (0 < q.length ∧ b = 0) ∨ vval (q ++ [b]) > 1000000000 := by
  unfold rvFail
  simp only [List.length_append, List.length_singleton, List.getLast?_append, List.getLast?_singleton, Option.some_or, Option.some.injEq]
  constructor
  · rintro (⟨h1, h2⟩ | h)
    · exact .inl ⟨by omega, h2⟩
    · exact .inr h
  · rintro (⟨h1, h2⟩ | h)
    · exact .inl ⟨by omega, h2⟩
    · exact .inr h

theorem shl7 (x : Int) (h0 : 0 ≤ x) (h1 : x < 128) (j : Nat) (hj : j < 5) : shl .i64 x (wrap64 (7 * (j : Int))) = x * 128 ^ j := by
  rw [w64 (by omega) (by omega)]
  unfold shl
  rw [IntKind.wrap_i64, show (7 * (j : Int)).toNat = 7 * j from by omega, Nat.min_eq_left (show 7 * j ≤ IntKind.i64.bits from by show 7 * j ≤ 64; omega)]
  obtain rfl | rfl | rfl | rfl | rfl : j = 0 ∨ j = 1 ∨ j = 2 ∨ j = 3 ∨ j = 4 := by omega
  all_goals (simp only [Nat.mul_zero, Nat.reduceMul, Int.reducePow, Int.pow_zero]; omega)
set_option maxHeartbeats 1000000 in
theorem impl_ReadVar_l0 (s : ByteArray) (hs : s.size ≤ 140737488351232) (a : Nat) : ∀ (f : Nat) (q : List Int), f + q.length = 5 → a + q.length ≤ s.size →
    Ev (fun k => impl_ReadVar.l0 k s (a : Int) (vval q) (q.length : Int)) (rvRes (a : Int) q (rvPre f ((bytesOf s).drop (a + q.length)))) := by
  intro f
  induction f with
  | zero =>
    intro q hf _
    refine ev_st (ev_st ?_)
    simp only [impl_ReadVar.l0, impl_ReadVar.j1, show ¬ ((q.length : Int) < 5) from by omega, ↓reduceIte, Bool.false_eq_true]
    exact Ev.now _
  | succ f ih =>
    intro q hf ha
    refine ev_st (ev_st ?_)
    have e0 : wrap64 ((s.size : Int) - (q.length : Int)) = (s.size : Int) - (q.length : Int) := w64 (by omega) (by omega)
    have e1 : wrap64 ((a : Int) + (q.length : Int)) = ((a + q.length : Nat) : Int) := by rw [w64 (by omega) (by omega)]; omega
    by_cases hlt : a + q.length < s.size
    · have b := bt_range s ((a + q.length : Nat) : Int)
      have hd := drop_bt s (a + q.length) hlt
      have f1 : (q.length : Int) < 5 := by omega
      have f2 : (a : Int) ≥ 0 := by omega
      have f3 : (a : Int) < (s.size : Int) - (q.length : Int) := by omega
      have f4 : (0 : Int) ≤ ((a + q.length : Nat) : Int) := by omega
      have f5 : ((a + q.length : Nat) : Int) < (s.size : Int) := by omega
      have f6 : q.length < 5 := by omega
      have f7 : 0 ≤ bt s ((a + q.length : Nat) : Int) % 128 := by omega
      have f8 : bt s ((a + q.length : Nat) : Int) % 128 < 128 := by omega
      have e5 : wrap64 (((a + q.length : Nat) : Int) + 1) = ((a : Int) + (((q.length + 1 : Nat)) : Int)) := by rw [w64 (by omega) (by omega)]; omega
      have e6 : wrap64 ((q.length : Int) + 1) = ((q.length + 1 : Nat) : Int) := by rw [w64 (by omega) (by omega)]; omega
      have e7 : (0 : Int) ≤ wrap64 (7 * (q.length : Int)) := by rw [w64 (by omega) (by omega)]; omega
      have e2 : Int.tmod (bt s ((a + q.length : Nat) : Int)) 128 = bt s ((a + q.length : Nat) : Int) % 128 := Int.tmod_eq_emod_of_nonneg b.1
      have e3 := shl7 (bt s ((a + q.length : Nat) : Int) % 128) f7 f8 q.length f6
      have e4 := term7 (bt s ((a + q.length : Nat) : Int)) b.1 q f6
      simp only [impl_ReadVar.l0, impl_ReadVar.j1, f1, f2, ↓reduceIte, e0, f3, decide_true, e1, f4, f5, bt_wrap, e2, e3, e4, e5, e6, e7]
      clear e2 e3 e4 e5 e6 e7 f7 f8
      rw [hd]
      generalize bt s ((a + q.length : Nat) : Int) = c at b ⊢
      by_cases hb : 128 ≤ c
      · rw [rvRes_step _ _ _ _ _ hb]
        simp only [show c ≥ 128 from hb, ↓reduceIte]
        have g := ih (q ++ [c]) (by simp; omega) (by simp; omega)
        simp only [List.length_append, List.length_singleton] at g
        exact g
      · rw [rvRes_last _ _ _ _ _ hb]
        simp only [show ¬ (c ≥ 128) from hb, ↓reduceIte, rvFail_iff, List.length_append, List.length_singleton]
        by_cases h0 : c = 0
        · by_cases hp : 0 < q.length
          · simp only [h0, show (q.length : Int) > 0 from by omega, hp, and_self, true_or, ↓reduceIte]
            exact Ev.now _
          · simp only [h0, show ¬ ((q.length : Int) > 0) from by omega, hp, false_and, false_or, ↓reduceIte]
            split
            · exact Ev.now _
            · exact Ev.now _
        · simp only [h0, and_false, false_or, ↓reduceIte]
          split
          · exact Ev.now _
          · exact Ev.now _
    · simp only [impl_ReadVar.l0, impl_ReadVar.j1, show (q.length : Int) < 5 from by omega, show (a : Int) ≥ 0 from by omega, ↓reduceIte, e0, show ¬ ((a : Int) < (s.size : Int) - (q.length : Int)) from by omega, decide_false, Bool.false_eq_true]
      rw [show a + q.length = s.size from by omega, drop_end]
      exact Ev.now _
theorem impl_ReadVar_ev (s : ByteArray) (hs : s.size ≤ 140737488351232) (a : Int) (h0 : -9223372036854775808 ≤ a) (h1 : a ≤ 9223372036854775807) : Ev (fun k => impl_ReadVar.f k s a) (readVarOf s a) := by
  unfold readVarOf
  simp only [impl_ReadVar.f]
  by_cases h : 0 ≤ a ∧ a ≤ (s.size : Int)
  · rw [if_pos h]
    obtain ⟨m, rfl⟩ := Int.eq_ofNat_of_zero_le h.1
    exact impl_ReadVar_l0 s hs m 5 [] rfl (by simp; omega)
  · rw [if_neg h]
    refine ev_st (ev_st ?_)
    have e : wrap64 ((s.size : Int) - 0) = (s.size : Int) := by rw [w64 (by omega) (by omega)]; omega
    simp only [impl_ReadVar.l0, impl_ReadVar.j1, show (0 : Int) < 5 from by omega, ↓reduceIte, e]
    by_cases ha : a ≥ 0
    · simp only [ha, show ¬ (a < (s.size : Int)) from by omega, ↓reduceIte, decide_false, Bool.false_eq_true]
      exact Ev.now _
    · simp only [ha, ↓reduceIte, Bool.false_eq_true]
      exact Ev.now _

theorem take_bt (s : ByteArray) (a j : Nat) (h : a + j < s.size) : ((bytesOf s).drop a).take (j + 1) = ((bytesOf s).drop a).take j ++ [bt s ((a + j : Nat) : Int)] := by
  rw [List.take_succ_eq_append_getElem (by rw [List.length_drop, bytesOf_length]; omega), List.getElem_drop, bt_get s (a + j) h]
theorem bytesOf_piece (s : ByteArray) (a j : Nat) : bytesOf (s.extract a (a + j)) = ((bytesOf s).drop a).take j := by
  rw [bytesOf_extract, List.drop_take, Nat.add_sub_cancel_left]
set_option maxHeartbeats 1000000 in
theorem spec_ReadVar_l0 (s : ByteArray) (hs : s.size ≤ 140737488351232) (a : Nat) : ∀ (f : Nat) (q : List Int), f + q.length = 5 → a + q.length ≤ s.size → ((bytesOf s).drop a).take q.length = q → (∀ x ∈ q, 128 ≤ x ∧ x < 256) →
    Ev (fun k => spec_ReadVar.l0 k s (a : Int) (vval q) (128 ^ q.length) ((a + q.length : Nat) : Int)) (rvRes (a : Int) q (rvPre f ((bytesOf s).drop (a + q.length)))) := by
  intro f
  induction f with
  | zero =>
    intro q hf ha _ _
    refine ev_st (ev_st ?_)
    have e : wrap64 ((a : Int) + 5) = (a : Int) + 5 := w64 (by omega) (by omega)
    by_cases hlt : ((a + q.length : Nat) : Int) < (s.size : Int)
    · simp only [spec_ReadVar.l0, spec_ReadVar.j1, hlt, e, show ¬ (((a + q.length : Nat) : Int) < (a : Int) + 5) from by omega, ↓reduceIte, decide_false, Bool.false_eq_true]
      exact Ev.now _
    · simp only [spec_ReadVar.l0, spec_ReadVar.j1, hlt, ↓reduceIte, Bool.false_eq_true]
      exact Ev.now _
  | succ f ih =>
    intro q hf ha hq hr
    refine ev_st (ev_st ?_)
    have e : wrap64 ((a : Int) + 5) = (a : Int) + 5 := w64 (by omega) (by omega)
    by_cases hlt : a + q.length < s.size
    · have b := bt_range s ((a + q.length : Nat) : Int)
      have hd := drop_bt s (a + q.length) hlt
      have ht := take_bt s a q.length hlt
      rw [hq] at ht
      have f1 : (q.length : Nat) < 5 := by omega
      have f2 : ((a + q.length : Nat) : Int) < (s.size : Int) := by omega
      have f3 : ((a + q.length : Nat) : Int) < (a : Int) + 5 := by omega
      have f4 : (0 : Int) ≤ ((a + q.length : Nat) : Int) := by omega
      have f5 : (0 : Int) ≤ (a : Int) := by omega
      have f6 : (a : Int) ≤ ((a + (q.length + 1) : Nat) : Int) := by omega
      have f7 : ((a + (q.length + 1) : Nat) : Int) ≤ (s.size : Int) := by omega
      have e5 : wrap64 (((a + q.length : Nat) : Int) + 1) = ((a + (q.length + 1) : Nat) : Int) := by rw [w64 (by omega) (by omega)]; omega
      have e2 : Int.tmod (bt s ((a + q.length : Nat) : Int)) 128 = bt s ((a + q.length : Nat) : Int) % 128 := Int.tmod_eq_emod_of_nonneg b.1
      have e4 := term7 (bt s ((a + q.length : Nat) : Int)) b.1 q f1
      have e3 := term7a (bt s ((a + q.length : Nat) : Int)) b.1 q f1
      have e6 := scale7 q f1
      simp only [spec_ReadVar.l0, spec_ReadVar.j1, f2, ↓reduceIte, e, f3, decide_true, f4, bt_wrap, e2, e3, e4, e5, e6, f5, f6, f7, Int.toNat_natCast]
      clear e2 e3 e4 e5 e6
      rw [hd]
      have hx := bytesOf_piece s a (q.length + 1)
      rw [ht] at hx
      generalize bt s ((a + q.length : Nat) : Int) = c at b ht hx ⊢
      by_cases hb : 128 ≤ c
      · rw [rvRes_step _ _ _ _ _ hb]
        simp only [show ¬ (c < 128) from by omega, ↓reduceIte]
        have g := ih (q ++ [c]) (by simp; omega) (by simp; omega) (by rw [List.length_append, List.length_singleton]; exact ht) (by
          intro x hx
          rcases List.mem_append.1 hx with h | h
          · exact hr x h
          · obtain rfl := List.mem_singleton.1 h; omega)
        simp only [List.length_append, List.length_singleton] at g
        exact g
      · rw [rvRes_last _ _ _ _ _ hb]
        have hE := ends_snoc q c hr (by omega) (by omega)
        have hv := vval_bound (q ++ [c])
        simp only [show c < 128 from by omega, ↓reduceIte]
        unfold rvFail
        by_cases hM : vval (q ++ [c]) > 1000000000
        · simp only [hM, or_true, ↓reduceIte]
          exact Ev.now _
        · simp only [hM, or_false, ↓reduceIte]
          refine Ev.bind (spec_l01Var_ev _ hv.1 (by omega)) ?_
          have key : (varS (vval (q ++ [c]))).toList = (s.extract a (a + (q.length + 1))).toList ↔ ¬ (1 < (q ++ [c]).length ∧ (q ++ [c]).getLast? = some 0) := by
            rw [toList_inj, ← vt_iff _ hE]
            unfold varS
            constructor
            · intro h
              have h2 := congrArg bytesOf h
              rw [bytesOf_str (vt_range _), hx] at h2
              exact h2
            · intro h
              refine bytesOf_inj ?_
              rw [bytesOf_str (vt_range _), hx]
              exact h
          simp only [key, List.length_append, List.length_singleton]
          by_cases hk : 1 < q.length + 1 ∧ (q ++ [c]).getLast? = some 0
          · simp only [hk, not_true_eq_false, and_self, ↓reduceIte]
            exact Ev.now _
          · simp only [hk, not_false_eq_true, ↓reduceIte]
            rw [show ((a + (q.length + 1) : Nat) : Int) = (a : Int) + ((q.length + 1 : Nat) : Int) from by omega]
            exact Ev.now _
    · simp only [spec_ReadVar.l0, spec_ReadVar.j1, show ¬ (((a + q.length : Nat) : Int) < (s.size : Int)) from by omega, ↓reduceIte, Bool.false_eq_true]
      rw [show a + q.length = s.size from by omega, drop_end]
      exact Ev.now _
theorem spec_ReadVar_ev (s : ByteArray) (hs : s.size ≤ 140737488351232) (a : Int) : Ev (fun k => spec_ReadVar.f k s a) (readVarOf s a) := by
  unfold readVarOf
  simp only [spec_ReadVar.f, spec_l01In_eq, Option.bind_some, decide_eq_true_eq]
  by_cases h : 0 ≤ a ∧ a ≤ (s.size : Int)
  · simp only [h, and_self, ↓reduceIte]
    obtain ⟨m, rfl⟩ := Int.eq_ofNat_of_zero_le h.1
    exact spec_ReadVar_l0 s hs m 5 [] rfl (by simp; omega) rfl (by simp)
  · simp only [h, ↓reduceIte]
    exact Ev.now _

theorem rvPre_len : ∀ (f : Nat) (l p : List Int), rvPre f l = some p → p.length ≤ l.length
  | 0, _, _, h => by simp [rvPre] at h
  | _ + 1, [], _, h => by simp [rvPre] at h
  | f + 1, b :: t, p, h => by
    rw [rvPre] at h
    split at h
    · obtain ⟨p', h', rfl⟩ := Option.map_eq_some_iff.1 h
      have := rvPre_len f t p' h'
      simp; omega
    · obtain rfl := Option.some.inj h
      simp
theorem readVarOf_bounds (s : ByteArray) (a n nx : Int) (h : readVarOf s a = (n, nx, true)) : 0 ≤ n ∧ n ≤ 1000000000 ∧ 0 ≤ nx ∧ nx ≤ (s.size : Int) := by
  unfold readVarOf at h
  split at h
  next ha =>
    cases hp : rvPre 5 ((bytesOf s).drop a.toNat) with
    | none => rw [hp] at h; simp [rvRes] at h
    | some p =>
      rw [hp] at h
      have hl := rvPre_len _ _ _ hp
      rw [List.length_drop, bytesOf_length] at hl
      simp only [rvRes, List.nil_append] at h
      split at h
      · simp at h
      next hf =>
        have b := vval_bound p
        unfold rvFail at hf
        simp only [Prod.mk.injEq, and_true] at h
        have : ¬ vval p > 1000000000 := fun q => hf (.inr q)
        omega
  · simp at h

def readShortOf (s : ByteArray) (a : Int) : ByteArray × Int × Bool :=
  if (readVarOf s a).2.2 = true then (if (readVarOf s a).1 > 20000 then ((⟨#[]⟩ : ByteArray), 0, false) else if (readVarOf s a).1 > (s.size : Int) - (readVarOf s a).2.1 then ((⟨#[]⟩ : ByteArray), 0, false)
    else (s.extract (readVarOf s a).2.1.toNat ((readVarOf s a).2.1 + (readVarOf s a).1).toNat, (readVarOf s a).2.1 + (readVarOf s a).1, true)) else ((⟨#[]⟩ : ByteArray), 0, false)

theorem spec_ReadShort_ev (s : ByteArray) (hs : s.size ≤ 140737488351232) (a : Int) : Ev (fun k => spec_ReadShort.f k s a) (readShortOf s a) := by
  simp only [spec_ReadShort.f]
  refine Ev.bind (spec_ReadVar_ev s hs a) ?_
  unfold readShortOf
  have hb := readVarOf_bounds s a
  generalize readVarOf s a = r at hb ⊢
  obtain ⟨n, nx, ok⟩ := r
  cases ok with
  | false => simp only [Bool.false_eq_true, ↓reduceIte]; exact Ev.now _
  | true =>
    have b := hb n nx rfl
    have e1 : wrap64 ((s.size : Int) - nx) = (s.size : Int) - nx := w64 (by omega) (by omega)
    have e2 : wrap64 (nx + n) = nx + n := w64 (by omega) (by omega)
    simp only [↓reduceIte, e1, e2]
    by_cases h1 : n > 20000
    · simp only [h1, ↓reduceIte]; exact Ev.now _
    · by_cases h2 : n > (s.size : Int) - nx
      · simp only [h1, h2, ↓reduceIte]; exact Ev.now _
      · simp only [h1, h2, show (0 : Int) ≤ nx from b.2.2.1, show nx ≤ nx + n from by omega, show nx + n ≤ (s.size : Int) from by omega, ↓reduceIte]
        exact Ev.now _

theorem impl_ReadShort_ev (s : ByteArray) (hs : s.size ≤ 140737488351232) (a : Int) (h0 : -9223372036854775808 ≤ a) (h1 : a ≤ 9223372036854775807) : Ev (fun k => impl_ReadShort.f k s a) (readShortOf s a) := by
  simp only [impl_ReadShort.f]
  refine Ev.bind (impl_ReadVar_ev s hs a h0 h1) ?_
  unfold readShortOf
  have hb := readVarOf_bounds s a
  generalize readVarOf s a = r at hb ⊢
  obtain ⟨n, nx, ok⟩ := r
  cases ok with
  | false => simp only [Bool.false_eq_true, ↓reduceIte]; exact Ev.now _
  | true =>
    have b := hb n nx rfl
    have e1 : wrap64 ((s.size : Int) - nx) = (s.size : Int) - nx := w64 (by omega) (by omega)
    have e2 : wrap64 (nx + n) = nx + n := w64 (by omega) (by omega)
    simp only [↓reduceIte, e1, e2]
    by_cases h1 : n > 20000
    · simp only [h1, ↓reduceIte]; exact Ev.now _
    · by_cases h2 : n > (s.size : Int) - nx
      · simp only [h1, h2, ↓reduceIte]; exact Ev.now _
      · simp only [h1, h2, show (0 : Int) ≤ nx from b.2.2.1, show nx ≤ nx + n from by omega, show nx + n ≤ (s.size : Int) from by omega, ↓reduceIte]
        exact Ev.now _

theorem FnExactReadShort : laws_FnExactReadShort.Pure := by
  intro a0 a1 h0 h1
  refine Ev.rounds ?_
  simp only [laws_FnExactReadShort.f]
  by_cases hb : (a0.size : Int) > 1048576
  · simp only [hb, ↓reduceIte]; exact Ev.now _
  · simp only [hb, ↓reduceIte]
    refine Ev.bind (spec_ReadShort_ev a0 h0 a1) (Ev.bind (impl_ReadShort_ev a0 h0 a1 (wf64 h1).1 (wf64 h1).2) ?_)
    simp only [bne_self_eq_false, Bool.false_eq_true, ↓reduceIte]
    exact Ev.now _

end Go.Proofs.Ytjaohcbfgpfmcaa.Pure
