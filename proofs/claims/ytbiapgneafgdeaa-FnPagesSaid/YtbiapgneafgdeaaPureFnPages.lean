/- What is proved here: the law FnPages, told as a plain function over numbers and lists, answers true at all arguments. Conditions: those of the row alone, none of ours. -/
import Derived.Test.YtbiapgneafgdeaaQFnPagesx9
import Derived.Test.YtbiapgneafgdeaaKit
namespace Go.Proofs.Ytbiapgneafgdeaa.Pure
open Go.RowKit Go.Proofs.Ytbiapgneafgdeaa.QFnPages Go.Proofs.YtbiapgneafgdeaaW.PrintWords Go.Proofs.YtbiapgneafgdeaaW.PrintLast Go.Proofs.Ytbiapgneafgdeaa.Kit Go.Proofs.YtbiapgneafgdeaaW.PrintMore
set_option linter.unusedSimpArgs false
set_option linter.unusedVariables false

/-! a number's bytes -/
def vt (n : Nat) : List Int := if 127 < n then ((n % 128 + 128 : Nat) : Int) :: vt (n / 128) else [(n : Int)]
termination_by n
decreasing_by omega
theorem vt_range (n : Nat) : ∀ x ∈ vt n, 0 ≤ x ∧ x < 256 := by
  induction n using Nat.strongRecOn with
  | _ n ih =>
    rw [vt]
    split
    · intro x hx
      rcases List.mem_cons.1 hx with rfl | hx
      · omega
      · exact ih (n / 128) (by omega) x hx
    · intro x hx
      obtain rfl := List.mem_singleton.1 hx
      omega
theorem vt_len (n : Nat) : ∀ j : Nat, n < 128 ^ (j + 1) → (vt n).length ≤ j + 1 := by
  intro j
  induction j generalizing n with
  | zero => intro h; rw [vt, if_neg (by omega)]; simp
  | succ j ih =>
    intro h
    rw [vt]
    split
    · have := ih (n / 128) (by rw [Nat.div_lt_iff_lt_mul (by omega)]; rw [Nat.pow_succ] at h; exact h)
      simp only [List.length_cons]; omega
    · simp
theorem vt_len5 (n : Nat) (h : n ≤ 1000000000) : (vt n).length ≤ 5 := vt_len n 4 (by omega)
def varS (n : Int) : ByteArray := strOfNums (vt n.toNat)
theorem tdiv128 (n : Nat) (h : n ≤ 1000000000000) : wrap64 (Int.tdiv (n : Int) 128) = ((n / 128 : Nat) : Int) := by
  rw [Int.tdiv_eq_ediv_of_nonneg (by omega), w64 (by omega) (by omega)]; omega
theorem tmod128 (n : Nat) (h : n ≤ 1000000000000) : wrap64 (Int.tmod (n : Int) 128 + 128) % 256 = ((n % 128 + 128 : Nat) : Int) := by
  rw [Int.tmod_eq_emod_of_nonneg (by omega), w64 (by omega) (by omega)]; omega

theorem spec_l01Var_l0 (n : Nat) : n ≤ 1000000000000 → ∀ acc : List Int, acc.length + n < 140737488355328 → Ev (fun k => spec_l01Var.l0 k (n : Int) acc) (strOfNums (acc ++ vt n)) := by
  induction n using Nat.strongRecOn with
  | _ n ih =>
    intro hn acc ha
    refine ev_st ?_
    have hl : acc.length < 140737488355328 := by omega
    rw [vt]
    by_cases h : 127 < n
    · simp only [spec_l01Var.l0, show (n : Int) > 127 from by omega, hl, h, ↓reduceIte, tdiv128 n hn, tmod128 n hn]
      have g := ih (n / 128) (by omega) (by omega) (acc ++ [((n % 128 + 128 : Nat) : Int)]) (by simp; omega)
      rw [List.append_assoc] at g
      exact g
    · simp only [spec_l01Var.l0, show ¬ ((n : Int) > 127) from by omega, hl, h, ↓reduceIte, show (n : Int) % 256 = (n : Int) from by omega]
      exact Ev.now _
theorem spec_l01Var_ev (n : Int) (h0 : 0 ≤ n) (h1 : n ≤ 1000000000000) : Ev (fun k => spec_l01Var.f k n) (varS n) := by
  obtain ⟨m, rfl⟩ := Int.eq_ofNat_of_zero_le h0
  exact spec_l01Var_l0 m (by omega) [] (by simp; omega)

theorem spec_l01In_eq (a b c : Int) : spec_l01In.f a b c = some (decide (b ≤ a ∧ a ≤ c)) := by
  unfold spec_l01In.f
  by_cases h : b ≤ a <;> simp [h, GE.ge]

theorem impl_in_eq (a b c : Int) : impl_in.f a b c = some (decide (b ≤ a ∧ a ≤ c)) := by
  unfold impl_in.f
  by_cases h : b ≤ a <;> simp [h, GE.ge]

def varTextOf (n : Int) : ByteArray × Bool := if 0 ≤ n ∧ n ≤ 1000000000 then (varS n, true) else ((⟨#[]⟩ : ByteArray), false)

theorem impl_VarText_l0 (n : Nat) : n ≤ 1000000000000 → ∀ acc : List Int, acc.length + n < 140737488355328 → Ev (fun k => impl_VarText.l0 k (n : Int) acc) (strOfNums (acc ++ vt n), true) := by
  induction n using Nat.strongRecOn with
  | _ n ih =>
    intro hn acc ha
    refine ev_st ?_
    have hl : acc.length < 140737488355328 := by omega
    rw [vt]
    by_cases h : 127 < n
    · simp only [impl_VarText.l0, show (n : Int) > 127 from by omega, hl, h, ↓reduceIte, tdiv128 n hn, tmod128 n hn]
      have g := ih (n / 128) (by omega) (by omega) (acc ++ [((n % 128 + 128 : Nat) : Int)]) (by simp; omega)
      rw [List.append_assoc] at g
      exact g
    · simp only [impl_VarText.l0, show ¬ ((n : Int) > 127) from by omega, hl, h, ↓reduceIte, show (n : Int) % 256 = (n : Int) from by omega]
      exact Ev.now _
theorem impl_VarText_ev (n : Int) : Ev (fun k => impl_VarText.f k n) (varTextOf n) := by
  simp only [impl_VarText.f, impl_in_eq, Option.bind_some, decide_eq_true_eq]
  unfold varTextOf
  by_cases h : 0 ≤ n ∧ n ≤ 1000000000
  · simp only [h, and_self, ↓reduceIte]
    obtain ⟨m, rfl⟩ := Int.eq_ofNat_of_zero_le h.1
    exact impl_VarText_l0 m (by omega) [] (by simp; omega)
  · simp only [h, ↓reduceIte]
    exact Ev.now _

theorem impl_varOf_ev (n : Int) (h0 : 0 ≤ n) (h1 : n ≤ 1000000000) : Ev (fun k => impl_varOf.f k n) (varS n) := by
  refine Ev.bind (impl_VarText_ev n) ?_
  unfold varTextOf
  rw [if_pos ⟨h0, h1⟩]
  exact Ev.now _

def shortOf (s : ByteArray) : ByteArray × Bool := if (s.size : Int) > 20000 then ((⟨#[]⟩ : ByteArray), false) else (varS (s.size : Int) ++ s, true)
theorem varS_size (n : Int) (h0 : 0 ≤ n) (h1 : n ≤ 1000000000) : (varS n).size ≤ 5 := by
  unfold varS
  rw [strOfNums_size]
  exact vt_len5 _ (by omega)

/-! a number is read -/
def rvPre : Nat → List Int → Option (List Int)
  | 0, _ => none
  | _ + 1, [] => none
  | f + 1, b :: t => if 128 ≤ b then (rvPre f t).map (b :: ·) else some [b]
def vval : List Int → Int
  | [] => 0
  | b :: t => b % 128 + 128 * vval t
def rvFail (w : List Int) : Prop := (1 < w.length ∧ w.getLast? = some 0) ∨ vval w > 1000000000
instance (w : List Int) : Decidable (rvFail w) := by unfold rvFail; infer_instance
def rvRes (at' : Int) (q : List Int) : Option (List Int) → Int × Int × Bool
  | none => (0, 0, false)
  | some p => if rvFail (q ++ p) then (0, 0, false) else (vval (q ++ p), at' + ((q ++ p).length : Int), true)
def readVarOf (s : ByteArray) (at' : Int) : Int × Int × Bool := if 0 ≤ at' ∧ at' ≤ (s.size : Int) then rvRes at' [] (rvPre 5 ((bytesOf s).drop at'.toNat)) else (0, 0, false)
theorem rvRes_step (at' : Int) (q : List Int) (f : Nat) (b : Int) (t : List Int) (h : 128 ≤ b) : rvRes at' q (rvPre (f + 1) (b :: t)) = rvRes at' (q ++ [b]) (rvPre f t) := by
  rw [rvPre, if_pos h]
  cases rvPre f t with
  | none => rfl
  | some p => simp only [Option.map_some, rvRes, List.append_assoc, List.singleton_append]
theorem vval_snoc (q : List Int) (b : Int) : vval (q ++ [b]) = vval q + b % 128 * 128 ^ q.length := by
  induction q with
  | nil => simp [vval]
  | cons c q ih =>
    simp only [List.cons_append, vval, ih, List.length_cons]
    rw [Int.pow_succ]
    have : 128 * (b % 128 * 128 ^ q.length) = b % 128 * (128 ^ q.length * 128) := by rw [Int.mul_comm, Int.mul_assoc]
    rw [Int.mul_add, this]; omega
theorem vval_bound (q : List Int) : 0 ≤ vval q ∧ vval q < 128 ^ q.length := by
  induction q with
  | nil => simp [vval]
  | cons c q ih =>
    simp only [vval, List.length_cons]
    rw [Int.pow_succ]
    generalize (128 : Int) ^ q.length = p at ih ⊢
    omega
theorem vval_bound_le (q : List Int) (j : Nat) (h : q.length ≤ j) : 0 ≤ vval q ∧ vval q < 128 ^ j := by
  have b := vval_bound q
  have : (128 : Int) ^ q.length ≤ 128 ^ j := pow128_le h
  omega
/-- What is written as a number tells that number. -/
theorem vval_vt (n : Nat) : vval (vt n) = n := by
  induction n using Nat.strongRecOn with
  | _ n ih =>
    rw [vt]
    split
    · rw [vval, ih (n / 128) (by omega)]; omega
    · simp only [vval]; omega
/-- All but the last go on, the last does not. -/
def Ends : List Int → Prop
  | [] => False
  | [b] => 0 ≤ b ∧ b < 128
  | b :: t => 128 ≤ b ∧ b < 256 ∧ Ends t
theorem ends_vt (n : Nat) : Ends (vt n) := by
  induction n using Nat.strongRecOn with
  | _ n ih =>
    rw [vt]
    split
    · have g := ih (n / 128) (by omega)
      generalize vt (n / 128) = l at g ⊢
      cases l with
      | nil => exact g.elim
      | cons c t => exact ⟨by omega, by omega, g⟩
    · exact ⟨by omega, by omega⟩
theorem last_vt (n : Nat) (h : 1 ≤ n) : (vt n).getLast? ≠ some 0 := by
  induction n using Nat.strongRecOn with
  | _ n ih =>
    rw [vt]
    split
    · have g := ih (n / 128) (by omega) (by omega)
      have e := ends_vt (n / 128)
      generalize vt (n / 128) = l at g e ⊢
      cases l with
      | nil => exact e.elim
      | cons c t => rw [List.getLast?_cons_cons]; exact g
    · simp; omega
theorem vval_pos (l : List Int) (h : Ends l) (hz : l.getLast? ≠ some 0) : 1 ≤ vval l := by
  induction l with
  | nil => exact h.elim
  | cons b t ih =>
    cases t with
    | nil =>
      simp [vval] at hz ⊢
      obtain ⟨h0, h1⟩ := h
      omega
    | cons c t =>
      obtain ⟨_, _, h2⟩ := h
      rw [List.getLast?_cons_cons] at hz
      have := ih h2 hz
      simp only [vval] at this ⊢
      omega
theorem vt_vval (l : List Int) (h : Ends l) (hz : 1 < l.length → l.getLast? ≠ some 0) : vt (vval l).toNat = l := by
  induction l with
  | nil => exact h.elim
  | cons b t ih =>
    cases t with
    | nil =>
      obtain ⟨h0, h1⟩ := h
      have e : vval [b] = b := by simp only [vval]; omega
      rw [e, vt, if_neg (by omega)]
      simp; omega
    | cons c t =>
      obtain ⟨h0, h1, h2⟩ := h
      have hz2 : (c :: t).getLast? ≠ some 0 := by
        have := hz (by simp)
        rw [List.getLast?_cons_cons] at this
        exact this
      have p := vval_pos (c :: t) h2 hz2
      have g := ih h2 (fun _ => hz2)
      have e : vval (b :: c :: t) = b % 128 + 128 * vval (c :: t) := rfl
      generalize hv : vval (c :: t) = v at *
      rw [vt, if_pos (by omega)]
      have e1 : (vval (b :: c :: t)).toNat / 128 = v.toNat := by omega
      rw [e1, g]
      congr 1
      omega
/-- The reference's test by writing anew, and the program's test of the last byte. -/
theorem vt_iff (l : List Int) (h : Ends l) : vt (vval l).toNat = l ↔ ¬ (1 < l.length ∧ l.getLast? = some 0) := by
  constructor
  · rintro e ⟨h1, h2⟩
    have p : 1 ≤ (vval l).toNat := by
      rcases Nat.lt_or_ge (vval l).toNat 1 with q | q
      · rw [show (vval l).toNat = 0 from by omega, vt, if_neg (by omega)] at e
        rw [← e] at h1
        simp at h1
      · exact q
    exact last_vt _ p (by rw [e]; exact h2)
  · intro q
    exact vt_vval l h (fun h1 h2 => q ⟨h1, h2⟩)
theorem ends_snoc (q : List Int) (b : Int) (hq : ∀ x ∈ q, 128 ≤ x ∧ x < 256) (h0 : 0 ≤ b) (h1 : b < 128) : Ends (q ++ [b]) := by
  induction q with
  | nil => exact ⟨h0, h1⟩
  | cons c q ih =>
    have := ih (fun x hx => hq x (List.mem_cons_of_mem _ hx))
    have hc := hq c (List.mem_cons_self ..)
    rw [List.cons_append]
    generalize q ++ [b] = l at this ⊢
    cases l with
    | nil => exact this.elim
    | cons d t => exact ⟨hc.1, hc.2, this⟩

theorem term7 (b : Int) (h0 : 0 ≤ b) (q : List Int) (hq : q.length < 5) : wrap64 (vval q + b % 128 * 128 ^ q.length) = vval (q ++ [b]) := by
  have g := vval_bound_le (q ++ [b]) 5 (by simp; omega)
  rw [vval_snoc] at g
  rw [vval_snoc]
  exact w64 (by omega) (by omega)
theorem term7a (b : Int) (h0 : 0 ≤ b) (q : List Int) (hq : q.length < 5) : wrap64 (b % 128 * 128 ^ q.length) = b % 128 * 128 ^ q.length := by
  have g := vval_bound_le (q ++ [b]) 5 (by simp; omega)
  have g2 := vval_bound q
  rw [vval_snoc] at g
  have h : 0 ≤ b % 128 * 128 ^ q.length := Int.mul_nonneg (by omega) (Int.le_of_lt (pow128_pos _))
  exact w64 (by omega) (by omega)
theorem scale7 (q : List Int) (hq : q.length < 5) : wrap64 ((128 : Int) ^ q.length * 128) = 128 ^ (q.length + 1) := by
  have h : (128 : Int) ^ q.length ≤ 128 ^ 4 := pow128_le (by omega)
  have h2 := pow128_pos q.length
  rw [w64 (by omega) (by omega), Int.pow_succ]
theorem rvRes_last (at' : Int) (q : List Int) (f : Nat) (b : Int) (t : List Int) (h : ¬ 128 ≤ b) : rvRes at' q (rvPre (f + 1) (b :: t)) = if rvFail (q ++ [b]) then (0, 0, false) else (vval (q ++ [b]), at' + ((q ++ [b]).length : Int), true) := by
  rw [rvPre, if_neg h]; rfl
theorem rvFail_iff (q : List Int) (b : Int) : rvFail (q ++ [b]) ↔ (0 < q.length ∧ b = 0) ∨ vval (q ++ [b]) > 1000000000 := by
  unfold rvFail
  simp only [List.length_append, List.length_singleton, List.getLast?_append, List.getLast?_singleton, Option.some_or, Option.some.injEq]
  constructor
  · rintro (⟨h1, h2⟩ | h)
    · exact .inl ⟨by omega, h2⟩
    · exact .inr h
  · rintro (⟨h1, h2⟩ | h)
    · exact .inl ⟨by omega, h2⟩
    · exact .inr h

theorem rvPre_len : ∀ (f : Nat) (l p : List Int), rvPre f l = some p → p.length ≤ l.length
  | 0, _, _, h => by simp [rvPre] at h
  | _ + 1, [], _, h => by simp [rvPre] at h
  | f + 1, b :: t, p, h => by
    rw [rvPre] at h
    split at h
    · obtain ⟨p', h', rfl⟩ := Option.map_eq_some_iff.1 h
      have := rvPre_len f t p' h'
      simp; omega
    · obtain rfl := Option.some.inj h
      simp
theorem readVarOf_bounds (s : ByteArray) (a n nx : Int) (h : readVarOf s a = (n, nx, true)) : 0 ≤ n ∧ n ≤ 1000000000 ∧ 0 ≤ nx ∧ nx ≤ (s.size : Int) := by
  unfold readVarOf at h
  split at h
  next ha =>
    cases hp : rvPre 5 ((bytesOf s).drop a.toNat) with
    | none => rw [hp] at h; simp [rvRes] at h
    | some p =>
      rw [hp] at h
      have hl := rvPre_len _ _ _ hp
      rw [List.length_drop, bytesOf_length] at hl
      simp only [rvRes, List.nil_append] at h
      split at h
      · simp at h
      next hf =>
        have b := vval_bound p
        unfold rvFail at hf
        simp only [Prod.mk.injEq, and_true] at h
        have : ¬ vval p > 1000000000 := fun q => hf (.inr q)
        omega
  · simp at h

theorem shl7 (x : Int) (h0 : 0 ≤ x) (h1 : x < 128) (j : Nat) (hj : j < 5) : shl .i64 x (wrap64 (7 * (j : Int))) = x * 128 ^ j := by
  rw [w64 (by omega) (by omega)]
  unfold shl
  rw [IntKind.wrap_i64, show (7 * (j : Int)).toNat = 7 * j from by omega, Nat.min_eq_left (show 7 * j ≤ IntKind.i64.bits from by show 7 * j ≤ 64; omega)]
  obtain rfl | rfl | rfl | rfl | rfl : j = 0 ∨ j = 1 ∨ j = 2 ∨ j = 3 ∨ j = 4 := by omega
  all_goals (simp only [Nat.mul_zero, Nat.reduceMul, Int.reducePow, Int.pow_zero]; omega)
set_option maxHeartbeats 1000000 in
theorem impl_ReadVar_l0 (s : ByteArray) (hs : s.size ≤ 140737488351232) (a : Nat) : ∀ (f : Nat) (q : List Int), f + q.length = 5 → a + q.length ≤ s.size →
    Ev (fun k => impl_ReadVar.l0 k s (a : Int) (vval q) (q.length : Int)) (rvRes (a : Int) q (rvPre f ((bytesOf s).drop (a + q.length)))) := by
  intro f
  induction f with
  | zero =>
    intro q hf _
    refine ev_st (ev_st ?_)
    simp only [impl_ReadVar.l0, impl_ReadVar.j1, show ¬ ((q.length : Int) < 5) from by omega, ↓reduceIte, Bool.false_eq_true]
    exact Ev.now _
  | succ f ih =>
    intro q hf ha
    refine ev_st (ev_st ?_)
    have e0 : wrap64 ((s.size : Int) - (q.length : Int)) = (s.size : Int) - (q.length : Int) := w64 (by omega) (by omega)
    have e1 : wrap64 ((a : Int) + (q.length : Int)) = ((a + q.length : Nat) : Int) := by rw [w64 (by omega) (by omega)]; omega
    by_cases hlt : a + q.length < s.size
    · have b := bt_range s ((a + q.length : Nat) : Int)
      have hd := drop_bt s (a + q.length) hlt
      have f1 : (q.length : Int) < 5 := by omega
      have f2 : (a : Int) ≥ 0 := by omega
      have f3 : (a : Int) < (s.size : Int) - (q.length : Int) := by omega
      have f4 : (0 : Int) ≤ ((a + q.length : Nat) : Int) := by omega
      have f5 : ((a + q.length : Nat) : Int) < (s.size : Int) := by omega
      have f6 : q.length < 5 := by omega
      have f7 : 0 ≤ bt s ((a + q.length : Nat) : Int) % 128 := by omega
      have f8 : bt s ((a + q.length : Nat) : Int) % 128 < 128 := by omega
      have e5 : wrap64 (((a + q.length : Nat) : Int) + 1) = ((a : Int) + (((q.length + 1 : Nat)) : Int)) := by rw [w64 (by omega) (by omega)]; omega
      have e6 : wrap64 ((q.length : Int) + 1) = ((q.length + 1 : Nat) : Int) := by rw [w64 (by omega) (by omega)]; omega
      have e7 : (0 : Int) ≤ wrap64 (7 * (q.length : Int)) := by rw [w64 (by omega) (by omega)]; omega
      have e2 : Int.tmod (bt s ((a + q.length : Nat) : Int)) 128 = bt s ((a + q.length : Nat) : Int) % 128 := Int.tmod_eq_emod_of_nonneg b.1
      have e3 := shl7 (bt s ((a + q.length : Nat) : Int) % 128) f7 f8 q.length f6
      have e4 := term7 (bt s ((a + q.length : Nat) : Int)) b.1 q f6
      simp only [impl_ReadVar.l0, impl_ReadVar.j1, f1, f2, ↓reduceIte, e0, f3, decide_true, e1, f4, f5, bt_wrap, e2, e3, e4, e5, e6, e7]
      clear e2 e3 e4 e5 e6 e7 f7 f8
      rw [hd]
      generalize bt s ((a + q.length : Nat) : Int) = c at b ⊢
      by_cases hb : 128 ≤ c
      · rw [rvRes_step _ _ _ _ _ hb]
        simp only [show c ≥ 128 from hb, ↓reduceIte]
        have g := ih (q ++ [c]) (by simp; omega) (by simp; omega)
        simp only [List.length_append, List.length_singleton] at g
        exact g
      · rw [rvRes_last _ _ _ _ _ hb]
        simp only [show ¬ (c ≥ 128) from hb, ↓reduceIte, rvFail_iff, List.length_append, List.length_singleton]
        by_cases h0 : c = 0
        · by_cases hp : 0 < q.length
          · simp only [h0, show (q.length : Int) > 0 from by omega, hp, and_self, true_or, ↓reduceIte]
            exact Ev.now _
          · simp only [h0, show ¬ ((q.length : Int) > 0) from by omega, hp, false_and, false_or, ↓reduceIte]
            split
            · exact Ev.now _
            · exact Ev.now _
        · simp only [h0, and_false, false_or, ↓reduceIte]
          split
          · exact Ev.now _
          · exact Ev.now _
    · simp only [impl_ReadVar.l0, impl_ReadVar.j1, show (q.length : Int) < 5 from by omega, show (a : Int) ≥ 0 from by omega, ↓reduceIte, e0, show ¬ ((a : Int) < (s.size : Int) - (q.length : Int)) from by omega, decide_false, Bool.false_eq_true]
      rw [show a + q.length = s.size from by omega, drop_end]
      exact Ev.now _
theorem impl_ReadVar_ev (s : ByteArray) (hs : s.size ≤ 140737488351232) (a : Int) (h0 : -9223372036854775808 ≤ a) (h1 : a ≤ 9223372036854775807) : Ev (fun k => impl_ReadVar.f k s a) (readVarOf s a) := by
  unfold readVarOf
  simp only [impl_ReadVar.f]
  by_cases h : 0 ≤ a ∧ a ≤ (s.size : Int)
  · rw [if_pos h]
    obtain ⟨m, rfl⟩ := Int.eq_ofNat_of_zero_le h.1
    exact impl_ReadVar_l0 s hs m 5 [] rfl (by simp; omega)
  · rw [if_neg h]
    refine ev_st (ev_st ?_)
    have e : wrap64 ((s.size : Int) - 0) = (s.size : Int) := by rw [w64 (by omega) (by omega)]; omega
    simp only [impl_ReadVar.l0, impl_ReadVar.j1, show (0 : Int) < 5 from by omega, ↓reduceIte, e]
    by_cases ha : a ≥ 0
    · simp only [ha, show ¬ (a < (s.size : Int)) from by omega, ↓reduceIte, decide_false, Bool.false_eq_true]
      exact Ev.now _
    · simp only [ha, ↓reduceIte, Bool.false_eq_true]
      exact Ev.now _

theorem take_bt (s : ByteArray) (a j : Nat) (h : a + j < s.size) : ((bytesOf s).drop a).take (j + 1) = ((bytesOf s).drop a).take j ++ [bt s ((a + j : Nat) : Int)] := by
  rw [List.take_succ_eq_append_getElem (by rw [List.length_drop, bytesOf_length]; omega), List.getElem_drop, bt_get s (a + j) h]
theorem bytesOf_piece (s : ByteArray) (a j : Nat) : bytesOf (s.extract a (a + j)) = ((bytesOf s).drop a).take j := by
  rw [bytesOf_extract, List.drop_take, Nat.add_sub_cancel_left]
set_option maxHeartbeats 1000000 in
theorem spec_ReadVar_l0 (s : ByteArray) (hs : s.size ≤ 140737488351232) (a : Nat) : ∀ (f : Nat) (q : List Int), f + q.length = 5 → a + q.length ≤ s.size → ((bytesOf s).drop a).take q.length = q → (∀ x ∈ q, 128 ≤ x ∧ x < 256) →
    Ev (fun k => spec_ReadVar.l0 k s (a : Int) (vval q) (128 ^ q.length) ((a + q.length : Nat) : Int)) (rvRes (a : Int) q (rvPre f ((bytesOf s).drop (a + q.length)))) := by
  intro f
  induction f with
  | zero =>
    intro q hf ha _ _
    refine ev_st (ev_st ?_)
    have e : wrap64 ((a : Int) + 5) = (a : Int) + 5 := w64 (by omega) (by omega)
    by_cases hlt : ((a + q.length : Nat) : Int) < (s.size : Int)
    · simp only [spec_ReadVar.l0, spec_ReadVar.j1, hlt, e, show ¬ (((a + q.length : Nat) : Int) < (a : Int) + 5) from by omega, ↓reduceIte, decide_false, Bool.false_eq_true]
      exact Ev.now _
    · simp only [spec_ReadVar.l0, spec_ReadVar.j1, hlt, ↓reduceIte, Bool.false_eq_true]
      exact Ev.now _
  | succ f ih =>
    intro q hf ha hq hr
    refine ev_st (ev_st ?_)
    have e : wrap64 ((a : Int) + 5) = (a : Int) + 5 := w64 (by omega) (by omega)
    by_cases hlt : a + q.length < s.size
    · have b := bt_range s ((a + q.length : Nat) : Int)
      have hd := drop_bt s (a + q.length) hlt
      have ht := take_bt s a q.length hlt
      rw [hq] at ht
      have f1 : (q.length : Nat) < 5 := by omega
      have f2 : ((a + q.length : Nat) : Int) < (s.size : Int) := by omega
      have f3 : ((a + q.length : Nat) : Int) < (a : Int) + 5 := by omega
      have f4 : (0 : Int) ≤ ((a + q.length : Nat) : Int) := by omega
      have f5 : (0 : Int) ≤ (a : Int) := by omega
      have f6 : (a : Int) ≤ ((a + (q.length + 1) : Nat) : Int) := by omega
      have f7 : ((a + (q.length + 1) : Nat) : Int) ≤ (s.size : Int) := by omega
      have e5 : wrap64 (((a + q.length : Nat) : Int) + 1) = ((a + (q.length + 1) : Nat) : Int) := by rw [w64 (by omega) (by omega)]; omega
      have e2 : Int.tmod (bt s ((a + q.length : Nat) : Int)) 128 = bt s ((a + q.length : Nat) : Int) % 128 := Int.tmod_eq_emod_of_nonneg b.1
      have e4 := term7 (bt s ((a + q.length : Nat) : Int)) b.1 q f1
      have e3 := term7a (bt s ((a + q.length : Nat) : Int)) b.1 q f1
      have e6 := scale7 q f1
      simp only [spec_ReadVar.l0, spec_ReadVar.j1, f2, ↓reduceIte, e, f3, decide_true, f4, bt_wrap, e2, e3, e4, e5, e6, f5, f6, f7, Int.toNat_natCast]
      clear e2 e3 e4 e5 e6
      rw [hd]
      have hx := bytesOf_piece s a (q.length + 1)
      rw [ht] at hx
      generalize bt s ((a + q.length : Nat) : Int) = c at b ht hx ⊢
      by_cases hb : 128 ≤ c
      · rw [rvRes_step _ _ _ _ _ hb]
        simp only [show ¬ (c < 128) from by omega, ↓reduceIte]
        have g := ih (q ++ [c]) (by simp; omega) (by simp; omega) (by rw [List.length_append, List.length_singleton]; exact ht) (by
          intro x hx
          rcases List.mem_append.1 hx with h | h
          · exact hr x h
          · obtain rfl := List.mem_singleton.1 h; omega)
        simp only [List.length_append, List.length_singleton] at g
        exact g
      · rw [rvRes_last _ _ _ _ _ hb]
        have hE := ends_snoc q c hr (by omega) (by omega)
        have hv := vval_bound (q ++ [c])
        simp only [show c < 128 from by omega, ↓reduceIte]
        unfold rvFail
        by_cases hM : vval (q ++ [c]) > 1000000000
        · simp only [hM, or_true, ↓reduceIte]
          exact Ev.now _
        · simp only [hM, or_false, ↓reduceIte]
          refine Ev.bind (spec_l01Var_ev _ hv.1 (by omega)) ?_
          have key : (varS (vval (q ++ [c]))).toList = (s.extract a (a + (q.length + 1))).toList ↔ ¬ (1 < (q ++ [c]).length ∧ (q ++ [c]).getLast? = some 0) := by
            rw [toList_inj, ← vt_iff _ hE]
            unfold varS
            constructor
            · intro h
              have h2 := congrArg bytesOf h
              rw [bytesOf_str (vt_range _), hx] at h2
              exact h2
            · intro h
              refine bytesOf_inj ?_
              rw [bytesOf_str (vt_range _), hx]
              exact h
          simp only [key, List.length_append, List.length_singleton]
          by_cases hk : 1 < q.length + 1 ∧ (q ++ [c]).getLast? = some 0
          · simp only [hk, not_true_eq_false, and_self, ↓reduceIte]
            exact Ev.now _
          · simp only [hk, not_false_eq_true, ↓reduceIte]
            rw [show ((a + (q.length + 1) : Nat) : Int) = (a : Int) + ((q.length + 1 : Nat) : Int) from by omega]
            exact Ev.now _
    · simp only [spec_ReadVar.l0, spec_ReadVar.j1, show ¬ (((a + q.length : Nat) : Int) < (s.size : Int)) from by omega, ↓reduceIte, Bool.false_eq_true]
      rw [show a + q.length = s.size from by omega, drop_end]
      exact Ev.now _
theorem spec_ReadVar_ev (s : ByteArray) (hs : s.size ≤ 140737488351232) (a : Int) : Ev (fun k => spec_ReadVar.f k s a) (readVarOf s a) := by
  unfold readVarOf
  simp only [spec_ReadVar.f, spec_l01In_eq, Option.bind_some, decide_eq_true_eq]
  by_cases h : 0 ≤ a ∧ a ≤ (s.size : Int)
  · simp only [h, and_self, ↓reduceIte]
    obtain ⟨m, rfl⟩ := Int.eq_ofNat_of_zero_le h.1
    exact spec_ReadVar_l0 s hs m 5 [] rfl (by simp; omega) rfl (by simp)
  · simp only [h, ↓reduceIte]
    exact Ev.now _

/-! the sum -/
def cstep (x : Int) : Int := if x % 2 = 1 then Go.bits .xor .u32 (x / 2) 3558460437 else x / 2
def cbits : Nat → Int → Int
  | 0, x => x
  | n + 1, x => cbits n (cstep x)
def cbyte (x b : Int) : Int := cbits 8 (Go.bits .xor .u32 x b)
def crc (x : Int) (l : List Int) : Int := l.foldl cbyte x
theorem cstep_range {x : Int} (h0 : 0 ≤ x) (h1 : x < 4294967296) : 0 ≤ cstep x ∧ cstep x < 4294967296 := by
  unfold cstep
  split
  · exact xor32_range _ _
  · omega
theorem cbits_range : ∀ (n : Nat) {x : Int}, 0 ≤ x → x < 4294967296 → 0 ≤ cbits n x ∧ cbits n x < 4294967296
  | 0, _, h0, h1 => ⟨h0, h1⟩
  | n + 1, _, h0, h1 => cbits_range n (cstep_range h0 h1).1 (cstep_range h0 h1).2
theorem cbyte_range (x b : Int) : 0 ≤ cbyte x b ∧ cbyte x b < 4294967296 := cbits_range 8 (xor32_range x b).1 (xor32_range x b).2
theorem crc_range : ∀ (l : List Int) {x : Int}, 0 ≤ x → x < 4294967296 → 0 ≤ crc x l ∧ crc x l < 4294967296
  | [], _, h0, h1 => ⟨h0, h1⟩
  | b :: l, x, _, _ => crc_range l (cbyte_range x b).1 (cbyte_range x b).2
theorem and1_u32 {x : Int} (h0 : 0 ≤ x) (h1 : x < 4294967296) : Go.bits .and .u32 x 1 = x % 2 :=
  bits_mask .u32 32 (by decide) (fun n h h' => by rw [IntKind.wrap_u32]; omega) 1 (by decide) x h0 h1


theorem spec_SumMore_l1 (s : ByteArray) (i r : Int) : ∀ j : Nat, j ≤ 8 → ∀ x : Int, 0 ≤ x → x < 4294967296 → Ev (fun k => spec_SumMore.l0 k (cbits j x) s (wrap64 (i + 1))) r →
    Ev (fun k => spec_SumMore.l1 k x s i (8 - (j : Int))) r := by
  intro j
  induction j with
  | zero =>
    intro _ x h0 h1 h
    refine ev_st ?_
    simp only [spec_SumMore.l1, show ¬ ((8 : Int) - ((0 : Nat) : Int) < 8) from by omega, ↓reduceIte]
    exact h
  | succ j ih =>
    intro hj x h0 h1 h
    refine ev_st ?_
    have e : wrap64 ((8 : Int) - ((j + 1 : Nat) : Int) + 1) = 8 - (j : Int) := by rw [w64 (by omega) (by omega)]; omega
    have t : Int.tmod x 2 = x % 2 := Int.tmod_eq_emod_of_nonneg h0
    have d : Int.tdiv x 2 % 4294967296 = x / 2 := by rw [Int.tdiv_eq_ediv_of_nonneg h0]; omega
    have c := cstep_range h0 h1
    have g := ih (by omega) (cstep x) c.1 c.2 h
    simp only [spec_SumMore.l1, show (8 : Int) - ((j + 1 : Nat) : Int) < 8 from by omega, ↓reduceIte, e, t, d]
    unfold cstep at g
    by_cases hp : x % 2 = 1
    · simp only [hp, ↓reduceIte] at g ⊢
      exact g
    · simp only [hp, ↓reduceIte] at g ⊢
      exact g
theorem spec_SumMore_l0 (s : ByteArray) (hs : s.size ≤ 140737488351232) : ∀ (d i : Nat), i + d = s.size → ∀ x : Int, 0 ≤ x → x < 4294967296 →
    Ev (fun k => spec_SumMore.l0 k x s (i : Int)) (crc x ((bytesOf s).drop i)) := by
  intro d
  induction d with
  | zero =>
    intro i hi x h0 h1
    refine ev_st ?_
    obtain rfl : i = s.size := by omega
    simp only [spec_SumMore.l0, show ¬ ((s.size : Int) < (s.size : Int)) from by omega, ↓reduceIte, drop_end]
    exact Ev.now _
  | succ d ih =>
    intro i hi x h0 h1
    refine ev_st ?_
    have b := bt_range s i
    have e : bt s i % 4294967296 = bt s i := by omega
    simp only [spec_SumMore.l0, show (i : Int) < (s.size : Int) from by omega, show (0 : Int) ≤ (i : Int) from by omega, ↓reduceIte, e]
    rw [drop_bt s i (by omega)]
    have g := spec_SumMore_l1 s i (crc x (bt s i :: (bytesOf s).drop (i + 1))) 8 (by omega) (Go.bits .xor .u32 x (bt s i)) (xor32_range _ _).1 (xor32_range _ _).2
    rw [show (8 : Int) - ((8 : Nat) : Int) = 0 from rfl] at g
    refine g ?_
    rw [w64 (by omega) (by omega), show (i : Int) + 1 = ((i + 1 : Nat) : Int) from by omega]
    exact ih (i + 1) (by omega) _ (cbyte_range _ _).1 (cbyte_range _ _).2
theorem spec_SumMore_ev (s : ByteArray) (hs : s.size ≤ 140737488351232) (x : Int) (h0 : 0 ≤ x) (h1 : x < 4294967296) : Ev (fun k => spec_SumMore.f k x s) (crc x (bytesOf s)) :=
  spec_SumMore_l0 s hs s.size 0 (by omega) x h0 h1


theorem impl_SumMore_l1 (s : ByteArray) (i r : Int) : ∀ j : Nat, j ≤ 8 → ∀ x : Int, 0 ≤ x → x < 4294967296 → Ev (fun k => impl_SumMore.l0 k (cbits j x) s (wrap64 (i + 1))) r →
    Ev (fun k => impl_SumMore.l1 k x s i (8 - (j : Int))) r := by
  intro j
  induction j with
  | zero =>
    intro _ x h0 h1 h
    refine ev_st ?_
    simp only [impl_SumMore.l1, show ¬ ((8 : Int) - ((0 : Nat) : Int) < 8) from by omega, ↓reduceIte]
    exact h
  | succ j ih =>
    intro hj x h0 h1 h
    refine ev_st ?_
    have e : wrap64 ((8 : Int) - ((j + 1 : Nat) : Int) + 1) = 8 - (j : Int) := by rw [w64 (by omega) (by omega)]; omega
    have t := and1_u32 h0 h1
    have c := cstep_range h0 h1
    have g := ih (by omega) (cstep x) c.1 c.2 h
    simp only [impl_SumMore.l1, show (8 : Int) - ((j + 1 : Nat) : Int) < 8 from by omega, ↓reduceIte, e, t]
    unfold cstep at g
    by_cases hp : x % 2 = 1
    · simp only [hp, ↓reduceIte] at g ⊢
      exact g
    · simp only [hp, ↓reduceIte] at g ⊢
      exact g
theorem impl_SumMore_l0 (s : ByteArray) (hs : s.size ≤ 140737488351232) : ∀ (d i : Nat), i + d = s.size → ∀ x : Int, 0 ≤ x → x < 4294967296 →
    Ev (fun k => impl_SumMore.l0 k x s (i : Int)) (crc x ((bytesOf s).drop i)) := by
  intro d
  induction d with
  | zero =>
    intro i hi x h0 h1
    refine ev_st ?_
    obtain rfl : i = s.size := by omega
    simp only [impl_SumMore.l0, show ¬ ((s.size : Int) < (s.size : Int)) from by omega, ↓reduceIte, drop_end]
    exact Ev.now _
  | succ d ih =>
    intro i hi x h0 h1
    refine ev_st ?_
    have b := bt_range s i
    have e : bt s i % 4294967296 = bt s i := by omega
    simp only [impl_SumMore.l0, show (i : Int) < (s.size : Int) from by omega, show (0 : Int) ≤ (i : Int) from by omega, ↓reduceIte, e]
    rw [drop_bt s i (by omega)]
    have g := impl_SumMore_l1 s i (crc x (bt s i :: (bytesOf s).drop (i + 1))) 8 (by omega) (Go.bits .xor .u32 x (bt s i)) (xor32_range _ _).1 (xor32_range _ _).2
    rw [show (8 : Int) - ((8 : Nat) : Int) = 0 from rfl] at g
    refine g ?_
    rw [w64 (by omega) (by omega), show (i : Int) + 1 = ((i + 1 : Nat) : Int) from by omega]
    exact ih (i + 1) (by omega) _ (cbyte_range _ _).1 (cbyte_range _ _).2
theorem impl_SumMore_ev (s : ByteArray) (hs : s.size ≤ 140737488351232) (x : Int) (h0 : 0 ≤ x) (h1 : x < 4294967296) : Ev (fun k => impl_SumMore.f k x s) (crc x (bytesOf s)) :=
  impl_SumMore_l0 s hs s.size 0 (by omega) x h0 h1

theorem spec_SumOf_ev (s : ByteArray) (hs : s.size ≤ 140737488351232) : Ev (fun k => spec_SumOf.f k s) (crc 4294967295 (bytesOf s)) :=
  Ev.bind (spec_SumMore_ev s hs 4294967295 (by omega) (by omega)) (Ev.now _)

theorem impl_SumOf_ev (s : ByteArray) (hs : s.size ≤ 140737488351232) : Ev (fun k => impl_SumOf.f k s) (crc 4294967295 (bytesOf s)) :=
  Ev.bind (impl_SumMore_ev s hs 4294967295 (by omega) (by omega)) (Ev.now _)

/-! a text with its sum -/
def fourOf (x : Int) : ByteArray := strOfNums [x / 16777216 % 256, x / 65536 % 256, x / 256 % 256, x % 256]
theorem fourOf_size (x : Int) : (fourOf x).size = 4 := by unfold fourOf; rw [strOfNums_size]; rfl
def sumFour (s : ByteArray) : ByteArray := fourOf (crc 4294967295 (bytesOf s))
theorem sumFour_size (s : ByteArray) : (sumFour s).size = 4 := fourOf_size _
def sealOf (s : ByteArray) : ByteArray × Bool := if (s.size : Int) > 20000 then ((⟨#[]⟩ : ByteArray), false) else (s ++ sumFour s, true)

theorem spec_Sealed_ev (s : ByteArray) (hs : s.size ≤ 140737488351232) : Ev (fun k => spec_Sealed.f k s) (sealOf s) := by
  simp only [spec_Sealed.f]
  unfold sealOf
  by_cases h : (s.size : Int) > 20000
  · simp only [h, ↓reduceIte]; exact Ev.now _
  · simp only [h, ↓reduceIte]
    refine Ev.bind (spec_SumOf_ev s hs) ?_
    have h4 := sumFour_size s
    simp only [spec_l02Four.f, Option.bind_some]
    unfold sumFour fourOf at h4 ⊢
    simp only [show s.size + (strOfNums [crc 4294967295 (bytesOf s) / 16777216 % 256, crc 4294967295 (bytesOf s) / 65536 % 256, crc 4294967295 (bytesOf s) / 256 % 256, crc 4294967295 (bytesOf s) % 256]).size ≤ 9223372036854775807 from by omega, ↓reduceIte]
    exact Ev.now _

theorem impl_Sealed_ev (s : ByteArray) (hs : s.size ≤ 140737488351232) : Ev (fun k => impl_Sealed.f k s) (sealOf s) := by
  simp only [impl_Sealed.f]
  unfold sealOf
  by_cases h : (s.size : Int) > 20000
  · simp only [h, ↓reduceIte]; exact Ev.now _
  · simp only [h, ↓reduceIte]
    refine Ev.bind (impl_SumOf_ev s hs) ?_
    have h4 := sumFour_size s
    simp only [Option.bind_some]
    unfold sumFour fourOf at h4 ⊢
    simp only [show s.size + (strOfNums [crc 4294967295 (bytesOf s) / 16777216 % 256, crc 4294967295 (bytesOf s) / 65536 % 256, crc 4294967295 (bytesOf s) / 256 % 256, crc 4294967295 (bytesOf s) % 256]).size ≤ 9223372036854775807 from by omega, ↓reduceIte]
    exact Ev.now _

/-! a text without its sum -/
def unsealOf (t : ByteArray) : ByteArray × Bool :=
  if t.size < 4 then ((⟨#[]⟩ : ByteArray), false) else if sealOf (t.extract 0 (t.size - 4)) = (t, true) then (t.extract 0 (t.size - 4), true) else ((⟨#[]⟩ : ByteArray), false)
theorem split4 (t : ByteArray) (h : 4 ≤ t.size) : t.extract 0 (t.size - 4) ++ t.extract (t.size - 4) t.size = t := by
  refine bytesOf_inj ?_
  rw [bytesOf_append, bytesOf_extract, bytesOf_extract, List.drop_zero, List.take_of_length_le (l := bytesOf t) (i := t.size) (by rw [bytesOf_length]; exact Nat.le_refl _), List.take_append_drop]

theorem spec_Unsealed_ev (t : ByteArray) (hs : t.size ≤ 140737488351232) : Ev (fun k => spec_Unsealed.f k t) (unsealOf t) := by
  simp only [spec_Unsealed.f]
  unfold unsealOf
  rw [w64 (by omega) (by omega)]
  by_cases h : t.size < 4
  · simp only [show (t.size : Int) - 4 < 0 from by omega, h, ↓reduceIte]; exact Ev.now _
  · have hz : (t.extract 0 (t.size - 4)).size = t.size - 4 := by rw [ByteArray.size_extract]; omega
    simp only [show ¬ ((t.size : Int) - 4 < 0) from by omega, h, ↓reduceIte]
    by_cases h2 : (t.size : Int) - 4 > 20000
    · have e : sealOf (t.extract 0 (t.size - 4)) ≠ (t, true) := by
        unfold sealOf
        rw [if_pos (by rw [hz]; omega)]
        intro e
        simp at e
      simp only [h2, e, ↓reduceIte]
      exact Ev.now _
    · simp only [h2, show (0 : Int) ≤ (t.size : Int) - 4 from by omega, show (t.size : Int) - 4 ≤ (t.size : Int) from by omega, ↓reduceIte, show ((t.size : Int) - 4).toNat = t.size - 4 from by omega]
      refine Ev.bind (spec_SumOf_ev _ (by rw [hz]; omega)) ?_
      simp only [spec_l02Four.f, Option.bind_some]
      have e : sealOf (t.extract 0 (t.size - 4)) = (t.extract 0 (t.size - 4) ++ sumFour (t.extract 0 (t.size - 4)), true) := by
        unfold sealOf
        rw [if_neg (by rw [hz]; omega)]
      have key : (t.extract (t.size - 4) t.size).toList = (sumFour (t.extract 0 (t.size - 4))).toList ↔ sealOf (t.extract 0 (t.size - 4)) = (t, true) := by
        rw [toList_inj, e]
        simp only [Prod.mk.injEq, and_true]
        constructor
        · intro q; rw [← q]; exact split4 t (by omega)
        · intro q
          have q2 := split4 t (by omega)
          rw [← q] at q2
          rw [← ByteArray.append_right_inj (t.extract 0 (t.size - 4))]
          rw [q, split4 t (by omega)]
      unfold sumFour fourOf at key
      simp only [key]
      split
      · exact Ev.now _
      · exact Ev.now _

theorem impl_Unsealed_ev (t : ByteArray) (hs : t.size ≤ 140737488351232) : Ev (fun k => impl_Unsealed.f k t) (unsealOf t) := by
  simp only [impl_Unsealed.f]
  unfold unsealOf
  by_cases h : t.size < 4
  · simp only [show (t.size : Int) < 4 from by omega, h, ↓reduceIte]; exact Ev.now _
  · have hz : (t.extract 0 (t.size - 4)).size = t.size - 4 := by rw [ByteArray.size_extract]; omega
    have e : wrap64 ((t.size : Int) - 4) = (t.size : Int) - 4 := w64 (by omega) (by omega)
    simp only [e, show ¬ ((t.size : Int) < 4) from by omega, h, show (0 : Int) ≤ (t.size : Int) - 4 from by omega, show (t.size : Int) - 4 ≤ (t.size : Int) from by omega, ↓reduceIte, show ((t.size : Int) - 4).toNat = t.size - 4 from by omega]
    refine Ev.bind (impl_Sealed_ev _ (by rw [hz]; omega)) ?_
    generalize sealOf (t.extract 0 (t.size - 4)) = q
    obtain ⟨a, b⟩ := q
    cases b with
    | false => simp; exact Ev.now _
    | true =>
      simp only [toList_inj, Prod.mk.injEq, and_true, ↓reduceIte]
      split
      · exact Ev.now _
      · exact Ev.now _

def pageOk (kind seq tx part count : Int) (text : ByteArray) : Bool :=
  decide ((1 ≤ seq ∧ seq ≤ 1000000000) ∧ (1 ≤ tx ∧ tx ≤ 1000000000) ∧ (1 ≤ count ∧ count ≤ 9) ∧ (0 ≤ part ∧ part ≤ count - 1) ∧ ¬ ((text.size : Int) > 90) ∧ (kind = 2 ∨ (kind = 1 ∧ count = 1)))
theorem spec_PageOk_eq (a b c d e : Int) (t : ByteArray) (hd : -9223372036854775808 ≤ d ∧ d ≤ 9223372036854775807) (he : -9223372036854775808 ≤ e ∧ e ≤ 9223372036854775807) : spec_PageOk.f a b c d e t = some (pageOk a b c d e t) := by
  unfold spec_PageOk.f pageOk
  simp only [spec_l01In_eq, Option.bind_some, decide_eq_true_eq]
  by_cases h1 : 1 ≤ b ∧ b ≤ 1000000000
  · by_cases h2 : 1 ≤ c ∧ c ≤ 1000000000
    · by_cases h3 : 1 ≤ e ∧ e ≤ 9
      · rw [w64 (n := e - 1) (by omega) (by omega)]
        by_cases h4 : 0 ≤ d ∧ d ≤ e - 1
        · by_cases h5 : (t.size : Int) > 90
          · simp [h1, h2, h3, h4, h5]
          · by_cases h6 : a = 2
            · simp [h1, h2, h3, h4, h5, h6]
            · by_cases h7 : a = 1
              · simp only [h1, h2, h3, h4, h5, h6, h7, and_self, if_true, if_false, true_and, not_false_eq_true, false_or]
                simp
                by_cases h8 : e = 1 <;> simp [h8]
              · have : ¬ (1 ≤ a ∧ a ≤ 2) := by omega
                simp [this, h6, h7]
        · simp [h1, h2, h3, h4]
      · simp [h1, h2, h3]
    · simp [h1, h2]
  · simp [h1]
theorem impl_PageOk_eq (a b c d e : Int) (t : ByteArray) (hd : -9223372036854775808 ≤ d ∧ d ≤ 9223372036854775807) (he : -9223372036854775808 ≤ e ∧ e ≤ 9223372036854775807) : impl_PageOk.f a b c d e t = some (pageOk a b c d e t) := by
  unfold impl_PageOk.f pageOk
  simp only [impl_in_eq, Option.bind_some, decide_eq_true_eq]
  by_cases h1 : 1 ≤ b ∧ b ≤ 1000000000
  · by_cases h2 : 1 ≤ c ∧ c ≤ 1000000000
    · by_cases h3 : 1 ≤ e ∧ e ≤ 9
      · rw [w64 (n := e - 1) (by omega) (by omega)]
        by_cases h4 : 0 ≤ d ∧ d ≤ e - 1
        · by_cases h5 : (t.size : Int) > 90
          · simp [h1, h2, h3, h4, h5]
          · by_cases h6 : a = 2
            · simp [h1, h2, h3, h4, h5, h6]
            · by_cases h7 : a = 1
              · simp only [h1, h2, h3, h4, h5, h6, h7, and_self, if_true, if_false, true_and, not_false_eq_true, false_or]
                simp
                by_cases h8 : e = 1 <;> simp [h8]
              · simp [h1, h2, h3, h4, h5, h6, h7]
        · simp [h1, h2, h3, h4]
      · simp [h1, h2, h3]
    · simp [h1, h2]
  · simp [h1]

def pageTextOf (kind seq tx part count : Int) (text : ByteArray) : ByteArray × Bool :=
  if pageOk kind seq tx part count text = true then sealOf (((((strOfNums [kind % 256] ++ varS seq) ++ varS tx) ++ varS part) ++ varS count) ++ text) else ((⟨#[]⟩ : ByteArray), false)
theorem page_sizes {kind seq tx part count : Int} {text : ByteArray} (h : pageOk kind seq tx part count text = true) : (1 ≤ seq ∧ seq ≤ 1000000000) ∧ (1 ≤ tx ∧ tx ≤ 1000000000) ∧ (0 ≤ part ∧ part ≤ 9) ∧ (1 ≤ count ∧ count ≤ 9) ∧ text.size ≤ 90 ∧
    (varS seq).size ≤ 5 ∧ (varS tx).size ≤ 5 ∧ (varS part).size ≤ 5 ∧ (varS count).size ≤ 5 := by
  unfold pageOk at h
  have h := of_decide_eq_true h
  obtain ⟨h1, h2, h3, h4, h5, _⟩ := h
  refine ⟨h1, h2, by omega, h3, by omega, varS_size _ (by omega) (by omega), varS_size _ (by omega) (by omega), varS_size _ (by omega) (by omega), varS_size _ (by omega) (by omega)⟩

theorem spec_PageText_ev (a b c d e : Int) (t : ByteArray) (hd : -9223372036854775808 ≤ d ∧ d ≤ 9223372036854775807) (he : -9223372036854775808 ≤ e ∧ e ≤ 9223372036854775807) : Ev (fun k => spec_PageText.f k a b c d e t) (pageTextOf a b c d e t) := by
  simp only [spec_PageText.f, spec_PageOk_eq a b c d e t hd he, Option.bind_some]
  unfold pageTextOf
  by_cases h : pageOk a b c d e t = true
  · obtain ⟨h1, h2, h3, h4, h5, z1, z2, z3, z4⟩ := page_sizes h
    have z0 : (strOfNums [a % 256]).size = 1 := by rw [strOfNums_size]; rfl
    simp only [h, ↓reduceIte, spec_l06Byte.f, Option.bind_some]
    refine Ev.bind (spec_l01Var_ev b (by omega) (by omega)) ?_
    simp only [show (strOfNums [a % 256]).size + (varS b).size ≤ 9223372036854775807 from by omega, ↓reduceIte]
    refine Ev.bind (spec_l01Var_ev c (by omega) (by omega)) ?_
    simp only [ByteArray.size_append, show (strOfNums [a % 256]).size + (varS b).size + (varS c).size ≤ 9223372036854775807 from by omega, ↓reduceIte]
    refine Ev.bind (spec_l01Var_ev d (by omega) (by omega)) ?_
    simp only [show (strOfNums [a % 256]).size + (varS b).size + (varS c).size + (varS d).size ≤ 9223372036854775807 from by omega, ↓reduceIte]
    refine Ev.bind (spec_l01Var_ev e (by omega) (by omega)) ?_
    simp only [show (strOfNums [a % 256]).size + (varS b).size + (varS c).size + (varS d).size + (varS e).size ≤ 9223372036854775807 from by omega, ↓reduceIte,
      show (strOfNums [a % 256]).size + (varS b).size + (varS c).size + (varS d).size + (varS e).size + t.size ≤ 9223372036854775807 from by omega]
    refine Ev.bind (spec_Sealed_ev _ (by simp only [ByteArray.size_append]; omega)) (Ev.now _)
  · simp only [h, ↓reduceIte, Bool.false_eq_true]
    exact Ev.now _

theorem impl_PageText_ev (a b c d e : Int) (t : ByteArray) (hd : -9223372036854775808 ≤ d ∧ d ≤ 9223372036854775807) (he : -9223372036854775808 ≤ e ∧ e ≤ 9223372036854775807) : Ev (fun k => impl_PageText.f k a b c d e t) (pageTextOf a b c d e t) := by
  simp only [impl_PageText.f, impl_PageOk_eq a b c d e t hd he, Option.bind_some]
  unfold pageTextOf
  by_cases h : pageOk a b c d e t = true
  · obtain ⟨h1, h2, h3, h4, h5, z1, z2, z3, z4⟩ := page_sizes h
    have z0 : (strOfNums [a % 256]).size = 1 := by rw [strOfNums_size]; rfl
    simp only [h, ↓reduceIte, Option.bind_some]
    refine Ev.bind (impl_varOf_ev b (by omega) (by omega)) ?_
    simp only [show (strOfNums [a % 256]).size + (varS b).size ≤ 9223372036854775807 from by omega, ↓reduceIte]
    refine Ev.bind (impl_varOf_ev c (by omega) (by omega)) ?_
    simp only [ByteArray.size_append, show (strOfNums [a % 256]).size + (varS b).size + (varS c).size ≤ 9223372036854775807 from by omega, ↓reduceIte]
    refine Ev.bind (impl_varOf_ev d (by omega) (by omega)) ?_
    simp only [show (strOfNums [a % 256]).size + (varS b).size + (varS c).size + (varS d).size ≤ 9223372036854775807 from by omega, ↓reduceIte]
    refine Ev.bind (impl_varOf_ev e (by omega) (by omega)) ?_
    simp only [show (strOfNums [a % 256]).size + (varS b).size + (varS c).size + (varS d).size + (varS e).size ≤ 9223372036854775807 from by omega, ↓reduceIte,
      show (strOfNums [a % 256]).size + (varS b).size + (varS c).size + (varS d).size + (varS e).size + t.size ≤ 9223372036854775807 from by omega]
    refine Ev.bind (impl_Sealed_ev _ (by simp only [ByteArray.size_append]; omega)) (Ev.now _)
  · simp only [h, ↓reduceIte, Bool.false_eq_true]
    exact Ev.now _

/-! a page is read: both ways answer alike (plain models) -/
theorem rvPre_cut : ∀ (f : Nat) (l p : List Int), (∀ b ∈ l, 0 ≤ b ∧ b < 256) → rvPre f l = some p → Ends p ∧ l = p ++ l.drop p.length
  | 0, _, _, _, h => by simp [rvPre] at h
  | _ + 1, [], _, _, h => by simp [rvPre] at h
  | f + 1, b :: t, p, hr, h => by
    have hb := hr b (List.mem_cons_self ..)
    rw [rvPre] at h
    split at h
    · next h128 =>
      obtain ⟨p', h', rfl⟩ := Option.map_eq_some_iff.1 h
      obtain ⟨e1, e2⟩ := rvPre_cut f t p' (fun c hc => hr c (List.mem_cons_of_mem _ hc)) h'
      refine ⟨?_, by rw [List.length_cons, List.drop_succ_cons, List.cons_append, ← e2]⟩
      cases p' with
      | nil => exact e1.elim
      | cons c q => exact ⟨h128, hb.2, e1⟩
    · next h128 =>
      obtain rfl := Option.some.inj h
      exact ⟨⟨hb.1, by omega⟩, rfl⟩
/-- What was read stands there just as it is written. -/
theorem read_back (s : ByteArray) (a n nx : Int) (h : readVarOf s a = (n, nx, true)) : 0 ≤ a ∧ a ≤ nx ∧ nx ≤ (s.size : Int) ∧ (0 ≤ n ∧ n ≤ 1000000000) ∧ (bytesOf s).drop a.toNat = vt n.toNat ++ (bytesOf s).drop nx.toNat := by
  have hb := readVarOf_bounds s a n nx h
  unfold readVarOf at h
  split at h
  · next ha =>
    cases hp : rvPre 5 ((bytesOf s).drop a.toNat) with
    | none => rw [hp] at h; unfold rvRes at h; simp at h
    | some p =>
      rw [hp] at h
      unfold rvRes at h
      simp only [List.nil_append] at h
      split at h
      · simp at h
      · next hf =>
        simp only [Prod.mk.injEq, and_true] at h
        obtain ⟨rfl, rfl⟩ := h
        obtain ⟨e1, e2⟩ := rvPre_cut 5 _ p (fun c hc => bytesOf_range s c (List.mem_of_mem_drop hc)) hp
        have e3 : vt (vval p).toNat = p := (vt_iff p e1).2 (fun k => hf (Or.inl k))
        refine ⟨ha.1, by omega, hb.2.2.2, ⟨hb.1, hb.2.1⟩, ?_⟩
        rw [e3, show (a + (p.length : Int)).toNat = a.toNat + p.length from by omega, ← List.drop_drop]
        exact e2
  · simp at h
/-- Four numbers, one behind the other. -/
def four (s : ByteArray) : Option (Int × Int × Int × Int × Int) :=
  if (readVarOf s 1).2.2 = true then
    (if (readVarOf s (readVarOf s 1).2.1).2.2 = true then
      (if (readVarOf s (readVarOf s (readVarOf s 1).2.1).2.1).2.2 = true then
        (if (readVarOf s (readVarOf s (readVarOf s (readVarOf s 1).2.1).2.1).2.1).2.2 = true then
          some ((readVarOf s 1).1, (readVarOf s (readVarOf s 1).2.1).1, (readVarOf s (readVarOf s (readVarOf s 1).2.1).2.1).1, (readVarOf s (readVarOf s (readVarOf s (readVarOf s 1).2.1).2.1).2.1).1, (readVarOf s (readVarOf s (readVarOf s (readVarOf s 1).2.1).2.1).2.1).2.1)
        else none) else none) else none) else none
theorem read_some (s : ByteArray) (a : Int) (h : (readVarOf s a).2.2 = true) : readVarOf s a = ((readVarOf s a).1, (readVarOf s a).2.1, true) := by rw [← h]
theorem four_back (s : ByteArray) (h1 : 1 ≤ s.size) (n1 n2 n3 n4 at' : Int) (h : four s = some (n1, n2, n3, n4, at')) :
    (0 ≤ n1 ∧ n1 ≤ 1000000000) ∧ (0 ≤ n2 ∧ n2 ≤ 1000000000) ∧ (0 ≤ n3 ∧ n3 ≤ 1000000000) ∧ (0 ≤ n4 ∧ n4 ≤ 1000000000) ∧ 0 ≤ at' ∧ at' ≤ (s.size : Int) ∧
    s = ((((strOfNums [bt s 0 % 256] ++ varS n1) ++ varS n2) ++ varS n3) ++ varS n4) ++ s.extract at'.toNat s.size := by
  unfold four at h
  split at h
  · next k1 =>
    split at h
    · next k2 =>
      split at h
      · next k3 =>
        split at h
        · next k4 =>
          simp only [Option.some.injEq, Prod.mk.injEq] at h
          obtain ⟨rfl, rfl, rfl, rfl, rfl⟩ := h
          have r1 := read_back s _ _ _ (read_some s _ k1)
          have r2 := read_back s _ _ _ (read_some s _ k2)
          have r3 := read_back s _ _ _ (read_some s _ k3)
          have r4 := read_back s _ _ _ (read_some s _ k4)
          generalize readVarOf s (readVarOf s (readVarOf s (readVarOf s 1).2.1).2.1).2.1 = q4 at r4 ⊢
          generalize readVarOf s (readVarOf s (readVarOf s 1).2.1).2.1 = q3 at r3 r4 ⊢
          generalize readVarOf s (readVarOf s 1).2.1 = q2 at r2 r3 r4 ⊢
          generalize readVarOf s 1 = q1 at r1 r2 r3 r4 ⊢
          refine ⟨r1.2.2.2.1, r2.2.2.2.1, r3.2.2.2.1, r4.2.2.2.1, by omega, r4.2.2.1, ?_⟩
          have bv : ∀ n : Int, bytesOf (varS n) = vt n.toNat := fun n => by unfold varS; exact bytesOf_str (vt_range _)
          apply bytesOf_inj
          have b0 := bt_range s 0
          have e0 : bytesOf (strOfNums [bt s 0 % 256]) = [bt s 0] := by
            rw [bytesOf_str (by simp; omega)]
            congr 1
            omega
          simp only [bytesOf_append, e0, bv, bytesOf_extract]
          rw [List.take_of_length_le (i := s.size) (by rw [bytesOf_length]; exact Nat.le_refl _)]
          simp only [List.append_assoc]
          rw [← r4.2.2.2.2, ← r3.2.2.2.2, ← r2.2.2.2.2, ← r1.2.2.2.2]
          have d0 := drop_bt s 0 (by omega)
          rw [List.drop_zero] at d0
          exact d0
        · cases h
      · cases h
    · cases h
  · cases h
def noPage : Int × Int × Int × Int × Int × ByteArray × Bool := (0, 0, 0, 0, 0, (⟨#[]⟩ : ByteArray), false)
/-- The program's way. -/
def implPage (t : ByteArray) : Int × Int × Int × Int × Int × ByteArray × Bool :=
  if (unsealOf t).2 = true ∧ (unsealOf t).1.size ≠ 0 then (match four (unsealOf t).1 with
    | some (n1, n2, n3, n4, a) => if pageOk (bt (unsealOf t).1 0) n1 n2 n3 n4 ((unsealOf t).1.extract a.toNat (unsealOf t).1.size) = true then (bt (unsealOf t).1 0, n1, n2, n3, n4, (unsealOf t).1.extract a.toNat (unsealOf t).1.size, true) else noPage
    | none => noPage) else noPage
/-- The reference's way: it writes the page anew. -/
def specPage (t : ByteArray) : Int × Int × Int × Int × Int × ByteArray × Bool :=
  if (unsealOf t).2 = true ∧ (unsealOf t).1.size ≠ 0 then (match four (unsealOf t).1 with
    | some (n1, n2, n3, n4, a) => if pageTextOf (bt (unsealOf t).1 0) n1 n2 n3 n4 ((unsealOf t).1.extract a.toNat (unsealOf t).1.size) = (t, true) then (bt (unsealOf t).1 0, n1, n2, n3, n4, (unsealOf t).1.extract a.toNat (unsealOf t).1.size, true) else noPage
    | none => noPage) else noPage
theorem unseal_ok (t : ByteArray) (h : (unsealOf t).2 = true) : sealOf (unsealOf t).1 = (t, true) := by
  unfold unsealOf at h ⊢
  split at h
  · cases h
  · next h4 =>
    rw [if_neg h4]
    split at h
    · next hs => rw [if_pos hs]; exact hs
    · cases h
theorem page_same (t : ByteArray) : specPage t = implPage t := by
  unfold specPage implPage
  split
  · next hu =>
    have hs := unseal_ok t hu.1
    generalize (unsealOf t).1 = s at hu hs ⊢
    cases hf : four s with
    | none => rfl
    | some x =>
      obtain ⟨n1, n2, n3, n4, a⟩ := x
      have b := four_back s (by omega) n1 n2 n3 n4 a hf
      have e := b.2.2.2.2.2.2
      simp only
      unfold pageTextOf
      by_cases ho : pageOk (bt s 0) n1 n2 n3 n4 (s.extract a.toNat s.size) = true
      · rw [if_pos ho, ← e, if_pos hs, if_pos ho]
      · rw [if_neg ho, if_neg ho, if_neg (fun k => by injection k with _ k; cases k)]
  · rfl

/-! the walks of ReadPage answer as the plain models -/
theorem unseal_size (t : ByteArray) (h : t.size ≤ 140737488351232) : (unsealOf t).1.size ≤ 140737488351232 := by
  unfold unsealOf
  split
  · show 0 ≤ _; omega
  · split
    · rw [ByteArray.size_extract]; omega
    · show 0 ≤ _; omega
def rdM (s : ByteArray) (a : Int) (bad : Bool) : Int × Int × Bool := (if bad = true ∨ (readVarOf s a).2.2 = false then 0 else (readVarOf s a).1, if bad = true ∨ (readVarOf s a).2.2 = false then a else (readVarOf s a).2.1, bad || !(readVarOf s a).2.2)
theorem rdM_bad (s : ByteArray) (a : Int) : rdM s a true = (0, a, true) := by simp [rdM]
theorem rdM_ok {s : ByteArray} {a : Int} (h : (readVarOf s a).2.2 = true) : rdM s a false = ((readVarOf s a).1, (readVarOf s a).2.1, false) := by simp [rdM, h]
theorem rdM_no {s : ByteArray} {a : Int} (h : ¬ (readVarOf s a).2.2 = true) : rdM s a false = (0, a, true) := by
  have h := Bool.eq_false_iff.mpr h
  simp [rdM, h]
theorem rd_ev (s : ByteArray) (hs : s.size ≤ 140737488351232) (a : Int) (bad : Bool) : Ev (fun k => spec_l06Var.rd k s a bad) (rdM s a bad) := by
  unfold spec_l06Var.rd
  refine Ev.bind (spec_ReadVar_ev s hs a) ?_
  exact Ev.now _
theorem fin_bad (t s : ByteArray) (v1 v2 v3 v4 a4 : Int) : Ev (fun k => spec_ReadPage.fin k t s v1 v2 v3 v4 a4 true) noPage := by
  simp only [spec_ReadPage.fin, ↓reduceIte]
  exact Ev.now _
theorem four_ok {s : ByteArray} (k1 : (readVarOf s 1).2.2 = true) (k2 : (readVarOf s (readVarOf s 1).2.1).2.2 = true) (k3 : (readVarOf s (readVarOf s (readVarOf s 1).2.1).2.1).2.2 = true) (k4 : (readVarOf s (readVarOf s (readVarOf s (readVarOf s 1).2.1).2.1).2.1).2.2 = true) :
    four s = some ((readVarOf s 1).1, (readVarOf s (readVarOf s 1).2.1).1, (readVarOf s (readVarOf s (readVarOf s 1).2.1).2.1).1, (readVarOf s (readVarOf s (readVarOf s (readVarOf s 1).2.1).2.1).2.1).1, (readVarOf s (readVarOf s (readVarOf s (readVarOf s 1).2.1).2.1).2.1).2.1) := by
  unfold four
  rw [if_pos k1, if_pos k2, if_pos k3, if_pos k4]
theorem spec_ReadPage_ev (t : ByteArray) (ht : t.size ≤ 140737488351232) : Ev (fun k => spec_ReadPage.f k t) (specPage t) := by
  unfold spec_ReadPage.f
  refine Ev.bind (spec_Unsealed_ev t ht) ?_
  have hs := unseal_size t ht
  unfold specPage
  generalize (unsealOf t) = u at hs ⊢
  obtain ⟨s, ok⟩ := u
  dsimp only at hs ⊢
  refine Ev.bind (rd_ev s hs 1 _) (Ev.bind (rd_ev s hs _ _) (Ev.bind (rd_ev s hs _ _) (Ev.bind (rd_ev s hs _ _) ?_)))
  by_cases hu : ok = true ∧ s.size ≠ 0
  · rw [if_pos hu]
    have hb : (!ok || decide ((s.size : Int) < 1)) = false := by
      rw [hu.1]
      have : ¬ ((s.size : Int) < 1) := by omega
      simp [this]
    rw [hb]
    by_cases k1 : (readVarOf s 1).2.2 = true
    · rw [rdM_ok k1]
      by_cases k2 : (readVarOf s (readVarOf s 1).2.1).2.2 = true
      · rw [rdM_ok k2]
        by_cases k3 : (readVarOf s (readVarOf s (readVarOf s 1).2.1).2.1).2.2 = true
        · rw [rdM_ok k3]
          by_cases k4 : (readVarOf s (readVarOf s (readVarOf s (readVarOf s 1).2.1).2.1).2.1).2.2 = true
          · rw [rdM_ok k4]
            have e := four_ok k1 k2 k3 k4
            have b := four_back s (by omega) _ _ _ _ _ e
            rw [e]
            dsimp only
            simp only [spec_ReadPage.fin, Bool.false_eq_true, ↓reduceIte]
            generalize (readVarOf s (readVarOf s (readVarOf s (readVarOf s 1).2.1).2.1).2.1) = q4 at b ⊢
            generalize (readVarOf s (readVarOf s (readVarOf s 1).2.1).2.1) = q3 at b ⊢
            generalize (readVarOf s (readVarOf s 1).2.1) = q2 at b ⊢
            generalize readVarOf s 1 = q1 at b ⊢
            have hc : 0 < s.size ∧ 0 ≤ q4.2.1 ∧ q4.2.1 ≤ (s.size : Int) := ⟨by omega, b.2.2.2.2.1, b.2.2.2.2.2.1⟩
            simp only [if_pos hc]
            refine Ev.bind (spec_PageText_ev _ _ _ _ _ _ ⟨by omega, by omega⟩ ⟨by omega, by omega⟩) ?_
            generalize pageTextOf (bt s 0) q1.1 q2.1 q3.1 q4.1 (s.extract q4.2.1.toNat s.size) = x
            obtain ⟨x1, x2⟩ := x
            by_cases hx : x2 = true ∧ x1 = t
            · rw [if_pos (show (x1, x2) = (t, true) from by rw [hx.1, hx.2])]
              simp only [if_pos hx]
              exact Ev.now _
            · rw [if_neg (show ¬ (x1, x2) = (t, true) from fun k => hx (by injection k with ka kb; exact ⟨kb, ka⟩))]
              simp only [if_neg hx]
              exact Ev.now _
          · rw [rdM_no k4]
            have e : four s = none := by unfold four; rw [if_pos k1, if_pos k2, if_pos k3, if_neg k4]
            rw [e]
            exact fin_bad ..
        · rw [rdM_no k3, rdM_bad]
          have e : four s = none := by unfold four; rw [if_pos k1, if_pos k2, if_neg k3]
          rw [e]
          exact fin_bad ..
      · rw [rdM_no k2, rdM_bad, rdM_bad]
        have e : four s = none := by unfold four; rw [if_pos k1, if_neg k2]
        rw [e]
        exact fin_bad ..
    · rw [rdM_no k1, rdM_bad, rdM_bad, rdM_bad]
      have e : four s = none := by unfold four; rw [if_neg k1]
      rw [e]
      exact fin_bad ..
  · rw [if_neg hu]
    have hb : (!ok || decide ((s.size : Int) < 1)) = true := by
      by_cases ho : ok = true
      · have : s.size = 0 := by by_cases hz : s.size = 0; exact hz; exact absurd ⟨ho, hz⟩ hu
        simp [this]
      · simp [ho]
    rw [hb, rdM_bad, rdM_bad, rdM_bad, rdM_bad]
    exact fin_bad ..
theorem lp_ok {s : ByteArray} (hs : s.size ≤ 140737488351232) {q : Nat} {l : List Int} {x : Int} (hx : 0 ≤ x ∧ x ≤ 9223372036854775807) {R : Int × Int × Int × Int × Int × ByteArray × Bool} (h : (readVarOf s x).2.2 = true) (H : Ev (fun k => impl_ReadPage.lp k s q (l.set (3 - q) (readVarOf s x).1) (readVarOf s x).2.1) R) : Ev (fun k => impl_ReadPage.lp k s (q + 1) l x) R := by
  simp only [impl_ReadPage.lp]
  refine Ev.bind (impl_ReadVar_ev s hs x (by omega) hx.2) ?_
  simp only [if_pos h]
  exact H
theorem lp_no {s : ByteArray} (hs : s.size ≤ 140737488351232) {q : Nat} {l : List Int} {x : Int} (hx : 0 ≤ x ∧ x ≤ 9223372036854775807) (h : ¬ (readVarOf s x).2.2 = true) : Ev (fun k => impl_ReadPage.lp k s (q + 1) l x) noPage := by
  simp only [impl_ReadPage.lp]
  refine Ev.bind (impl_ReadVar_ev s hs x (by omega) hx.2) ?_
  simp only [if_neg h]
  exact Ev.now _
theorem impl_ReadPage_ev (t : ByteArray) (ht : t.size ≤ 140737488351232) : Ev (fun k => impl_ReadPage.f k t) (implPage t) := by
  unfold impl_ReadPage.f
  refine Ev.bind (impl_Unsealed_ev t ht) ?_
  have hs := unseal_size t ht
  unfold implPage
  generalize (unsealOf t) = u at hs ⊢
  obtain ⟨s, ok⟩ := u
  dsimp only at hs ⊢
  by_cases hu : ok = true ∧ s.size ≠ 0
  · simp only [if_pos hu]
    have h1 : (0 : Int) ≤ 1 ∧ (1 : Int) ≤ 9223372036854775807 := by omega
    by_cases k1 : (readVarOf s 1).2.2 = true
    · have r1 := read_back s _ _ _ (read_some s _ k1)
      by_cases k2 : (readVarOf s (readVarOf s 1).2.1).2.2 = true
      · have r2 := read_back s _ _ _ (read_some s _ k2)
        by_cases k3 : (readVarOf s (readVarOf s (readVarOf s 1).2.1).2.1).2.2 = true
        · have r3 := read_back s _ _ _ (read_some s _ k3)
          by_cases k4 : (readVarOf s (readVarOf s (readVarOf s (readVarOf s 1).2.1).2.1).2.1).2.2 = true
          · have e := four_ok k1 k2 k3 k4
            have b := four_back s (by omega) _ _ _ _ _ e
            rw [e]
            refine lp_ok hs h1 k1 (lp_ok hs ⟨by omega, by omega⟩ k2 (lp_ok hs ⟨by omega, by omega⟩ k3 (lp_ok hs ⟨by omega, by omega⟩ k4 ?_)))
            clear r1 r2 r3
            dsimp only
            generalize (readVarOf s (readVarOf s (readVarOf s (readVarOf s 1).2.1).2.1).2.1) = q4 at b ⊢
            generalize (readVarOf s (readVarOf s (readVarOf s 1).2.1).2.1) = q3 at b ⊢
            generalize (readVarOf s (readVarOf s 1).2.1) = q2 at b ⊢
            generalize readVarOf s 1 = q1 at b ⊢
            show Ev (fun k => impl_ReadPage.fin s [q1.1, q2.1, q3.1, q4.1] q4.2.1) _
            unfold impl_ReadPage.fin
            have hc : 0 < s.size ∧ 0 ≤ q4.2.1 ∧ q4.2.1 ≤ (s.size : Int) := ⟨by omega, b.2.2.2.2.1, b.2.2.2.2.2.1⟩
            rw [if_pos hc]
            have e4 : rd [q1.1, q2.1, q3.1, q4.1] 0 = q1.1 ∧ rd [q1.1, q2.1, q3.1, q4.1] 1 = q2.1 ∧ rd [q1.1, q2.1, q3.1, q4.1] 2 = q3.1 ∧ rd [q1.1, q2.1, q3.1, q4.1] 3 = q4.1 := ⟨rfl, rfl, rfl, rfl⟩
            rw [e4.1, e4.2.1, e4.2.2.1, e4.2.2.2, impl_PageOk_eq _ _ _ _ _ _ ⟨by omega, by omega⟩ ⟨by omega, by omega⟩]
            simp only [Option.bind_some]
            by_cases ho : pageOk (bt s 0) q1.1 q2.1 q3.1 q4.1 (s.extract q4.2.1.toNat s.size) = true
            · rw [if_pos ho, if_pos ho]; exact Ev.now _
            · rw [if_neg ho, if_neg ho]; exact Ev.now _
          · have e : four s = none := by unfold four; rw [if_pos k1, if_pos k2, if_pos k3, if_neg k4]
            rw [e]
            exact lp_ok hs h1 k1 (lp_ok hs ⟨by omega, by omega⟩ k2 (lp_ok hs ⟨by omega, by omega⟩ k3 (lp_no hs ⟨by omega, by omega⟩ k4)))
        · have e : four s = none := by unfold four; rw [if_pos k1, if_pos k2, if_neg k3]
          rw [e]
          exact lp_ok hs h1 k1 (lp_ok hs ⟨by omega, by omega⟩ k2 (lp_no hs ⟨by omega, by omega⟩ k3))
      · have e : four s = none := by unfold four; rw [if_pos k1, if_neg k2]
        rw [e]
        exact lp_ok hs h1 k1 (lp_no hs ⟨by omega, by omega⟩ k2)
    · have e : four s = none := by unfold four; rw [if_neg k1]
      rw [e]
      exact lp_no hs h1 k1
  · simp only [if_neg hu]
    exact Ev.now _

/-! round trips -/
theorem rvPre_ends : ∀ (f : Nat) (l r : List Int), Ends l → l.length ≤ f → rvPre f (l ++ r) = some l
  | _, [], _, h, _ => h.elim
  | 0, _ :: _, _, _, h => by simp at h
  | f + 1, [b], r, h, _ => by
    have h1 := h.2
    rw [List.singleton_append, rvPre, if_neg (by omega)]
  | f + 1, b :: c :: t, r, h, hl => by
    have h1 : 128 ≤ b := h.1
    have h3 : Ends (c :: t) := h.2.2
    rw [List.cons_append, rvPre, if_pos h1, rvPre_ends f (c :: t) r h3 (by simp at hl ⊢; omega)]
    rfl
theorem read_vt (n : Nat) (hn : n ≤ 1000000000) (s : ByteArray) (a : Nat) (r : List Int) (ha : a ≤ s.size) (hd : (bytesOf s).drop a = vt n ++ r) : readVarOf s (a : Int) = ((n : Int), (a : Int) + ((vt n).length : Int), true) := by
  unfold readVarOf
  rw [if_pos ⟨by omega, by omega⟩, Int.toNat_natCast, hd, rvPre_ends 5 (vt n) r (ends_vt n) (vt_len5 n hn)]
  unfold rvRes
  simp only [List.nil_append, vval_vt]
  rw [if_neg]
  unfold rvFail
  rw [vval_vt]
  rintro (⟨h1, h2⟩ | h)
  · by_cases h0 : n = 0
    · subst h0
      have e : vt 0 = [0] := by rw [vt]; rfl
      rw [e] at h1
      simp at h1
    · exact last_vt n (by omega) h2
  · omega
theorem varS_bytes (n : Nat) : bytesOf (varS (n : Int)) = vt n := by
  unfold varS
  rw [Int.toNat_natCast, bytesOf_str (vt_range n)]

/-! the sum tells one byte's turn -/
theorem xor_cancel {a b c : Nat} (h : a ^^^ c = b ^^^ c) : a = b := by
  have h2 : (a ^^^ c) ^^^ c = (b ^^^ c) ^^^ c := by rw [h]
  rw [Nat.xor_assoc, Nat.xor_assoc, Nat.xor_self, Nat.xor_zero, Nat.xor_zero] at h2
  exact h2
theorem cstep_nat (x : Nat) (h : x < 4294967296) : cstep (x : Int) = ((if x % 2 = 1 then (x / 2) ^^^ 3558460437 else x / 2 : Nat) : Int) := by
  unfold cstep
  by_cases hp : x % 2 = 1
  · rw [if_pos (by omega), if_pos hp, show (x : Int) / 2 = ((x / 2 : Nat) : Int) from by omega]
    exact xor32_nat (x / 2) 3558460437 (by omega) (by omega)
  · rw [if_neg (by omega), if_neg hp]; omega
theorem cstep_apart (x y : Nat) (hx : x < 2147483648) (hy : y < 2147483648) : x ^^^ 3558460437 ≠ y := by
  intro h
  have h2 := congrArg (fun n => n.testBit 31) h
  simp only [Nat.testBit_xor, Nat.testBit_lt_two_pow (show x < 2 ^ 31 from hx), Nat.testBit_lt_two_pow (show y < 2 ^ 31 from hy)] at h2
  revert h2
  decide
theorem cstep_inj {x y : Int} (h0 : 0 ≤ x) (h1 : x < 4294967296) (h2 : 0 ≤ y) (h3 : y < 4294967296) (h : cstep x = cstep y) : x = y := by
  obtain ⟨a, rfl⟩ := Int.eq_ofNat_of_zero_le h0
  obtain ⟨b, rfl⟩ := Int.eq_ofNat_of_zero_le h2
  rw [cstep_nat a (by omega), cstep_nat b (by omega)] at h
  have h := Int.ofNat.inj h
  by_cases hp : a % 2 = 1 <;> by_cases hq : b % 2 = 1
  · rw [if_pos hp, if_pos hq] at h
    have := xor_cancel h
    omega
  · rw [if_pos hp, if_neg hq] at h
    exact absurd h (cstep_apart _ _ (by omega) (by omega))
  · rw [if_neg hp, if_pos hq] at h
    exact absurd h.symm (cstep_apart _ _ (by omega) (by omega))
  · rw [if_neg hp, if_neg hq] at h
    omega
theorem cbits_inj : ∀ (n : Nat) {x y : Int}, 0 ≤ x → x < 4294967296 → 0 ≤ y → y < 4294967296 → cbits n x = cbits n y → x = y
  | 0, _, _, _, _, _, _, h => h
  | n + 1, _, _, h0, h1, h2, h3, h => cstep_inj h0 h1 h2 h3 (cbits_inj n (cstep_range h0 h1).1 (cstep_range h0 h1).2 (cstep_range h2 h3).1 (cstep_range h2 h3).2 h)
theorem xor32_left {x y b : Int} (h0 : 0 ≤ x) (h1 : x < 4294967296) (h2 : 0 ≤ y) (h3 : y < 4294967296) (b0 : 0 ≤ b) (b1 : b < 256) (h : Go.bits .xor .u32 x b = Go.bits .xor .u32 y b) : x = y := by
  obtain ⟨m, rfl⟩ := Int.eq_ofNat_of_zero_le h0
  obtain ⟨n, rfl⟩ := Int.eq_ofNat_of_zero_le h2
  obtain ⟨c, rfl⟩ := Int.eq_ofNat_of_zero_le b0
  rw [xor32_nat m c (by omega) (by omega), xor32_nat n c (by omega) (by omega)] at h
  have := xor_cancel (Int.ofNat.inj h)
  omega
theorem xor32_right {x b c : Int} (h0 : 0 ≤ x) (h1 : x < 4294967296) (b0 : 0 ≤ b) (b1 : b < 256) (c0 : 0 ≤ c) (c1 : c < 256) (h : Go.bits .xor .u32 x b = Go.bits .xor .u32 x c) : b = c := by
  obtain ⟨m, rfl⟩ := Int.eq_ofNat_of_zero_le h0
  obtain ⟨n, rfl⟩ := Int.eq_ofNat_of_zero_le b0
  obtain ⟨d, rfl⟩ := Int.eq_ofNat_of_zero_le c0
  rw [xor32_nat m n (by omega) (by omega), xor32_nat m d (by omega) (by omega)] at h
  have h2 := Int.ofNat.inj h
  rw [Nat.xor_comm m n, Nat.xor_comm m d] at h2
  have := xor_cancel h2
  omega
theorem cbyte_left {x y b : Int} (h0 : 0 ≤ x) (h1 : x < 4294967296) (h2 : 0 ≤ y) (h3 : y < 4294967296) (b0 : 0 ≤ b) (b1 : b < 256) (h : cbyte x b = cbyte y b) : x = y :=
  xor32_left h0 h1 h2 h3 b0 b1 (cbits_inj 8 (xor32_range _ _).1 (xor32_range _ _).2 (xor32_range _ _).1 (xor32_range _ _).2 h)
theorem cbyte_right {x b c : Int} (h0 : 0 ≤ x) (h1 : x < 4294967296) (b0 : 0 ≤ b) (b1 : b < 256) (c0 : 0 ≤ c) (c1 : c < 256) (h : cbyte x b = cbyte x c) : b = c :=
  xor32_right h0 h1 b0 b1 c0 c1 (cbits_inj 8 (xor32_range _ _).1 (xor32_range _ _).2 (xor32_range _ _).1 (xor32_range _ _).2 h)
theorem crc_left : ∀ (l : List Int), (∀ b ∈ l, 0 ≤ b ∧ b < 256) → ∀ {x y : Int}, 0 ≤ x → x < 4294967296 → 0 ≤ y → y < 4294967296 → crc x l = crc y l → x = y
  | [], _, _, _, _, _, _, _, h => h
  | b :: l, hl, x, y, h0, h1, h2, h3, h => by
    have hb := hl b (List.mem_cons_self ..)
    exact cbyte_left h0 h1 h2 h3 hb.1 hb.2 (crc_left l (fun c hc => hl c (List.mem_cons_of_mem _ hc)) (cbyte_range x b).1 (cbyte_range x b).2 (cbyte_range y b).1 (cbyte_range y b).2 h)
theorem crc_append (x : Int) (p q : List Int) : crc x (p ++ q) = crc (crc x p) q := by unfold crc; rw [List.foldl_append]
/-- One byte that is another turns the sum. -/
theorem crc_turned (p q : List Int) (b c : Int) (hq : ∀ d ∈ q, 0 ≤ d ∧ d < 256) (b0 : 0 ≤ b) (b1 : b < 256) (c0 : 0 ≤ c) (c1 : c < 256) {x : Int} (h0 : 0 ≤ x) (h1 : x < 4294967296)
    (h : crc x (p ++ b :: q) = crc x (p ++ c :: q)) : b = c := by
  rw [crc_append, crc_append] at h
  have r := crc_range p h0 h1
  exact cbyte_right r.1 r.2 b0 b1 c0 c1 (crc_left q hq (cbyte_range _ _).1 (cbyte_range _ _).2 (cbyte_range _ _).1 (cbyte_range _ _).2 h)

/-! what is drawn -/
theorem bits_and255 (x : Int) : 0 ≤ Go.bits .and .i64 x 255 ∧ Go.bits .and .i64 x 255 ≤ 255 := by
  have h : (BitVec.ofInt IntKind.i64.bits x &&& BitVec.ofInt IntKind.i64.bits 255).toNat ≤ 255 := by
    rw [BitVec.toNat_and]
    exact Nat.le_trans Nat.and_le_right (by decide)
  simp only [Go.bits, IntKind.wrap_i64]
  omega
theorem l01Byte_is (l : List Int) (i s : Int) (hl : l.length ≤ 1048576) (hi : 0 ≤ i) : ∃ b j t, spec_l01Byte.f l i s = some (b, j, t) ∧ 0 ≤ b ∧ b ≤ 255 ∧ 0 ≤ j := by
  unfold spec_l01Byte.f
  by_cases h : i < (l.length : Int)
  · simp only [h, hi, ↓reduceIte]
    have e : wrap64 (i + 1) = i + 1 := w64 (by omega) (by omega)
    exact ⟨_, _, _, rfl, (bits_and255 _).1, (bits_and255 _).2, by omega⟩
  · simp only [h, ↓reduceIte]
    exact ⟨_, _, _, rfl, (bits_and255 _).1, (bits_and255 _).2, hi⟩
theorem tmod_range (a n : Int) (ha : 0 ≤ a) (hn : 1 ≤ n) : 0 ≤ Int.tmod a n ∧ Int.tmod a n < n := by
  rw [Int.tmod_eq_emod_of_nonneg ha]
  exact ⟨Int.emod_nonneg _ (by omega), Int.emod_lt_of_pos _ (by omega)⟩
theorem l01Below_is (l : List Int) (i s n : Int) (hl : l.length ≤ 1048576) (hi : 0 ≤ i) : ∃ b j t, spec_l01Below.f l i s n = some (b, j, t) ∧ 0 ≤ b ∧ (1 ≤ n → b < n) ∧ 0 ≤ j := by
  unfold spec_l01Below.f
  by_cases h : n ≤ 0
  · simp only [h, ↓reduceIte]
    exact ⟨_, _, _, rfl, by omega, fun h => by omega, hi⟩
  · simp only [h, show ¬ n = 0 from by omega, ↓reduceIte]
    obtain ⟨b1, j1, t1, e1, g1, g2, g3⟩ := l01Byte_is l i s hl hi
    by_cases h2 : n ≤ 256
    · have q := tmod_range b1 n g1 (by omega)
      simp only [h2, ↓reduceIte, e1, Option.bind_some]
      exact ⟨_, _, _, rfl, q.1, fun _ => q.2, g3⟩
    · obtain ⟨b2, j2, t2, e2, k1, k2, k3⟩ := l01Byte_is l j1 t1 hl g3
      obtain ⟨b3, j3, t3, e3, m1, m2, m3⟩ := l01Byte_is l j2 t2 hl k3
      obtain ⟨b4, j4, t4, e4, n1, n2, n3⟩ := l01Byte_is l j3 t3 hl m3
      simp only [h2, ↓reduceIte, e1, e2, e3, e4, Option.bind_some]
      have q := tmod_range (wrap64 ((wrap64 ((wrap64 ((wrap64 (b1 * 16777216)) + (wrap64 (b2 * 65536)))) + (wrap64 (b3 * 256)))) + b4)) n (by
        rw [w64 (n := b1 * 16777216) (by omega) (by omega), w64 (n := b2 * 65536) (by omega) (by omega), w64 (n := b3 * 256) (by omega) (by omega), w64 (n := b1 * 16777216 + b2 * 65536) (by omega) (by omega), w64 (n := b1 * 16777216 + b2 * 65536 + b3 * 256) (by omega) (by omega), w64 (by omega) (by omega)]
        omega) (by omega)
      exact ⟨_, _, _, rfl, q.1, fun _ => q.2, n3⟩
theorem l01New_l0 (l : List Int) (hl : l.length ≤ 1048576) : ∀ (d i : Nat), i + d = l.length → ∀ x : Int, ∃ y, Ev (fun k => spec_l01New.l0 k l x (i : Int)) (l, 0, y) := by
  intro d
  induction d with
  | zero =>
    intro i hi x
    obtain rfl : i = l.length := by omega
    refine ⟨x, ev_st ?_⟩
    simp only [spec_l01New.l0, Int.lt_irrefl, ↓reduceIte]
    exact Ev.now _
  | succ d ih =>
    intro i hi x
    have h1 : (i : Int) < (l.length : Int) := by omega
    have h2 : (0 : Int) ≤ (i : Int) := by omega
    have e : wrap64 ((i : Int) + 1) = ((i + 1 : Nat) : Int) := by rw [w64 (by omega) (by omega)]; omega
    by_cases h3 : (i : Int) < 4000
    · obtain ⟨y, hy⟩ := ih (i + 1) (by omega) (Go.bits .and .i64 (wrap64 ((wrap64 ((wrap64 (x * 131)) + (wrap64 (rd l (i : Int))))) + 7)) 1073741823)
      refine ⟨y, ev_st ?_⟩
      simp only [spec_l01New.l0, h1, h2, h3, ↓reduceIte, e]
      exact hy
    · refine ⟨x, ev_st ?_⟩
      simp only [spec_l01New.l0, h1, h3, ↓reduceIte]
      exact Ev.now _
theorem l01New_ev (l : List Int) (hl : l.length ≤ 1048576) : ∃ y, Ev (fun k => spec_l01New.f k l) (l, 0, y) := by
  obtain ⟨y, hy⟩ := l01New_l0 l hl l.length 0 (by omega) (wrap64 (36501 + (l.length : Int)))
  exact ⟨y, by simpa [spec_l01New.f] using hy⟩

/-! twelve places -/
theorem DrawPlaces_l0 (l : List Int) (hl : l.length ≤ 1048576) : ∀ (d n : Nat), n + d = 12 → ∀ (xs : List Int) (i s : Int), 0 ≤ i → xs.length = n → (∀ x ∈ xs, 0 ≤ x ∧ x < 10000) → ∃ p, Ev (fun k => spec_DrawPlaces.l0 k xs (n : Int) l i s) p ∧ p.length = 12 ∧ ∀ x ∈ p, 0 ≤ x ∧ x < 10000 := by
  intro d
  induction d with
  | zero =>
    intro n hn xs i s hi hx hr
    refine ⟨xs, ev_st ?_, by omega, hr⟩
    simp only [spec_DrawPlaces.l0, show ¬ ((n : Int) < 12) from by omega, ↓reduceIte]
    exact Ev.now _
  | succ d ih =>
    intro n hn xs i s hi hx hr
    obtain ⟨b, j, t, e, h1, h2, h3⟩ := l01Below_is l i s 10000 hl hi
    have h4 := h2 (by omega)
    have e4 : wrap64 ((n : Int) + 1) = ((n + 1 : Nat) : Int) := by rw [w64 (by omega) (by omega)]; omega
    obtain ⟨p, q1, q2, q3⟩ := ih (n + 1) (by omega) (xs ++ [b]) j t h3 (by rw [List.length_append, List.length_singleton]; omega) (by
      intro x hx
      rcases List.mem_append.1 hx with hx | hx
      · exact hr x hx
      · simp only [List.mem_singleton] at hx; omega)
    refine ⟨p, ev_st ?_, q2, q3⟩
    simp only [spec_DrawPlaces.l0, show (n : Int) < 12 from by omega, ↓reduceIte, e, Option.bind_some, show xs.length < 17592186044416 from by omega, e4]
    exact q1
theorem DrawPlaces_ev (l : List Int) (hl : l.length ≤ 1048576) : ∃ p, Ev (fun k => spec_DrawPlaces.f k l) p ∧ p.length = 12 ∧ ∀ x ∈ p, 0 ≤ x ∧ x < 10000 := by
  obtain ⟨y, hy⟩ := l01New_ev l hl
  obtain ⟨b, j, t, e, h1, h2, h3⟩ := l01Byte_is l 0 y hl (by omega)
  obtain ⟨p, q1, q2, q3⟩ := DrawPlaces_l0 l hl 12 0 (by omega) [] j t h3 rfl (by simp)
  refine ⟨p, ?_, q2, q3⟩
  simp only [spec_DrawPlaces.f]
  refine Ev.bind hy ?_
  simp only [e, Option.bind_some]
  exact q1
theorem place_at (p : List Int) (hp : p.length = 12) (hr : ∀ x ∈ p, 0 ≤ x ∧ x < 10000) (i : Nat) (hi : i < 12) : 0 ≤ rd p (i : Int) ∧ rd p (i : Int) < 10000 := by
  unfold rd
  rw [Int.toNat_natCast, List.getD_eq_getElem?_getD, List.getElem?_eq_getElem (by omega)]
  exact hr _ (List.getElem_mem _)

theorem l01Text_l0 (l : List Int) (hl : l.length ≤ 1048576) (N : Nat) (hN : N ≤ 5000) : ∀ (d n : Nat), n + d = N → ∀ (xs : List Int) (i s : Int), 0 ≤ i → xs.length = n → ∃ r j t, Ev (fun k => spec_l01Text.l0 k (N : Int) xs (n : Int) l i s) (r, j, t) ∧ r.size = N ∧ 0 ≤ j := by
  intro d
  induction d with
  | zero =>
    intro n hn xs i s hi hx
    refine ⟨strOfNums xs, i, s, ev_st ?_, by rw [strOfNums_size]; omega, hi⟩
    simp only [spec_l01Text.l0, show ¬ ((n : Int) < (N : Int)) from by omega, ↓reduceIte]
    exact Ev.now _
  | succ d ih =>
    intro n hn xs i s hi hx
    have c1 : (n : Int) < (N : Int) := by omega
    have c2 : xs.length < 140737488355328 := by omega
    have e1 : wrap64 ((n : Int) + 1) = ((n + 1 : Nat) : Int) := by rw [w64 (by omega) (by omega)]; omega
    obtain ⟨b, j, t, h1, h2, h3, h4⟩ := l01Byte_is l i s hl hi
    obtain ⟨r, j2, t2, e, h5, h6⟩ := ih (n + 1) (by omega) (xs ++ [b % 256]) j t h4 (by simp; omega)
    refine ⟨r, j2, t2, ev_st ?_, h5, h6⟩
    simp only [spec_l01Text.l0, c1, ↓reduceIte, h1, Option.bind_some, c2, e1]
    exact e
theorem l01Text_ev (l : List Int) (hl : l.length ≤ 1048576) (i s : Int) (hi : 0 ≤ i) (n : Nat) (hn : n ≤ 5000) : ∃ r j t, Ev (fun k => spec_l01Text.f k l i s (n : Int)) (r, j, t) ∧ r.size = n ∧ 0 ≤ j := by
  obtain ⟨r, j, t, e, h1, h2⟩ := l01Text_l0 l hl n hn n 0 (by omega) [] i s hi rfl
  refine ⟨r, j, t, ?_, h1, h2⟩
  simp only [spec_l01Text.f, show ¬ ((n : Int) > 5000) from by omega, ↓reduceIte]
  refine ev_st ?_
  simp only [spec_l01Text.j0]
  exact e

theorem l01PickInt_is (l : List Int) (i s : Int) (m : List Int) (hl : l.length ≤ 1048576) (hi : 0 ≤ i) (hm : 1 ≤ m.length) : ∃ b j t, spec_l01PickInt.f l i s m = some (b, j, t) ∧ b ∈ m ∧ 0 ≤ j := by
  obtain ⟨b, j, t, e, h1, h2, h3⟩ := l01Below_is l i s (m.length : Int) hl hi
  have h4 := h2 (by omega)
  unfold spec_l01PickInt.f
  simp only [e, Option.bind_some, h1, h4, ↓reduceIte]
  refine ⟨_, _, _, rfl, ?_, h3⟩
  unfold rd
  rw [List.getD_eq_getElem?_getD, List.getElem?_eq_getElem (by omega)]
  exact List.getElem_mem _

theorem l01Long_l0 (n x1 : Int) : ∀ (d i : Nat) (xs : List Int), i + d = xs.length → (xs.length : Int) = n → xs.length ≤ 100000 → ∃ r, Ev (fun k => spec_l01Long.l0 k n x1 xs (i : Int)) r ∧ r.size = xs.length := by
  intro d
  induction d with
  | zero =>
    intro i xs hi hn hx
    refine ⟨strOfNums xs, ev_st ?_, strOfNums_size xs⟩
    simp only [spec_l01Long.l0, show ¬ ((i : Int) < n) from by omega, ↓reduceIte]
    exact Ev.now _
  | succ d ih =>
    intro i xs hi hn hx
    obtain ⟨r, h1, h2⟩ := ih (i + 1) (xs.set i x1) (by rw [List.length_set]; omega) (by rw [List.length_set]; exact hn) (by rw [List.length_set]; exact hx)
    have e4 : wrap64 ((i : Int) + 1) = ((i + 1 : Nat) : Int) := by rw [w64 (by omega) (by omega)]; omega
    refine ⟨r, ev_st ?_, by rw [h2, List.length_set]⟩
    simp only [spec_l01Long.l0, show (i : Int) < n from by omega, show (0 : Int) ≤ (i : Int) from by omega, show (i : Int) < (xs.length : Int) from by omega, ↓reduceIte, Int.toNat_natCast, e4]
    exact h1
theorem l01Long_ev (n : Nat) (hn : n ≤ 100000) (x1 : Int) : ∃ r, Ev (fun k => spec_l01Long.f k (n : Int) x1) r ∧ r.size = n := by
  obtain ⟨r, h1, h2⟩ := l01Long_l0 (n : Int) x1 n 0 (List.replicate n 0) (by simp) (by simp) (by simpa using hn)
  refine ⟨r, ?_, by simpa using h2⟩
  simp only [spec_l01Long.f, show (0 : Int) ≤ (n : Int) from by omega, ↓reduceIte, Int.toNat_natCast, show n ≤ 281474976710656 from by omega]
  exact h1

/-! the draws of a page -/
theorem l01Once_is (l : List Int) (i s n : Int) (hl : l.length ≤ 1048576) (hi : 0 ≤ i) : ∃ b j t, spec_l01Once.f l i s n = some (b, j, t) ∧ 0 ≤ j := by
  obtain ⟨x, j, t, h1, _, _, h4⟩ := l01Below_is l i s n hl hi
  exact ⟨x == 0, j, t, by simp only [spec_l01Once.f, h1, Option.bind_some], h4⟩
/-- A drawn page's own bounds. -/
def PageIn (d e : Int) (t : ByteArray) : Prop := (-9223372036854775808 ≤ d ∧ d ≤ 9223372036854775807) ∧ (-9223372036854775808 ≤ e ∧ e ≤ 9223372036854775807) ∧ t.size ≤ 5000
theorem l06Page_j0 (l : List Int) (hl : l.length ≤ 1048576) (i s : Int) (hi : 0 ≤ i) (x : Bool) (a b c : Int) (t : ByteArray) (ht : t.size ≤ 5000) : ∃ d e j u, Ev (fun k => spec_l06Page.j0 k x l i s a b c 0 1 t) (a, b, c, d, e, t, j, u) ∧ PageIn d e t ∧ (0 ≤ e ∧ e ≤ 4) ∧ 0 ≤ j := by
  cases x with
  | false =>
    refine ⟨0, 1, i, s, ev_st ?_, ⟨by omega, by omega, ht⟩, by omega, hi⟩
    simp only [spec_l06Page.j0, Bool.false_eq_true, ↓reduceIte]
    exact Ev.now _
  | true =>
    obtain ⟨y, j, u, h1, h2, h3, h4⟩ := l01Below_is l i s 4 hl hi
    have h3 := h3 (by omega)
    obtain ⟨z, j2, u2, g1, g2, g3, g4⟩ := l01Below_is l j u (wrap64 (1 + y)) hl h4
    rw [w64 (n := 1 + y) (by omega) (by omega)] at g1 g3
    have g3 := g3 (by omega)
    refine ⟨z, 1 + y, j2, u2, ev_st ?_, ⟨by omega, by omega, ht⟩, by omega, g4⟩
    simp only [spec_l06Page.j0, ↓reduceIte, h1, Option.bind_some, w64 (n := 1 + y) (by omega) (by omega), g1]
    exact Ev.now _
theorem l06Page_ev (l : List Int) (hl : l.length ≤ 1048576) (i s : Int) (hi : 0 ≤ i) : ∃ a b c d e t j u, Ev (fun k => spec_l06Page.f k l i s) (a, b, c, d, e, t, j, u) ∧ PageIn d e t ∧ (0 ≤ e ∧ e ≤ 4) ∧ 0 ≤ j := by
  obtain ⟨x1, j1, t1, f1, _, _, k1⟩ := l01Below_is l i s 2 hl hi
  obtain ⟨x2, j2, t2, f2, _, _, k2⟩ := l01Below_is l j1 t1 30 hl k1
  obtain ⟨x3, j3, t3, f3, _, _, k3⟩ := l01Below_is l j2 t2 9 hl k2
  obtain ⟨x4, j4, t4, f4, g4, h4, k4⟩ := l01Below_is l j3 t3 9 hl k3
  have h4 := h4 (by omega)
  obtain ⟨r, j5, t5, e5, z5, k5⟩ := l01Text_ev l hl j4 t4 k4 x4.toNat (by omega)
  rw [show ((x4.toNat : Nat) : Int) = x4 from by omega] at e5
  by_cases hk : wrap64 (1 + x1) = 2
  · obtain ⟨o, j6, t6, f6, k6⟩ := l01Once_is l j5 t5 2 hl k5
    obtain ⟨d, e, j, u, q1, q2, q3, q4⟩ := l06Page_j0 l hl j6 t6 k6 o (wrap64 (1 + x1)) (wrap64 (1 + x2)) (wrap64 (1 + x3)) r (by omega)
    refine ⟨wrap64 (1 + x1), wrap64 (1 + x2), wrap64 (1 + x3), d, e, r, j, u, ?_, q2, q3, q4⟩
    simp only [spec_l06Page.f, f1, f2, f3, f4, Option.bind_some]
    refine Ev.bind e5 ?_
    simp only [if_pos hk, f6, Option.bind_some]
    exact q1
  · obtain ⟨d, e, j, u, q1, q2, q3, q4⟩ := l06Page_j0 l hl j5 t5 k5 false (wrap64 (1 + x1)) (wrap64 (1 + x2)) (wrap64 (1 + x3)) r (by omega)
    refine ⟨wrap64 (1 + x1), wrap64 (1 + x2), wrap64 (1 + x3), d, e, r, j, u, ?_, q2, q3, q4⟩
    simp only [spec_l06Page.f, f1, f2, f3, f4, Option.bind_some]
    refine Ev.bind e5 ?_
    simp only [if_neg hk]
    exact q1
theorem l06Any_ev (l : List Int) (hl : l.length ≤ 1048576) (i s : Int) (hi : 0 ≤ i) : ∃ a b c d e t j u, Ev (fun k => spec_l06Any.f k l i s) (a, b, c, d, e, t, j, u) ∧ PageIn d e t ∧ 0 ≤ j := by
  obtain ⟨a, b, c, d, e, t, j, u, q1, q2, q3, q4⟩ := l06Page_ev l hl i s hi
  obtain ⟨x, j1, t1, f1, _, _, k1⟩ := l01Below_is l j u 16 hl q4
  by_cases h0 : x = 0
  · obtain ⟨v, j2, t2, f2, m2, k2⟩ := l01PickInt_is l j1 t1 [0, 1, 3] hl k1 (by simp)
    refine ⟨v, b, c, d, e, t, j2, t2, ?_, q2, k2⟩
    simp only [spec_l06Any.f]
    refine Ev.bind q1 ?_
    simp only [f1, Option.bind_some, if_pos h0, f2]
    exact Ev.now _
  · by_cases h1 : x = 1
    · obtain ⟨v, j2, t2, f2, m2, k2⟩ := l01PickInt_is l j1 t1 [0, 1000000000, 1000000001] hl k1 (by simp)
      refine ⟨a, v, c, d, e, t, j2, t2, ?_, q2, k2⟩
      simp only [spec_l06Any.f]
      refine Ev.bind q1 ?_
      simp only [f1, Option.bind_some, if_neg h0, if_pos h1, f2]
      exact Ev.now _
    · by_cases h2 : x = 2
      · obtain ⟨v, j2, t2, f2, m2, k2⟩ := l01PickInt_is l j1 t1 [-1, e] hl k1 (by simp)
        have hv : -1 ≤ v ∧ v ≤ 4 := by
          simp only [List.mem_cons, List.not_mem_nil, or_false] at m2
          omega
        refine ⟨a, b, c, v, e, t, j2, t2, ?_, ⟨by omega, q2.2.1, q2.2.2⟩, k2⟩
        simp only [spec_l06Any.f]
        refine Ev.bind q1 ?_
        simp only [f1, Option.bind_some, if_neg h0, if_neg h1, if_pos h2]
        simp only [f2, Option.bind_some]
        exact Ev.now _
      · by_cases h3 : x = 3
        · obtain ⟨v, j2, t2, f2, m2, k2⟩ := l01PickInt_is l j1 t1 [0, 9, 10] hl k1 (by simp)
          have hv : 0 ≤ v ∧ v ≤ 10 := by
            simp only [List.mem_cons, List.not_mem_nil, or_false] at m2
            omega
          refine ⟨a, b, c, d, v, t, j2, t2, ?_, ⟨q2.1, by omega, q2.2.2⟩, k2⟩
          simp only [spec_l06Any.f]
          refine Ev.bind q1 ?_
          simp only [f1, Option.bind_some, if_neg h0, if_neg h1, if_neg h2, if_pos h3, f2]
          exact Ev.now _
        · by_cases h4 : x = 4
          · obtain ⟨v, j2, t2, f2, m1, m2, k2⟩ := l01Below_is l j1 t1 2 hl k1
            have m2 := m2 (by omega)
            obtain ⟨r, n1, n2⟩ := l01Long_ev (90 + v).toNat (by omega) 65
            rw [show (((90 + v).toNat : Nat) : Int) = 90 + v from by omega] at n1
            refine ⟨a, b, c, d, e, r, j2, t2, ?_, ⟨q2.1, q2.2.1, by omega⟩, k2⟩
            simp only [spec_l06Any.f]
            refine Ev.bind q1 ?_
            simp only [f1, Option.bind_some, if_neg h0, if_neg h1, if_neg h2, if_neg h3, if_pos h4, f2, w64 (n := 90 + v) (by omega) (by omega)]
            exact Ev.bind n1 (Ev.now _)
          · refine ⟨a, b, c, d, e, t, j1, t1, ?_, q2, k1⟩
            simp only [spec_l06Any.f]
            refine Ev.bind q1 ?_
            simp only [f1, Option.bind_some, if_neg h0, if_neg h1, if_neg h2, if_neg h3, if_neg h4]
            exact Ev.now _
theorem DrawPageText_ev (l : List Int) (hl : l.length ≤ 1048576) : ∃ a b c d e t, Ev (fun k => spec_DrawPageText.f k l) (a, b, c, d, e, t) ∧ PageIn d e t := by
  obtain ⟨y, q⟩ := l01New_ev l hl
  obtain ⟨a, b, c, d, e, t, j, u, q1, q2, _⟩ := l06Any_ev l hl 0 y (by omega)
  refine ⟨a, b, c, d, e, t, ?_, q2⟩
  simp only [spec_DrawPageText.f]
  exact Ev.bind q (Ev.bind q1 (Ev.now _))
theorem l02Spoilt_j0 (l : List Int) (hl : l.length ≤ 1048576) (i s : Int) (hi : 0 ≤ i) (t : ByteArray) (ht : t.size ≤ 100000) (x : Bool) : ∃ r j u, Ev (fun k => spec_l02Spoilt.j0 k t x l i s) (r, j, u) ∧ r.size ≤ 300000 := by
  cases x with
  | false =>
    refine ⟨t, i, s, ev_st ?_, by omega⟩
    simp only [spec_l02Spoilt.j0, Bool.false_eq_true, ↓reduceIte]
    exact Ev.now _
  | true =>
    by_cases hz : (t.size : Int) > 0
    · obtain ⟨v, j1, t1, f1, m1, m2, k1⟩ := l01Below_is l i s (t.size : Int) hl hi
      have m2 := m2 (by omega)
      obtain ⟨r, j2, t2, e2, z2, k2⟩ := l01Text_ev l hl j1 t1 k1 1 (by omega)
      have s1 : (t.extract 0 v.toNat).size ≤ t.size := by rw [ByteArray.size_extract]; omega
      have s2 : (t.extract (v + 1).toNat t.size).size ≤ t.size := by rw [ByteArray.size_extract]; omega
      have s3 : (t.extract 0 v.toNat ++ r).size = (t.extract 0 v.toNat).size + r.size := ByteArray.size_append
      have s4 : ((t.extract 0 v.toNat ++ r) ++ t.extract (v + 1).toNat t.size).size = (t.extract 0 v.toNat ++ r).size + (t.extract (v + 1).toNat t.size).size := ByteArray.size_append
      refine ⟨(t.extract 0 v.toNat ++ r) ++ t.extract (v + 1).toNat t.size, j2, t2, ev_st ?_, by omega⟩
      have w1 : wrap64 (v + 1) = v + 1 := w64 (by omega) (by omega)
      simp only [spec_l02Spoilt.j0, ↓reduceIte, if_pos hz, f1, Option.bind_some]
      have c1 : 0 ≤ v := m1
      have c2 : v ≤ (t.size : Int) := by omega
      simp only [if_pos c1, if_pos c2, w1]
      refine Ev.bind e2 ?_
      have c3 : (t.extract 0 v.toNat).size + r.size ≤ 9223372036854775807 := by omega
      have c4 : 0 ≤ v + 1 := by omega
      have c5 : v + 1 ≤ (t.size : Int) := by omega
      have c6 : (t.extract 0 v.toNat ++ r).size + (t.extract (v + 1).toNat t.size).size ≤ 9223372036854775807 := by omega
      simp only [if_pos c3, if_pos c4, if_pos c5, if_pos c6]
      exact Ev.now _
    · refine ⟨t, i, s, ev_st ?_, by omega⟩
      simp only [spec_l02Spoilt.j0, ↓reduceIte, if_neg hz]
      exact Ev.now _
theorem l02Spoilt_ev (l : List Int) (hl : l.length ≤ 1048576) (i s : Int) (hi : 0 ≤ i) (t : ByteArray) (ht : t.size ≤ 100000) : ∃ r j u, Ev (fun k => spec_l02Spoilt.f k l i s t) (r, j, u) ∧ r.size ≤ 300000 := by
  obtain ⟨x, j1, t1, f1, _, _, k1⟩ := l01Below_is l i s 12 hl hi
  by_cases h0 : x = 0
  · obtain ⟨r, j2, t2, e2, z2, k2⟩ := l01Text_ev l hl j1 t1 k1 1 (by omega)
    have s4 : (t ++ r).size = t.size + r.size := ByteArray.size_append
    refine ⟨t ++ r, j2, t2, ?_, by omega⟩
    simp only [spec_l02Spoilt.f, f1, Option.bind_some, if_pos h0]
    refine Ev.bind e2 ?_
    have c1 : t.size + r.size ≤ 9223372036854775807 := by omega
    simp only [if_pos c1]
    exact Ev.now _
  · by_cases h1 : x = 1
    · obtain ⟨v, j2, t2, f2, m1, m2, k2⟩ := l01Below_is l j1 t1 ((t.size : Int) + 1) hl k1
      have m2 := m2 (by omega)
      have s1 : (t.extract 0 v.toNat).size ≤ t.size := by rw [ByteArray.size_extract]; omega
      refine ⟨t.extract 0 v.toNat, j2, t2, ?_, by omega⟩
      have c1 : 0 ≤ v := m1
      have c2 : v ≤ (t.size : Int) := by omega
      simp only [spec_l02Spoilt.f, f1, Option.bind_some, if_neg h0, if_pos h1, w64 (n := (t.size : Int) + 1) (by omega) (by omega), f2, if_pos c1, if_pos c2]
      exact Ev.now _
    · by_cases h2 : x = 2
      · obtain ⟨r, j2, t2, e2, z2⟩ := l02Spoilt_j0 l hl j1 t1 k1 t ht (x == 2)
        refine ⟨r, j2, t2, ?_, z2⟩
        simp only [spec_l02Spoilt.f, f1, Option.bind_some, if_neg h0, if_neg h1, if_pos h2]
        exact e2
      · obtain ⟨r, j2, t2, e2, z2⟩ := l02Spoilt_j0 l hl j1 t1 k1 t ht (x == 3)
        refine ⟨r, j2, t2, ?_, z2⟩
        simp only [spec_l02Spoilt.f, f1, Option.bind_some, if_neg h0, if_neg h1, if_neg h2]
        exact e2
theorem seal_le (s : ByteArray) : (sealOf s).1.size ≤ 20004 := by
  unfold sealOf
  split
  · show 0 ≤ _; omega
  · rw [ByteArray.size_append, sumFour_size]; omega
theorem pageText_le (a b c d e : Int) (t : ByteArray) : (pageTextOf a b c d e t).1.size ≤ 20004 := by
  unfold pageTextOf
  split
  · exact seal_le _
  · show 0 ≤ _; omega
theorem unseal_le (t : ByteArray) : (unsealOf t).1.size ≤ t.size := by
  unfold unsealOf
  split
  · show 0 ≤ _; omega
  · split
    · rw [ByteArray.size_extract]; omega
    · show 0 ≤ _; omega
theorem DrawReadPage_ev (l : List Int) (hl : l.length ≤ 1048576) : ∃ t, Ev (fun k => spec_DrawReadPage.f k l) t ∧ t.size ≤ 300000 := by
  obtain ⟨y, q⟩ := l01New_ev l hl
  obtain ⟨a, b, c, d, e, t, j, u, q1, q2, q3⟩ := l06Any_ev l hl 0 y (by omega)
  have p := spec_PageText_ev a b c d e t q2.1 q2.2.1
  have z := pageText_le a b c d e t
  generalize pageTextOf a b c d e t = x at p z
  obtain ⟨x1, x2⟩ := x
  dsimp only at z
  obtain ⟨o, j2, t2, f2, k2⟩ := l01Once_is l j u 3 hl q3
  cases o with
  | true =>
    have p2 := spec_Unsealed_ev x1 (by omega)
    have z2 := unseal_le x1
    generalize unsealOf x1 = v at p2 z2
    obtain ⟨v1, v2⟩ := v
    cases v2 with
    | true =>
      obtain ⟨r, j3, t3, e3, z3⟩ := l02Spoilt_ev l hl j2 t2 k2 v1 (by dsimp only at z2; omega)
      refine ⟨(sealOf r).1, ?_, by have := seal_le r; omega⟩
      simp only [spec_DrawReadPage.f]
      refine Ev.bind q (Ev.bind q1 (Ev.bind p ?_))
      simp only [f2, Option.bind_some, ↓reduceIte]
      refine Ev.bind p2 ?_
      simp only [↓reduceIte]
      exact Ev.bind e3 (Ev.bind (spec_Sealed_ev r (by omega)) (Ev.now _))
    | false =>
      refine ⟨x1, ?_, by omega⟩
      simp only [spec_DrawReadPage.f]
      refine Ev.bind q (Ev.bind q1 (Ev.bind p ?_))
      simp only [f2, Option.bind_some, ↓reduceIte]
      refine Ev.bind p2 ?_
      simp only [Bool.false_eq_true, ↓reduceIte]
      exact Ev.now _
  | false =>
    obtain ⟨r, j3, t3, e3, z3⟩ := l02Spoilt_ev l hl j2 t2 k2 x1 (by omega)
    refine ⟨r, ?_, by omega⟩
    simp only [spec_DrawReadPage.f]
    refine Ev.bind q (Ev.bind q1 (Ev.bind p ?_))
    simp only [f2, Option.bind_some, Bool.false_eq_true, ↓reduceIte]
    exact Ev.bind e3 (Ev.now _)

theorem xor8 (x y : Nat) (hx : x < 256) (hy : y < 256) : Go.bits .xor .u8 (x : Int) (y : Int) = ((x ^^^ y : Nat) : Int) := by
  have h : x ^^^ y < 2 ^ 8 := Nat.xor_lt_two_pow hx hy
  have e1 : x % 2 ^ IntKind.u8.bits = x := Nat.mod_eq_of_lt hx
  have e2 : y % 2 ^ IntKind.u8.bits = y := Nat.mod_eq_of_lt hy
  simp only [Go.bits, IntKind.wrap_u8, BitVec.ofInt_natCast, BitVec.toNat_xor, BitVec.toNat_ofNat, e1, e2]
  omega
theorem xor8_turn {x d : Int} (h0 : 0 ≤ x) (h1 : x < 256) (d0 : 0 < d) (d1 : d < 256) : Go.bits .xor .u8 x d ≠ x ∧ 0 ≤ Go.bits .xor .u8 x d ∧ Go.bits .xor .u8 x d < 256 := by
  obtain ⟨m, rfl⟩ := Int.eq_ofNat_of_zero_le h0
  obtain ⟨n, rfl⟩ := Int.eq_ofNat_of_zero_le (show 0 ≤ d from by omega)
  rw [xor8 m n (by omega) (by omega)]
  have h : m ^^^ n < 2 ^ 8 := Nat.xor_lt_two_pow (show m < 2 ^ 8 from by omega) (show n < 2 ^ 8 from by omega)
  refine ⟨fun e => ?_, by omega, by omega⟩
  have e2 := Int.ofNat.inj e
  have e3 : m ^^^ (m ^^^ n) = m ^^^ m := by rw [e2]
  rw [← Nat.xor_assoc, Nat.xor_self, Nat.zero_xor] at e3
  omega
theorem fourOf_inj {x y : Int} (h0 : 0 ≤ x) (h1 : x < 4294967296) (h2 : 0 ≤ y) (h3 : y < 4294967296) (h : fourOf x = fourOf y) : x = y := by
  unfold fourOf at h
  rw [str_inj (by simp only [List.mem_cons, List.not_mem_nil, or_false, forall_eq_or_imp, forall_eq]; omega) (by simp only [List.mem_cons, List.not_mem_nil, or_false, forall_eq_or_imp, forall_eq]; omega)] at h
  simp only [List.cons.injEq, and_true] at h
  omega
/-- A sealed text of which one byte has been turned is not unsealed. -/
theorem turned_bad (s : ByteArray) (i : Nat) (y : Int) (hi : i < s.size + 4) (hy : y ≠ rd (bytesOf (s ++ sumFour s)) (i : Int)) (y0 : 0 ≤ y) (y1 : y < 256) :
    (unsealOf (strOfNums ((bytesOf (s ++ sumFour s)).set i y))).2 = false := by
  have hT : (bytesOf (s ++ sumFour s)).length = s.size + 4 := by rw [bytesOf_length, ByteArray.size_append, sumFour_size]
  have hr : ∀ x ∈ (bytesOf (s ++ sumFour s)).set i y, 0 ≤ x ∧ x < 256 := by
    intro x hx
    rcases List.mem_or_eq_of_mem_set hx with h | rfl
    · exact bytesOf_range _ x h
    · exact ⟨y0, y1⟩
  have hu : (strOfNums ((bytesOf (s ++ sumFour s)).set i y)).size = s.size + 4 := by rw [strOfNums_size, List.length_set, hT]
  unfold unsealOf
  rw [if_neg (by omega)]
  split
  · next h =>
    exfalso
    rw [hu, show s.size + 4 - 4 = s.size from by omega] at h
    unfold sealOf at h
    split at h
    · injection h with _ h; cases h
    · injection h with h _
      have hb := congrArg bytesOf h
      rw [bytesOf_append, bytesOf_extract, List.drop_zero, bytesOf_str hr] at hb
      by_cases hlt : i < s.size
      · -- a byte of the text
        have e1 : ((bytesOf (s ++ sumFour s)).set i y).take s.size = (bytesOf s).set i y := by
          rw [List.take_set, bytesOf_append, List.take_left' (bytesOf_length s)]
        have e2 : ((bytesOf (s ++ sumFour s)).set i y).drop s.size = bytesOf (sumFour s) := by
          rw [List.drop_set_of_lt (by omega), bytesOf_append, List.drop_left' (bytesOf_length s)]
        have e3 := congrArg (List.drop s.size) hb
        rw [List.drop_left' (by rw [e1, List.length_set, bytesOf_length]), e2] at e3
        have e4 : fourOf (crc 4294967295 (bytesOf ((strOfNums ((bytesOf (s ++ sumFour s)).set i y)).extract 0 s.size))) = fourOf (crc 4294967295 (bytesOf s)) := bytesOf_inj e3
        have e5 : bytesOf ((strOfNums ((bytesOf (s ++ sumFour s)).set i y)).extract 0 s.size) = (bytesOf s).set i y := by rw [bytesOf_extract, List.drop_zero, bytesOf_str hr, e1]
        rw [e5] at e4
        have e6 := fourOf_inj (crc_range _ (by omega) (by omega)).1 (crc_range _ (by omega) (by omega)).2 (crc_range _ (by omega) (by omega)).1 (crc_range _ (by omega) (by omega)).2 e4
        have hl : i < (bytesOf s).length := by rw [bytesOf_length]; exact hlt
        have p1 : bytesOf s = (bytesOf s).take i ++ (bytesOf s)[i] :: (bytesOf s).drop (i + 1) := by rw [← List.drop_eq_getElem_cons hl, List.take_append_drop]
        have p2 : (bytesOf s).set i y = (bytesOf s).take i ++ y :: (bytesOf s).drop (i + 1) := List.set_eq_take_append_cons_drop.trans (if_pos hl)
        rw [p2] at e6
        have e6 := e6.trans (congrArg (crc 4294967295) p1)
        have g := bytesOf_range s _ (List.getElem_mem hl)
        have e7 := crc_turned ((bytesOf s).take i) ((bytesOf s).drop (i + 1)) y (bytesOf s)[i] (fun d hd => bytesOf_range s d (List.mem_of_mem_drop hd)) y0 y1 g.1 g.2 (x := 4294967295) (by omega) (by omega) e6
        refine hy (e7.trans ?_)
        unfold rd
        rw [Int.toNat_natCast, List.getD_eq_getElem?_getD, bytesOf_append, List.getElem?_append_left hl, List.getElem?_eq_getElem hl]
        rfl
      · -- a byte of the sum
        have e1 : ((bytesOf (s ++ sumFour s)).set i y).take s.size = bytesOf s := by
          rw [List.take_set_of_le (by omega), bytesOf_append, List.take_left' (bytesOf_length s)]
        have e5 : (strOfNums ((bytesOf (s ++ sumFour s)).set i y)).extract 0 s.size = s := by
          apply bytesOf_inj
          rw [bytesOf_extract, List.drop_zero, bytesOf_str hr, e1]
        rw [e5, e1, ← bytesOf_append] at hb
        refine hy ?_
        rw [hb]
        unfold rd
        rw [Int.toNat_natCast, List.getD_eq_getElem?_getD, List.getElem?_set_self (by omega)]
        rfl
  · rfl
theorem unseal_seal (s : ByteArray) (h : s.size ≤ 20000) : sealOf s = (s ++ sumFour s, true) ∧ unsealOf (s ++ sumFour s) = (s, true) := by
  have e : sealOf s = (s ++ sumFour s, true) := by unfold sealOf; rw [if_neg (by omega)]
  have hz : (s ++ sumFour s).size = s.size + 4 := by rw [ByteArray.size_append, sumFour_size]
  have e2 : (s ++ sumFour s).extract 0 s.size = s := by
    apply bytesOf_inj
    rw [bytesOf_extract, List.drop_zero, bytesOf_append, List.take_left' (bytesOf_length s)]
  refine ⟨e, ?_⟩
  unfold unsealOf
  rw [if_neg (by omega), hz, show s.size + 4 - 4 = s.size from by omega, e2, if_pos e]

/-! a right page comes back from its bytes -/
theorem readVt_at (n : Nat) (hn : n ≤ 1000000000) (s : ByteArray) (A r : List Int) (hd : bytesOf s = A ++ (vt n ++ r)) : readVarOf s ((A.length : Nat) : Int) = ((n : Int), ((A.length + (vt n).length : Nat) : Int), true) := by
  have hz := congrArg List.length hd
  rw [bytesOf_length, List.length_append] at hz
  have e := read_vt n hn s A.length r (by omega) (by rw [hd, List.drop_left])
  rw [e]
  congr 2
theorem four_page (s : ByteArray) (k : Int) (n1 n2 n3 n4 : Nat) (X : List Int) (h1 : n1 ≤ 1000000000) (h2 : n2 ≤ 1000000000) (h3 : n3 ≤ 1000000000) (h4 : n4 ≤ 1000000000)
    (hL : bytesOf s = [k] ++ (vt n1 ++ (vt n2 ++ (vt n3 ++ (vt n4 ++ X))))) :
    four s = some ((n1 : Int), (n2 : Int), (n3 : Int), (n4 : Int), ((((([k] ++ vt n1) ++ vt n2) ++ vt n3) ++ vt n4).length : Int)) := by
  have r1 := readVt_at n1 h1 s [k] _ hL
  have r2 := readVt_at n2 h2 s ([k] ++ vt n1) (vt n3 ++ (vt n4 ++ X)) (by rw [hL]; simp only [List.append_assoc])
  have r3 := readVt_at n3 h3 s (([k] ++ vt n1) ++ vt n2) (vt n4 ++ X) (by rw [hL]; simp only [List.append_assoc])
  have r4 := readVt_at n4 h4 s ((([k] ++ vt n1) ++ vt n2) ++ vt n3) X (by rw [hL]; simp only [List.append_assoc])
  rw [← List.length_append] at r1 r2 r3 r4
  have r1 : readVarOf s 1 = _ := r1
  unfold four
  simp only [r1, r2, r3, r4, ↓reduceIte]
theorem page_back (a b c d e : Int) (t : ByteArray) (h : pageOk a b c d e t = true) : ∃ s, pageTextOf a b c d e t = (s ++ sumFour s, true) ∧ s.size ≤ 111 ∧ implPage (s ++ sumFour s) = (a, b, c, d, e, t, true) := by
  have hz := page_sizes h
  have h0 := h
  unfold pageOk at h0
  have h0 := of_decide_eq_true h0
  have ha : a = 1 ∨ a = 2 := by
    rcases h0.2.2.2.2.2 with k | k
    · exact .inr k
    · exact .inl k.1
  obtain ⟨n1, rfl⟩ := Int.eq_ofNat_of_zero_le (show 0 ≤ b from by omega)
  obtain ⟨n2, rfl⟩ := Int.eq_ofNat_of_zero_le (show 0 ≤ c from by omega)
  obtain ⟨n3, rfl⟩ := Int.eq_ofNat_of_zero_le (show 0 ≤ d from by omega)
  obtain ⟨n4, rfl⟩ := Int.eq_ofNat_of_zero_le (show 0 ≤ e from by omega)
  have hk : bytesOf (strOfNums [a % 256]) = [a] := by
    rw [bytesOf_str (by simp; omega)]
    congr 1
    omega
  refine ⟨((((strOfNums [a % 256] ++ varS n1) ++ varS n2) ++ varS n3) ++ varS n4) ++ t, ?_, ?_, ?_⟩
  · unfold pageTextOf
    rw [if_pos h]
    exact (unseal_seal _ (by simp only [ByteArray.size_append, strOfNums_size, List.length_singleton]; omega)).1
  · simp only [ByteArray.size_append, strOfNums_size, List.length_singleton]
    omega
  · have hs : (((((strOfNums [a % 256] ++ varS n1) ++ varS n2) ++ varS n3) ++ varS n4) ++ t).size ≤ 111 := by
      simp only [ByteArray.size_append, strOfNums_size, List.length_singleton]
      omega
    have hL : bytesOf (((((strOfNums [a % 256] ++ varS n1) ++ varS n2) ++ varS n3) ++ varS n4) ++ t) = [a] ++ (vt n1 ++ (vt n2 ++ (vt n3 ++ (vt n4 ++ bytesOf t)))) := by
      simp only [bytesOf_append, hk, varS_bytes, List.append_assoc]
    have hZ : (((((strOfNums [a % 256] ++ varS n1) ++ varS n2) ++ varS n3) ++ varS n4) ++ t).size = ((((([a] ++ vt n1) ++ vt n2) ++ vt n3) ++ vt n4).length) + t.size := by
      rw [← bytesOf_length, hL]
      simp only [List.length_append, bytesOf_length]
      omega
    generalize (((((strOfNums [a % 256] ++ varS n1) ++ varS n2) ++ varS n3) ++ varS n4) ++ t) = s at hs hL hZ ⊢
    have hf := four_page s a n1 n2 n3 n4 (bytesOf t) (by omega) (by omega) (by omega) (by omega) hL
    have hu := (unseal_seal s (by omega)).2
    have hpos : 0 < s.size := by
      rw [hZ]
      simp only [List.length_append, List.length_singleton]
      omega
    have hbt : bt s 0 = a := by
      have d0 := drop_bt s 0 hpos
      rw [List.drop_zero, hL] at d0
      injection d0 with q _
      exact q.symm
    have hx : s.extract ((((((([a] ++ vt n1) ++ vt n2) ++ vt n3) ++ vt n4).length : Nat) : Int)).toNat s.size = t := by
      apply bytesOf_inj
      rw [bytesOf_extract, Int.toNat_natCast, List.take_of_length_le (by rw [bytesOf_length]; exact Nat.le_refl _), hL, show [a] ++ (vt n1 ++ (vt n2 ++ (vt n3 ++ (vt n4 ++ bytesOf t)))) = (((([a] ++ vt n1) ++ vt n2) ++ vt n3) ++ vt n4) ++ bytesOf t from by simp only [List.append_assoc], List.drop_left]
    unfold implPage
    rw [hu]
    dsimp only
    rw [if_pos ⟨rfl, by omega⟩, hf]
    dsimp only
    rw [hx, hbt, if_pos h]
theorem pageText_ok (a b c d e : Int) (t : ByteArray) : (pageTextOf a b c d e t).2 = pageOk a b c d e t := by
  by_cases h : pageOk a b c d e t = true
  · obtain ⟨s, e1, _⟩ := page_back a b c d e t h
    rw [e1, h]
  · rw [Bool.eq_false_iff.mpr h]
    unfold pageTextOf
    rw [if_neg h]
theorem implPage_in (t : ByteArray) : ((-9223372036854775808 ≤ (implPage t).2.2.2.1 ∧ (implPage t).2.2.2.1 ≤ 9223372036854775807) ∧ (-9223372036854775808 ≤ (implPage t).2.2.2.2.1 ∧ (implPage t).2.2.2.2.1 ≤ 9223372036854775807)) ∧
    ((implPage t).2.2.2.2.2.2 = true → pageTextOf (implPage t).1 (implPage t).2.1 (implPage t).2.2.1 (implPage t).2.2.2.1 (implPage t).2.2.2.2.1 (implPage t).2.2.2.2.2.1 = (t, true)) := by
  have no : ∀ x, x = noPage → ((-9223372036854775808 ≤ x.2.2.2.1 ∧ x.2.2.2.1 ≤ 9223372036854775807) ∧ (-9223372036854775808 ≤ x.2.2.2.2.1 ∧ x.2.2.2.2.1 ≤ 9223372036854775807)) ∧ (x.2.2.2.2.2.2 = true → pageTextOf x.1 x.2.1 x.2.2.1 x.2.2.2.1 x.2.2.2.2.1 x.2.2.2.2.2.1 = (t, true)) := by
    rintro x rfl
    exact ⟨⟨by simp [noPage], by simp [noPage]⟩, fun k => by simp [noPage] at k⟩
  rw [← page_same]
  unfold specPage
  split
  · next hu =>
    cases hf : four (unsealOf t).1 with
    | none => exact no _ rfl
    | some x =>
      obtain ⟨n1, n2, n3, n4, a⟩ := x
      have b := four_back _ (by omega) n1 n2 n3 n4 a hf
      dsimp only
      split
      · next hp => exact ⟨⟨⟨by dsimp only; omega, by dsimp only; omega⟩, ⟨by dsimp only; omega, by dsimp only; omega⟩⟩, fun _ => hp⟩
      · exact no _ rfl
  · exact no _ rfl
theorem implPage_bad (t : ByteArray) (h : (unsealOf t).2 = false) : implPage t = noPage := by
  unfold implPage
  rw [if_neg (fun k => by rw [h] at k; exact absurd k.1 (by decide))]

theorem FnPages : laws_FnPages.Pure := by
  intro c _ _ _
  refine Ev.rounds ?_
  simp only [laws_FnPages.f, laws_big.f, Option.bind_some]
  by_cases hb : (c.length : Int) > 1048576
  · simp only [hb, decide_true, ↓reduceIte]; exact Ev.now _
  · simp only [hb, decide_false, Bool.false_eq_true, ↓reduceIte]
    obtain ⟨a, b, cc, d, e, t, q1, q2⟩ := DrawPageText_ev c (by omega)
    obtain ⟨x, x1, x2⟩ := DrawReadPage_ev c (by omega)
    obtain ⟨p, p1, p2, p3⟩ := DrawPlaces_ev c (by omega)
    have k1 := impl_PageText_ev a b cc d e t q2.1 q2.2.1
    have zs := pageText_le a b cc d e t
    have hin := implPage_in x
    have h0 := place_at p p2 p3 0 (by omega)
    have h1 := place_at p p2 p3 1 (by omega)
    simp only [Int.natCast_zero, Int.natCast_one] at h0 h1
    have hT : ∀ (s : ByteArray) (o : Bool), s.size ≤ 20004 → (o = true → ∃ s0, s = s0 ++ sumFour s0 ∧ s0.size ≤ 111) → ∃ u, laws_turned.f s p = some u ∧ u.size ≤ 20004 ∧ (o = true → (unsealOf u).2 = false) := by
      intro s o hs ho
      have c1 : s.size < 140737488355328 := by omega
      have hL : ((bytesOf s).length : Int) = (s.size : Int) := by rw [bytesOf_length]
      simp only [laws_turned.f, if_pos c1, Option.bind_some]
      by_cases hz : ((bytesOf s).length : Int) = 0
      · refine ⟨(⟨#[120]⟩ : ByteArray), by rw [if_pos hz], by decide, fun ht => ?_⟩
        obtain ⟨s0, rfl, _⟩ := ho ht
        rw [ByteArray.size_append, sumFour_size] at hL
        omega
      · have m0 := tmod_range (rd p 0) ((bytesOf s).length : Int) h0.1 (by omega)
        have m1 := tmod_range (rd p 1) 255 h1.1 (by omega)
        have w1 : wrap64 (1 + Int.tmod (rd p 1) 255) % 256 = 1 + Int.tmod (rd p 1) 255 := by rw [w64 (by omega) (by omega)]; omega
        have c3 : (0 : Int) < (p.length : Int) := by omega
        have c4 : (1 : Int) < (p.length : Int) := by omega
        refine ⟨_, by rw [if_neg hz, if_pos c3, if_pos m0.1, if_pos m0.2, if_pos c4], by rw [strOfNums_size, List.length_set, bytesOf_length]; exact hs, fun ht => ?_⟩
        obtain ⟨s0, rfl, h0s⟩ := ho ht
        rw [w1]
        rw [ByteArray.size_append, sumFour_size] at hL
        generalize hj : Int.tmod (rd p 0) ((bytesOf (s0 ++ sumFour s0)).length : Int) = j at m0
        have g := bytesOf_range (s0 ++ sumFour s0) (rd (bytesOf (s0 ++ sumFour s0)) j) (by
          unfold rd
          rw [List.getD_eq_getElem?_getD, List.getElem?_eq_getElem (by omega)]
          exact List.getElem_mem _)
        have tt := xor8_turn g.1 g.2 (show 0 < 1 + Int.tmod (rd p 1) 255 from by omega) (show 1 + Int.tmod (rd p 1) 255 < 256 from by omega)
        exact turned_bad s0 j.toNat _ (by omega) (by rw [show ((j.toNat : Nat) : Int) = j from by omega]; exact tt.1) tt.2.1 tt.2.2
    -- all that comes behind the first text
    have rest : ∀ (X : ByteArray × Bool) (P : Int × Int × Int × Int × Int × ByteArray × Bool), X.1.size ≤ 20004 → (X.2 = true → ∃ s0, X.1 = s0 ++ sumFour s0 ∧ s0.size ≤ 111) → (X.2 = true → implPage X.1 = (a, b, cc, d, e, t, true)) →
        Ev (fun k => (impl_ReadPage.f k X.1).bind fun x_ => (spec_DrawReadPage.f k c).bind fun t_ => (impl_ReadPage.f k t_).bind fun y => (spec_ReadPage.f k t_).bind fun z => (impl_PageText.f k y.1 y.2.1 y.2.2.1 y.2.2.2.1 y.2.2.2.2.1 y.2.2.2.2.2.1).bind fun a_ => (spec_DrawPlaces.f k c).bind fun pl => (laws_turned.f X.1 pl).bind fun u => (impl_ReadPage.f k u).bind fun v =>
          if X.2 = X.2 ∧ X.2 = X.2 ∧ (X.2 = true → x_.2.2.2.2.2.2 = true ∧ x_.1 = a ∧ x_.2.1 = b ∧ x_.2.2.1 = cc ∧ x_.2.2.2.1 = d ∧ x_.2.2.2.2.1 = e ∧ x_.2.2.2.2.2.1 = t) ∧ z.2.2.2.2.2.2 = y.2.2.2.2.2.2 ∧ (y.2.2.2.2.2.2 = true → a_.1 = t_) ∧ (X.2 = true → v.2.2.2.2.2.2 = false) then some true else none) true := by
      intro X _ hs ho hx
      obtain ⟨u, u1, u2, u3⟩ := hT X.1 X.2 hs ho
      refine Ev.bind (impl_ReadPage_ev X.1 (by omega)) (Ev.bind x1 (Ev.bind (impl_ReadPage_ev x (by omega)) (Ev.bind (spec_ReadPage_ev x (by omega)) ?_)))
      rw [page_same]
      generalize implPage x = y at hin ⊢
      refine Ev.bind (impl_PageText_ev _ _ _ _ _ _ hin.1.1 hin.1.2) (Ev.bind p1 ?_)
      rw [u1]
      dsimp only [Option.bind_some]
      refine Ev.bind (impl_ReadPage_ev u (by omega)) ?_
      rw [if_pos ⟨rfl, rfl, fun k => by rw [hx k]; exact ⟨rfl, rfl, rfl, rfl, rfl, rfl, rfl⟩, rfl, fun k => by rw [hin.2 k], fun k => by rw [implPage_bad u (u3 k)]; rfl⟩]
      exact Ev.now _
    have k0 := pageText_ok a b cc d e t
    refine Ev.bind q1 (Ev.bind k1 ?_)
    have hx : (pageTextOf a b cc d e t).2 = true → (∃ s0, (pageTextOf a b cc d e t).1 = s0 ++ sumFour s0 ∧ s0.size ≤ 111) ∧ implPage (pageTextOf a b cc d e t).1 = (a, b, cc, d, e, t, true) := by
      intro k
      rw [k0] at k
      obtain ⟨s, e1, e2, e3⟩ := page_back a b cc d e t k
      rw [e1]
      exact ⟨⟨s, rfl, e2⟩, e3⟩
    rw [spec_PageOk_eq _ _ _ _ _ _ q2.1 q2.2.1, impl_PageOk_eq _ _ _ _ _ _ q2.1 q2.2.1, ← k0]
    dsimp only [Option.bind_some]
    exact rest _ (0, 0, 0, 0, 0, t, false) zs (fun k => (hx k).1) (fun k => (hx k).2)

end Go.Proofs.Ytbiapgneafgdeaa.Pure
