/- What is proved here: the law FnNumbers, told as a plain function over numbers and lists, answers true at all arguments. Conditions: those of the row alone, none of ours. -/
import Derived.Test.YtbiapgneafgdeaaDoorQFnNumbersx7
import Derived.Test.YtbiapgneafgdeaaDoorKit
namespace Go.Proofs.YtbiapgneafgdeaaDoor.Pure
open Go.RowKit Go.Proofs.YtbiapgneafgdeaaDoor.QFnNumbers Go.Proofs.YtbiapgneafgdeaaDoorW.PrintWords Go.Proofs.YtbiapgneafgdeaaDoorW.PrintLast Go.Proofs.YtbiapgneafgdeaaDoor.Kit Go.Proofs.YtbiapgneafgdeaaDoorW.PrintMore
set_option linter.unusedSimpArgs false
set_option linter.unusedVariables false

/-! a number's bytes -/
def vt (n : Nat) : List Int := if 127 < n then ((n % 128 + 128 : Nat) : Int) :: vt (n / 128) else [(n : Int)]
termination_by n
decreasing_by omega
theorem vt_range (n : Nat) : ∀ x ∈ vt n, 0 ≤ x ∧ x < 256 := by
  induction n using Nat.strongRecOn with
  | _ n ih =>
    rw [vt]
    split
    · intro x hx
      rcases List.mem_cons.1 hx with rfl | hx
      · omega
      · exact ih (n / 128) (by omega) x hx
    · intro x hx
      obtain rfl := List.mem_singleton.1 hx
      omega
theorem vt_len (n : Nat) : ∀ j : Nat, n < 128 ^ (j + 1) → (vt n).length ≤ j + 1 := by
  intro j
  induction j generalizing n with
  | zero => intro h; rw [vt, if_neg (by omega)]; simp
  | succ j ih =>
    intro h
    rw [vt]
    split
    · have := ih (n / 128) (by rw [Nat.div_lt_iff_lt_mul (by omega)]; rw [Nat.pow_succ] at h; exact h)
      simp only [List.length_cons]; omega
    · simp
theorem vt_len5 (n : Nat) (h : n ≤ 1000000000) : (vt n).length ≤ 5 := vt_len n 4 (by omega)
def varS (n : Int) : ByteArray := strOfNums (vt n.toNat)
theorem tdiv128 (n : Nat) (h : n ≤ 1000000000000) : wrap64 (Int.tdiv (n : Int) 128) = ((n / 128 : Nat) : Int) := by
  rw [Int.tdiv_eq_ediv_of_nonneg (by omega), w64 (by omega) (by omega)]; omega
theorem tmod128 (n : Nat) (h : n ≤ 1000000000000) : wrap64 (Int.tmod (n : Int) 128 + 128) % 256 = ((n % 128 + 128 : Nat) : Int) := by
  rw [Int.tmod_eq_emod_of_nonneg (by omega), w64 (by omega) (by omega)]; omega

theorem impl_in_eq (a b c : Int) : impl_in.f a b c = some (decide (b ≤ a ∧ a ≤ c)) := by
  unfold impl_in.f
  by_cases h : b ≤ a <;> simp [h, GE.ge]

def varTextOf (n : Int) : ByteArray × Bool := if 0 ≤ n ∧ n ≤ 1000000000 then (varS n, true) else ((⟨#[]⟩ : ByteArray), false)

theorem impl_VarText_l0 (n : Nat) : n ≤ 1000000000000 → ∀ acc : List Int, acc.length + n < 140737488355328 → Ev (fun k => impl_VarText.l0 k (n : Int) acc) (strOfNums (acc ++ vt n), true) := by
  induction n using Nat.strongRecOn with
  | _ n ih =>
    intro hn acc ha
    refine ev_st ?_
    have hl : acc.length < 140737488355328 := by omega
    rw [vt]
    by_cases h : 127 < n
    · simp only [impl_VarText.l0, show (n : Int) > 127 from by omega, hl, h, ↓reduceIte, tdiv128 n hn, tmod128 n hn]
      have g := ih (n / 128) (by omega) (by omega) (acc ++ [((n % 128 + 128 : Nat) : Int)]) (by simp; omega)
      rw [List.append_assoc] at g
      exact g
    · simp only [impl_VarText.l0, show ¬ ((n : Int) > 127) from by omega, hl, h, ↓reduceIte, show (n : Int) % 256 = (n : Int) from by omega]
      exact Ev.now _
theorem impl_VarText_ev (n : Int) : Ev (fun k => impl_VarText.f k n) (varTextOf n) := by
  simp only [impl_VarText.f, impl_in_eq, Option.bind_some, decide_eq_true_eq]
  unfold varTextOf
  by_cases h : 0 ≤ n ∧ n ≤ 1000000000
  · simp only [h, and_self, ↓reduceIte]
    obtain ⟨m, rfl⟩ := Int.eq_ofNat_of_zero_le h.1
    exact impl_VarText_l0 m (by omega) [] (by simp; omega)
  · simp only [h, ↓reduceIte]
    exact Ev.now _

theorem impl_varOf_ev (n : Int) (h0 : 0 ≤ n) (h1 : n ≤ 1000000000) : Ev (fun k => impl_varOf.f k n) (varS n) := by
  refine Ev.bind (impl_VarText_ev n) ?_
  unfold varTextOf
  rw [if_pos ⟨h0, h1⟩]
  exact Ev.now _

def shortOf (s : ByteArray) : ByteArray × Bool := if (s.size : Int) > 20000 then ((⟨#[]⟩ : ByteArray), false) else (varS (s.size : Int) ++ s, true)
theorem varS_size (n : Int) (h0 : 0 ≤ n) (h1 : n ≤ 1000000000) : (varS n).size ≤ 5 := by
  unfold varS
  rw [strOfNums_size]
  exact vt_len5 _ (by omega)

theorem impl_ShortText_ev (s : ByteArray) : Ev (fun k => impl_ShortText.f k s) (shortOf s) := by
  simp only [impl_ShortText.f]
  unfold shortOf
  by_cases h : (s.size : Int) > 20000
  · simp only [h, ↓reduceIte]; exact Ev.now _
  · simp only [h, ↓reduceIte]
    refine Ev.bind (impl_varOf_ev (s.size : Int) (by omega) (by omega)) ?_
    have z := varS_size (s.size : Int) (by omega) (by omega)
    simp only [show (varS (s.size : Int)).size + s.size ≤ 9223372036854775807 from by omega, ↓reduceIte]
    exact Ev.now _

/-! a number is read -/
def rvPre : Nat → List Int → Option (List Int)
  | 0, _ => none
  | _ + 1, [] => none
  | f + 1, b :: t => if 128 ≤ b then (rvPre f t).map (b :: ·) else some [b]
def vval : List Int → Int
  | [] => 0
  | b :: t => b % 128 + 128 * vval t
def rvFail (w : List Int) : Prop := (1 < w.length ∧ w.getLast? = some 0) ∨ vval w > 1000000000
instance (w : List Int) : Decidable (rvFail w) := by unfold rvFail; infer_instance
def rvRes (at' : Int) (q : List Int) : Option (List Int) → Int × Int × Bool
  | none => (0, 0, false)
  | some p => if rvFail (q ++ p) then (0, 0, false) else (vval (q ++ p), at' + ((q ++ p).length : Int), true)
def readVarOf (s : ByteArray) (at' : Int) : Int × Int × Bool := if 0 ≤ at' ∧ at' ≤ (s.size : Int) then rvRes at' [] (rvPre 5 ((bytesOf s).drop at'.toNat)) else (0, 0, false)
theorem rvRes_step (at' : Int) (q : List Int) (f : Nat) (b : Int) (t : List Int) (h : 128 ≤ b) : rvRes at' q (rvPre (f + 1) (b :: t)) = rvRes at' (q ++ [b]) (rvPre f t) := by
  rw [rvPre, if_pos h]
  cases rvPre f t with
  | none => rfl
  | some p => simp only [Option.map_some, rvRes, List.append_assoc, List.singleton_append]
theorem vval_snoc (q : List Int) (b : Int) : vval (q ++ [b]) = vval q + b % 128 * 128 ^ q.length := by
  induction q with
  | nil => simp [vval]
  | cons c q ih =>
    simp only [List.cons_append, vval, ih, List.length_cons]
    rw [Int.pow_succ]
    have : 128 * (b % 128 * 128 ^ q.length) = b % 128 * (128 ^ q.length * 128) := by rw [Int.mul_comm, Int.mul_assoc]
    rw [Int.mul_add, this]; omega
theorem vval_bound (q : List Int) : 0 ≤ vval q ∧ vval q < 128 ^ q.length := by
  induction q with
  | nil => simp [vval]
  | cons c q ih =>
    simp only [vval, List.length_cons]
    rw [Int.pow_succ]
    generalize (128 : Int) ^ q.length = p at ih ⊢
    omega
theorem vval_bound_le (q : List Int) (j : Nat) (h : q.length ≤ j) : 0 ≤ vval q ∧ vval q < 128 ^ j := by
  have b := vval_bound q
  have : (128 : Int) ^ q.length ≤ 128 ^ j := pow128_le h
  omega
/-- What is written as a number tells that number. -/
theorem vval_vt (n : Nat) : vval (vt n) = n := by
  induction n using Nat.strongRecOn with
  | _ n ih =>
    rw [vt]
    split
    · rw [vval, ih (n / 128) (by omega)]; omega
    · simp only [vval]; omega
/-- All but the last go on, the last does not. -/
def Ends : List Int → Prop
  | [] => False
  | [b] => 0 ≤ b ∧ b < 128
  | b :: t => 128 ≤ b ∧ b < 256 ∧ Ends t
theorem ends_vt (n : Nat) : Ends (vt n) := by
  induction n using Nat.strongRecOn with
  | _ n ih =>
    rw [vt]
    split
    · have g := ih (n / 128) (by omega)
      generalize vt (n / 128) = l at g ⊢
      cases l with
      | nil => exact g.elim
      | cons c t => exact ⟨by omega, by omega, g⟩
    · exact ⟨by omega, by omega⟩
theorem last_vt (n : Nat) (h : 1 ≤ n) : (vt n).getLast? ≠ some 0 := by
  induction n using Nat.strongRecOn with
  | _ n ih =>
    rw [vt]
    split
    · have g := ih (n / 128) (by omega) (by omega)
      have e := ends_vt (n / 128)
      generalize vt (n / 128) = l at g e ⊢
      cases l with
      | nil => exact e.elim
      | cons c t => rw [List.getLast?_cons_cons]; exact g
    · simp; omega
theorem vval_pos (l : List Int) (h : Ends l) (hz : l.getLast? ≠ some 0) : 1 ≤ vval l := by
  induction l with
  | nil => exact h.elim
  | cons b t ih =>
    cases t with
    | nil =>
      simp [vval] at hz ⊢
      obtain ⟨h0, h1⟩ := h
      omega
    | cons c t =>
      obtain ⟨_, _, h2⟩ := h
      rw [List.getLast?_cons_cons] at hz
      have := ih h2 hz
      simp only [vval] at this ⊢
      omega
theorem vt_vval (l : List Int) (h : Ends l) (hz : 1 < l.length → l.getLast? ≠ some 0) : vt (vval l).toNat = l := by
  induction l with
  | nil => exact h.elim
  | cons b t ih =>
    cases t with
    | nil =>
      obtain ⟨h0, h1⟩ := h
      have e : vval [b] = b := by simp only [vval]; omega
      rw [e, vt, if_neg (by omega)]
      simp; omega
    | cons c t =>
      obtain ⟨h0, h1, h2⟩ := h
      have hz2 : (c :: t).getLast? ≠ some 0 := by
        have := hz (by simp)
        rw [List.getLast?_cons_cons] at this
        exact this
      have p := vval_pos (c :: t) h2 hz2
      have g := ih h2 (fun _ => hz2)
      have e : vval (b :: c :: t) = b % 128 + 128 * vval (c :: t) := rfl
      generalize hv : vval (c :: t) = v at *
      rw [vt, if_pos (by omega)]
      have e1 : (vval (b :: c :: t)).toNat / 128 = v.toNat := by omega
      rw [e1, g]
      congr 1
      omega
/-- The reference's test by writing anew, and the program's test of the last byte. -/
theorem vt_iff (l : List Int) (h : Ends l) : vt (vval l).toNat = l ↔ ¬ (1 < l.length ∧ l.getLast? = some 0) := by
  constructor
  · rintro e ⟨h1, h2⟩
    have p : 1 ≤ (vval l).toNat := by
      rcases Nat.lt_or_ge (vval l).toNat 1 with q | q
      · rw [show (vval l).toNat = 0 from by omega, vt, if_neg (by omega)] at e
        rw [← e] at h1
        simp at h1
      · exact q
    exact last_vt _ p (by rw [e]; exact h2)
  · intro q
    exact vt_vval l h (fun h1 h2 => q ⟨h1, h2⟩)
theorem ends_snoc (q : List Int) (b : Int) (hq : ∀ x ∈ q, 128 ≤ x ∧ x < 256) (h0 : 0 ≤ b) (h1 : b < 128) : Ends (q ++ [b]) := by
  induction q with
  | nil => exact ⟨h0, h1⟩
  | cons c q ih =>
    have := ih (fun x hx => hq x (List.mem_cons_of_mem _ hx))
    have hc := hq c (List.mem_cons_self ..)
    rw [List.cons_append]
    generalize q ++ [b] = l at this ⊢
    cases l with
    | nil => exact this.elim
    | cons d t => exact ⟨hc.1, hc.2, this⟩

theorem term7 (b : Int) (h0 : 0 ≤ b) (q : List Int) (hq : q.length < 5) : wrap64 (vval q + b % 128 * 128 ^ q.length) = vval (q ++ [b]) := by
  have g := vval_bound_le (q ++ [b]) 5 (by simp; omega)
  rw [vval_snoc] at g
  rw [vval_snoc]
  exact w64 (by omega) (by omega)
theorem term7a (b : Int) (h0 : 0 ≤ b) (q : List Int) (hq : q.length < 5) : wrap64 (b % 128 * 128 ^ q.length) = b % 128 * 128 ^ q.length := by
  have g := vval_bound_le (q ++ [b]) 5 (by simp; omega)
  have g2 := vval_bound q
  rw [vval_snoc] at g
  have h : 0 ≤ b % 128 * 128 ^ q.length := Int.mul_nonneg (by omega) (Int.le_of_lt (pow128_pos _))
  exact w64 (by omega) (by omega)
theorem scale7 (q : List Int) (hq : q.length < 5) : wrap64 ((128 : Int) ^ q.length * 128) = 128 ^ (q.length + 1) := by
  have h : (128 : Int) ^ q.length ≤ 128 ^ 4 := pow128_le (by omega)
  have h2 := pow128_pos q.length
  rw [w64 (by omega) (by omega), Int.pow_succ]
theorem rvRes_last (at' : Int) (q : List Int) (f : Nat) (b : Int) (t : List Int) (h : ¬ 128 ≤ b) : rvRes at' q (rvPre (f + 1) (b :: t)) = if rvFail (q ++ [b]) then (0, 0, false) else (vval (q ++ [b]), at' + ((q ++ [b]).length : Int), true) := by
  rw [rvPre, if_neg h]; rfl
theorem rvFail_iff (q : List Int) (b : Int) : rvFail (q ++ [b]) ↔ (0 < q.length ∧ b = 0) ∨ vval (q ++ [b]) > 1000000000 := by
  unfold rvFail
  simp only [List.length_append, List.length_singleton, List.getLast?_append, List.getLast?_singleton, Option.some_or, Option.some.injEq]
  constructor
  · rintro (⟨h1, h2⟩ | h)
    · exact .inl ⟨by omega, h2⟩
    · exact .inr h
  · rintro (⟨h1, h2⟩ | h)
    · exact .inl ⟨by omega, h2⟩
    · exact .inr h

theorem shl7 (x : Int) (h0 : 0 ≤ x) (h1 : x < 128) (j : Nat) (hj : j < 5) : shl .i64 x (wrap64 (7 * (j : Int))) = x * 128 ^ j := by
  rw [w64 (by omega) (by omega)]
  unfold shl
  rw [IntKind.wrap_i64, show (7 * (j : Int)).toNat = 7 * j from by omega, Nat.min_eq_left (show 7 * j ≤ IntKind.i64.bits from by show 7 * j ≤ 64; omega)]
  obtain rfl | rfl | rfl | rfl | rfl : j = 0 ∨ j = 1 ∨ j = 2 ∨ j = 3 ∨ j = 4 := by omega
  all_goals (simp only [Nat.mul_zero, Nat.reduceMul, Int.reducePow, Int.pow_zero]; omega)
set_option maxHeartbeats 1000000 in
theorem impl_ReadVar_l0 (s : ByteArray) (hs : s.size ≤ 140737488351232) (a : Nat) : ∀ (f : Nat) (q : List Int), f + q.length = 5 → a + q.length ≤ s.size →
    Ev (fun k => impl_ReadVar.l0 k s (a : Int) (vval q) (q.length : Int)) (rvRes (a : Int) q (rvPre f ((bytesOf s).drop (a + q.length)))) := by
  intro f
  induction f with
  | zero =>
    intro q hf _
    refine ev_st (ev_st ?_)
    simp only [impl_ReadVar.l0, impl_ReadVar.j1, show ¬ ((q.length : Int) < 5) from by omega, ↓reduceIte, Bool.false_eq_true]
    exact Ev.now _
  | succ f ih =>
    intro q hf ha
    refine ev_st (ev_st ?_)
    have e0 : wrap64 ((s.size : Int) - (q.length : Int)) = (s.size : Int) - (q.length : Int) := w64 (by omega) (by omega)
    have e1 : wrap64 ((a : Int) + (q.length : Int)) = ((a + q.length : Nat) : Int) := by rw [w64 (by omega) (by omega)]; omega
    by_cases hlt : a + q.length < s.size
    · have b := bt_range s ((a + q.length : Nat) : Int)
      have hd := drop_bt s (a + q.length) hlt
      have f1 : (q.length : Int) < 5 := by omega
      have f2 : (a : Int) ≥ 0 := by omega
      have f3 : (a : Int) < (s.size : Int) - (q.length : Int) := by omega
      have f4 : (0 : Int) ≤ ((a + q.length : Nat) : Int) := by omega
      have f5 : ((a + q.length : Nat) : Int) < (s.size : Int) := by omega
      have f6 : q.length < 5 := by omega
      have f7 : 0 ≤ bt s ((a + q.length : Nat) : Int) % 128 := by omega
      have f8 : bt s ((a + q.length : Nat) : Int) % 128 < 128 := by omega
      have e5 : wrap64 (((a + q.length : Nat) : Int) + 1) = ((a : Int) + (((q.length + 1 : Nat)) : Int)) := by rw [w64 (by omega) (by omega)]; omega
      have e6 : wrap64 ((q.length : Int) + 1) = ((q.length + 1 : Nat) : Int) := by rw [w64 (by omega) (by omega)]; omega
      have e7 : (0 : Int) ≤ wrap64 (7 * (q.length : Int)) := by rw [w64 (by omega) (by omega)]; omega
      have e2 : Int.tmod (bt s ((a + q.length : Nat) : Int)) 128 = bt s ((a + q.length : Nat) : Int) % 128 := Int.tmod_eq_emod_of_nonneg b.1
      have e3 := shl7 (bt s ((a + q.length : Nat) : Int) % 128) f7 f8 q.length f6
      have e4 := term7 (bt s ((a + q.length : Nat) : Int)) b.1 q f6
      simp only [impl_ReadVar.l0, impl_ReadVar.j1, f1, f2, ↓reduceIte, e0, f3, decide_true, e1, f4, f5, bt_wrap, e2, e3, e4, e5, e6, e7]
      clear e2 e3 e4 e5 e6 e7 f7 f8
      rw [hd]
      generalize bt s ((a + q.length : Nat) : Int) = c at b ⊢
      by_cases hb : 128 ≤ c
      · rw [rvRes_step _ _ _ _ _ hb]
        simp only [show c ≥ 128 from hb, ↓reduceIte]
        have g := ih (q ++ [c]) (by simp; omega) (by simp; omega)
        simp only [List.length_append, List.length_singleton] at g
        exact g
      · rw [rvRes_last _ _ _ _ _ hb]
        simp only [show ¬ (c ≥ 128) from hb, ↓reduceIte, rvFail_iff, List.length_append, List.length_singleton]
        by_cases h0 : c = 0
        · by_cases hp : 0 < q.length
          · simp only [h0, show (q.length : Int) > 0 from by omega, hp, and_self, true_or, ↓reduceIte]
            exact Ev.now _
          · simp only [h0, show ¬ ((q.length : Int) > 0) from by omega, hp, false_and, false_or, ↓reduceIte]
            split
            · exact Ev.now _
            · exact Ev.now _
        · simp only [h0, and_false, false_or, ↓reduceIte]
          split
          · exact Ev.now _
          · exact Ev.now _
    · simp only [impl_ReadVar.l0, impl_ReadVar.j1, show (q.length : Int) < 5 from by omega, show (a : Int) ≥ 0 from by omega, ↓reduceIte, e0, show ¬ ((a : Int) < (s.size : Int) - (q.length : Int)) from by omega, decide_false, Bool.false_eq_true]
      rw [show a + q.length = s.size from by omega, drop_end]
      exact Ev.now _
theorem impl_ReadVar_ev (s : ByteArray) (hs : s.size ≤ 140737488351232) (a : Int) (h0 : -9223372036854775808 ≤ a) (h1 : a ≤ 9223372036854775807) : Ev (fun k => impl_ReadVar.f k s a) (readVarOf s a) := by
  unfold readVarOf
  simp only [impl_ReadVar.f]
  by_cases h : 0 ≤ a ∧ a ≤ (s.size : Int)
  · rw [if_pos h]
    obtain ⟨m, rfl⟩ := Int.eq_ofNat_of_zero_le h.1
    exact impl_ReadVar_l0 s hs m 5 [] rfl (by simp; omega)
  · rw [if_neg h]
    refine ev_st (ev_st ?_)
    have e : wrap64 ((s.size : Int) - 0) = (s.size : Int) := by rw [w64 (by omega) (by omega)]; omega
    simp only [impl_ReadVar.l0, impl_ReadVar.j1, show (0 : Int) < 5 from by omega, ↓reduceIte, e]
    by_cases ha : a ≥ 0
    · simp only [ha, show ¬ (a < (s.size : Int)) from by omega, ↓reduceIte, decide_false, Bool.false_eq_true]
      exact Ev.now _
    · simp only [ha, ↓reduceIte, Bool.false_eq_true]
      exact Ev.now _

theorem rvPre_len : ∀ (f : Nat) (l p : List Int), rvPre f l = some p → p.length ≤ l.length
  | 0, _, _, h => by simp [rvPre] at h
  | _ + 1, [], _, h => by simp [rvPre] at h
  | f + 1, b :: t, p, h => by
    rw [rvPre] at h
    split at h
    · obtain ⟨p', h', rfl⟩ := Option.map_eq_some_iff.1 h
      have := rvPre_len f t p' h'
      simp; omega
    · obtain rfl := Option.some.inj h
      simp
theorem readVarOf_bounds (s : ByteArray) (a n nx : Int) (h : readVarOf s a = (n, nx, true)) : 0 ≤ n ∧ n ≤ 1000000000 ∧ 0 ≤ nx ∧ nx ≤ (s.size : Int) := by
  unfold readVarOf at h
  split at h
  next ha =>
    cases hp : rvPre 5 ((bytesOf s).drop a.toNat) with
    | none => rw [hp] at h; simp [rvRes] at h
    | some p =>
      rw [hp] at h
      have hl := rvPre_len _ _ _ hp
      rw [List.length_drop, bytesOf_length] at hl
      simp only [rvRes, List.nil_append] at h
      split at h
      · simp at h
      next hf =>
        have b := vval_bound p
        unfold rvFail at hf
        simp only [Prod.mk.injEq, and_true] at h
        have : ¬ vval p > 1000000000 := fun q => hf (.inr q)
        omega
  · simp at h

def readShortOf (s : ByteArray) (a : Int) : ByteArray × Int × Bool :=
  if (readVarOf s a).2.2 = true then (if (readVarOf s a).1 > 20000 then ((⟨#[]⟩ : ByteArray), 0, false) else if (readVarOf s a).1 > (s.size : Int) - (readVarOf s a).2.1 then ((⟨#[]⟩ : ByteArray), 0, false)
    else (s.extract (readVarOf s a).2.1.toNat ((readVarOf s a).2.1 + (readVarOf s a).1).toNat, (readVarOf s a).2.1 + (readVarOf s a).1, true)) else ((⟨#[]⟩ : ByteArray), 0, false)

theorem impl_ReadShort_ev (s : ByteArray) (hs : s.size ≤ 140737488351232) (a : Int) (h0 : -9223372036854775808 ≤ a) (h1 : a ≤ 9223372036854775807) : Ev (fun k => impl_ReadShort.f k s a) (readShortOf s a) := by
  simp only [impl_ReadShort.f]
  refine Ev.bind (impl_ReadVar_ev s hs a h0 h1) ?_
  unfold readShortOf
  have hb := readVarOf_bounds s a
  generalize readVarOf s a = r at hb ⊢
  obtain ⟨n, nx, ok⟩ := r
  cases ok with
  | false => simp only [Bool.false_eq_true, ↓reduceIte]; exact Ev.now _
  | true =>
    have b := hb n nx rfl
    have e1 : wrap64 ((s.size : Int) - nx) = (s.size : Int) - nx := w64 (by omega) (by omega)
    have e2 : wrap64 (nx + n) = nx + n := w64 (by omega) (by omega)
    simp only [↓reduceIte, e1, e2]
    by_cases h1 : n > 20000
    · simp only [h1, ↓reduceIte]; exact Ev.now _
    · by_cases h2 : n > (s.size : Int) - nx
      · simp only [h1, h2, ↓reduceIte]; exact Ev.now _
      · simp only [h1, h2, show (0 : Int) ≤ nx from b.2.2.1, show nx ≤ nx + n from by omega, show nx + n ≤ (s.size : Int) from by omega, ↓reduceIte]
        exact Ev.now _

/-! figures of sixteen -/
def hx (d : Int) : Int := if d < 10 then 48 + d else 87 + d
def hexL : List Int → List Int
  | [] => []
  | b :: t => hx (b / 16) :: hx (b % 16) :: hexL t
def hexOf (s : ByteArray) : ByteArray × Bool := if (s.size : Int) > 20000 then ((⟨#[]⟩ : ByteArray), false) else (strOfNums (hexL (bytesOf s)), true)

theorem hexDigit (d : Int) (h0 : 0 ≤ d) (h1 : d < 16) : bt (⟨#[48, 49, 50, 51, 52, 53, 54, 55, 56, 57, 97, 98, 99, 100, 101, 102]⟩ : ByteArray) d = hx d := by
  have key : ∀ n : Fin 16, bt (⟨#[48, 49, 50, 51, 52, 53, 54, 55, 56, 57, 97, 98, 99, 100, 101, 102]⟩ : ByteArray) ((n.val : Nat) : Int) = hx ((n.val : Nat) : Int) := by decide +kernel
  obtain ⟨m, rfl⟩ := Int.eq_ofNat_of_zero_le h0
  exact key ⟨m, by omega⟩
theorem impl_Hex_l0 (s : ByteArray) (hs : s.size ≤ 20000) : ∀ (d i : Nat), i + d = s.size → ∀ acc : List Int, acc.length + 2 * d ≤ 40000 →
    Ev (fun k => impl_Hex.l0 k s acc (i : Int)) (strOfNums (acc ++ hexL ((bytesOf s).drop i)), true) := by
  intro d
  induction d with
  | zero =>
    intro i hi acc _
    refine ev_st ?_
    obtain rfl : i = s.size := by omega
    simp only [impl_Hex.l0, show ¬ ((s.size : Int) < (s.size : Int)) from by omega, ↓reduceIte, drop_end, hexL, List.append_nil]
    exact Ev.now _
  | succ d ih =>
    intro i hi acc ha
    refine ev_st ?_
    have b := bt_range s i
    have e2 : Go.bits .and .u8 (bt s i) 15 = bt s i % 16 := u8_and15 _ b.1 (by omega)
    have e3 : wrap64 ((i : Int) + 1) = ((i + 1 : Nat) : Int) := by rw [w64 (by omega) (by omega)]; omega
    simp only [impl_Hex.l0, show (i : Int) < (s.size : Int) from by omega, show (0 : Int) ≤ (i : Int) from by omega, ↓reduceIte, e2, e3, hexDigit (bt s i / 16) (by omega) (by omega), hexDigit (bt s i % 16) (by omega) (by omega), Option.bind_some,
      show (0 : Int) ≤ bt s i / 16 from by omega, show bt s i / 16 < 16 from by omega, show (0 : Int) ≤ bt s i % 16 from by omega, show bt s i % 16 < 16 from by omega,
      List.length_cons, List.length_nil, show acc.length + (0 + 1 + 1) < 140737488355328 from by omega]
    rw [drop_bt s i (by omega), hexL]
    have g := ih (i + 1) (by omega) (acc ++ [hx (bt s i / 16), hx (bt s i % 16)]) (by simp; omega)
    rw [List.append_assoc] at g
    exact g
theorem impl_Hex_ev (s : ByteArray) : Ev (fun k => impl_Hex.f k s) (hexOf s) := by
  simp only [impl_Hex.f]
  unfold hexOf
  by_cases h : (s.size : Int) > 20000
  · simp only [h, ↓reduceIte]; exact Ev.now _
  · simp only [h, ↓reduceIte]
    exact impl_Hex_l0 s (by omega) s.size 0 (by omega) [] (by simp; omega)

/-! what a figure is worth; both loops go the same way -/
def val (c : Int) : Int := if 48 ≤ c ∧ c ≤ 57 then c - 48 else if 97 ≤ c ∧ c ≤ 102 then c - 87 else -1
theorem impl_val (c : Int) (h0 : 0 ≤ c) (h1 : c ≤ 255) : strings_IndexByte.f (⟨#[48, 49, 50, 51, 52, 53, 54, 55, 56, 57, 97, 98, 99, 100, 101, 102]⟩ : ByteArray) c = some (val c) := by
  have key : ∀ n : Fin 256, strings_IndexByte.f (⟨#[48, 49, 50, 51, 52, 53, 54, 55, 56, 57, 97, 98, 99, 100, 101, 102]⟩ : ByteArray) ((n.val : Nat) : Int) = some (val ((n.val : Nat) : Int)) := by decide +kernel
  obtain ⟨m, rfl⟩ := Int.eq_ofNat_of_zero_le h0
  exact key ⟨m, by omega⟩

/-! what is drawn -/
theorem bits_and255 (x : Int) : 0 ≤ Go.bits .and .i64 x 255 ∧ Go.bits .and .i64 x 255 ≤ 255 := by
  have h : (BitVec.ofInt IntKind.i64.bits x &&& BitVec.ofInt IntKind.i64.bits 255).toNat ≤ 255 := by
    rw [BitVec.toNat_and]
    exact Nat.le_trans Nat.and_le_right (by decide)
  simp only [Go.bits, IntKind.wrap_i64]
  omega
theorem l01Byte_is (l : List Int) (i s : Int) (hl : l.length ≤ 1048576) (hi : 0 ≤ i) : ∃ b j t, spec_l01Byte.f l i s = some (b, j, t) ∧ 0 ≤ b ∧ b ≤ 255 ∧ 0 ≤ j := by
  unfold spec_l01Byte.f
  by_cases h : i < (l.length : Int)
  · simp only [h, hi, ↓reduceIte]
    have e : wrap64 (i + 1) = i + 1 := w64 (by omega) (by omega)
    exact ⟨_, _, _, rfl, (bits_and255 _).1, (bits_and255 _).2, by omega⟩
  · simp only [h, ↓reduceIte]
    exact ⟨_, _, _, rfl, (bits_and255 _).1, (bits_and255 _).2, hi⟩
theorem tmod_range (a n : Int) (ha : 0 ≤ a) (hn : 1 ≤ n) : 0 ≤ Int.tmod a n ∧ Int.tmod a n < n := by
  rw [Int.tmod_eq_emod_of_nonneg ha]
  exact ⟨Int.emod_nonneg _ (by omega), Int.emod_lt_of_pos _ (by omega)⟩
theorem l01Below_is (l : List Int) (i s n : Int) (hl : l.length ≤ 1048576) (hi : 0 ≤ i) : ∃ b j t, spec_l01Below.f l i s n = some (b, j, t) ∧ 0 ≤ b ∧ (1 ≤ n → b < n) ∧ 0 ≤ j := by
  unfold spec_l01Below.f
  by_cases h : n ≤ 0
  · simp only [h, ↓reduceIte]
    exact ⟨_, _, _, rfl, by omega, fun h => by omega, hi⟩
  · simp only [h, show ¬ n = 0 from by omega, ↓reduceIte]
    obtain ⟨b1, j1, t1, e1, g1, g2, g3⟩ := l01Byte_is l i s hl hi
    by_cases h2 : n ≤ 256
    · have q := tmod_range b1 n g1 (by omega)
      simp only [h2, ↓reduceIte, e1, Option.bind_some]
      exact ⟨_, _, _, rfl, q.1, fun _ => q.2, g3⟩
    · obtain ⟨b2, j2, t2, e2, k1, k2, k3⟩ := l01Byte_is l j1 t1 hl g3
      obtain ⟨b3, j3, t3, e3, m1, m2, m3⟩ := l01Byte_is l j2 t2 hl k3
      obtain ⟨b4, j4, t4, e4, n1, n2, n3⟩ := l01Byte_is l j3 t3 hl m3
      simp only [h2, ↓reduceIte, e1, e2, e3, e4, Option.bind_some]
      have q := tmod_range (wrap64 ((wrap64 ((wrap64 ((wrap64 (b1 * 16777216)) + (wrap64 (b2 * 65536)))) + (wrap64 (b3 * 256)))) + b4)) n (by
        rw [w64 (n := b1 * 16777216) (by omega) (by omega), w64 (n := b2 * 65536) (by omega) (by omega), w64 (n := b3 * 256) (by omega) (by omega), w64 (n := b1 * 16777216 + b2 * 65536) (by omega) (by omega), w64 (n := b1 * 16777216 + b2 * 65536 + b3 * 256) (by omega) (by omega), w64 (by omega) (by omega)]
        omega) (by omega)
      exact ⟨_, _, _, rfl, q.1, fun _ => q.2, n3⟩
theorem l01New_l0 (l : List Int) (hl : l.length ≤ 1048576) : ∀ (d i : Nat), i + d = l.length → ∀ x : Int, ∃ y, Ev (fun k => spec_l01New.l0 k l x (i : Int)) (l, 0, y) := by
  intro d
  induction d with
  | zero =>
    intro i hi x
    obtain rfl : i = l.length := by omega
    refine ⟨x, ev_st ?_⟩
    simp only [spec_l01New.l0, Int.lt_irrefl, ↓reduceIte]
    exact Ev.now _
  | succ d ih =>
    intro i hi x
    have h1 : (i : Int) < (l.length : Int) := by omega
    have h2 : (0 : Int) ≤ (i : Int) := by omega
    have e : wrap64 ((i : Int) + 1) = ((i + 1 : Nat) : Int) := by rw [w64 (by omega) (by omega)]; omega
    by_cases h3 : (i : Int) < 4000
    · obtain ⟨y, hy⟩ := ih (i + 1) (by omega) (Go.bits .and .i64 (wrap64 ((wrap64 ((wrap64 (x * 131)) + (wrap64 (rd l (i : Int))))) + 7)) 1073741823)
      refine ⟨y, ev_st ?_⟩
      simp only [spec_l01New.l0, h1, h2, h3, ↓reduceIte, e]
      exact hy
    · refine ⟨x, ev_st ?_⟩
      simp only [spec_l01New.l0, h1, h3, ↓reduceIte]
      exact Ev.now _
theorem l01New_ev (l : List Int) (hl : l.length ≤ 1048576) : ∃ y, Ev (fun k => spec_l01New.f k l) (l, 0, y) := by
  obtain ⟨y, hy⟩ := l01New_l0 l hl l.length 0 (by omega) (wrap64 (36501 + (l.length : Int)))
  exact ⟨y, by simpa [spec_l01New.f] using hy⟩

theorem l01Text_l0 (l : List Int) (hl : l.length ≤ 1048576) (N : Nat) (hN : N ≤ 5000) : ∀ (d n : Nat), n + d = N → ∀ (xs : List Int) (i s : Int), 0 ≤ i → xs.length = n → ∃ r j t, Ev (fun k => spec_l01Text.l0 k (N : Int) xs (n : Int) l i s) (r, j, t) ∧ r.size = N ∧ 0 ≤ j := by
  intro d
  induction d with
  | zero =>
    intro n hn xs i s hi hx
    refine ⟨strOfNums xs, i, s, ev_st ?_, by rw [strOfNums_size]; omega, hi⟩
    simp only [spec_l01Text.l0, show ¬ ((n : Int) < (N : Int)) from by omega, ↓reduceIte]
    exact Ev.now _
  | succ d ih =>
    intro n hn xs i s hi hx
    have c1 : (n : Int) < (N : Int) := by omega
    have c2 : xs.length < 140737488355328 := by omega
    have e1 : wrap64 ((n : Int) + 1) = ((n + 1 : Nat) : Int) := by rw [w64 (by omega) (by omega)]; omega
    obtain ⟨b, j, t, h1, h2, h3, h4⟩ := l01Byte_is l i s hl hi
    obtain ⟨r, j2, t2, e, h5, h6⟩ := ih (n + 1) (by omega) (xs ++ [b % 256]) j t h4 (by simp; omega)
    refine ⟨r, j2, t2, ev_st ?_, h5, h6⟩
    simp only [spec_l01Text.l0, c1, ↓reduceIte, h1, Option.bind_some, c2, e1]
    exact e
theorem l01Text_ev (l : List Int) (hl : l.length ≤ 1048576) (i s : Int) (hi : 0 ≤ i) (n : Nat) (hn : n ≤ 5000) : ∃ r j t, Ev (fun k => spec_l01Text.f k l i s (n : Int)) (r, j, t) ∧ r.size = n ∧ 0 ≤ j := by
  obtain ⟨r, j, t, e, h1, h2⟩ := l01Text_l0 l hl n hn n 0 (by omega) [] i s hi rfl
  refine ⟨r, j, t, ?_, h1, h2⟩
  simp only [spec_l01Text.f, show ¬ ((n : Int) > 5000) from by omega, ↓reduceIte]
  refine ev_st ?_
  simp only [spec_l01Text.j0]
  exact e

theorem l01PickInt_is (l : List Int) (i s : Int) (m : List Int) (hl : l.length ≤ 1048576) (hi : 0 ≤ i) (hm : 1 ≤ m.length) : ∃ b j t, spec_l01PickInt.f l i s m = some (b, j, t) ∧ b ∈ m ∧ 0 ≤ j := by
  obtain ⟨b, j, t, e, h1, h2, h3⟩ := l01Below_is l i s (m.length : Int) hl hi
  have h4 := h2 (by omega)
  unfold spec_l01PickInt.f
  simp only [e, Option.bind_some, h1, h4, ↓reduceIte]
  refine ⟨_, _, _, rfl, ?_, h3⟩
  unfold rd
  rw [List.getD_eq_getElem?_getD, List.getElem?_eq_getElem (by omega)]
  exact List.getElem_mem _

theorem l01Long_l0 (n x1 : Int) : ∀ (d i : Nat) (xs : List Int), i + d = xs.length → (xs.length : Int) = n → xs.length ≤ 100000 → ∃ r, Ev (fun k => spec_l01Long.l0 k n x1 xs (i : Int)) r ∧ r.size = xs.length := by
  intro d
  induction d with
  | zero =>
    intro i xs hi hn hx
    refine ⟨strOfNums xs, ev_st ?_, strOfNums_size xs⟩
    simp only [spec_l01Long.l0, show ¬ ((i : Int) < n) from by omega, ↓reduceIte]
    exact Ev.now _
  | succ d ih =>
    intro i xs hi hn hx
    obtain ⟨r, h1, h2⟩ := ih (i + 1) (xs.set i x1) (by rw [List.length_set]; omega) (by rw [List.length_set]; exact hn) (by rw [List.length_set]; exact hx)
    have e4 : wrap64 ((i : Int) + 1) = ((i + 1 : Nat) : Int) := by rw [w64 (by omega) (by omega)]; omega
    refine ⟨r, ev_st ?_, by rw [h2, List.length_set]⟩
    simp only [spec_l01Long.l0, show (i : Int) < n from by omega, show (0 : Int) ≤ (i : Int) from by omega, show (i : Int) < (xs.length : Int) from by omega, ↓reduceIte, Int.toNat_natCast, e4]
    exact h1
theorem l01Long_ev (n : Nat) (hn : n ≤ 100000) (x1 : Int) : ∃ r, Ev (fun k => spec_l01Long.f k (n : Int) x1) r ∧ r.size = n := by
  obtain ⟨r, h1, h2⟩ := l01Long_l0 (n : Int) x1 n 0 (List.replicate n 0) (by simp) (by simp) (by simpa using hn)
  refine ⟨r, ?_, by simpa using h2⟩
  simp only [spec_l01Long.f, show (0 : Int) ≤ (n : Int) from by omega, ↓reduceIte, Int.toNat_natCast, show n ≤ 281474976710656 from by omega]
  exact h1

/-! round trips -/
theorem rvPre_ends : ∀ (f : Nat) (l r : List Int), Ends l → l.length ≤ f → rvPre f (l ++ r) = some l
  | _, [], _, h, _ => h.elim
  | 0, _ :: _, _, _, h => by simp at h
  | f + 1, [b], r, h, _ => by
    have h1 := h.2
    rw [List.singleton_append, rvPre, if_neg (by omega)]
  | f + 1, b :: c :: t, r, h, hl => by
    have h1 : 128 ≤ b := h.1
    have h3 : Ends (c :: t) := h.2.2
    rw [List.cons_append, rvPre, if_pos h1, rvPre_ends f (c :: t) r h3 (by simp at hl ⊢; omega)]
    rfl
theorem read_vt (n : Nat) (hn : n ≤ 1000000000) (s : ByteArray) (a : Nat) (r : List Int) (ha : a ≤ s.size) (hd : (bytesOf s).drop a = vt n ++ r) : readVarOf s (a : Int) = ((n : Int), (a : Int) + ((vt n).length : Int), true) := by
  unfold readVarOf
  rw [if_pos ⟨by omega, by omega⟩, Int.toNat_natCast, hd, rvPre_ends 5 (vt n) r (ends_vt n) (vt_len5 n hn)]
  unfold rvRes
  simp only [List.nil_append, vval_vt]
  rw [if_neg]
  unfold rvFail
  rw [vval_vt]
  rintro (⟨h1, h2⟩ | h)
  · by_cases h0 : n = 0
    · subst h0
      have e : vt 0 = [0] := by rw [vt]; rfl
      rw [e] at h1
      simp at h1
    · exact last_vt n (by omega) h2
  · omega
theorem varS_bytes (n : Nat) : bytesOf (varS (n : Int)) = vt n := by
  unfold varS
  rw [Int.toNat_natCast, bytesOf_str (vt_range n)]
theorem varS_len (n : Nat) : (varS (n : Int)).size = (vt n).length := by
  unfold varS
  rw [Int.toNat_natCast, strOfNums_size]
theorem short_back (t : ByteArray) (ht : t.size ≤ 300) : readShortOf (varS (t.size : Int) ++ t) 0 = (t, ((varS (t.size : Int) ++ t).size : Int), true) := by
  have hz : (varS (t.size : Int) ++ t).size = (vt t.size).length + t.size := by rw [ByteArray.size_append, varS_len]
  have e := read_vt t.size (by omega) (varS (t.size : Int) ++ t) 0 (bytesOf t) (by omega) (by rw [List.drop_zero, bytesOf_append, varS_bytes])
  have e0 : readVarOf (varS (t.size : Int) ++ t) 0 = ((t.size : Int), ((vt t.size).length : Int), true) := by
    have := e
    rw [show ((0 : Nat) : Int) = 0 from rfl, Int.zero_add] at this
    exact this
  unfold readShortOf
  rw [e0]
  simp only [↓reduceIte]
  rw [if_neg (by omega), if_neg (by omega), hz]
  have e1 : (varS (t.size : Int) ++ t).extract ((vt t.size).length : Int).toNat (((vt t.size).length : Int) + (t.size : Int)).toNat = t := by
    apply bytesOf_inj
    rw [bytesOf_extract, bytesOf_append, varS_bytes, show (((vt t.size).length : Int) + (t.size : Int)).toNat = (vt t.size ++ bytesOf t).length from by rw [List.length_append, bytesOf_length]; omega, List.take_length, Int.toNat_natCast, List.drop_left]
  rw [e1]
  refine Prod.ext rfl (Prod.ext ?_ rfl)
  show ((vt t.size).length : Int) + (t.size : Int) = (((vt t.size).length + t.size : Nat) : Int)
  omega
theorem val_hx (d : Int) (h0 : 0 ≤ d) (h1 : d < 16) : val (hx d) = d := by
  unfold hx
  by_cases h : d < 10
  · rw [if_pos h]; unfold val; rw [if_pos (by omega)]; omega
  · rw [if_neg h]; unfold val; rw [if_neg (by omega), if_pos (by omega)]; omega
theorem hexL_len : ∀ l : List Int, (hexL l).length = 2 * l.length
  | [] => rfl
  | b :: t => by simp only [hexL, List.length_cons, hexL_len t]; omega
theorem hx_range (d : Int) (h0 : 0 ≤ d) (h1 : d < 16) : 0 ≤ hx d ∧ hx d < 256 := by unfold hx; split <;> omega
theorem hexL_range : ∀ l : List Int, (∀ b ∈ l, 0 ≤ b ∧ b < 256) → ∀ x ∈ hexL l, 0 ≤ x ∧ x < 256
  | [], _, x, h => by cases h
  | b :: t, hb, x, h => by
    have k := hb b (List.mem_cons_self ..)
    simp only [hexL, List.mem_cons] at h
    rcases h with rfl | rfl | h
    · exact hx_range _ (by omega) (by omega)
    · exact hx_range _ (by omega) (by omega)
    · exact hexL_range t (fun c hc => hb c (List.mem_cons_of_mem _ hc)) x h
theorem unhex_back (s : ByteArray) (hs : s.size ≤ 40000) : ∀ (R : List Int), (∀ b ∈ R, 0 ≤ b ∧ b < 256) → ∀ (i : Nat) (acc : List Int), 2 * i + 2 * R.length = s.size → acc.length + R.length ≤ 20000 → (bytesOf s).drop (2 * i) = hexL R →
    Ev (fun k => impl_Unhex.l0 k s acc ((2 * i : Nat) : Int)) (strOfNums (acc ++ R), true)
  | [], _, i, acc, hi, ha, hd => by
    refine ev_st ?_
    have hn : ¬ (((2 * i : Nat) : Int) < (s.size : Int)) := by simp at hi; omega
    simp only [impl_Unhex.l0, hn, ↓reduceIte, List.append_nil]
    exact Ev.now _
  | b :: R, hb, i, acc, hi, ha, hd => by
    have k := hb b (List.mem_cons_self ..)
    simp only [List.length_cons] at hi ha
    rw [drop_bt s (2 * i) (by omega), hexL, drop_bt s (2 * i + 1) (by omega)] at hd
    injection hd with hd1 hd
    injection hd with hd2 hd3
    have h1 : ((2 * i : Nat) : Int) < (s.size : Int) := by omega
    have h2 : (0 : Int) ≤ ((2 * i : Nat) : Int) := by omega
    have e1 : wrap64 (((2 * i : Nat) : Int) + 1) = ((2 * i + 1 : Nat) : Int) := by rw [w64 (by omega) (by omega)]; omega
    have e2 : wrap64 (((2 * i : Nat) : Int) + 2) = ((2 * (i + 1) : Nat) : Int) := by rw [w64 (by omega) (by omega)]; omega
    have h3 : ((2 * i + 1 : Nat) : Int) < (s.size : Int) := by omega
    have h4 : (0 : Int) ≤ ((2 * i + 1 : Nat) : Int) := by omega
    have h5 : acc.length < 140737488355328 := by omega
    have b1 := bt_range s ((2 * i : Nat) : Int)
    have b2 := bt_range s ((2 * i + 1 : Nat) : Int)
    have v1 : val (bt s ((2 * i : Nat) : Int)) = b / 16 := by rw [hd1, val_hx _ (by omega) (by omega)]
    have v2 : val (bt s ((2 * i + 1 : Nat) : Int)) = b % 16 := by rw [hd2, val_hx _ (by omega) (by omega)]
    have n1 : ¬ (b / 16 < 0) := by omega
    have n2 : ¬ (b % 16 < 0) := by omega
    have v3 : (wrap64 ((wrap64 (16 * (b / 16))) + b % 16)) % 256 = b := by rw [w64 (n := 16 * (b / 16)) (by omega) (by omega), w64 (by omega) (by omega)]; omega
    have g := unhex_back s hs R (fun c hc => hb c (List.mem_cons_of_mem _ hc)) (i + 1) (acc ++ [b]) (by omega) (by simp; omega) (by rw [show 2 * (i + 1) = 2 * i + 1 + 1 from by omega]; exact hd3)
    rw [List.append_assoc, List.singleton_append] at g
    refine ev_st ?_
    simp only [impl_Unhex.l0, h1, h2, ↓reduceIte, e1, h3, h4, impl_val _ b1.1 b1.2, impl_val _ b2.1 b2.2, Option.bind_some, v1, v2, n1, n2, h5, v3, e2]
    exact g
theorem hex_back (t : ByteArray) (ht : t.size ≤ 300) : Ev (fun k => impl_Unhex.f k (strOfNums (hexL (bytesOf t)))) (t, true) := by
  have hr := hexL_range (bytesOf t) (bytesOf_range t)
  have hz : (strOfNums (hexL (bytesOf t))).size = 2 * t.size := by rw [strOfNums_size, hexL_len, bytesOf_length]
  simp only [impl_Unhex.f, show (((strOfNums (hexL (bytesOf t))).size : Int) % 2) = 0 from by omega, ↓reduceIte, show decide (((strOfNums (hexL (bytesOf t))).size : Int) > 40000) = false from decide_eq_false (by omega)]
  refine ev_st ?_
  simp only [impl_Unhex.j0, Bool.false_eq_true, ↓reduceIte]
  have g := unhex_back (strOfNums (hexL (bytesOf t))) (by omega) (bytesOf t) (bytesOf_range t) 0 [] (by rw [bytesOf_length]; omega) (by rw [bytesOf_length]; simp; omega) (by rw [Nat.mul_zero, List.drop_zero, bytesOf_str hr])
  rw [List.nil_append, str_bytesOf] at g
  exact g
theorem rd_itoa (u : Nat) (hu : u ≤ 1000000000) : Rd.rdOf (Dec.itoaB (u : Int)) = ((u : Int), true) ∧ (Dec.itoaB (u : Int)).size ≤ 10 := by
  have hd : (Dec.itoaB (u : Int)).data.toList = Lib.decDigits u := by rw [Rd.data_itoa, Rd.itoa_nat]
  have hl := Rd.dec_len 9 u (by omega)
  refine ⟨?_, ?_⟩
  · unfold Rd.rdOf
    rw [hd, Rd.atoi_dec u hu]
    unfold Rd.implRd
    exact if_pos ⟨⟨by omega, by omega⟩, rfl⟩
  · have : (Dec.itoaB (u : Int)).data.toList.length = (Dec.itoaB (u : Int)).size := data_length _
    rw [hd] at this
    omega
/-! what is drawn -/
theorem l01Number_is (l : List Int) (i s : Int) (hl : l.length ≤ 1048576) (hi : 0 ≤ i) : ∃ x j t, spec_l01Number.f l i s = some (x, j, t) ∧ 0 ≤ j := by
  obtain ⟨b, j, t, h1, h2, h3, h4⟩ := l01Below_is l i s 4 hl hi
  unfold spec_l01Number.f
  rw [h1]
  simp only [Option.bind_some]
  by_cases b0 : b = 0
  · obtain ⟨x, j2, t2, g1, g2, g3⟩ := l01PickInt_is l j t [(-1), 0, 127, 128, 16383, 16384, 1000000000, 1000000001, 9223372036854775807, (-9223372036854775808)] hl h4 (by simp)
    rw [if_pos b0, g1]
    exact ⟨_, _, _, rfl, g3⟩
  · rw [if_neg b0]
    by_cases b1 : b = 1
    · obtain ⟨x, j2, t2, g1, g2, g3, g4⟩ := l01Below_is l j t 1000000000 hl h4
      rw [if_pos b1, g1]
      exact ⟨_, _, _, rfl, g4⟩
    · obtain ⟨x, j2, t2, g1, g2, g3, g4⟩ := l01Below_is l j t 400 hl h4
      rw [if_neg b1, g1]
      exact ⟨_, _, _, rfl, g4⟩
theorem DrawVarText_ev (l : List Int) (hl : l.length ≤ 1048576) : ∃ x, Ev (fun k => spec_DrawVarText.f k l) x := by
  obtain ⟨y, q⟩ := l01New_ev l hl
  obtain ⟨x, j, t, e, _⟩ := l01Number_is l 0 y hl (by omega)
  refine ⟨x, ?_⟩
  simp only [spec_DrawVarText.f]
  refine Ev.bind q ?_
  simp only [e, Option.bind_some]
  exact Ev.now _
theorem DrawHex_ev (l : List Int) (hl : l.length ≤ 1048576) : ∃ t, Ev (fun k => spec_DrawHex.f k l) t := by
  obtain ⟨y, q⟩ := l01New_ev l hl
  obtain ⟨b, j, t, h1, h2, h3, h4⟩ := l01Below_is l 0 y 60 hl (by omega)
  by_cases b0 : b = 0
  · obtain ⟨c, j2, t2, g1, g2, g3, g4⟩ := l01Below_is l j t 2 hl h4
    have hc := g3 (by omega)
    obtain ⟨r, n1, n2⟩ := l01Long_ev (20000 + c).toNat (by omega) 200
    rw [show (((20000 + c).toNat : Nat) : Int) = 20000 + c from by omega] at n1
    refine ⟨r, ?_⟩
    have e : wrap64 (20000 + c) = 20000 + c := w64 (by omega) (by omega)
    simp only [spec_DrawHex.f]
    refine Ev.bind q ?_
    simp only [spec_l01Once.f, h1, Option.bind_some, b0, beq_self_eq_true, ↓reduceIte, g1, e]
    exact Ev.bind n1 (Ev.now _)
  · obtain ⟨c, j2, t2, g1, g2, g3, g4⟩ := l01Below_is l j t 30 hl h4
    have hc := g3 (by omega)
    obtain ⟨r, j3, t3, n1, n2, n3⟩ := l01Text_ev l hl j2 t2 g4 c.toNat (by omega)
    rw [show ((c.toNat : Nat) : Int) = c from by omega] at n1
    refine ⟨r, ?_⟩
    have e : (b == 0) = false := beq_eq_false_iff_ne.mpr b0
    simp only [spec_DrawHex.f]
    refine Ev.bind q ?_
    simp only [spec_l01Once.f, h1, Option.bind_some, e, Bool.false_eq_true, ↓reduceIte, g1]
    exact Ev.bind n1 (Ev.now _)

theorem j2_ev (n : Nat) (hn : n ≤ 1000000000) (t : ByteArray) (ht : t.size ≤ 300) :
    Ev (fun k => laws_FnNumbers.j2 k (n : Int) (varS (n : Int)) true (n : Int) (1 + ((vt n).length : Int)) true (n : Int) true t) true := by
  refine ev_st ?_
  simp only [laws_FnNumbers.j2]
  have k1 := impl_ShortText_ev t
  have e1 : shortOf t = (varS (t.size : Int) ++ t, true) := by unfold shortOf; rw [if_neg (by omega)]
  rw [e1] at k1
  refine Ev.bind k1 ?_
  have hz : (varS (t.size : Int) ++ t).size ≤ 400 := by
    rw [ByteArray.size_append]
    have := varS_size (t.size : Int) (by omega) (by omega)
    omega
  have k2 := impl_ReadShort_ev (varS (t.size : Int) ++ t) (by omega) 0 (by omega) (by omega)
  rw [short_back t ht] at k2
  refine Ev.bind k2 ?_
  have k3 := impl_Hex_ev t
  have e3 : hexOf t = (strOfNums (hexL (bytesOf t)), true) := by unfold hexOf; rw [if_neg (by omega)]
  rw [e3] at k3
  refine Ev.bind k3 (Ev.bind (hex_back t ht) ?_)
  have e4 : wrap64 (((varS (n : Int)).size : Int) + 1) = 1 + ((vt n).length : Int) := by
    rw [varS_len]
    have := vt_len5 n hn
    rw [w64 (by omega) (by omega)]
    omega
  simp only [↓reduceIte, e4, beq_self_eq_true]
  exact Ev.now _
theorem j1_ev (c : List Int) (hc : c.length ≤ 1048576) (n : Nat) (hn : n ≤ 1000000000) : Ev (fun k => laws_FnNumbers.j1 k c (n : Int)) true := by
  refine ev_st ?_
  simp only [laws_FnNumbers.j1]
  have k1 := impl_VarText_ev (n : Int)
  have e1 : varTextOf (n : Int) = (varS (n : Int), true) := by unfold varTextOf; rw [if_pos ⟨by omega, by omega⟩]
  rw [e1] at k1
  refine Ev.bind k1 ?_
  have hv := varS_size (n : Int) (by omega) (by omega)
  have hl := varS_len n
  have z1 : (⟨#[120]⟩ : ByteArray).size = 1 := rfl
  have z2 : (⟨#[121]⟩ : ByteArray).size = 1 := rfl
  have hz : ((⟨#[120]⟩ : ByteArray) ++ varS (n : Int)).size = 1 + (varS (n : Int)).size := by rw [ByteArray.size_append, z1]
  have c1 : 1 + (varS (n : Int)).size ≤ 9223372036854775807 := by omega
  have c2 : ((⟨#[120]⟩ : ByteArray) ++ varS (n : Int)).size + 1 ≤ 9223372036854775807 := by omega
  simp only [c1, c2, ↓reduceIte]
  have hz2 : (((⟨#[120]⟩ : ByteArray) ++ varS (n : Int)) ++ (⟨#[121]⟩ : ByteArray)).size = 2 + (varS (n : Int)).size := by rw [ByteArray.size_append, hz, z2]; omega
  have k2 := impl_ReadVar_ev (((⟨#[120]⟩ : ByteArray) ++ varS (n : Int)) ++ (⟨#[121]⟩ : ByteArray)) (by omega) 1 (by omega) (by omega)
  have e2 := read_vt n hn (((⟨#[120]⟩ : ByteArray) ++ varS (n : Int)) ++ (⟨#[121]⟩ : ByteArray)) 1 [121] (by omega) (by
    have b1 : bytesOf (⟨#[120]⟩ : ByteArray) = [120] := rfl
    have b2 : bytesOf (⟨#[121]⟩ : ByteArray) = [121] := rfl
    rw [bytesOf_append, bytesOf_append, b1, b2, varS_bytes]
    rfl)
  rw [show ((1 : Nat) : Int) = 1 from rfl] at e2
  rw [e2] at k2
  refine Ev.bind k2 ?_
  obtain ⟨r1, r2⟩ := rd_itoa n hn
  have d1 : impl_Decimal.f (n : Int) = some (Dec.itoaB (n : Int)) := by unfold impl_Decimal.f; rw [if_pos ⟨by omega, by omega⟩]
  have d2 : impl_ReadDecimal.f (Dec.itoaB (n : Int)) = some ((n : Int), true) := by unfold impl_ReadDecimal.f; rw [if_pos (by omega), r1]
  simp only [d1, d2, Option.bind_some]
  obtain ⟨t, q⟩ := DrawHex_ev c hc
  refine Ev.bind q ?_
  by_cases ht : (t.size : Int) > 300
  · simp only [ht, ↓reduceIte]
    exact j2_ev n hn (⟨#[97, 98, 99]⟩ : ByteArray) (by decide)
  · simp only [ht, ↓reduceIte]
    exact j2_ev n hn t (by omega)
theorem FnNumbers : laws_FnNumbers.Pure := by
  intro c _ _ _
  refine Ev.rounds ?_
  simp only [laws_FnNumbers.f, laws_big.f, Option.bind_some]
  by_cases hb : (c.length : Int) > 1048576
  · simp only [hb, decide_true, ↓reduceIte]; exact Ev.now _
  · simp only [hb, decide_false, Bool.false_eq_true, ↓reduceIte]
    obtain ⟨x, q⟩ := DrawVarText_ev c (by omega)
    refine Ev.bind q ?_
    by_cases h0 : x < 0
    · simp only [h0, ↓reduceIte]
      refine ev_st ?_
      simp only [laws_FnNumbers.j0, ↓reduceIte]
      exact j1_ev c (by omega) 12345 (by omega)
    · simp only [h0, ↓reduceIte]
      refine ev_st ?_
      by_cases h1 : x > 1000000000
      · simp only [laws_FnNumbers.j0, h1, decide_true, ↓reduceIte]
        exact j1_ev c (by omega) 12345 (by omega)
      · simp only [laws_FnNumbers.j0, h1, decide_false, Bool.false_eq_true, ↓reduceIte]
        have := j1_ev c (by omega) x.toNat (by omega)
        rw [show ((x.toNat : Nat) : Int) = x from by omega] at this
        exact this

end Go.Proofs.YtbiapgneafgdeaaDoor.Pure
