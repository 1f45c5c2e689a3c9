/- What is proved here: the law FnExactPlainOf, told as a plain function over numbers and lists, answers true at all arguments. Conditions: those of the row alone, none of ours. -/
import Derived.Test.YtekeaciflbkhpaaGFnExactPlainOf
import Derived.Test.YtekeaciflbkhpaaKit
namespace Go.Proofs.Ytekeaciflbkhpaa.Pure
open Go.RowKit Go.Proofs.Ytekeaciflbkhpaa.QFnExactPlainOf Go.Proofs.Ytekeaciflbkhpaa.GFnExactPlainOf Go.Proofs.YtekeaciflbkhpaaW.PrintWords Go.Proofs.YtekeaciflbkhpaaW.PrintLast Go.Proofs.Ytekeaciflbkhpaa.Kit Go.Proofs.YtekeaciflbkhpaaW.PrintMore
set_option linter.unusedSimpArgs false
set_option linter.unusedVariables false

theorem rd_MT (xs : List S102) (i : Nat) (h : i < xs.length) : rd_T102 xs (i : Int) = xs[i] := by
  unfold rd_T102; rw [Int.toNat_natCast, List.getD_eq_getElem?_getD, List.getElem?_eq_getElem h]; rfl

/-! tokens: read, measured, copied -/
theorem rd_LT (xs : List S101) (i : Nat) (h : i < xs.length) : rd_T101 xs (i : Int) = xs[i] := by
  unfold rd_T101; rw [Int.toNat_natCast, List.getD_eq_getElem?_getD, List.getElem?_eq_getElem h]; rfl
theorem tdrop_at {α : Type} (xs : List α) (i : Nat) (h : i < xs.length) : xs.drop i = xs[i] :: xs.drop (i + 1) := List.drop_eq_getElem_cons h
theorem twsucc (i n : Nat) (h : i < n) (hn : n ≤ 9223372036854775807) : wrap64 ((i : Int) + 1) = ((i + 1 : Nat) : Int) := by rw [w64 (by omega) (by omega)]; omega
theorem szToken_eq (a c : Int) (b : ByteArray) (left : Int) (hb : b.size ≤ 9223372036854775807) (h0 : 0 ≤ left) (h1 : left ≤ 1048576) :
    laws_szToken.f a c b left = some (if left - (b.size : Int) < 0 then -1 else left - (b.size : Int)) := by
  unfold laws_szToken.f
  rw [w64 (by omega) (by omega)]
  split <;> rfl
theorem szTokenS_l0 (l : List S101) (hl : l.length ≤ 9223372036854775807) (hs : ∀ x ∈ l, x.f2.size ≤ 9223372036854775807) : ∀ (d i : Nat), i + d = l.length → ∀ left : Int, 0 ≤ left → left ≤ 1048576 →
    ∃ r : Int, Ev (fun k => laws_szTokenS.l0 k l left (i : Int)) r ∧ r ≤ left ∧ (0 ≤ r → ∀ x ∈ l.drop i, (x.f2.size : Int) ≤ left) := by
  intro d
  induction d with
  | zero =>
    intro i hi left h0 h1
    obtain rfl : i = l.length := by omega
    refine ⟨left, ev_st ?_, Int.le_refl _, fun _ => by rw [List.drop_length]; simp⟩
    simp only [laws_szTokenS.l0, show ¬ ((l.length : Int) < (l.length : Int)) from by omega, ↓reduceIte]
    exact Ev.now _
  | succ d ih =>
    intro i hi left h0 h1
    have hlt : i < l.length := by omega
    have hx := hs l[i] (List.getElem_mem hlt)
    have e := szToken_eq l[i].f0 l[i].f1 l[i].f2 left hx h0 h1
    by_cases hneg : left - (l[i].f2.size : Int) < 0
    · refine ⟨-1, ev_st ?_, by omega, fun h => by omega⟩
      simp only [laws_szTokenS.l0, show (i : Int) < (l.length : Int) from by omega, show (0 : Int) ≤ (i : Int) from by omega, ↓reduceIte, rd_LT l i hlt, e, hneg, Option.bind_some, show (-1 : Int) < 0 from by omega]
      exact Ev.now _
    · obtain ⟨r, hr, hle, hall⟩ := ih (i + 1) (by omega) (left - (l[i].f2.size : Int)) (by omega) (by omega)
      refine ⟨r, ev_st ?_, by omega, fun h => ?_⟩
      · simp only [laws_szTokenS.l0, show (i : Int) < (l.length : Int) from by omega, show (0 : Int) ≤ (i : Int) from by omega, ↓reduceIte, rd_LT l i hlt, e, hneg, Option.bind_some, twsucc i l.length hlt hl]
        exact hr
      · rw [tdrop_at l i hlt]
        intro x hx
        rcases List.mem_cons.1 hx with rfl | hx
        · omega
        · have := hall h x hx; omega
theorem szTokenS_ev (l : List S101) (hl : l.length ≤ 9223372036854775807) (hs : ∀ x ∈ l, x.f2.size ≤ 9223372036854775807) (left : Int) (h0 : 0 ≤ left) (h1 : left ≤ 1048576) :
    ∃ r : Int, Ev (fun k => laws_szTokenS.f k l left) r ∧ r ≤ left ∧ (0 ≤ r → (l.length : Int) ≤ left ∧ ∀ x ∈ l, (x.f2.size : Int) ≤ left) := by
  have e : wrap64 (left - (l.length : Int)) = left - (l.length : Int) := w64 (by omega) (by omega)
  by_cases hneg : left - (l.length : Int) < 0
  · refine ⟨-1, ?_, by omega, fun h => by omega⟩
    simp only [laws_szTokenS.f, e, hneg, ↓reduceIte]
    exact Ev.now _
  · obtain ⟨r, hr, hle, hall⟩ := szTokenS_l0 l hl hs l.length 0 (by omega) (left - (l.length : Int)) (by omega) (by omega)
    refine ⟨r, ?_, by omega, fun h => ⟨by omega, fun x hx => by have := hall h x (by simpa using hx); omega⟩⟩
    simp only [laws_szTokenS.f, e, hneg, ↓reduceIte]
    exact hr
def toT (x : S101) : S102 := ⟨x.f0, x.f1, x.f2⟩
theorem tset_mid {α : Type} (p r : List α) (z v : α) (i : Nat) (h : p.length = i) : (p ++ z :: r).set i v = (p ++ [v]) ++ r := by
  subst h
  simp
theorem toTokenS_l0 (l : List S101) (hl : l.length ≤ 1048576) : ∀ (d i : Nat), i + d = l.length →
    Ev (fun k => laws_toTokenS.l0 k l ((l.take i).map toT ++ List.replicate d z102) (i : Int)) (l.map toT) := by
  intro d
  induction d with
  | zero =>
    intro i hi
    obtain rfl : i = l.length := by omega
    refine ev_st ?_
    simp only [laws_toTokenS.l0, show ¬ ((l.length : Int) < (l.length : Int)) from by omega, ↓reduceIte, List.take_length, List.replicate_zero, List.append_nil]
    exact Ev.now _
  | succ d ih =>
    intro i hi
    have hlt : i < l.length := by omega
    have hlen : ((l.take i).map toT ++ List.replicate (d + 1) z102).length = l.length := by simp; omega
    have hset : ((l.take i).map toT ++ List.replicate (d + 1) z102).set i (⟨l[i].f0, l[i].f1, l[i].f2⟩ : S102) = (l.take (i + 1)).map toT ++ List.replicate d z102 := by
      rw [List.replicate_succ, tset_mid _ _ _ _ _ (by simp; omega), List.take_succ_eq_append_getElem hlt, List.map_append]
      rfl
    refine ev_st ?_
    simp only [laws_toTokenS.l0, show (i : Int) < (l.length : Int) from by omega, show (0 : Int) ≤ (i : Int) from by omega, ↓reduceIte, rd_LT l i hlt, laws_toToken.f, Option.bind_some, hlen, Int.toNat_natCast, hset, twsucc i l.length hlt (by omega)]
    exact ih (i + 1) (by omega)
theorem toTokenS_ev (l : List S101) (hl : l.length ≤ 1048576) : Ev (fun k => laws_toTokenS.f k l) (l.map toT) := by
  have h := toTokenS_l0 l hl l.length 0 (by omega)
  simp only [laws_toTokenS.f, show (0 : Int) ≤ (l.length : Int) from by omega, Int.toNat_natCast, ↓reduceIte]
  split
  · exact h
  · omega

theorem drop_len' {α : Type} (xs : List α) : xs.drop xs.length = [] := List.drop_eq_nil_of_le (Nat.le_refl _)
theorem eqTokenS_l0 (l : List S102) (hl : l.length ≤ 1048576) : ∀ (d i : Nat), i + d = l.length → Ev (fun k => laws_eqTokenS.l0 k l l (i : Int)) true := by
  intro d
  induction d with
  | zero =>
    intro i hi
    obtain rfl : i = l.length := by omega
    refine ev_st ?_
    simp only [laws_eqTokenS.l0, show ¬ ((l.length : Int) < (l.length : Int)) from by omega, ↓reduceIte]
    exact Ev.now _
  | succ d ih =>
    intro i hi
    have hlt : i < l.length := by omega
    have e4 : wrap64 ((i : Int) + 1) = ((i + 1 : Nat) : Int) := by rw [w64 (by omega) (by omega)]; omega
    refine ev_st ?_
    simp only [laws_eqTokenS.l0, show (i : Int) < (l.length : Int) from by omega, show (0 : Int) ≤ (i : Int) from by omega, ↓reduceIte, laws_eqToken.f, Option.bind_some, e4]
    exact ih (i + 1) (by omega)
theorem eqTokenS_ev (l : List S102) (hl : l.length ≤ 1048576) : Ev (fun k => laws_eqTokenS.f k l l) true := by
  simp only [laws_eqTokenS.f, ↓reduceIte]
  exact eqTokenS_l0 l hl l.length 0 (by omega)

theorem spec_l01In_eq (a b c : Int) : spec_l01In.f a b c = some (decide (b ≤ a ∧ a ≤ c)) := by
  unfold spec_l01In.f
  by_cases h : b ≤ a <;> simp [h, GE.ge]

theorem impl_in_eq (a b c : Int) : impl_in.f a b c = some (decide (b ≤ a ∧ a ≤ c)) := by
  unfold impl_in.f
  by_cases h : b ≤ a <;> simp [h, GE.ge]

/-! what tokens tell -/
def copyM (back : Int) : Nat → List Int → List Int
  | 0, acc => acc
  | n + 1, acc => copyM back n (acc ++ [rd acc ((acc.length : Int) - back)])
theorem copyM_len (back : Int) : ∀ (n : Nat) (acc : List Int), (copyM back n acc).length = acc.length + n
  | 0, _ => rfl
  | n + 1, acc => by rw [copyM, copyM_len back n, List.length_append, List.length_singleton]; omega
def plainM : List S102 → List Int → ByteArray × Bool
  | [], acc => (strOfNums acc, true)
  | t :: l, acc =>
    if t.f0 = 0 then (if (1 ≤ (t.f2.size : Int) ∧ (t.f2.size : Int) ≤ 31) ∧ t.f1 = 0 then (if ((acc ++ bytesOf t.f2).length : Int) > 64 then ((⟨#[]⟩ : ByteArray), false) else plainM l (acc ++ bytesOf t.f2)) else ((⟨#[]⟩ : ByteArray), false))
    else (if ((1 ≤ t.f0 ∧ t.f0 ≤ (acc.length : Int)) ∧ (1 ≤ t.f1 ∧ t.f1 ≤ 31)) ∧ t.f2.toList = [] then (if ((copyM t.f0 t.f1.toNat acc).length : Int) > 64 then ((⟨#[]⟩ : ByteArray), false) else plainM l (copyM t.f0 t.f1.toNat acc)) else ((⟨#[]⟩ : ByteArray), false))
theorem back_facts (a : Nat) (b : Int) (h1 : 1 ≤ b) (h2 : b ≤ (a : Int)) (ha : a ≤ 1000) : wrap64 ((a : Int) - b) = (a : Int) - b ∧ 0 ≤ (a : Int) - b ∧ (a : Int) - b < (a : Int) ∧ a < 140737488355328 := by
  refine ⟨w64 (by omega) (by omega), by omega, by omega, by omega⟩
theorem step_facts (j s : Int) (n : Nat) (h : j + ((n + 1 : Nat) : Int) = s) (h0 : 0 ≤ j) (hs : s ≤ 31) : j < s ∧ wrap64 (j + 1) = j + 1 ∧ j + 1 + (n : Int) = s := by
  refine ⟨by omega, w64 (by omega) (by omega), by omega⟩
theorem lit_facts (a z : Nat) (ha : a ≤ 64) (hz : z ≤ 31) : z < 140737488355328 ∧ a + z < 140737488355328 := by omega
theorem long_facts (n : Nat) (h : ¬ ((n : Int) > 64)) : n ≤ 64 := by omega
theorem toNat_facts (s : Int) (h : 1 ≤ s) : (0 : Int) + (s.toNat : Int) = s := by omega
theorem pidx_facts (i n d : Nat) (h : i + (d + 1) = n) (hn : n ≤ 1048576) : (i : Int) < (n : Int) ∧ (0 : Int) ≤ (i : Int) ∧ wrap64 ((i : Int) + 1) = ((i + 1 : Nat) : Int) ∧ i + 1 + d = n ∧ i < n := by
  refine ⟨by omega, by omega, ?_, by omega, by omega⟩
  rw [w64 (by omega) (by omega)]; omega

theorem spec_PlainOf_l1 (l : List S102) (x5 : Int) (f0 f1 : Int) (f2 : ByteArray) (hb : 1 ≤ f0) (hs : f1 ≤ 31) (r : ByteArray × Bool) : ∀ (n : Nat) (j : Int) (acc : List Int), 0 ≤ j → j + (n : Int) = f1 → f0 ≤ (acc.length : Int) → acc.length + n ≤ 1000 →
    Ev (fun k => if ((copyM f0 n acc).length : Int) > 64 then some ((⟨#[]⟩ : ByteArray), false) else spec_PlainOf.l0 k l (copyM f0 n acc) (wrap64 (x5 + 1))) r →
    Ev (fun k => spec_PlainOf.l1 k l acc x5 j f0 f1 f2) r := by
  intro n
  induction n with
  | zero =>
    intro j acc h0 hj _ _ h
    refine ev_st ?_
    simp only [spec_PlainOf.l1, show ¬ (j < f1) from by omega, ↓reduceIte]
    exact h
  | succ n ih =>
    intro j acc h0 hj hb2 ha h
    obtain ⟨f3, e1, f4⟩ := step_facts j f1 n hj h0 hs
    obtain ⟨e2, f5, f6, f7⟩ := back_facts acc.length f0 hb hb2 (by omega)
    refine ev_st ?_
    simp only [spec_PlainOf.l1, f3, ↓reduceIte, e2, f5, f6, f7, e1]
    exact ih (j + 1) _ (by omega) f4 (by rw [List.length_append, List.length_singleton]; omega) (by rw [List.length_append, List.length_singleton]; omega) h
theorem spec_PlainOf_l0 (l : List S102) (hl : l.length ≤ 1048576) : ∀ (d i : Nat), i + d = l.length → ∀ acc : List Int, acc.length ≤ 64 → Ev (fun k => spec_PlainOf.l0 k l acc (i : Int)) (plainM (l.drop i) acc) := by
  intro d
  induction d with
  | zero =>
    intro i hi acc _
    obtain rfl : i = l.length := by omega
    refine ev_st ?_
    simp only [spec_PlainOf.l0, Int.lt_irrefl, ↓reduceIte, List.drop_length, plainM]
    exact Ev.now _
  | succ d ih =>
    intro i hi acc ha
    obtain ⟨f1, f2, f3, f4, f5⟩ := pidx_facts i l.length d hi hl
    have hg := rd_MT l i f5
    rw [List.drop_eq_getElem_cons f5, plainM]
    refine ev_st ?_
    simp only [spec_PlainOf.l0, f1, f2, ↓reduceIte, hg, spec_l01In_eq, Option.bind_some]
    generalize l[i] = t
    by_cases h0 : t.f0 = 0
    · simp only [h0, ↓reduceIte]
      by_cases h1 : 1 ≤ (t.f2.size : Int) ∧ (t.f2.size : Int) ≤ 31
      · simp only [h1, and_self, decide_true, ↓reduceIte, true_and]
        refine ev_st ?_
        simp only [spec_PlainOf.j1, bne_iff_ne, ne_eq]
        by_cases h2 : t.f1 = 0
        · obtain ⟨g1, g2⟩ := lit_facts acc.length t.f2.size ha (by omega)
          simp only [h2, not_true_eq_false, ↓reduceIte, g1, g2, bytesOf_length, Option.bind_some, f3]
          by_cases h3 : ((acc ++ bytesOf t.f2).length : Int) > 64
          · simp only [h3, ↓reduceIte]; exact Ev.now _
          · simp only [h3, ↓reduceIte]; exact ih (i + 1) f4 _ (long_facts _ h3)
        · simp only [h2, not_false_eq_true, ↓reduceIte]; exact Ev.now _
      · simp only [h1, decide_false, Bool.false_eq_true, ↓reduceIte, false_and]
        refine ev_st ?_
        simp only [spec_PlainOf.j1, ↓reduceIte]
        exact Ev.now _
    · simp only [h0, ↓reduceIte]
      by_cases h1 : 1 ≤ t.f0 ∧ t.f0 ≤ (acc.length : Int)
      · by_cases h2 : 1 ≤ t.f1 ∧ t.f1 ≤ 31
        · simp only [h1, h2, and_self, decide_true, ↓reduceIte, true_and]
          refine ev_st ?_
          simp only [spec_PlainOf.j2, bne_iff_ne, ne_eq]
          by_cases h3 : t.f2.toList = []
          · simp only [h3, not_true_eq_false, ↓reduceIte]
            refine spec_PlainOf_l1 l (i : Int) t.f0 t.f1 t.f2 h1.1 h2.2 _ t.f1.toNat 0 acc (by omega) (toNat_facts _ h2.1) h1.2 (by omega) ?_
            simp only [f3]
            by_cases h4 : ((copyM t.f0 t.f1.toNat acc).length : Int) > 64
            · simp only [h4, ↓reduceIte]; exact Ev.now _
            · simp only [h4, ↓reduceIte]; exact ih (i + 1) f4 _ (long_facts _ h4)
          · simp only [h3, not_false_eq_true, ↓reduceIte]; exact Ev.now _
        · simp only [h1, h2, and_self, and_false, false_and, decide_true, decide_false, Bool.false_eq_true, ↓reduceIte]
          refine ev_st ?_
          simp only [spec_PlainOf.j2, ↓reduceIte]
          exact Ev.now _
      · simp only [h1, false_and, decide_false, Bool.false_eq_true, ↓reduceIte]
        refine ev_st ?_
        simp only [spec_PlainOf.j2, ↓reduceIte]
        exact Ev.now _
theorem spec_PlainOf_ev (l : List S102) (hl : l.length ≤ 1048576) : Ev (fun k => spec_PlainOf.f k l) (plainM l []) := by
  have := spec_PlainOf_l0 l hl l.length 0 (by omega) [] (by simp)
  simpa [spec_PlainOf.f] using this

theorem impl_PlainOf_l1 (l : List S102) (z x5 : Int) (f0 f1 : Int) (f2 : ByteArray) (hb : 1 ≤ f0) (hs : f1 ≤ 31) (r : ByteArray × Bool) : ∀ (n : Nat) (j : Int) (acc : List Int), 0 ≤ j → j + (n : Int) = f1 → f0 ≤ (acc.length : Int) → acc.length + n ≤ 1000 →
    Ev (fun k => if ((copyM f0 n acc).length : Int) > 64 then some ((⟨#[]⟩ : ByteArray), false) else impl_PlainOf.l0 k (copyM f0 n acc) l z (wrap64 (x5 + 1))) r →
    Ev (fun k => impl_PlainOf.l1 k acc l z x5 f1 j f0 f1 f2) r := by
  intro n
  induction n with
  | zero =>
    intro j acc h0 hj _ _ h
    refine ev_st ?_
    simp only [impl_PlainOf.l1, show ¬ (j < f1) from by omega, ↓reduceIte]
    exact h
  | succ n ih =>
    intro j acc h0 hj hb2 ha h
    obtain ⟨f3, e1, f4⟩ := step_facts j f1 n hj h0 hs
    obtain ⟨e2, f5, f6, f7⟩ := back_facts acc.length f0 hb hb2 (by omega)
    refine ev_st ?_
    simp only [impl_PlainOf.l1, f3, ↓reduceIte, e2, f5, f6, f7, e1]
    exact ih (j + 1) _ (by omega) f4 (by rw [List.length_append, List.length_singleton]; omega) (by rw [List.length_append, List.length_singleton]; omega) h
theorem impl_PlainOf_l0 (l : List S102) (hl : l.length ≤ 1048576) : ∀ (d i : Nat), i + d = l.length → ∀ acc : List Int, acc.length ≤ 64 → Ev (fun k => impl_PlainOf.l0 k acc l (l.length : Int) (i : Int)) (plainM (l.drop i) acc) := by
  intro d
  induction d with
  | zero =>
    intro i hi acc _
    obtain rfl : i = l.length := by omega
    refine ev_st ?_
    simp only [impl_PlainOf.l0, Int.lt_irrefl, ↓reduceIte, List.drop_length, plainM]
    exact Ev.now _
  | succ d ih =>
    intro i hi acc ha
    obtain ⟨f1, f2, f3, f4, f5⟩ := pidx_facts i l.length d hi hl
    have hg := rd_MT l i f5
    rw [List.drop_eq_getElem_cons f5, plainM]
    refine ev_st ?_
    simp only [impl_PlainOf.l0, f1, f2, ↓reduceIte, hg, impl_in_eq, Option.bind_some]
    generalize l[i] = t
    by_cases h0 : t.f0 = 0
    · simp only [h0, ↓reduceIte]
      by_cases h2 : t.f1 = 0
      · simp only [h2, ↓reduceIte, and_true]
        refine ev_st ?_
        simp only [impl_PlainOf.j1, Bool.not_eq_true', decide_eq_false_iff_not]
        by_cases h1 : 1 ≤ (t.f2.size : Int) ∧ (t.f2.size : Int) ≤ 31
        · obtain ⟨g1, g2⟩ := lit_facts acc.length t.f2.size ha (by omega)
          simp only [h1, and_self, not_true_eq_false, ↓reduceIte, g1, g2, bytesOf_length, Option.bind_some, f3]
          by_cases h3 : ((acc ++ bytesOf t.f2).length : Int) > 64
          · simp only [h3, ↓reduceIte]; exact Ev.now _
          · simp only [h3, ↓reduceIte]; exact ih (i + 1) f4 _ (long_facts _ h3)
        · simp only [h1, not_false_eq_true, ↓reduceIte]; exact Ev.now _
      · simp only [h2, and_false, ↓reduceIte]
        refine ev_st ?_
        simp only [impl_PlainOf.j1, ↓reduceIte]
        exact Ev.now _
    · simp only [h0, ↓reduceIte]
      by_cases h1 : 1 ≤ t.f0 ∧ t.f0 ≤ (acc.length : Int)
      · by_cases h2 : 1 ≤ t.f1 ∧ t.f1 ≤ 31
        · simp only [h1, h2, and_self, decide_true, ↓reduceIte, true_and]
          refine ev_st ?_
          simp only [impl_PlainOf.j2, bne_iff_ne, ne_eq]
          by_cases h3 : t.f2.toList = []
          · simp only [h3, not_true_eq_false, ↓reduceIte]
            refine impl_PlainOf_l1 l _ (i : Int) t.f0 t.f1 t.f2 h1.1 h2.2 _ t.f1.toNat 0 acc (by omega) (toNat_facts _ h2.1) h1.2 (by omega) ?_
            simp only [f3]
            by_cases h4 : ((copyM t.f0 t.f1.toNat acc).length : Int) > 64
            · simp only [h4, ↓reduceIte]; exact Ev.now _
            · simp only [h4, ↓reduceIte]; exact ih (i + 1) f4 _ (long_facts _ h4)
          · simp only [h3, not_false_eq_true, ↓reduceIte]; exact Ev.now _
        · simp only [h1, h2, and_self, and_false, false_and, decide_true, decide_false, Bool.false_eq_true, ↓reduceIte]
          refine ev_st ?_
          simp only [impl_PlainOf.j2, ↓reduceIte]
          exact Ev.now _
      · simp only [h1, false_and, decide_false, Bool.false_eq_true, ↓reduceIte]
        refine ev_st ?_
        simp only [impl_PlainOf.j2, ↓reduceIte]
        exact Ev.now _
theorem impl_PlainOf_ev (l : List S102) (hl : l.length ≤ 1048576) : Ev (fun k => impl_PlainOf.f k l) (plainM l []) := by
  have := impl_PlainOf_l0 l hl l.length 0 (by omega) [] (by simp)
  simpa [impl_PlainOf.f] using this

theorem FnExactPlainOf : Plain := by
  intro l hl
  refine Ev.rounds ?_
  simp only [laws_FnExactPlainOf.f]
  obtain ⟨r, hr, _, hall⟩ := szTokenS_ev l hl.1 (fun x hx => (hl.2 x hx).2.2) 1048576 (by omega) (by omega)
  refine Ev.bind hr ?_
  by_cases hn : r < 0
  · simp only [hn, ↓reduceIte]; exact Ev.now _
  · obtain ⟨h1, _⟩ := hall (by omega)
    have h2 : (l.map toT).length ≤ 1048576 := by rw [List.length_map]; omega
    have h3 : l.length ≤ 1048576 := by omega
    simp only [hn, ↓reduceIte]
    refine Ev.bind (toTokenS_ev l h3) (Ev.bind (spec_PlainOf_ev _ h2) (Ev.bind (toTokenS_ev l h3) (Ev.bind (impl_PlainOf_ev _ h2) ?_)))
    simp only [↓reduceIte, bne_self_eq_false]
    refine ev_st ?_
    simp only [laws_FnExactPlainOf.j0, Bool.false_eq_true, ↓reduceIte]
    refine Ev.bind (toTokenS_ev l h3) (Ev.bind (eqTokenS_ev _ h2) ?_)
    simp only [↓reduceIte]
    exact Ev.now _

end Go.Proofs.Ytekeaciflbkhpaa.Pure
