/- What is proved here: the law FnExactFlashNew, told as a plain function over numbers and lists, answers true at all arguments. Conditions: those of the row alone, none of ours. -/
import Derived.Test.YtekeaciflbkhpaaGFnExactFlashNew
import Derived.Test.YtekeaciflbkhpaaKit
namespace Go.Proofs.Ytekeaciflbkhpaa.Pure
open Go.RowKit Go.Proofs.Ytekeaciflbkhpaa.QFnExactFlashNew Go.Proofs.Ytekeaciflbkhpaa.GFnExactFlashNew Go.Proofs.YtekeaciflbkhpaaW.PrintWords Go.Proofs.YtekeaciflbkhpaaW.PrintLast Go.Proofs.Ytekeaciflbkhpaa.Kit Go.Proofs.YtekeaciflbkhpaaW.PrintMore
set_option linter.unusedSimpArgs false
set_option linter.unusedVariables false

theorem spec_l01In_eq (a b c : Int) : spec_l01In.f a b c = some (decide (b ≤ a ∧ a ≤ c)) := by
  unfold spec_l01In.f
  by_cases h : b ≤ a <;> simp [h, GE.ge]

theorem impl_in_eq (a b c : Int) : impl_in.f a b c = some (decide (b ≤ a ∧ a ≤ c)) := by
  unfold impl_in.f
  by_cases h : b ≤ a <;> simp [h, GE.ge]

theorem rd_ML (xs : List S96) (i : Nat) (h : i < xs.length) : rd_T96 xs (i : Int) = xs[i] := by
  unfold rd_T96; rw [Int.toNat_natCast, List.getD_eq_getElem?_getD, List.getElem?_eq_getElem h]; rfl
theorem drop_at {α : Type} (xs : List α) (i : Nat) (h : i < xs.length) : xs.drop i = xs[i] :: xs.drop (i + 1) := List.drop_eq_getElem_cons h
theorem drop_len {α : Type} (xs : List α) : xs.drop xs.length = [] := List.drop_eq_nil_of_le (Nat.le_refl _)
theorem wsucc (i n : Nat) (h : i < n) (hn : n ≤ 9223372036854775807) : wrap64 ((i : Int) + 1) = ((i + 1 : Nat) : Int) := by rw [w64 (by omega) (by omega)]; omega
theorem eqLeafS_l0 (l : List S96) (hl : l.length ≤ 1048576) : ∀ (d i : Nat), i + d = l.length → Ev (fun k => laws_eqLeafS.l0 k l l (i : Int)) true := by
  intro d
  induction d with
  | zero =>
    intro i hi
    obtain rfl : i = l.length := by omega
    refine ev_st ?_
    simp only [laws_eqLeafS.l0, show ¬ ((l.length : Int) < (l.length : Int)) from by omega, ↓reduceIte]
    exact Ev.now _
  | succ d ih =>
    intro i hi
    have hlt : i < l.length := by omega
    refine ev_st ?_
    simp only [laws_eqLeafS.l0, show (i : Int) < (l.length : Int) from by omega, show (0 : Int) ≤ (i : Int) from by omega, ↓reduceIte, laws_eqLeaf.f, Option.bind_some, wsucc i l.length hlt (by omega)]
    exact ih (i + 1) (by omega)
theorem eqLeafS_ev (l : List S96) (hl : l.length ≤ 1048576) : Ev (fun k => laws_eqLeafS.f k l l) true := by
  simp only [laws_eqLeafS.f, ↓reduceIte]
  exact eqLeafS_l0 l hl l.length 0 (by omega)
theorem eqBlock_ev (a : Bool) (b : Int) (l : List S96) (hl : l.length ≤ 1048576) : Ev (fun k => laws_eqBlock.f k a b l a b l) true := by
  simp only [laws_eqBlock.f, bne_self_eq_false, Bool.false_eq_true, ↓reduceIte]
  refine Ev.bind (eqLeafS_ev l hl) ?_
  simp only [↓reduceIte]
  exact Ev.now _

theorem rd_MB (xs : List S45) (i : Nat) (h : i < xs.length) : rd_T45 xs (i : Int) = xs[i] := by
  unfold rd_T45; rw [Int.toNat_natCast, List.getD_eq_getElem?_getD, List.getElem?_eq_getElem h]; rfl
def SmallM (l : List S45) : Prop := l.length ≤ 1048576 ∧ ∀ b ∈ l, b.f2.length ≤ 1048576 ∧ ∀ x ∈ b.f2, x.f1.size ≤ 1048576
theorem eqBlockS_l0 (l : List S45) (hf : SmallM l) : ∀ (d i : Nat), i + d = l.length → Ev (fun k => laws_eqBlockS.l0 k l l (i : Int)) true := by
  obtain ⟨hl, hs⟩ := hf
  intro d
  induction d with
  | zero =>
    intro i hi
    obtain rfl : i = l.length := by omega
    refine ev_st ?_
    simp only [laws_eqBlockS.l0, show ¬ ((l.length : Int) < (l.length : Int)) from by omega, ↓reduceIte]
    exact Ev.now _
  | succ d ih =>
    intro i hi
    have hlt : i < l.length := by omega
    refine ev_st ?_
    simp only [laws_eqBlockS.l0, show (i : Int) < (l.length : Int) from by omega, show (0 : Int) ≤ (i : Int) from by omega, ↓reduceIte, rd_MB l i hlt, wsucc i l.length hlt (by omega)]
    refine Ev.bind (eqBlock_ev _ _ _ (hs l[i] (List.getElem_mem hlt)).1) ?_
    simp only [↓reduceIte]
    exact ih (i + 1) (by omega)
theorem eqFlash_ev (l : List S45) (hf : SmallM l) : Ev (fun k => laws_eqFlash.f k l l) true := by
  refine Ev.bind (a := true) ?_ ?_
  · simp only [laws_eqBlockS.f, ↓reduceIte]
    exact eqBlockS_l0 l hf l.length 0 (by omega)
  · simp only [↓reduceIte]
    exact Ev.now _

/-! the marks -/
def mt (n : Nat) (acc : ByteArray) : ByteArray := if 0 < n then mt (n / 10) (strOfNums [((48 + n % 10 : Nat) : Int)] ++ acc) else (⟨#[109]⟩ : ByteArray) ++ acc
termination_by n
decreasing_by omega
def markOf (k : Int) : ByteArray := if k ≤ 0 then (⟨#[109, 48]⟩ : ByteArray) else mt k.toNat (⟨#[]⟩ : ByteArray)
theorem markText_l0 (n : Nat) : n ≤ 10000000000000 → ∀ acc : ByteArray, acc.size + n ≤ 10000000000001 → Ev (fun k => laws_markText.l0 k (n : Int) acc) (mt n acc) := by
  induction n using Nat.strongRecOn with
  | _ n ih =>
    intro hn acc ha
    refine ev_st ?_
    rw [mt]
    by_cases h : 0 < n
    · have e1 : wrap64 (Int.tdiv (n : Int) 10) = ((n / 10 : Nat) : Int) := by rw [Int.tdiv_eq_ediv_of_nonneg (by omega), w64 (by omega) (by omega)]; omega
      have e2 : wrap64 (48 + Int.tmod (n : Int) 10) % 256 = ((48 + n % 10 : Nat) : Int) := by rw [Int.tmod_eq_emod_of_nonneg (by omega), w64 (by omega) (by omega)]; omega
      have z : (strOfNums [((48 + n % 10 : Nat) : Int)]).size = 1 := by rw [strOfNums_size]; rfl
      simp only [laws_markText.l0, show (n : Int) > 0 from by omega, h, ↓reduceIte, e1, e2, Option.bind_some, show (strOfNums [((48 + n % 10 : Nat) : Int)]).size + acc.size ≤ 9223372036854775807 from by omega]
      exact ih (n / 10) (by omega) (by omega) _ (by rw [ByteArray.size_append]; omega)
    · simp only [laws_markText.l0, show ¬ ((n : Int) > 0) from by omega, h, ↓reduceIte, show 1 + acc.size ≤ 9223372036854775807 from by omega]
      exact Ev.now _
theorem markText_ev (n : Int) (h : n ≤ 10000000000000) : Ev (fun k => laws_markText.f k n) (markOf n) := by
  simp only [laws_markText.f]
  unfold markOf
  by_cases h0 : n ≤ 0
  · simp only [h0, ↓reduceIte]; exact Ev.now _
  · simp only [h0, ↓reduceIte]
    obtain ⟨m, rfl⟩ := Int.eq_ofNat_of_zero_le (show 0 ≤ n by omega)
    exact markText_l0 m (by omega) _ (by show 0 + m ≤ _; omega)

/-! a flash is marked, and holds its marks -/
def mL : List S96 → Int → List S96
  | [], _ => []
  | _ :: t, k => ⟨k, markOf (k + 1)⟩ :: mL t (k + 2)
theorem mL_len : ∀ (l : List S96) (k : Int), (mL l k).length = l.length
  | [], _ => rfl
  | _ :: t, k => by simp [mL, mL_len t (k + 2)]
theorem rd_setL (l : List S96) (i : Nat) (h : i < l.length) (v : S96) : rd_T96 (l.set i v) (i : Int) = v := by
  rw [rd_ML _ i (by rw [List.length_set]; exact h), List.getElem_set_self]
theorem markLeafS_l0 : ∀ (d i : Nat) (l : List S96), i + d = l.length → l.length ≤ 1048576 → ∀ k0 : Int, 0 ≤ k0 → k0 + 2 * d ≤ 9000000000000 →
    Ev (fun k => laws_markLeafS.l0 k l k0 (i : Int)) (k0 + 2 * d, l.take i ++ mL (l.drop i) k0) := by
  intro d
  induction d with
  | zero =>
    intro i l hi hl k0 h0 h1
    obtain rfl : i = l.length := by omega
    refine ev_st ?_
    simp only [laws_markLeafS.l0, show ¬ ((l.length : Int) < (l.length : Int)) from by omega, ↓reduceIte, List.take_length, drop_len, mL, List.append_nil]
    rw [show k0 + 2 * ((0 : Nat) : Int) = k0 from by omega]
    exact Ev.now _
  | succ d ih =>
    intro i l hi hl k0 h0 h1
    have hlt : i < l.length := by omega
    have e1 : wrap64 (k0 + 1) = k0 + 1 := w64 (by omega) (by omega)
    have e2 : wrap64 (k0 + 1 + 1) = k0 + 2 := by rw [w64 (by omega) (by omega)]; omega
    have e4 : wrap64 ((i : Int) + 1) = ((i + 1 : Nat) : Int) := by rw [w64 (by omega) (by omega)]; omega
    refine ev_st ?_
    simp only [laws_markLeafS.l0, show (i : Int) < (l.length : Int) from by omega, show (0 : Int) ≤ (i : Int) from by omega, ↓reduceIte, Option.bind_some, Int.toNat_natCast, e1, e2, e4, List.set_set, rd_setL l i hlt]
    refine Ev.bind (markText_ev (k0 + 1) (by omega)) ?_
    have g := ih (i + 1) (l.set i ⟨k0, markOf (k0 + 1)⟩) (by rw [List.length_set]; omega) (by rw [List.length_set]; exact hl) (k0 + 2) (by omega) (by omega)
    have q1 : (l.set i ⟨k0, markOf (k0 + 1)⟩).take (i + 1) = l.take i ++ [⟨k0, markOf (k0 + 1)⟩] := by
      rw [List.take_succ_eq_append_getElem (by rw [List.length_set]; exact hlt), List.getElem_set_self, List.take_set_of_le (Nat.le_refl _)]
    have q2 : (l.set i ⟨k0, markOf (k0 + 1)⟩).drop (i + 1) = l.drop (i + 1) := by rw [List.drop_set_of_lt (by omega)]
    rw [q1, q2] at g
    rw [List.drop_eq_getElem_cons hlt, mL]
    rw [List.append_assoc] at g
    rw [show k0 + 2 * ((d + 1 : Nat) : Int) = k0 + 2 + 2 * (d : Int) from by omega]
    exact g
theorem markLeafS_ev (l : List S96) (hl : l.length ≤ 1048576) (k0 : Int) (h0 : 0 ≤ k0) (h1 : k0 ≤ 8000000000000) : Ev (fun k => laws_markLeafS.f k l k0) (k0 + 2 * (l.length : Int), mL l k0) :=
  markLeafS_l0 l.length 0 l (by omega) hl k0 h0 (by omega)
theorem heldLeafS_l0 (l : List S96) (hl : l.length ≤ 1048576) : ∀ (d i : Nat), i + d = l.length → ∀ (m : List S96) (k0 : Int), l.drop i = mL m k0 → 0 ≤ k0 → k0 + 2 * d ≤ 9000000000000 →
    Ev (fun k => laws_heldLeafS.l0 k l k0 (i : Int)) (k0 + 2 * d) := by
  intro d
  induction d with
  | zero =>
    intro i hi m k0 hm h0 h1
    obtain rfl : i = l.length := by omega
    refine ev_st ?_
    simp only [laws_heldLeafS.l0, show ¬ ((l.length : Int) < (l.length : Int)) from by omega, ↓reduceIte]
    rw [show k0 + 2 * ((0 : Nat) : Int) = k0 from by omega]
    exact Ev.now _
  | succ d ih =>
    intro i hi m k0 hm h0 h1
    have hlt : i < l.length := by omega
    have e1 : wrap64 (k0 + 1) = k0 + 1 := w64 (by omega) (by omega)
    have e2 : wrap64 (k0 + 1 + 1) = k0 + 2 := by rw [w64 (by omega) (by omega)]; omega
    have e4 : wrap64 ((i : Int) + 1) = ((i + 1 : Nat) : Int) := by rw [w64 (by omega) (by omega)]; omega
    rw [List.drop_eq_getElem_cons hlt] at hm
    cases m with
    | nil => simp [mL] at hm; omega
    | cons x t =>
      rw [mL, List.cons.injEq] at hm
      refine ev_st ?_
      simp only [laws_heldLeafS.l0, show (i : Int) < (l.length : Int) from by omega, show (0 : Int) ≤ (i : Int) from by omega, ↓reduceIte, e1, e2, e4, rd_ML l i hlt, hm.1]
      refine Ev.bind (markText_ev (k0 + 1) (by omega)) ?_
      simp only [↓reduceIte]
      rw [show k0 + 2 * ((d + 1 : Nat) : Int) = k0 + 2 + 2 * (d : Int) from by omega]
      exact ih (i + 1) (by omega) t (k0 + 2) hm.2 (by omega) (by omega)
theorem heldLeafS_ev (l : List S96) (hl : l.length ≤ 1048576) (k0 : Int) (h0 : 0 ≤ k0) (h1 : k0 ≤ 8000000000000) : Ev (fun k => laws_heldLeafS.f k (mL l k0) k0) (k0 + 2 * (l.length : Int)) := by
  have g := heldLeafS_l0 (mL l k0) (by rw [mL_len]; exact hl) (mL l k0).length 0 (by omega) l k0 rfl h0 (by rw [mL_len]; omega)
  rw [mL_len] at g
  exact g
def mB : List S45 → Int → List S45
  | [], _ => []
  | b :: t, k => ⟨decide (Int.tmod k 3 = 0), k + 1, mL b.f2 (k + 2)⟩ :: mB t (k + 2 + 2 * (b.f2.length : Int))
def kB : List S45 → Int → Int
  | [], k => k
  | b :: t, k => kB t (k + 2 + 2 * (b.f2.length : Int))
theorem mB_len : ∀ (l : List S45) (k : Int), (mB l k).length = l.length
  | [], _ => rfl
  | b :: t, k => by simp [mB, mB_len t]
theorem kB_ge : ∀ (l : List S45) (k : Int), k ≤ kB l k
  | [], _ => Int.le_refl _
  | b :: t, k => by
    have := kB_ge t (k + 2 + 2 * (b.f2.length : Int))
    simp only [kB]
    omega
def Few (l : List S45) : Prop := ∀ b ∈ l, b.f2.length ≤ 1048576
theorem markBlockS_l0_ : ∀ (d i : Nat) (l : List S45), i + d = l.length → l.length ≤ 1048576 → Few (l.drop i) → ∀ k0 : Int, 0 ≤ k0 → k0 + 2097154 * d ≤ 7000000000000 →
    Ev (fun k => laws_markBlockS.l0 k l k0 (i : Int)) (kB (l.drop i) k0, l.take i ++ mB (l.drop i) k0) := by
  intro d
  induction d with
  | zero =>
    intro i l hi hl _ k0 h0 h1
    obtain rfl : i = l.length := by omega
    refine ev_st ?_
    simp only [laws_markBlockS.l0, show ¬ ((l.length : Int) < (l.length : Int)) from by omega, ↓reduceIte, List.take_length, drop_len, mB, kB, List.append_nil]
    exact Ev.now _
  | succ d ih =>
    intro i l hi hl hf k0 h0 h1
    have hlt : i < l.length := by omega
    have e1 : wrap64 (k0 + 1) = k0 + 1 := w64 (by omega) (by omega)
    have e2 : wrap64 (k0 + 1 + 1) = k0 + 2 := by rw [w64 (by omega) (by omega)]; omega
    have e4 : wrap64 ((i : Int) + 1) = ((i + 1 : Nat) : Int) := by rw [w64 (by omega) (by omega)]; omega
    rw [List.drop_eq_getElem_cons hlt] at hf ⊢
    have hb : l[i].f2.length ≤ 1048576 := hf _ (List.mem_cons_self ..)
    refine ev_st ?_
    simp only [laws_markBlockS.l0, show (i : Int) < (l.length : Int) from by omega, show (0 : Int) ≤ (i : Int) from by omega, ↓reduceIte, Int.toNat_natCast, e1, e2, e4, rd_MB l i hlt]
    refine Ev.bind (markLeafS_ev l[i].f2 hb (k0 + 2) (by omega) (by omega)) ?_
    have g := ih (i + 1) (l.set i ⟨decide (Int.tmod k0 3 = 0), k0 + 1, mL l[i].f2 (k0 + 2)⟩) (by rw [List.length_set]; omega) (by rw [List.length_set]; exact hl) (by rw [List.drop_set_of_lt (by omega)]; exact fun b hb => hf b (List.mem_cons_of_mem _ hb)) (k0 + 2 + 2 * (l[i].f2.length : Int)) (by omega) (by omega)
    have q1 : (l.set i (⟨decide (Int.tmod k0 3 = 0), k0 + 1, mL l[i].f2 (k0 + 2)⟩ : S45)).take (i + 1) = l.take i ++ [⟨decide (Int.tmod k0 3 = 0), k0 + 1, mL l[i].f2 (k0 + 2)⟩] := by
      rw [List.take_succ_eq_append_getElem (by rw [List.length_set]; exact hlt), List.getElem_set_self, List.take_set_of_le (Nat.le_refl _)]
    have q2 : (l.set i (⟨decide (Int.tmod k0 3 = 0), k0 + 1, mL l[i].f2 (k0 + 2)⟩ : S45)).drop (i + 1) = l.drop (i + 1) := by rw [List.drop_set_of_lt (by omega)]
    rw [q1, q2, List.append_assoc] at g
    simp only [mB, kB]
    exact g
theorem markFlash_ev (l : List S45) (hl : l.length ≤ 1048576) (hf : Few l) : Ev (fun k => laws_markFlash.f k l 1) (kB l 1, mB l 1) :=
  markBlockS_l0_ l.length 0 l (by omega) hl (by rw [List.drop_zero]; exact hf) 1 (by omega) (by omega)
theorem heldBlockS_l0 (l : List S45) (hl : l.length ≤ 1048576) : ∀ (d i : Nat), i + d = l.length → ∀ (m : List S45) (k0 : Int), l.drop i = mB m k0 → Few m → 0 ≤ k0 → k0 + 2097154 * d ≤ 7000000000000 →
    Ev (fun k => laws_heldBlockS.l0 k l k0 (i : Int)) (kB m k0) := by
  intro d
  induction d with
  | zero =>
    intro i hi m k0 hm _ h0 h1
    obtain rfl : i = l.length := by omega
    rw [drop_len] at hm
    cases m with
    | cons x t => simp [mB] at hm
    | nil =>
      refine ev_st ?_
      simp only [laws_heldBlockS.l0, show ¬ ((l.length : Int) < (l.length : Int)) from by omega, ↓reduceIte, kB]
      exact Ev.now _
  | succ d ih =>
    intro i hi m k0 hm hf h0 h1
    have hlt : i < l.length := by omega
    have e1 : wrap64 (k0 + 1) = k0 + 1 := w64 (by omega) (by omega)
    have e2 : wrap64 (k0 + 1 + 1) = k0 + 2 := by rw [w64 (by omega) (by omega)]; omega
    have e4 : wrap64 ((i : Int) + 1) = ((i + 1 : Nat) : Int) := by rw [w64 (by omega) (by omega)]; omega
    rw [List.drop_eq_getElem_cons hlt] at hm
    cases m with
    | nil => simp [mB] at hm; omega
    | cons x t =>
      rw [mB, List.cons.injEq] at hm
      have hx : x.f2.length ≤ 1048576 := hf x (List.mem_cons_self ..)
      have eb : (decide (Int.tmod k0 3 = 0) != (Int.tmod k0 3 == 0)) = false := by
        rw [show (Int.tmod k0 3 == 0) = decide (Int.tmod k0 3 = 0) from rfl]
        exact bne_self_eq_false _
      refine ev_st ?_
      simp only [laws_heldBlockS.l0, show (i : Int) < (l.length : Int) from by omega, show (0 : Int) ≤ (i : Int) from by omega, ↓reduceIte, e1, e2, e4, rd_MB l i hlt, hm.1, eb, Bool.false_eq_true]
      refine Ev.bind (heldLeafS_ev x.f2 hx (k0 + 2) (by omega) (by omega)) ?_
      simp only [show ¬ (k0 + 2 + 2 * (x.f2.length : Int) < 0) from by omega, ↓reduceIte, kB]
      exact ih (i + 1) (by omega) t (k0 + 2 + 2 * (x.f2.length : Int)) hm.2 (fun b hb => hf b (List.mem_cons_of_mem _ hb)) (by omega) (by omega)
theorem heldFlash_ev (l : List S45) (hl : l.length ≤ 1048576) (hf : Few l) : Ev (fun k => laws_heldFlash.f k (mB l 1) 1) (kB l 1) := by
  have g := heldBlockS_l0 (mB l 1) (by rw [mB_len]; exact hl) (mB l 1).length 0 (by omega) l 1 rfl hf (by omega) (by rw [mB_len]; omega)
  simp only [laws_heldFlash.f, laws_heldBlockS.f]
  refine Ev.bind g ?_
  have := kB_ge l 1
  simp only [show ¬ (kB l 1 < 0) from by omega, ↓reduceIte]
  exact Ev.now _

def blankB : S45 := ⟨false, 0, [⟨0, (⟨#[]⟩ : ByteArray)⟩, ⟨0, (⟨#[]⟩ : ByteArray)⟩, ⟨0, (⟨#[]⟩ : ByteArray)⟩, ⟨0, (⟨#[]⟩ : ByteArray)⟩]⟩
theorem new_both (n : Int) : ∃ x : List S45 × Bool, Ev (fun k => spec_FlashNew.f k n) x ∧ Ev (fun k => impl_FlashNew.f k n) x ∧ SmallM x.1 := by
  have sm : ∀ m : Nat, m ≤ 10 → SmallM (List.replicate m blankB) := fun m hm =>
    ⟨by rw [List.length_replicate]; omega, fun b hb => by
      rw [List.eq_of_mem_replicate hb]
      refine ⟨by decide, fun y hy => ?_⟩
      simp only [blankB, List.mem_cons, List.not_mem_nil, or_false, or_self] at hy
      rw [hy]
      decide⟩
  by_cases h : 3 ≤ n ∧ n ≤ 10
  · have hn : n = 3 ∨ n = 4 ∨ n = 5 ∨ n = 6 ∨ n = 7 ∨ n = 8 ∨ n = 9 ∨ n = 10 := by omega
    have key : ∀ m : Nat, m ≤ 10 → spec_FlashNew.f 60 (m : Int) = some (List.replicate m blankB, true) → impl_FlashNew.f 60 (m : Int) = some (List.replicate m blankB, true) → ∃ x : List S45 × Bool, Ev (fun k => spec_FlashNew.f k (m : Int)) x ∧ Ev (fun k => impl_FlashNew.f k (m : Int)) x ∧ SmallM x.1 :=
      fun m hm e1 e2 => ⟨(List.replicate m blankB, true), Ev.of (spec_FlashNew.mono (m : Int)) e1, Ev.of (impl_FlashNew.mono (m : Int)) e2, sm m hm⟩
    rcases hn with rfl | rfl | rfl | rfl | rfl | rfl | rfl | rfl
    · exact key 3 (by omega) (by kernel_rfl) (by kernel_rfl)
    · exact key 4 (by omega) (by kernel_rfl) (by kernel_rfl)
    · exact key 5 (by omega) (by kernel_rfl) (by kernel_rfl)
    · exact key 6 (by omega) (by kernel_rfl) (by kernel_rfl)
    · exact key 7 (by omega) (by kernel_rfl) (by kernel_rfl)
    · exact key 8 (by omega) (by kernel_rfl) (by kernel_rfl)
    · exact key 9 (by omega) (by kernel_rfl) (by kernel_rfl)
    · exact key 10 (by omega) (by kernel_rfl) (by kernel_rfl)
  · refine ⟨([], false), ?_, ?_, ⟨by decide, fun b hb => by cases hb⟩⟩
    · simp only [spec_FlashNew.f, spec_l01In_eq, Option.bind_some, decide_eq_true_eq, if_neg h]
      exact Ev.now _
    · simp only [impl_FlashNew.f, impl_in_eq, Option.bind_some, decide_eq_true_eq, if_neg h]
      exact Ev.now _
theorem FnExactFlashNew : Plain := by
  intro n _
  refine Ev.rounds ?_
  simp only [laws_FnExactFlashNew.f]
  obtain ⟨⟨g, ok⟩, e1, e2, hg⟩ := new_both n
  dsimp only at hg
  refine Ev.bind e1 (Ev.bind e2 (Ev.bind (eqFlash_ev _ hg) (Ev.bind (markFlash_ev _ hg.1 (fun b hb => (hg.2 b hb).1)) (Ev.bind (heldFlash_ev _ hg.1 (fun b hb => (hg.2 b hb).1)) ?_))))
  have k2 : 1 ≤ kB (g, ok).1 1 := kB_ge g 1
  rw [if_pos ⟨rfl, rfl, by omega, rfl⟩]
  exact Ev.now _

end Go.Proofs.Ytekeaciflbkhpaa.Pure
