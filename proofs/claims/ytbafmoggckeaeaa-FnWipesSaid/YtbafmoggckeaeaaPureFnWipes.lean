/- What is proved here: the law FnWipes, told as a plain function over numbers and lists, answers true at all arguments. Conditions: those of the row alone, none of ours. -/
import Derived.Test.YtbafmoggckeaeaaQFnWipesx11
import Derived.Test.YtbafmoggckeaeaaKit
namespace Go.Proofs.Ytbafmoggckeaeaa.Pure
open Go.RowKit Go.Proofs.Ytbafmoggckeaeaa.QFnWipes Go.Proofs.YtbafmoggckeaeaaW.PrintWords Go.Proofs.YtbafmoggckeaeaaW.PrintLast Go.Proofs.Ytbafmoggckeaeaa.Kit Go.Proofs.YtbafmoggckeaeaaW.PrintMore
set_option linter.unusedSimpArgs false
set_option linter.unusedVariables false

theorem spec_l01In_eq (a b c : Int) : spec_l01In.f a b c = some (decide (b ≤ a ∧ a ≤ c)) := by
  unfold spec_l01In.f
  by_cases h : b ≤ a <;> simp [h, GE.ge]

theorem impl_in_eq (a b c : Int) : impl_in.f a b c = some (decide (b ≤ a ∧ a ≤ c)) := by
  unfold impl_in.f
  by_cases h : b ≤ a <;> simp [h, GE.ge]

theorem rd_ML (xs : List S63) (i : Nat) (h : i < xs.length) : rd_T63 xs (i : Int) = xs[i] := by
  unfold rd_T63; rw [Int.toNat_natCast, List.getD_eq_getElem?_getD, List.getElem?_eq_getElem h]; rfl
theorem drop_at {α : Type} (xs : List α) (i : Nat) (h : i < xs.length) : xs.drop i = xs[i] :: xs.drop (i + 1) := List.drop_eq_getElem_cons h
theorem drop_len {α : Type} (xs : List α) : xs.drop xs.length = [] := List.drop_eq_nil_of_le (Nat.le_refl _)
theorem wsucc (i n : Nat) (h : i < n) (hn : n ≤ 9223372036854775807) : wrap64 ((i : Int) + 1) = ((i + 1 : Nat) : Int) := by rw [w64 (by omega) (by omega)]; omega
theorem rd_MB (xs : List S39) (i : Nat) (h : i < xs.length) : rd_T39 xs (i : Int) = xs[i] := by
  unfold rd_T39; rw [Int.toNat_natCast, List.getD_eq_getElem?_getD, List.getElem?_eq_getElem h]; rfl
def SmallM (l : List S39) : Prop := l.length ≤ 1048576 ∧ ∀ b ∈ l, b.f2.length ≤ 1048576 ∧ ∀ x ∈ b.f2, x.f1.size ≤ 1048576

theorem rd_mem (l : List S39) (b : Int) (h : 0 ≤ b ∧ b < (l.length : Int)) : rd_T39 l b ∈ l := by
  obtain ⟨i, rfl⟩ := Int.eq_ofNat_of_zero_le h.1
  rw [rd_MB l i (by omega)]
  exact List.getElem_mem _
theorem small_set {l : List S39} (h : SmallM l) (i : Nat) (x : S39) (hx : x.f2.length ≤ 1048576 ∧ ∀ y ∈ x.f2, y.f1.size ≤ 1048576) : SmallM (l.set i x) :=
  ⟨by rw [List.length_set]; exact h.1, fun b hb => by
    rcases List.mem_or_eq_of_mem_set hb with k | rfl
    · exact h.2 b k
    · exact hx⟩

def nb : List S63 → Nat → Int
  | [], _ => 4
  | x :: t, i => if x.f0 = 0 then (i : Int) else nb t (i + 1)
theorem spec_NextBlank_l0 (a : Bool) (b : Int) (l : List S63) (hl : l.length ≤ 1048576) : ∀ (d i : Nat), i + d = l.length → Ev (fun k => spec_NextBlank.l0 k (i : Int) a b l) (nb (l.drop i) i) := by
  intro d
  induction d with
  | zero =>
    intro i hi
    obtain rfl : i = l.length := by omega
    refine ev_st ?_
    simp only [spec_NextBlank.l0, show ¬ ((l.length : Int) < (l.length : Int)) from by omega, ↓reduceIte, drop_len, nb]
    exact Ev.now _
  | succ d ih =>
    intro i hi
    have hlt : i < l.length := by omega
    refine ev_st ?_
    simp only [spec_NextBlank.l0, show (i : Int) < (l.length : Int) from by omega, show (0 : Int) ≤ (i : Int) from by omega, ↓reduceIte, rd_ML l i hlt, wsucc i l.length hlt (by omega)]
    rw [drop_at l i hlt, nb]
    by_cases h : l[i].f0 = 0
    · simp only [h, ↓reduceIte]; exact Ev.now _
    · simp only [h, ↓reduceIte]; exact ih (i + 1) (by omega)
theorem spec_NextBlank_ev (a : Bool) (b : Int) (l : List S63) (hl : l.length ≤ 1048576) : Ev (fun k => spec_NextBlank.f k a b l) (nb l 0) := spec_NextBlank_l0 a b l hl l.length 0 (by omega)
theorem impl_NextBlank_l0 (l : List S63) (hl : l.length ≤ 1048576) : ∀ (d i : Nat), i + d = l.length → Ev (fun k => impl_NextBlank.l0 k l (l.length : Int) (i : Int)) (nb (l.drop i) i) := by
  intro d
  induction d with
  | zero =>
    intro i hi
    obtain rfl : i = l.length := by omega
    refine ev_st ?_
    simp only [impl_NextBlank.l0, show ¬ ((l.length : Int) < (l.length : Int)) from by omega, ↓reduceIte, drop_len, nb]
    exact Ev.now _
  | succ d ih =>
    intro i hi
    have hlt : i < l.length := by omega
    refine ev_st ?_
    simp only [impl_NextBlank.l0, show (i : Int) < (l.length : Int) from by omega, show (0 : Int) ≤ (i : Int) from by omega, ↓reduceIte, rd_ML l i hlt, wsucc i l.length hlt (by omega)]
    rw [drop_at l i hlt, nb]
    by_cases h : l[i].f0 = 0
    · simp only [h, ↓reduceIte]; exact Ev.now _
    · simp only [h, ↓reduceIte]; exact ih (i + 1) (by omega)
theorem impl_NextBlank_ev (a : Bool) (b : Int) (l : List S63) (hl : l.length ≤ 1048576) : Ev (fun k => impl_NextBlank.f k a b l) (nb l 0) := impl_NextBlank_l0 l hl l.length 0 (by omega)

/-! a flash is right -/
def leafOkB (x : S63) : Bool := if x.f0 = 0 then (x.f1.toList == ([] : List UInt8)) else if x.f0 = 1 then decide (1 ≤ (x.f1.size : Int) ∧ (x.f1.size : Int) ≤ 120) else if x.f0 = 2 then decide ((x.f1.size : Int) ≤ 120) else false
def lvs : Bool → List S63 → Bool
  | _, [] => true
  | pb, x :: t => if leafOkB x = true then (if pb = true ∧ ¬ x.f0 = 0 then false else lvs (decide (x.f0 = 0)) t) else false
def blkOk (b : S39) : Bool := decide ((b.f2.length : Int) = 4 ∧ (0 ≤ b.f1 ∧ b.f1 ≤ 1000000000)) && lvs false b.f2
def flashOk (l : List S39) : Bool := l.all blkOk && decide (3 ≤ (l.length : Int) ∧ (l.length : Int) ≤ 10)
/-- Is there a leaf ahead of place j, and is it blank? -/
def before (l : List S63) (j : Nat) : Bool := decide (0 < j ∧ (rd_T63 l ((j - 1 : Nat) : Int)).f0 = 0)
theorem before_succ (l : List S63) (j : Nat) (h : j < l.length) : before l (j + 1) = decide (l[j].f0 = 0) := by
  unfold before
  rw [Nat.add_sub_cancel, rd_ML l j h]
  simp

theorem spec_l05Leaf_eq (x : S63) : spec_l05Leaf.f x.f0 x.f1 = some (leafOkB x) := by
  unfold spec_l05Leaf.f leafOkB
  simp only [spec_l01In_eq, Option.bind_some]
  split
  · rfl
  · split
    · rfl
    · split <;> rfl
theorem spec_FlashOk_l1 (l : List S39) (i : Nat) (hi : i < l.length) (hl : l.length ≤ 1048576) (a : Bool) (b : Int) (v : List S63) (hv : v.length ≤ 1048576) (r : Bool) : ∀ (d j : Nat), j + d = v.length →
    (lvs (before v j) (v.drop j) = true → Ev (fun k => spec_FlashOk.l0 k ((i + 1 : Nat) : Int) l) r) → (lvs (before v j) (v.drop j) = false → r = false) → Ev (fun k => spec_FlashOk.l1 k (i : Int) (j : Int) l a b v) r := by
  intro d
  induction d with
  | zero =>
    intro j hj h1 _
    obtain rfl : j = v.length := by omega
    rw [drop_len] at h1
    refine ev_st ?_
    simp only [spec_FlashOk.l1, show ¬ ((v.length : Int) < (v.length : Int)) from by omega, ↓reduceIte, wsucc i l.length hi (by omega)]
    exact h1 rfl
  | succ d ih =>
    intro j hj h1 h2
    have hlt : j < v.length := by omega
    have f1 : (j : Int) < (v.length : Int) := by omega
    have f2 : (0 : Int) ≤ (j : Int) := by omega
    have f3 := wsucc j v.length hlt (by omega)
    have f4 : j + 1 + d = v.length := by omega
    have fp : 0 < j → (j : Int) > 0 ∧ wrap64 ((j : Int) - 1) = ((j - 1 : Nat) : Int) ∧ (0 : Int) ≤ ((j - 1 : Nat) : Int) ∧ ((j - 1 : Nat) : Int) < (v.length : Int) := by
      intro h
      refine ⟨by omega, ?_, by omega, by omega⟩
      rw [w64 (by omega) (by omega)]; omega
    have fn : ¬ 0 < j → ¬ ((j : Int) > 0) := by omega
    rw [drop_at v j hlt, lvs] at h1 h2
    have g := ih (j + 1) f4
    rw [before_succ v j hlt] at g
    refine ev_st ?_
    simp only [spec_FlashOk.l1, f1, f2, ↓reduceIte, rd_ML v j hlt, spec_l05Leaf_eq, Option.bind_some, f3]
    by_cases hL : leafOkB v[j] = true
    · simp only [hL, ↓reduceIte] at h1 h2 ⊢
      by_cases hp : 0 < j
      · obtain ⟨p1, p2, p3, p4⟩ := fp hp
        simp only [p1, p2, p3, p4, ↓reduceIte]
        by_cases hz : (rd_T63 v ((j - 1 : Nat) : Int)).f0 = 0
        · have hb : before v j = true := by unfold before; rw [decide_eq_true_eq]; exact ⟨hp, hz⟩
          by_cases hx : v[j].f0 = 0
          · simp only [hb, hx, not_true_eq_false, and_false, ↓reduceIte, hz] at h1 h2 g ⊢
            exact g h1 h2
          · simp only [hb, hx, not_false_eq_true, and_self, ↓reduceIte, hz] at h1 h2 ⊢
            rw [h2 trivial]
            exact Ev.now _
        · have hb : before v j = false := by unfold before; rw [decide_eq_false_iff_not]; exact fun q => hz q.2
          simp only [hb, Bool.false_eq_true, false_and, ↓reduceIte, hz] at h1 h2 ⊢
          exact g h1 h2
      · have hb : before v j = false := by unfold before; rw [decide_eq_false_iff_not]; exact fun q => hp q.1
        simp only [fn hp, hb, Bool.false_eq_true, false_and, ↓reduceIte] at h1 h2 ⊢
        exact g h1 h2
    · simp only [hL, ↓reduceIte, Bool.false_eq_true] at h2 ⊢
      rw [h2 trivial]
      exact Ev.now _
theorem spec_FlashOk_l0 (l : List S39) (hl : l.length ≤ 1048576) (hs : ∀ b ∈ l, b.f2.length ≤ 1048576) : ∀ (d i : Nat), i + d = l.length → Ev (fun k => spec_FlashOk.l0 k (i : Int) l) ((l.drop i).all blkOk && decide (3 ≤ (l.length : Int) ∧ (l.length : Int) ≤ 10)) := by
  intro d
  induction d with
  | zero =>
    intro i hi
    obtain rfl : i = l.length := by omega
    refine ev_st ?_
    simp only [spec_FlashOk.l0, show ¬ ((l.length : Int) < (l.length : Int)) from by omega, ↓reduceIte, drop_len, spec_l01In_eq, Option.bind_some, List.all_nil, Bool.true_and]
    exact Ev.now _
  | succ d ih =>
    intro i hi
    have hlt : i < l.length := by omega
    have f1 : (i : Int) < (l.length : Int) := by omega
    have f2 : (0 : Int) ≤ (i : Int) := by omega
    have g := ih (i + 1) (by omega)
    have hb := hs l[i] (List.getElem_mem hlt)
    rw [drop_at l i hlt, List.all_cons]
    refine ev_st ?_
    simp only [spec_FlashOk.l0, f1, f2, ↓reduceIte, rd_MB l i hlt, spec_l01In_eq, Option.bind_some]
    by_cases h1 : (l[i].f2.length : Int) = 4
    · by_cases h2 : 0 ≤ l[i].f1 ∧ l[i].f1 ≤ 1000000000
      · simp only [h1, h2, and_self, decide_true, Bool.not_true, ↓reduceIte]
        refine ev_st ?_
        simp only [spec_FlashOk.j1, Bool.false_eq_true, ↓reduceIte]
        have e : blkOk l[i] = lvs false l[i].f2 := by unfold blkOk; rw [decide_eq_true (show (l[i].f2.length : Int) = 4 ∧ (0 ≤ l[i].f1 ∧ l[i].f1 ≤ 1000000000) from ⟨h1, h2⟩), Bool.true_and]
        rw [e]
        refine spec_FlashOk_l1 l i hlt hl _ _ l[i].f2 hb _ l[i].f2.length 0 (by omega) ?_ ?_
        · intro q
          rw [List.drop_zero] at q
          have q : lvs false l[i].f2 = true := q
          rw [q, Bool.true_and]
          exact g
        · intro q
          rw [List.drop_zero] at q
          have q : lvs false l[i].f2 = false := q
          rw [q, Bool.false_and, Bool.false_and]
      · have e : blkOk l[i] = false := by unfold blkOk; rw [decide_eq_false (fun q => h2 q.2), Bool.false_and]
        simp only [h1, h2, decide_false, Bool.not_false, ↓reduceIte]
        refine ev_st ?_
        simp only [spec_FlashOk.j1, ↓reduceIte, e, Bool.false_and]
        exact Ev.now _
    · have e : blkOk l[i] = false := by unfold blkOk; rw [decide_eq_false (fun q => h1 q.1), Bool.false_and]
      simp only [h1, ↓reduceIte]
      refine ev_st ?_
      simp only [spec_FlashOk.j1, ↓reduceIte, e, Bool.false_and]
      exact Ev.now _
theorem spec_FlashOk_ev (l : List S39) (hl : l.length ≤ 1048576) (hs : ∀ b ∈ l, b.f2.length ≤ 1048576) : Ev (fun k => spec_FlashOk.f k l) (flashOk l) := spec_FlashOk_l0 l hl hs l.length 0 (by omega)

theorem impl_leafOk_eq (x : S63) : impl_leafOk.f x.f0 x.f1 = some (leafOkB x) := by
  unfold impl_leafOk.f leafOkB
  simp only [impl_in_eq, Option.bind_some]
  split
  · rfl
  · split
    · rfl
    · split <;> rfl
theorem impl_FlashOk_l1 (l : List S39) (i : Nat) (hi : i < l.length) (hl : l.length ≤ 1048576) (a : Bool) (b : Int) (v : List S63) (hv : v.length ≤ 1048576) (r : Bool) : ∀ (d j : Nat), j + d = v.length →
    (lvs (before v j) (v.drop j) = true → Ev (fun k => impl_FlashOk.l0 k l (l.length : Int) ((i + 1 : Nat) : Int) l) r) → (lvs (before v j) (v.drop j) = false → r = false) → Ev (fun k => impl_FlashOk.l1 k l (l.length : Int) (i : Int) v (v.length : Int) (j : Int) l a b v) r := by
  intro d
  induction d with
  | zero =>
    intro j hj h1 _
    obtain rfl : j = v.length := by omega
    rw [drop_len] at h1
    refine ev_st ?_
    simp only [impl_FlashOk.l1, show ¬ ((v.length : Int) < (v.length : Int)) from by omega, ↓reduceIte, wsucc i l.length hi (by omega)]
    exact h1 rfl
  | succ d ih =>
    intro j hj h1 h2
    have hlt : j < v.length := by omega
    have f1 : (j : Int) < (v.length : Int) := by omega
    have f2 : (0 : Int) ≤ (j : Int) := by omega
    have f3 := wsucc j v.length hlt (by omega)
    have f4 : j + 1 + d = v.length := by omega
    have fp : 0 < j → (j : Int) > 0 ∧ wrap64 ((j : Int) - 1) = ((j - 1 : Nat) : Int) ∧ (0 : Int) ≤ ((j - 1 : Nat) : Int) ∧ ((j - 1 : Nat) : Int) < (v.length : Int) := by
      intro h
      refine ⟨by omega, ?_, by omega, by omega⟩
      rw [w64 (by omega) (by omega)]; omega
    have fn : ¬ 0 < j → ¬ ((j : Int) > 0) := by omega
    rw [drop_at v j hlt, lvs] at h1 h2
    have g := ih (j + 1) f4
    rw [before_succ v j hlt] at g
    refine ev_st ?_
    simp only [impl_FlashOk.l1, f1, f2, ↓reduceIte, rd_ML v j hlt, impl_leafOk_eq, Option.bind_some, f3]
    by_cases hL : leafOkB v[j] = true
    · simp only [hL, ↓reduceIte] at h1 h2 ⊢
      by_cases hp : 0 < j
      · obtain ⟨p1, p2, p3, p4⟩ := fp hp
        simp only [p1, p2, p3, p4, ↓reduceIte]
        by_cases hz : (rd_T63 v ((j - 1 : Nat) : Int)).f0 = 0
        · have hb : before v j = true := by unfold before; rw [decide_eq_true_eq]; exact ⟨hp, hz⟩
          by_cases hx : v[j].f0 = 0
          · simp only [hb, hx, not_true_eq_false, and_false, ↓reduceIte, hz] at h1 h2 g ⊢
            exact g h1 h2
          · simp only [hb, hx, not_false_eq_true, and_self, ↓reduceIte, hz] at h1 h2 ⊢
            rw [h2 trivial]
            exact Ev.now _
        · have hb : before v j = false := by unfold before; rw [decide_eq_false_iff_not]; exact fun q => hz q.2
          simp only [hb, Bool.false_eq_true, false_and, ↓reduceIte, hz] at h1 h2 ⊢
          exact g h1 h2
      · have hb : before v j = false := by unfold before; rw [decide_eq_false_iff_not]; exact fun q => hp q.1
        simp only [fn hp, hb, Bool.false_eq_true, false_and, ↓reduceIte] at h1 h2 ⊢
        exact g h1 h2
    · simp only [hL, ↓reduceIte, Bool.false_eq_true] at h2 ⊢
      rw [h2 trivial]
      exact Ev.now _
theorem impl_FlashOk_l0 (l : List S39) (hl : l.length ≤ 1048576) (hs : ∀ b ∈ l, b.f2.length ≤ 1048576) : ∀ (d i : Nat), i + d = l.length → Ev (fun k => impl_FlashOk.l0 k l (l.length : Int) (i : Int) l) ((l.drop i).all blkOk && decide (3 ≤ (l.length : Int) ∧ (l.length : Int) ≤ 10)) := by
  intro d
  induction d with
  | zero =>
    intro i hi
    obtain rfl : i = l.length := by omega
    refine ev_st ?_
    simp only [impl_FlashOk.l0, show ¬ ((l.length : Int) < (l.length : Int)) from by omega, ↓reduceIte, drop_len, impl_in_eq, Option.bind_some, List.all_nil, Bool.true_and]
    exact Ev.now _
  | succ d ih =>
    intro i hi
    have hlt : i < l.length := by omega
    have f1 : (i : Int) < (l.length : Int) := by omega
    have f2 : (0 : Int) ≤ (i : Int) := by omega
    have g := ih (i + 1) (by omega)
    have hb := hs l[i] (List.getElem_mem hlt)
    rw [drop_at l i hlt, List.all_cons]
    refine ev_st ?_
    simp only [impl_FlashOk.l0, f1, f2, ↓reduceIte, rd_MB l i hlt, impl_in_eq, Option.bind_some]
    by_cases h1 : (l[i].f2.length : Int) = 4
    · by_cases h2 : 0 ≤ l[i].f1 ∧ l[i].f1 ≤ 1000000000
      · simp only [h1, h2, and_self, decide_true, Bool.not_true, ↓reduceIte]
        refine ev_st ?_
        simp only [impl_FlashOk.j1, Bool.false_eq_true, ↓reduceIte]
        have e : blkOk l[i] = lvs false l[i].f2 := by unfold blkOk; rw [decide_eq_true (show (l[i].f2.length : Int) = 4 ∧ (0 ≤ l[i].f1 ∧ l[i].f1 ≤ 1000000000) from ⟨h1, h2⟩), Bool.true_and]
        rw [e]
        refine impl_FlashOk_l1 l i hlt hl _ _ l[i].f2 hb _ l[i].f2.length 0 (by omega) ?_ ?_
        · intro q
          rw [List.drop_zero] at q
          have q : lvs false l[i].f2 = true := q
          rw [q, Bool.true_and]
          exact g
        · intro q
          rw [List.drop_zero] at q
          have q : lvs false l[i].f2 = false := q
          rw [q, Bool.false_and, Bool.false_and]
      · have e : blkOk l[i] = false := by unfold blkOk; rw [decide_eq_false (fun q => h2 q.2), Bool.false_and]
        simp only [h1, h2, decide_false, Bool.not_false, ↓reduceIte]
        refine ev_st ?_
        simp only [impl_FlashOk.j1, ↓reduceIte, e, Bool.false_and]
        exact Ev.now _
    · have e : blkOk l[i] = false := by unfold blkOk; rw [decide_eq_false (fun q => h1 q.1), Bool.false_and]
      simp only [h1, ↓reduceIte]
      refine ev_st ?_
      simp only [impl_FlashOk.j1, ↓reduceIte, e, Bool.false_and]
      exact Ev.now _
theorem impl_FlashOk_ev (l : List S39) (hl : l.length ≤ 1048576) (hs : ∀ b ∈ l, b.f2.length ≤ 1048576) : Ev (fun k => impl_FlashOk.f k l) (flashOk l) := impl_FlashOk_l0 l hl hs l.length 0 (by omega)

/-! a flash is copied -/
theorem copyI_l0 (l : List S39) (hf : SmallM l) : ∀ (d i : Nat), i + d = l.length → Ev (fun k => impl_copyFlash.l0 k l (l.length : Int) (i : Int) (l.take i)) l := by
  obtain ⟨hl, hs⟩ := hf
  intro d
  induction d with
  | zero =>
    intro i hi
    obtain rfl : i = l.length := by omega
    refine ev_st ?_
    simp only [impl_copyFlash.l0, show ¬ ((l.length : Int) < (l.length : Int)) from by omega, ↓reduceIte, List.take_length]
    exact Ev.now _
  | succ d ih =>
    intro i hi
    have hlt : i < l.length := by omega
    have hb := (hs l[i] (List.getElem_mem hlt)).1
    have c1 : ([] : List S63).length + l[i].f2.length < 5864062014805 := by simp only [List.length_nil]; omega
    have c2 : (l.take i).length < 3518437208883 := by rw [List.length_take]; omega
    refine ev_st ?_
    simp only [impl_copyFlash.l0, show (i : Int) < (l.length : Int) from by omega, show (0 : Int) ≤ (i : Int) from by omega, ↓reduceIte, rd_MB l i hlt, wsucc i l.length hlt (by omega), c1, c2, List.nil_append]
    have g := ih (i + 1) (by omega)
    rw [List.take_succ_eq_append_getElem hlt] at g
    exact g
theorem copyI_ev (l : List S39) (hf : SmallM l) : Ev (fun k => impl_copyFlash.f k l) l := copyI_l0 l hf l.length 0 (by omega)
theorem copyS_l0 (l : List S39) (hf : SmallM l) : ∀ (d i : Nat), i + d = l.length → Ev (fun k => spec_l05Copy.l0 k (i : Int) l (l.take i)) l := by
  obtain ⟨hl, hs⟩ := hf
  intro d
  induction d with
  | zero =>
    intro i hi
    obtain rfl : i = l.length := by omega
    refine ev_st ?_
    simp only [spec_l05Copy.l0, show ¬ ((l.length : Int) < (l.length : Int)) from by omega, ↓reduceIte, List.take_length]
    exact Ev.now _
  | succ d ih =>
    intro i hi
    have hlt : i < l.length := by omega
    have hb := (hs l[i] (List.getElem_mem hlt)).1
    have c1 : ([] : List S63).length + l[i].f2.length < 5864062014805 := by simp only [List.length_nil]; omega
    have c2 : (l.take i).length < 3518437208883 := by rw [List.length_take]; omega
    refine ev_st ?_
    simp only [spec_l05Copy.l0, show (i : Int) < (l.length : Int) from by omega, show (0 : Int) ≤ (i : Int) from by omega, ↓reduceIte, Option.bind_some, rd_MB l i hlt, wsucc i l.length hlt (by omega), c1, c2, List.nil_append]
    have g := ih (i + 1) (by omega)
    rw [List.take_succ_eq_append_getElem hlt] at g
    exact g
theorem copyS_ev (l : List S39) (hf : SmallM l) : Ev (fun k => spec_l05Copy.f k l) l := copyS_l0 l hf l.length 0 (by omega)

theorem nb_ge : ∀ (l : List S63) (i : Nat), 0 ≤ nb l i
  | [], _ => by simp [nb]
  | x :: t, i => by
    rw [nb]
    split
    · omega
    · exact nb_ge t (i + 1)
theorem ok_leaves {l : List S39} (h : flashOk l = true) {b : S39} (hb : b ∈ l) : (b.f2.length : Int) = 4 := by
  unfold flashOk at h
  rw [Bool.and_eq_true] at h
  have k := List.all_eq_true.mp h.1 b hb
  unfold blkOk at k
  rw [Bool.and_eq_true] at k
  exact (of_decide_eq_true k.1).1
def progM (l : List S39) (b leaf : Int) (t : ByteArray) : List S39 × Bool :=
  if flashOk l = true ∧ (0 ≤ b ∧ b < (l.length : Int)) ∧ (rd_T39 l b).f0 = false ∧ leaf < 4 ∧ leaf = nb (rd_T39 l b).f2 0 ∧ (1 ≤ (t.size : Int) ∧ (t.size : Int) ≤ 120) then
    (l.set b.toNat ⟨(rd_T39 l b).f0, (rd_T39 l b).f1, (rd_T39 l b).f2.set leaf.toNat ⟨1, t⟩⟩, true) else (l, false)
theorem progM_yes {l : List S39} {b leaf : Int} {t : ByteArray} (h : flashOk l = true ∧ (0 ≤ b ∧ b < (l.length : Int)) ∧ (rd_T39 l b).f0 = false ∧ leaf < 4 ∧ leaf = nb (rd_T39 l b).f2 0 ∧ (1 ≤ (t.size : Int) ∧ (t.size : Int) ≤ 120)) : progM l b leaf t = (l.set b.toNat ⟨(rd_T39 l b).f0, (rd_T39 l b).f1, (rd_T39 l b).f2.set leaf.toNat ⟨1, t⟩⟩, true) := by
  unfold progM
  exact if_pos h
theorem progM_no {l : List S39} {b leaf : Int} {t : ByteArray} (h : ¬ (flashOk l = true ∧ (0 ≤ b ∧ b < (l.length : Int)) ∧ (rd_T39 l b).f0 = false ∧ leaf < 4 ∧ leaf = nb (rd_T39 l b).f2 0 ∧ (1 ≤ (t.size : Int) ∧ (t.size : Int) ≤ 120))) : progM l b leaf t = (l, false) := by
  unfold progM
  exact if_neg h
theorem small_prog {l : List S39} (h : SmallM l) (b leaf : Int) (t : ByteArray) : SmallM (progM l b leaf t).1 := by
  unfold progM
  split
  · next hc =>
    have k := h.2 _ (rd_mem l b hc.2.1)
    refine small_set h _ _ ⟨by rw [List.length_set]; exact k.1, fun y hy => ?_⟩
    rcases List.mem_or_eq_of_mem_set hy with e | rfl
    · exact k.2 y e
    · show t.size ≤ _
      omega
  · exact h
theorem spec_May_ev (l : List S39) (hf : SmallM l) (b leaf : Int) (t : ByteArray) :
    Ev (fun k => spec_l05May.f k l b leaf t) (decide ((0 ≤ b ∧ b < (l.length : Int)) ∧ (rd_T39 l b).f0 = false ∧ leaf < 4 ∧ leaf = nb (rd_T39 l b).f2 0 ∧ (1 ≤ (t.size : Int) ∧ (t.size : Int) ≤ 120))) := by
  have hl := hf.1
  simp only [spec_l05May.f, spec_l01In_eq, w64 (n := (l.length : Int) - 1) (show -9223372036854775808 ≤ (l.length : Int) - 1 from by omega) (show (l.length : Int) - 1 ≤ 9223372036854775807 from by omega), Option.bind_some, decide_eq_true_eq]
  by_cases h1 : 0 ≤ b ∧ b < (l.length : Int)
  · have hm := (hf.2 _ (rd_mem l b h1)).1
    simp only [if_pos (show 0 ≤ b ∧ b ≤ (l.length : Int) - 1 from by omega), if_pos h1.1, if_pos h1.2]
    by_cases h2 : (rd_T39 l b).f0 = true
    · simp only [if_pos h2]
      rw [decide_eq_false (fun k => by rw [h2] at k; exact absurd k.2.1 (by decide))]
      exact Ev.now _
    · have h2f := Bool.eq_false_iff.mpr h2
      simp only [if_neg h2]
      by_cases h3 : leaf < 4
      · simp only [if_pos h3]
        refine Ev.bind (spec_NextBlank_ev _ _ _ hm) ?_
        by_cases h4 : leaf = nb (rd_T39 l b).f2 0
        · simp only [if_pos h4]
          have e : decide ((0 ≤ b ∧ b < (l.length : Int)) ∧ (rd_T39 l b).f0 = false ∧ leaf < 4 ∧ leaf = nb (rd_T39 l b).f2 0 ∧ (1 ≤ (t.size : Int) ∧ (t.size : Int) ≤ 120)) = decide (1 ≤ (t.size : Int) ∧ (t.size : Int) ≤ 120) := decide_eq_decide.mpr ⟨fun k => k.2.2.2.2, fun k => ⟨h1, h2f, h3, h4, k⟩⟩
          rw [e]
          exact Ev.now _
        · simp only [if_neg h4]
          rw [decide_eq_false (fun k => h4 k.2.2.2.1)]
          exact Ev.now _
      · simp only [if_neg h3]
        rw [decide_eq_false (fun k => h3 k.2.2.1)]
        exact Ev.now _
  · simp only [if_neg (show ¬ (0 ≤ b ∧ b ≤ (l.length : Int) - 1) from by omega)]
    rw [decide_eq_false (fun k => h1 k.1)]
    exact Ev.now _
theorem spec_Program_ev (l : List S39) (hf : SmallM l) (b leaf : Int) (t : ByteArray) : Ev (fun k => spec_Program.f k l b leaf t) (progM l b leaf t) := by
  simp only [spec_Program.f]
  refine Ev.bind (copyS_ev l hf) (Ev.bind (spec_FlashOk_ev l hf.1 (fun b hb => (hf.2 b hb).1)) ?_)
  by_cases h0 : flashOk l = true
  · simp only [if_pos h0]
    refine Ev.bind (spec_May_ev l hf b leaf t) ?_
    by_cases h : (0 ≤ b ∧ b < (l.length : Int)) ∧ (rd_T39 l b).f0 = false ∧ leaf < 4 ∧ leaf = nb (rd_T39 l b).f2 0 ∧ (1 ≤ (t.size : Int) ∧ (t.size : Int) ≤ 120)
    · have g0 := nb_ge (rd_T39 l b).f2 0
      have g1 := ok_leaves h0 (rd_mem l b h.1)
      rw [decide_eq_true h, progM_yes ⟨h0, h⟩]
      simp only [↓reduceIte, if_pos h.1.1, if_pos h.1.2, if_pos (show 0 ≤ leaf from by omega), if_pos (show leaf < ((rd_T39 l b).f2.length : Int) from by omega)]
      exact Ev.now _
    · rw [decide_eq_false h, progM_no (fun k => h k.2)]
      simp only [Bool.false_eq_true, ↓reduceIte]
      exact Ev.now _
  · rw [progM_no (fun k => h0 k.1)]
    simp only [if_neg h0]
    exact Ev.now _
theorem usable_ev (l : List S39) (hf : SmallM l) (b : Int) : Ev (fun k => impl_usable.f k l b) (decide (flashOk l = true ∧ (0 ≤ b ∧ b < (l.length : Int)) ∧ (rd_T39 l b).f0 = false)) := by
  have hl := hf.1
  simp only [impl_usable.f]
  refine Ev.bind (impl_FlashOk_ev l hf.1 (fun b hb => (hf.2 b hb).1)) ?_
  by_cases h0 : flashOk l = true
  · simp only [if_pos h0, impl_in_eq, w64 (n := (l.length : Int) - 1) (show -9223372036854775808 ≤ (l.length : Int) - 1 from by omega) (show (l.length : Int) - 1 ≤ 9223372036854775807 from by omega), Option.bind_some, decide_eq_true_eq]
    by_cases h1 : 0 ≤ b ∧ b < (l.length : Int)
    · simp only [if_pos (show 0 ≤ b ∧ b ≤ (l.length : Int) - 1 from by omega), if_pos h1.1, if_pos h1.2]
      cases h2 : (rd_T39 l b).f0 with
      | true =>
        rw [decide_eq_false (fun k => absurd k.2.2 (by decide))]
        exact Ev.now _
      | false =>
        rw [decide_eq_true ⟨h0, h1, rfl⟩]
        exact Ev.now _
    · simp only [if_neg (show ¬ (0 ≤ b ∧ b ≤ (l.length : Int) - 1) from by omega)]
      rw [decide_eq_false (fun k => h1 k.2.1)]
      exact Ev.now _
  · simp only [if_neg h0]
    rw [decide_eq_false (fun k => h0 k.1)]
    exact Ev.now _
theorem impl_Program_ev (l : List S39) (hf : SmallM l) (b leaf : Int) (t : ByteArray) : Ev (fun k => impl_Program.f k l b leaf t) (progM l b leaf t) := by
  simp only [impl_Program.f]
  refine Ev.bind (copyI_ev l hf) (Ev.bind (usable_ev l hf b) ?_)
  by_cases h0 : flashOk l = true ∧ (0 ≤ b ∧ b < (l.length : Int)) ∧ (rd_T39 l b).f0 = false
  · have g0 := nb_ge (rd_T39 l b).f2 0
    have g1 := ok_leaves h0.1 (rd_mem l b h0.2.1)
    have hm := (hf.2 _ (rd_mem l b h0.2.1)).1
    rw [decide_eq_true h0]
    simp only [↓reduceIte, impl_in_eq, Option.bind_some, decide_eq_true_eq]
    by_cases h1 : 0 ≤ leaf ∧ leaf ≤ 3
    · simp only [if_pos h1, if_pos h0.2.1.1, if_pos h0.2.1.2]
      refine Ev.bind (impl_NextBlank_ev _ _ _ hm) ?_
      by_cases h2 : leaf = nb (rd_T39 l b).f2 0
      · simp only [if_pos h2]
        by_cases h3 : 1 ≤ (t.size : Int) ∧ (t.size : Int) ≤ 120
        · rw [progM_yes ⟨h0.1, h0.2.1, h0.2.2, by omega, h2, h3⟩]
          simp only [if_pos h3, if_pos h1.1, if_pos (show leaf < ((rd_T39 l b).f2.length : Int) from by omega)]
          exact Ev.now _
        · rw [progM_no (fun k => h3 k.2.2.2.2.2)]
          simp only [if_neg h3]
          exact Ev.now _
      · rw [progM_no (fun k => h2 k.2.2.2.2.1)]
        simp only [if_neg h2]
        exact Ev.now _
    · rw [progM_no (fun k => h1 (by have := k.2.2.2.1; have := k.2.2.2.2.1; omega))]
      simp only [if_neg h1]
      exact Ev.now _
  · rw [decide_eq_false h0, progM_no (fun k => h0 ⟨k.1, k.2.1, k.2.2.1⟩)]
    simp only [Bool.false_eq_true, ↓reduceIte]
    exact Ev.now _

def wipeM (l : List S39) (b : Int) : List S39 × Bool :=
  if flashOk l = true ∧ (0 ≤ b ∧ b < (l.length : Int)) ∧ (rd_T39 l b).f0 = false ∧ ¬ (rd_T39 l b).f1 = 1000000000 then
    (l.set b.toNat ⟨false, wrap64 ((rd_T39 l b).f1 + 1), List.replicate 4 z63⟩, true) else (l, false)
theorem wipeM_yes {l : List S39} {b : Int} (h : flashOk l = true ∧ (0 ≤ b ∧ b < (l.length : Int)) ∧ (rd_T39 l b).f0 = false ∧ ¬ (rd_T39 l b).f1 = 1000000000) : wipeM l b = (l.set b.toNat ⟨false, wrap64 ((rd_T39 l b).f1 + 1), List.replicate 4 z63⟩, true) := by
  unfold wipeM
  exact if_pos h
theorem wipeM_no {l : List S39} {b : Int} (h : ¬ (flashOk l = true ∧ (0 ≤ b ∧ b < (l.length : Int)) ∧ (rd_T39 l b).f0 = false ∧ ¬ (rd_T39 l b).f1 = 1000000000)) : wipeM l b = (l, false) := by
  unfold wipeM
  exact if_neg h
theorem small_wipe {l : List S39} (h : SmallM l) (b : Int) : SmallM (wipeM l b).1 := by
  unfold wipeM
  split
  · refine small_set h _ _ ⟨by rw [List.length_replicate]; omega, fun y hy => ?_⟩
    rw [List.eq_of_mem_replicate hy]
    show (⟨#[]⟩ : ByteArray).size ≤ _
    decide
  · exact h
theorem spec_Wipe_ev (l : List S39) (hf : SmallM l) (b : Int) : Ev (fun k => spec_Wipe.f k l b) (wipeM l b) := by
  have hl := hf.1
  simp only [spec_Wipe.f]
  refine Ev.bind (copyS_ev l hf) (Ev.bind (spec_FlashOk_ev l hf.1 (fun b hb => (hf.2 b hb).1)) ?_)
  by_cases h0 : flashOk l = true
  · simp only [if_pos h0, spec_l01In_eq, w64 (n := (l.length : Int) - 1) (show -9223372036854775808 ≤ (l.length : Int) - 1 from by omega) (show (l.length : Int) - 1 ≤ 9223372036854775807 from by omega), Option.bind_some, decide_eq_true_eq]
    by_cases h1 : 0 ≤ b ∧ b < (l.length : Int)
    · simp only [if_pos (show 0 ≤ b ∧ b ≤ (l.length : Int) - 1 from by omega), if_pos (show 0 ≤ b ∧ b < (l.length : Int) ∧ b < (l.length : Int) from ⟨h1.1, h1.2, h1.2⟩)]
      by_cases h2 : (rd_T39 l b).f0 = true
      · rw [wipeM_no (fun k => by rw [h2] at k; exact absurd k.2.2.1 (by decide))]
        simp only [if_pos h2]
        exact Ev.now _
      · simp only [if_neg h2]
        by_cases h3 : (rd_T39 l b).f1 = 1000000000
        · rw [wipeM_no (fun k => k.2.2.2 h3)]
          simp only [if_pos h3]
          exact Ev.now _
        · rw [wipeM_yes ⟨h0, h1, Bool.eq_false_iff.mpr h2, h3⟩]
          simp only [if_neg h3]
          exact Ev.now _
    · rw [wipeM_no (fun k => h1 k.2.1)]
      simp only [if_neg (show ¬ (0 ≤ b ∧ b ≤ (l.length : Int) - 1) from by omega)]
      exact Ev.now _
  · rw [wipeM_no (fun k => h0 k.1)]
    simp only [if_neg h0]
    exact Ev.now _

theorem impl_Wipe_ev (l : List S39) (hf : SmallM l) (b : Int) : Ev (fun k => impl_Wipe.f k l b) (wipeM l b) := by
  simp only [impl_Wipe.f]
  refine Ev.bind (copyI_ev l hf) (Ev.bind (usable_ev l hf b) ?_)
  by_cases h0 : flashOk l = true ∧ (0 ≤ b ∧ b < (l.length : Int)) ∧ (rd_T39 l b).f0 = false
  · rw [decide_eq_true h0]
    simp only [↓reduceIte, if_pos (show 0 ≤ b ∧ b < (l.length : Int) ∧ b < (l.length : Int) from ⟨h0.2.1.1, h0.2.1.2, h0.2.1.2⟩)]
    by_cases h3 : (rd_T39 l b).f1 = 1000000000
    · rw [wipeM_no (fun k => k.2.2.2 h3)]
      simp only [if_pos h3]
      exact Ev.now _
    · rw [wipeM_yes ⟨h0.1, h0.2.1, h0.2.2, h3⟩]
      simp only [if_neg h3, h0.2.2]
      exact Ev.now _
  · rw [decide_eq_false h0, wipeM_no (fun k => h0 ⟨k.1, k.2.1, k.2.2.1⟩)]
    simp only [Bool.false_eq_true, ↓reduceIte]
    exact Ev.now _

def markBadM (l : List S39) (b : Int) : List S39 := if 0 ≤ b ∧ b < (l.length : Int) then l.set b.toNat ⟨true, (rd_T39 l b).f1, (rd_T39 l b).f2⟩ else l
theorem small_markBad {l : List S39} (h : SmallM l) (b : Int) : SmallM (markBadM l b) := by
  unfold markBadM
  split
  · next hb => exact small_set h _ _ (by have k := h.2 _ (rd_mem l b hb); exact k)
  · exact h
theorem spec_MarkBad_ev (l : List S39) (hf : SmallM l) (b : Int) : Ev (fun k => spec_MarkBad.f k l b) (markBadM l b) := by
  have hl := hf.1
  simp only [spec_MarkBad.f]
  refine Ev.bind (copyS_ev l hf) ?_
  rw [spec_l01In_eq, w64 (n := (l.length : Int) - 1) (by omega) (by omega)]
  simp only [Option.bind_some, decide_eq_true_eq]
  unfold markBadM
  by_cases h : 0 ≤ b ∧ b < (l.length : Int)
  · rw [if_pos h]
    simp only [if_pos (show 0 ≤ b ∧ b ≤ (l.length : Int) - 1 from by omega), if_pos h.1, if_pos h.2]
    exact Ev.now _
  · rw [if_neg h]
    simp only [if_neg (show ¬ (0 ≤ b ∧ b ≤ (l.length : Int) - 1) from by omega)]
    exact Ev.now _

theorem impl_MarkBad_ev (l : List S39) (hf : SmallM l) (b : Int) : Ev (fun k => impl_MarkBad.f k l b) (markBadM l b) := by
  have hl := hf.1
  simp only [impl_MarkBad.f]
  refine Ev.bind (copyI_ev l hf) ?_
  rw [impl_in_eq, w64 (n := (l.length : Int) - 1) (by omega) (by omega)]
  simp only [Option.bind_some, decide_eq_true_eq]
  unfold markBadM
  by_cases h : 0 ≤ b ∧ b < (l.length : Int)
  · rw [if_pos h]
    simp only [if_pos (show 0 ≤ b ∧ b ≤ (l.length : Int) - 1 from by omega), if_pos h.1, if_pos h.2]
    exact Ev.now _
  · rw [if_neg h]
    simp only [if_neg (show ¬ (0 ≤ b ∧ b ≤ (l.length : Int) - 1) from by omega)]
    exact Ev.now _

def readLeafOf (l : List S39) (a b : Int) : ByteArray × Bool :=
  if 0 ≤ a ∧ a ≤ (l.length : Int) - 1 then (if 0 ≤ b ∧ b ≤ ((rd_T39 l a).f2.length : Int) - 1 then (if (rd_T63 (rd_T39 l a).f2 b).f0 = 1 then ((rd_T63 (rd_T39 l a).f2 b).f1, true) else ((⟨#[]⟩ : ByteArray), false)) else ((⟨#[]⟩ : ByteArray), false)) else ((⟨#[]⟩ : ByteArray), false)
theorem impl_ReadLeaf_eq (l : List S39) (hf : SmallM l) (a b : Int) : impl_ReadLeaf.f l a b = some (readLeafOf l a b) := by
  have hl := hf.1
  unfold impl_ReadLeaf.f readLeafOf
  rw [w64 (n := (l.length : Int) - 1) (by omega) (by omega)]
  simp only [impl_in_eq, Option.bind_some, decide_eq_true_eq]
  by_cases h1 : 0 ≤ a ∧ a ≤ (l.length : Int) - 1
  · have hm : (rd_T39 l a).f2.length ≤ 1048576 := by
      obtain ⟨i, rfl⟩ := Int.eq_ofNat_of_zero_le h1.1
      rw [rd_MB l i (by omega)]
      exact (hf.2 _ (List.getElem_mem (show i < l.length by omega))).1
    rw [if_pos h1, if_pos h1, if_pos h1.1, if_pos (by omega), w64 (n := ((rd_T39 l a).f2.length : Int) - 1) (by omega) (by omega)]
    by_cases h2 : 0 ≤ b ∧ b ≤ ((rd_T39 l a).f2.length : Int) - 1
    · rw [if_pos h2, if_pos h2, if_pos h2.1, if_pos (by omega)]
      split <;> rfl
    · rw [if_neg h2, if_neg h2]
  · rw [if_neg h1, if_neg h1]

/-! what is drawn -/
theorem bits_and255 (x : Int) : 0 ≤ Go.bits .and .i64 x 255 ∧ Go.bits .and .i64 x 255 ≤ 255 := by
  have h : (BitVec.ofInt IntKind.i64.bits x &&& BitVec.ofInt IntKind.i64.bits 255).toNat ≤ 255 := by
    rw [BitVec.toNat_and]
    exact Nat.le_trans Nat.and_le_right (by decide)
  simp only [Go.bits, IntKind.wrap_i64]
  omega
theorem l01Byte_is (l : List Int) (i s : Int) (hl : l.length ≤ 1048576) (hi : 0 ≤ i) : ∃ b j t, spec_l01Byte.f l i s = some (b, j, t) ∧ 0 ≤ b ∧ b ≤ 255 ∧ 0 ≤ j := by
  unfold spec_l01Byte.f
  by_cases h : i < (l.length : Int)
  · simp only [h, hi, ↓reduceIte]
    have e : wrap64 (i + 1) = i + 1 := w64 (by omega) (by omega)
    exact ⟨_, _, _, rfl, (bits_and255 _).1, (bits_and255 _).2, by omega⟩
  · simp only [h, ↓reduceIte]
    exact ⟨_, _, _, rfl, (bits_and255 _).1, (bits_and255 _).2, hi⟩
theorem tmod_range (a n : Int) (ha : 0 ≤ a) (hn : 1 ≤ n) : 0 ≤ Int.tmod a n ∧ Int.tmod a n < n := by
  rw [Int.tmod_eq_emod_of_nonneg ha]
  exact ⟨Int.emod_nonneg _ (by omega), Int.emod_lt_of_pos _ (by omega)⟩
theorem l01Below_is (l : List Int) (i s n : Int) (hl : l.length ≤ 1048576) (hi : 0 ≤ i) : ∃ b j t, spec_l01Below.f l i s n = some (b, j, t) ∧ 0 ≤ b ∧ (1 ≤ n → b < n) ∧ 0 ≤ j := by
  unfold spec_l01Below.f
  by_cases h : n ≤ 0
  · simp only [h, ↓reduceIte]
    exact ⟨_, _, _, rfl, by omega, fun h => by omega, hi⟩
  · simp only [h, show ¬ n = 0 from by omega, ↓reduceIte]
    obtain ⟨b1, j1, t1, e1, g1, g2, g3⟩ := l01Byte_is l i s hl hi
    by_cases h2 : n ≤ 256
    · have q := tmod_range b1 n g1 (by omega)
      simp only [h2, ↓reduceIte, e1, Option.bind_some]
      exact ⟨_, _, _, rfl, q.1, fun _ => q.2, g3⟩
    · obtain ⟨b2, j2, t2, e2, k1, k2, k3⟩ := l01Byte_is l j1 t1 hl g3
      obtain ⟨b3, j3, t3, e3, m1, m2, m3⟩ := l01Byte_is l j2 t2 hl k3
      obtain ⟨b4, j4, t4, e4, n1, n2, n3⟩ := l01Byte_is l j3 t3 hl m3
      simp only [h2, ↓reduceIte, e1, e2, e3, e4, Option.bind_some]
      have q := tmod_range (wrap64 ((wrap64 ((wrap64 ((wrap64 (b1 * 16777216)) + (wrap64 (b2 * 65536)))) + (wrap64 (b3 * 256)))) + b4)) n (by
        rw [w64 (n := b1 * 16777216) (by omega) (by omega), w64 (n := b2 * 65536) (by omega) (by omega), w64 (n := b3 * 256) (by omega) (by omega), w64 (n := b1 * 16777216 + b2 * 65536) (by omega) (by omega), w64 (n := b1 * 16777216 + b2 * 65536 + b3 * 256) (by omega) (by omega), w64 (by omega) (by omega)]
        omega) (by omega)
      exact ⟨_, _, _, rfl, q.1, fun _ => q.2, n3⟩
theorem l01New_l0 (l : List Int) (hl : l.length ≤ 1048576) : ∀ (d i : Nat), i + d = l.length → ∀ x : Int, ∃ y, Ev (fun k => spec_l01New.l0 k l x (i : Int)) (l, 0, y) := by
  intro d
  induction d with
  | zero =>
    intro i hi x
    obtain rfl : i = l.length := by omega
    refine ⟨x, ev_st ?_⟩
    simp only [spec_l01New.l0, Int.lt_irrefl, ↓reduceIte]
    exact Ev.now _
  | succ d ih =>
    intro i hi x
    have h1 : (i : Int) < (l.length : Int) := by omega
    have h2 : (0 : Int) ≤ (i : Int) := by omega
    have e : wrap64 ((i : Int) + 1) = ((i + 1 : Nat) : Int) := by rw [w64 (by omega) (by omega)]; omega
    by_cases h3 : (i : Int) < 4000
    · obtain ⟨y, hy⟩ := ih (i + 1) (by omega) (Go.bits .and .i64 (wrap64 ((wrap64 ((wrap64 (x * 131)) + (wrap64 (rd l (i : Int))))) + 7)) 1073741823)
      refine ⟨y, ev_st ?_⟩
      simp only [spec_l01New.l0, h1, h2, h3, ↓reduceIte, e]
      exact hy
    · refine ⟨x, ev_st ?_⟩
      simp only [spec_l01New.l0, h1, h3, ↓reduceIte]
      exact Ev.now _
theorem l01New_ev (l : List Int) (hl : l.length ≤ 1048576) : ∃ y, Ev (fun k => spec_l01New.f k l) (l, 0, y) := by
  obtain ⟨y, hy⟩ := l01New_l0 l hl l.length 0 (by omega) (wrap64 (36501 + (l.length : Int)))
  exact ⟨y, by simpa [spec_l01New.f] using hy⟩

theorem l01Text_l0 (l : List Int) (hl : l.length ≤ 1048576) (N : Nat) (hN : N ≤ 5000) : ∀ (d n : Nat), n + d = N → ∀ (xs : List Int) (i s : Int), 0 ≤ i → xs.length = n → ∃ r j t, Ev (fun k => spec_l01Text.l0 k (N : Int) xs (n : Int) l i s) (r, j, t) ∧ r.size = N ∧ 0 ≤ j := by
  intro d
  induction d with
  | zero =>
    intro n hn xs i s hi hx
    refine ⟨strOfNums xs, i, s, ev_st ?_, by rw [strOfNums_size]; omega, hi⟩
    simp only [spec_l01Text.l0, show ¬ ((n : Int) < (N : Int)) from by omega, ↓reduceIte]
    exact Ev.now _
  | succ d ih =>
    intro n hn xs i s hi hx
    have c1 : (n : Int) < (N : Int) := by omega
    have c2 : xs.length < 140737488355328 := by omega
    have e1 : wrap64 ((n : Int) + 1) = ((n + 1 : Nat) : Int) := by rw [w64 (by omega) (by omega)]; omega
    obtain ⟨b, j, t, h1, h2, h3, h4⟩ := l01Byte_is l i s hl hi
    obtain ⟨r, j2, t2, e, h5, h6⟩ := ih (n + 1) (by omega) (xs ++ [b % 256]) j t h4 (by simp; omega)
    refine ⟨r, j2, t2, ev_st ?_, h5, h6⟩
    simp only [spec_l01Text.l0, c1, ↓reduceIte, h1, Option.bind_some, c2, e1]
    exact e
theorem l01Text_ev (l : List Int) (hl : l.length ≤ 1048576) (i s : Int) (hi : 0 ≤ i) (n : Nat) (hn : n ≤ 5000) : ∃ r j t, Ev (fun k => spec_l01Text.f k l i s (n : Int)) (r, j, t) ∧ r.size = n ∧ 0 ≤ j := by
  obtain ⟨r, j, t, e, h1, h2⟩ := l01Text_l0 l hl n hn n 0 (by omega) [] i s hi rfl
  refine ⟨r, j, t, ?_, h1, h2⟩
  simp only [spec_l01Text.f, show ¬ ((n : Int) > 5000) from by omega, ↓reduceIte]
  refine ev_st ?_
  simp only [spec_l01Text.j0]
  exact e

/-! twelve places -/
theorem DrawPlaces_l0 (l : List Int) (hl : l.length ≤ 1048576) : ∀ (d n : Nat), n + d = 12 → ∀ (xs : List Int) (i s : Int), 0 ≤ i → xs.length = n → (∀ x ∈ xs, 0 ≤ x ∧ x < 10000) → ∃ p, Ev (fun k => spec_DrawPlaces.l0 k xs (n : Int) l i s) p ∧ p.length = 12 ∧ ∀ x ∈ p, 0 ≤ x ∧ x < 10000 := by
  intro d
  induction d with
  | zero =>
    intro n hn xs i s hi hx hr
    refine ⟨xs, ev_st ?_, by omega, hr⟩
    simp only [spec_DrawPlaces.l0, show ¬ ((n : Int) < 12) from by omega, ↓reduceIte]
    exact Ev.now _
  | succ d ih =>
    intro n hn xs i s hi hx hr
    obtain ⟨b, j, t, e, h1, h2, h3⟩ := l01Below_is l i s 10000 hl hi
    have h4 := h2 (by omega)
    have e4 : wrap64 ((n : Int) + 1) = ((n + 1 : Nat) : Int) := by rw [w64 (by omega) (by omega)]; omega
    obtain ⟨p, q1, q2, q3⟩ := ih (n + 1) (by omega) (xs ++ [b]) j t h3 (by rw [List.length_append, List.length_singleton]; omega) (by
      intro x hx
      rcases List.mem_append.1 hx with hx | hx
      · exact hr x hx
      · simp only [List.mem_singleton] at hx; omega)
    refine ⟨p, ev_st ?_, q2, q3⟩
    simp only [spec_DrawPlaces.l0, show (n : Int) < 12 from by omega, ↓reduceIte, e, Option.bind_some, show xs.length < 17592186044416 from by omega, e4]
    exact q1
theorem DrawPlaces_ev (l : List Int) (hl : l.length ≤ 1048576) : ∃ p, Ev (fun k => spec_DrawPlaces.f k l) p ∧ p.length = 12 ∧ ∀ x ∈ p, 0 ≤ x ∧ x < 10000 := by
  obtain ⟨y, hy⟩ := l01New_ev l hl
  obtain ⟨b, j, t, e, h1, h2, h3⟩ := l01Byte_is l 0 y hl (by omega)
  obtain ⟨p, q1, q2, q3⟩ := DrawPlaces_l0 l hl 12 0 (by omega) [] j t h3 rfl (by simp)
  refine ⟨p, ?_, q2, q3⟩
  simp only [spec_DrawPlaces.f]
  refine Ev.bind hy ?_
  simp only [e, Option.bind_some]
  exact q1
theorem place_at (p : List Int) (hp : p.length = 12) (hr : ∀ x ∈ p, 0 ≤ x ∧ x < 10000) (i : Nat) (hi : i < 12) : 0 ≤ rd p (i : Int) ∧ rd p (i : Int) < 10000 := by
  unfold rd
  rw [Int.toNat_natCast, List.getD_eq_getElem?_getD, List.getElem?_eq_getElem (by omega)]
  exact hr _ (List.getElem_mem _)

/-! a right flash stays right -/
theorem ok_len {l : List S39} (h : flashOk l = true) : 3 ≤ (l.length : Int) ∧ (l.length : Int) ≤ 10 := by
  unfold flashOk at h
  rw [Bool.and_eq_true] at h
  exact of_decide_eq_true h.2
theorem ok_blk {l : List S39} (h : flashOk l = true) {b : S39} (hb : b ∈ l) : blkOk b = true := by
  unfold flashOk at h
  rw [Bool.and_eq_true] at h
  exact List.all_eq_true.mp h.1 b hb
theorem lvs_all : ∀ (l : List S63) (p : Bool), lvs p l = true → ∀ x ∈ l, leafOkB x = true
  | [], _, _, _, hx => by cases hx
  | y :: t, p, h, x, hx => by
    rw [lvs] at h
    by_cases h1 : leafOkB y = true
    · rw [if_pos h1] at h
      by_cases h2 : p = true ∧ ¬ y.f0 = 0
      · rw [if_pos h2] at h
        cases h
      · rw [if_neg h2] at h
        rcases List.mem_cons.mp hx with rfl | hx
        · exact h1
        · exact lvs_all t _ h x hx
    · rw [if_neg h1] at h
      cases h
theorem leaf_size {x : S63} (h : leafOkB x = true) : x.f1.size ≤ 120 := by
  unfold leafOkB at h
  split at h
  · have e := eq_of_beq h
    rw [ByteArray.toList_eq] at e
    have : x.f1.size = x.f1.data.toList.length := rfl
    rw [this, e]
    exact Nat.zero_le _
  · split at h
    · have := of_decide_eq_true h
      omega
    · split at h
      · have := of_decide_eq_true h
        omega
      · cases h
theorem blk_parts {b : S39} (h : blkOk b = true) : ((b.f2.length : Int) = 4 ∧ (0 ≤ b.f1 ∧ b.f1 ≤ 1000000000)) ∧ lvs false b.f2 = true := by
  unfold blkOk at h
  rw [Bool.and_eq_true] at h
  exact ⟨of_decide_eq_true h.1, h.2⟩
theorem blk_make {b : S39} (h1 : (b.f2.length : Int) = 4) (h2 : 0 ≤ b.f1 ∧ b.f1 ≤ 1000000000) (h3 : lvs false b.f2 = true) : blkOk b = true := by
  unfold blkOk
  rw [h3, decide_eq_true ⟨h1, h2⟩]
  rfl
theorem ok_small {l : List S39} (h : flashOk l = true) : SmallM l := by
  have k := ok_len h
  refine ⟨by omega, fun b hb => ?_⟩
  have p := blk_parts (ok_blk h hb)
  refine ⟨by omega, fun x hx => ?_⟩
  have := leaf_size (lvs_all _ _ p.2 x hx)
  omega
theorem ok_set {l : List S39} (h : flashOk l = true) (i : Nat) {x : S39} (hx : blkOk x = true) : flashOk (l.set i x) = true := by
  have k := ok_len h
  unfold flashOk
  rw [Bool.and_eq_true]
  refine ⟨List.all_eq_true.mpr fun b hb => ?_, by rw [List.length_set]; exact decide_eq_true k⟩
  rcases List.mem_or_eq_of_mem_set hb with e | rfl
  · exact ok_blk h e
  · exact hx
theorem lvs_free : ∀ (t : List S63), lvs true t = true → lvs false t = true
  | [], _ => rfl
  | x :: t, h => by
    rw [lvs] at h ⊢
    by_cases h1 : leafOkB x = true
    · rw [if_pos h1] at h ⊢
      by_cases h2 : x.f0 = 0
      · rw [if_neg (fun k => k.2 h2)] at h
        rw [if_neg (fun k => k.2 h2)]
        exact h
      · rw [if_pos ⟨rfl, h2⟩] at h
        cases h
    · rw [if_neg h1] at h
      cases h
theorem nb_from : ∀ (l : List S63) (i : Nat), i + l.length ≤ 4 → (i : Int) ≤ nb l i
  | [], i, h => by
    rw [nb]
    simp only [List.length_nil] at h
    omega
  | x :: t, i, h => by
    rw [nb]
    simp only [List.length_cons] at h
    split
    · exact Int.le_refl _
    · have := nb_from t (i + 1) (by omega)
      omega
theorem nb_first : ∀ (t : List S63) (i : Nat), lvs true t = true → i + t.length = 4 → nb t i = (i : Int)
  | [], i, _, h => by
    rw [nb]
    simp only [List.length_nil] at h
    omega
  | x :: t, i, h, _ => by
    rw [lvs] at h
    rw [nb]
    by_cases h2 : x.f0 = 0
    · rw [if_pos h2]
    · by_cases h1 : leafOkB x = true
      · rw [if_pos h1, if_pos ⟨rfl, h2⟩] at h
        cases h
      · rw [if_neg h1] at h
        cases h
/-- The first blank leaf is written. -/
theorem lvs_put (y : S63) (hy : leafOkB y = true) (h0 : ¬ y.f0 = 0) : ∀ (l : List S63) (i : Nat), lvs false l = true → i + l.length = 4 → nb l i < 4 →
    lvs false (l.set (nb l i - i).toNat y) = true ∧ nb (l.set (nb l i - i).toNat y) i = nb l i + 1
  | [], i, _, _, h => by
    rw [nb] at h
    omega
  | x :: t, i, h, hi, hn => by
    have hi' : i + 1 + t.length = 4 := by simp only [List.length_cons] at hi; omega
    rw [lvs] at h
    by_cases h1 : leafOkB x = true
    · rw [if_pos h1, if_neg (fun k => absurd k.1 (by decide))] at h
      by_cases h2 : x.f0 = 0
      · have e : nb (x :: t) i = (i : Int) := by rw [nb, if_pos h2]
        rw [decide_eq_true h2] at h
        rw [e, show ((i : Int) - (i : Int)).toNat = 0 from by omega, List.set_cons_zero]
        refine ⟨?_, ?_⟩
        · rw [lvs, if_pos hy, if_neg (fun k => absurd k.1 (by decide)), decide_eq_false h0]
          exact lvs_free t h
        · rw [nb, if_neg h0, nb_first t (i + 1) h hi']
          omega
      · have e : nb (x :: t) i = nb t (i + 1) := by rw [nb, if_neg h2]
        rw [decide_eq_false h2] at h
        have g := nb_from t (i + 1) (by omega)
        rw [e] at hn
        obtain ⟨k1, k2⟩ := lvs_put y hy h0 t (i + 1) h hi' hn
        rw [e, show (nb t (i + 1) - (i : Int)).toNat = (nb t (i + 1) - ((i + 1 : Nat) : Int)).toNat + 1 from by omega, List.set_cons_succ]
        refine ⟨?_, ?_⟩
        · rw [lvs, if_pos h1, if_neg (fun k => absurd k.1 (by decide)), decide_eq_false h2]
          exact k1
        · rw [nb, if_neg h2]
          exact k2
    · rw [if_neg h1] at h
      cases h
theorem blk_put {b : S39} (h : blkOk b = true) (y : S63) (hy : leafOkB y = true) (h0 : ¬ y.f0 = 0) (hn : nb b.f2 0 < 4) :
    blkOk ⟨b.f0, b.f1, b.f2.set (nb b.f2 0).toNat y⟩ = true ∧ nb (b.f2.set (nb b.f2 0).toNat y) 0 = nb b.f2 0 + 1 := by
  have p := blk_parts h
  have k := lvs_put y hy h0 b.f2 0 p.2 (by omega) hn
  rw [show (nb b.f2 0 - ((0 : Nat) : Int)).toNat = (nb b.f2 0).toNat from by omega] at k
  exact ⟨blk_make (by show ((b.f2.set _ y).length : Int) = 4; rw [List.length_set]; exact p.1.1) p.1.2 k.1, k.2⟩
theorem full_ok {t : ByteArray} (h : 1 ≤ (t.size : Int) ∧ (t.size : Int) ≤ 120) : leafOkB ⟨1, t⟩ = true := by
  unfold leafOkB
  rw [if_neg (show ¬ ((1 : Int) = 0) from by decide), if_pos rfl]
  exact decide_eq_true h
theorem ok_prog {l : List S39} (h : flashOk l = true) (b leaf : Int) (t : ByteArray) : flashOk (progM l b leaf t).1 = true := by
  unfold progM
  split
  · next hc =>
    obtain ⟨_, hb, _, h3, h4, h5⟩ := hc
    subst h4
    exact ok_set h _ (blk_put (ok_blk h (rd_mem l b hb)) ⟨1, t⟩ (full_ok h5) (show ¬ (1 : Int) = 0 from by decide) h3).1
  · exact h
theorem blank_lvs : lvs false (List.replicate 4 z63) = true := by
  have e : leafOkB z63 = true := by
    unfold leafOkB
    rw [if_pos (show z63.f0 = 0 from rfl), show z63.f1.toList = [] from by rw [ByteArray.toList_eq]; rfl]
    rfl
  simp only [List.replicate, lvs, e, ↓reduceIte, show z63.f0 = 0 from rfl, not_true_eq_false, and_false, decide_true]
theorem ok_wipe {l : List S39} (h : flashOk l = true) (b : Int) : flashOk (wipeM l b).1 = true := by
  unfold wipeM
  split
  · next hc =>
    have p := blk_parts (ok_blk h (rd_mem l b hc.2.1))
    have hw : wrap64 ((rd_T39 l b).f1 + 1) = (rd_T39 l b).f1 + 1 := w64 (by omega) (by omega)
    refine ok_set h _ (blk_make (by rfl) ?_ blank_lvs)
    show 0 ≤ wrap64 ((rd_T39 l b).f1 + 1) ∧ wrap64 ((rd_T39 l b).f1 + 1) ≤ 1000000000
    have := hc.2.2.2
    omega
  · exact h
theorem ok_mark {l : List S39} (h : flashOk l = true) (b : Int) : flashOk (markBadM l b) = true := by
  unfold markBadM
  split
  · next hb =>
    have p := blk_parts (ok_blk h (rd_mem l b hb))
    exact ok_set h _ (blk_make p.1.1 p.1.2 p.2)
  · exact h
theorem torn_ok : leafOkB ⟨2, (⟨#[116, 111]⟩ : ByteArray)⟩ = true := by
  unfold leafOkB
  rw [if_neg (show ¬ ((2 : Int) = 0) from by decide), if_neg (show ¬ ((2 : Int) = 1) from by decide), if_pos rfl]
  decide
theorem ok_blank (m : Nat) (h1 : 3 ≤ m) (h2 : m ≤ 10) : flashOk (List.replicate m ⟨false, 0, List.replicate 4 z63⟩) = true := by
  unfold flashOk
  rw [Bool.and_eq_true]
  refine ⟨List.all_eq_true.mpr fun b hb => ?_, by rw [List.length_replicate]; exact decide_eq_true (by omega)⟩
  rw [List.eq_of_mem_replicate hb]
  exact blk_make (by rfl) (by decide) blank_lvs
theorem new_l0 (n : Nat) (hn : n ≤ 10) : ∀ (d i : Nat), i + d = n → Ev (fun k => spec_FlashNew.l0 k (n : Int) (i : Int) (List.replicate i ⟨false, 0, List.replicate 4 z63⟩)) (List.replicate n ⟨false, 0, List.replicate 4 z63⟩, true) := by
  intro d
  induction d with
  | zero =>
    intro i hi
    obtain rfl : i = n := by omega
    refine ev_st ?_
    simp only [spec_FlashNew.l0, Int.lt_irrefl, ↓reduceIte]
    exact Ev.now _
  | succ d ih =>
    intro i hi
    refine ev_st ?_
    simp only [spec_FlashNew.l0, show (i : Int) < (n : Int) from by omega, ↓reduceIte, show 4 ≤ 11728124029610 from by omega, List.length_replicate, show i < 3518437208883 from by omega, wsucc i n (by omega) (by omega)]
    have := ih (i + 1) (by omega)
    rwa [List.replicate_succ'] at this
theorem new_ev (n : Nat) (h1 : 3 ≤ n) (h2 : n ≤ 10) : Ev (fun k => spec_FlashNew.f k (n : Int)) (List.replicate n ⟨false, 0, List.replicate 4 z63⟩, true) := by
  simp only [spec_FlashNew.f, spec_l01In_eq, Option.bind_some, decide_eq_true_eq, if_pos (show (3 : Int) ≤ (n : Int) ∧ (n : Int) ≤ 10 from by omega)]
  exact new_l0 n h2 n 0 (by omega)
theorem l01Once_is (l : List Int) (i s n : Int) (hl : l.length ≤ 1048576) (hi : 0 ≤ i) : ∃ b j t, spec_l01Once.f l i s n = some (b, j, t) ∧ 0 ≤ j := by
  obtain ⟨b, j, t, e, _, _, h⟩ := l01Below_is l i s n hl hi
  refine ⟨b == 0, j, t, ?_, h⟩
  simp only [spec_l01Once.f, e, Option.bind_some]
/-! how worn the drawn flash is -/
def wearLe (x : List S39) (m : Int) : Prop := ∀ b ∈ x, b.f1 ≤ m
theorem wear_mono {x : List S39} {m n : Int} (h : wearLe x m) (hm : m ≤ n) : wearLe x n := fun b hb => Int.le_trans (h b hb) hm
theorem wear_set {x : List S39} {m : Int} (h : wearLe x m) (i : Nat) {y : S39} (hy : y.f1 ≤ m) : wearLe (x.set i y) m := fun b hb => by
  rcases List.mem_or_eq_of_mem_set hb with e | rfl
  · exact h b e
  · exact hy
theorem wear_prog {x : List S39} {m : Int} (h : wearLe x m) (b leaf : Int) (t : ByteArray) : wearLe (progM x b leaf t).1 m := by
  unfold progM
  split
  · next hc => exact wear_set h _ (by have k := h _ (rd_mem x b hc.2.1); exact k)
  · exact h
theorem wear_mark {x : List S39} {m : Int} (h : wearLe x m) (b : Int) : wearLe (markBadM x b) m := by
  unfold markBadM
  split
  · next hb => exact wear_set h _ (by have k := h _ (rd_mem x b hb); exact k)
  · exact h
theorem wear_wipe {x : List S39} {m : Int} (ok : flashOk x = true) (h : wearLe x m) (b : Int) : wearLe (wipeM x b).1 (m + 1) := by
  unfold wipeM
  split
  · next hc =>
    have p := blk_parts (ok_blk ok (rd_mem x b hc.2.1))
    have q := h _ (rd_mem x b hc.2.1)
    have hw : wrap64 ((rd_T39 x b).f1 + 1) = (rd_T39 x b).f1 + 1 := w64 (by omega) (by omega)
    refine wear_set (wear_mono h (by omega)) _ ?_
    show wrap64 ((rd_T39 x b).f1 + 1) ≤ m + 1
    omega
  · exact wear_mono h (by omega)
/-- The rounds of the drawn flash. -/
theorem l05Flash_l0 (l : List Int) (hl : l.length ≤ 1048576) : ∀ (d i : Nat), i + d = 20 → ∀ (x : List S39) (j s : Int), flashOk x = true → wearLe x (i : Int) → 0 ≤ j → ∃ r j2 s2, Ev (fun k => spec_l05Flash.l0 k (i : Int) l j s x) (r, j2, s2) ∧ flashOk r = true ∧ wearLe r 20 := by
  have out : ∀ (x : List S39) (j s : Int), flashOk x = true → wearLe x 20 → 0 ≤ j → ∃ r j2 s2, Ev (fun k => (spec_l01Once.f l j s 4).bind fun b => (if b.1 = true then ((spec_l01Below.f l b.2.1 b.2.2 (x.length : Int)).bind fun c => ((spec_MarkBad.f k x c.1).bind fun t => (some (t, c.2.1, c.2.2)))) else (some (x, b.2.1, b.2.2)))) (r, j2, s2) ∧ flashOk r = true ∧ wearLe r 20 := by
    intro x j s hx hw hj
    obtain ⟨b, j1, s1, e1, h1⟩ := l01Once_is l j s 4 hl hj
    simp only [e1, Option.bind_some]
    cases b with
    | true =>
      obtain ⟨c, j2, s2, e2, _, _, _⟩ := l01Below_is l j1 s1 (x.length : Int) hl h1
      simp only [e2, Option.bind_some, ↓reduceIte]
      exact ⟨_, _, _, Ev.bind (spec_MarkBad_ev x (ok_small hx) c) (Ev.now _), ok_mark hx c, wear_mark hw c⟩
    | false =>
      simp only [Bool.false_eq_true, ↓reduceIte]
      exact ⟨_, _, _, Ev.now _, hx, hw⟩
  intro d
  induction d with
  | zero =>
    intro i hi x j s hx hw hj
    obtain ⟨b, j1, s1, e1, g1, g2, g3⟩ := l01Below_is l j s 20 hl hj
    have g2 := g2 (by omega)
    obtain ⟨r, j2, s2, e, hr⟩ := out x j1 s1 hx (wear_mono hw (by omega)) g3
    refine ⟨r, j2, s2, ev_st ?_, hr⟩
    simp only [spec_l05Flash.l0, e1, Option.bind_some, if_neg (show ¬ (i : Int) < b from by omega)]
    exact e
  | succ d ih =>
    intro i hi x j s hx hw hj
    obtain ⟨b, j1, s1, e1, g1, g2, g3⟩ := l01Below_is l j s 20 hl hj
    have ei : wrap64 ((i : Int) + 1) = ((i + 1 : Nat) : Int) := wsucc i 20 (by omega) (by omega)
    by_cases hb : (i : Int) < b
    · have L := ok_len hx
      obtain ⟨c, j2, s2, e2, c1, c2, c3⟩ := l01Below_is l j1 s1 (x.length : Int) hl g3
      have c2 := c2 (by omega)
      obtain ⟨q, j3, s3, e3, q1, q2, q3⟩ := l01Below_is l j2 s2 8 hl c3
      by_cases h0 : q = 0
      · obtain ⟨r, j4, s4, e, hr⟩ := ih (i + 1) (by omega) (wipeM x c).1 j3 s3 (ok_wipe hx c) (by have k := wear_wipe hx hw c; rwa [show (i : Int) + 1 = ((i + 1 : Nat) : Int) from by omega] at k) q3
        refine ⟨r, j4, s4, ev_st ?_, hr⟩
        simp only [spec_l05Flash.l0, e1, e2, e3, Option.bind_some, if_pos hb, if_pos h0, ei]
        exact Ev.bind (spec_Wipe_ev x (ok_small hx) c) e
      · have hm := rd_mem x c ⟨c1, c2⟩
        have p := blk_parts (ok_blk hx hm)
        have hn := spec_NextBlank_ev (rd_T39 x c).f0 (rd_T39 x c).f1 (rd_T39 x c).f2 (by omega)
        have hg := nb_ge (rd_T39 x c).f2 0
        by_cases h1 : q = 1
        · by_cases h4 : nb (rd_T39 x c).f2 0 < 4
          · obtain ⟨r, j4, s4, e, hr⟩ := ih (i + 1) (by omega) (x.set c.toNat ⟨(rd_T39 x c).f0, (rd_T39 x c).f1, (rd_T39 x c).f2.set (nb (rd_T39 x c).f2 0).toNat ⟨2, (⟨#[116, 111]⟩ : ByteArray)⟩⟩) j3 s3 (ok_set hx _ (blk_put (ok_blk hx hm) _ torn_ok (by decide) h4).1) (wear_set (wear_mono hw (by omega)) _ (by have k := hw _ hm; show (rd_T39 x c).f1 ≤ _; omega)) q3
            refine ⟨r, j4, s4, ev_st ?_, hr⟩
            simp only [spec_l05Flash.l0, e1, e2, e3, Option.bind_some, if_pos hb, if_neg h0, if_pos h1, ei, if_pos c1, if_pos c2]
            refine Ev.bind hn ?_
            simp only [if_pos h4]
            refine Ev.bind hn ?_
            simp only [if_pos hg, if_pos (show nb (rd_T39 x c).f2 0 < ((rd_T39 x c).f2.length : Int) from by omega)]
            exact e
          · obtain ⟨r, j4, s4, e, hr⟩ := ih (i + 1) (by omega) x j3 s3 hx (wear_mono hw (by omega)) q3
            refine ⟨r, j4, s4, ev_st ?_, hr⟩
            simp only [spec_l05Flash.l0, e1, e2, e3, Option.bind_some, if_pos hb, if_neg h0, if_pos h1, ei, if_pos c1, if_pos c2]
            refine Ev.bind hn ?_
            simp only [if_neg h4]
            exact e
        · obtain ⟨v, j4, s4, e4, v1, v2, v3⟩ := l01Below_is l j3 s3 5 hl q3
          have v2 := v2 (by omega)
          obtain ⟨t, j5, s5, e5, t1, t2⟩ := l01Text_ev l hl j4 s4 v3 (1 + v).toNat (by omega)
          obtain ⟨r, j6, s6, e, hr⟩ := ih (i + 1) (by omega) (progM x c (nb (rd_T39 x c).f2 0) t).1 j5 s5 (ok_prog hx c _ t) (wear_mono (wear_prog hw c _ t) (by omega)) t2
          refine ⟨r, j6, s6, ev_st ?_, hr⟩
          simp only [spec_l05Flash.l0, e1, e2, e3, Option.bind_some, if_pos hb, if_neg h0, if_neg h1, ei, if_pos c1, if_pos c2, e4, show wrap64 (1 + v) = (((1 + v).toNat : Nat) : Int) from by rw [w64 (by omega) (by omega)]; omega]
          exact Ev.bind hn (Ev.bind e5 (Ev.bind (spec_Program_ev x (ok_small hx) c _ t) e))
    · obtain ⟨r, j2, s2, e, hr⟩ := out x j1 s1 hx (wear_mono hw (by omega)) g3
      refine ⟨r, j2, s2, ev_st ?_, hr⟩
      simp only [spec_l05Flash.l0, e1, Option.bind_some, if_neg hb]
      exact e
theorem DrawRightFlash_ev (l : List Int) (hl : l.length ≤ 1048576) : ∃ r, Ev (fun k => spec_DrawRightFlash.f k l) r ∧ flashOk r = true ∧ wearLe r 20 := by
  obtain ⟨y, hy⟩ := l01New_ev l hl
  obtain ⟨b, j1, s1, e1, g1, g2, g3⟩ := l01Below_is l 0 y 5 hl (by omega)
  have g2 := g2 (by omega)
  have ew : wrap64 (3 + b) = (((3 + b).toNat : Nat) : Int) := by rw [w64 (by omega) (by omega)]; omega
  obtain ⟨r, j2, s2, e, hr⟩ := l05Flash_l0 l hl 20 0 (by omega) (List.replicate (3 + b).toNat ⟨false, 0, List.replicate 4 z63⟩) j1 s1 (ok_blank _ (by omega) (by omega)) (fun b hb => by rw [List.eq_of_mem_replicate hb]; exact Int.le_refl _) g3
  refine ⟨r, ?_, hr⟩
  simp only [spec_DrawRightFlash.f]
  refine Ev.bind hy ?_
  have h : Ev (fun k => spec_l05Flash.f k l 0 y) (r, j2, s2) := by
    simp only [spec_l05Flash.f, e1, Option.bind_some, ew]
    exact Ev.bind (new_ev _ (by omega) (by omega)) e
  exact Ev.bind h (Ev.now _)

theorem sameFlash_l1 (l : List S39) (hl : l.length ≤ 1048576) (i : Nat) (hi : i < l.length) (a : Bool) (b : Int) (v : List S63) (hv : v.length ≤ 1048576) (R : Ev (fun k => laws_sameFlash.l0 k ((i + 1 : Nat) : Int) l l) true) : ∀ (d j : Nat), j + d = v.length → Ev (fun k => laws_sameFlash.l1 k (i : Int) (j : Int) l l a b v a b v) true := by
  intro d
  induction d with
  | zero =>
    intro j hj
    obtain rfl : j = v.length := by omega
    refine ev_st ?_
    simp only [laws_sameFlash.l1, Int.lt_irrefl, ↓reduceIte, wsucc i l.length hi (by omega)]
    exact R
  | succ d ih =>
    intro j hj
    refine ev_st ?_
    simp only [laws_sameFlash.l1, show (j : Int) < (v.length : Int) from by omega, show (0 : Int) ≤ (j : Int) from by omega, ↓reduceIte, beq_self_eq_true, Bool.not_true, Bool.or_self, Bool.false_eq_true, wsucc j v.length (by omega) (by omega)]
    exact ih (j + 1) (by omega)
theorem sameFlash_l0 (l : List S39) (hf : SmallM l) : ∀ (d i : Nat), i + d = l.length → Ev (fun k => laws_sameFlash.l0 k (i : Int) l l) true := by
  have hl := hf.1
  intro d
  induction d with
  | zero =>
    intro i hi
    obtain rfl : i = l.length := by omega
    refine ev_st ?_
    simp only [laws_sameFlash.l0, Int.lt_irrefl, ↓reduceIte]
    exact Ev.now _
  | succ d ih =>
    intro i hi
    have hm := (hf.2 _ (rd_mem l (i : Int) (by omega))).1
    refine ev_st ?_
    simp only [laws_sameFlash.l0, show (i : Int) < (l.length : Int) from by omega, show (0 : Int) ≤ (i : Int) from by omega, ↓reduceIte, bne_self_eq_false, Bool.false_eq_true]
    refine ev_st ?_
    simp only [laws_sameFlash.j1, Bool.false_eq_true, ↓reduceIte]
    exact sameFlash_l1 l hl i (by omega) _ _ _ hm (ih (i + 1) (by omega)) (rd_T39 l (i : Int)).f2.length 0 (by omega)
theorem sameFlash_ev (l : List S39) (hf : SmallM l) : Ev (fun k => laws_sameFlash.f k l l) true := by
  simp only [laws_sameFlash.f, ↓reduceIte]
  exact sameFlash_l0 l hf l.length 0 (by omega)
theorem rd_set_self (l : List S39) (b : Nat) (x : S39) (h : b < l.length) : rd_T39 (l.set b x) (b : Int) = x := by
  rw [rd_MB _ _ (by rw [List.length_set]; exact h), List.getElem_set_self]
theorem rd_set_ne (l : List S39) (b i : Nat) (x : S39) (h : i < l.length) (hn : b ≠ i) : rd_T39 (l.set b x) (i : Int) = rd_T39 l (i : Int) := by
  rw [rd_MB _ _ (by rw [List.length_set]; exact h), rd_MB _ _ h, List.getElem_set_ne hn]
theorem rdl_set_self (l : List S63) (b : Nat) (x : S63) (h : b < l.length) : rd_T63 (l.set b x) (b : Int) = x := by
  rw [rd_ML _ _ (by rw [List.length_set]; exact h), List.getElem_set_self]
theorem rdl_set_ne (l : List S63) (b i : Nat) (x : S63) (h : i < l.length) (hn : b ≠ i) : rd_T63 (l.set b x) (i : Int) = rd_T63 l (i : Int) := by
  rw [rd_ML _ _ (by rw [List.length_set]; exact h), rd_ML _ _ h, List.getElem_set_ne hn]

theorem set_back (l : List S39) (b : Nat) (x : S39) (h : b < l.length) : (l.set b x).set b ⟨(rd_T39 l (b : Int)).f0, (rd_T39 l (b : Int)).f1, (rd_T39 l (b : Int)).f2⟩ = l := by
  rw [List.set_set, rd_MB l b h]
  exact List.set_getElem_self h
theorem nb_blank : nb (List.replicate 4 z63) 0 = 0 := by
  simp only [List.replicate, nb, show z63.f0 = 0 from rfl, ↓reduceIte]
  rfl
theorem FnWipes : laws_FnWipes.Pure := by
  intro c _ _ _
  refine Ev.rounds ?_
  simp only [laws_FnWipes.f, laws_big.f, Option.bind_some]
  by_cases hb : (c.length : Int) > 1048576
  · simp only [hb, decide_true, ↓reduceIte]; exact Ev.now _
  · simp only [hb, decide_false, Bool.false_eq_true, ↓reduceIte]
    obtain ⟨f, hf, ok, wr⟩ := DrawRightFlash_ev c (by omega)
    obtain ⟨p, q1, q2, q3⟩ := DrawPlaces_ev c (by omega)
    refine Ev.bind hf (Ev.bind q1 ?_)
    have h0 := place_at p q2 q3 0 (by omega)
    simp only [Int.natCast_zero] at h0
    have L := ok_len ok
    have S := ok_small ok
    have m0 := tmod_range (rd p 0) (f.length : Int) h0.1 (by omega)
    generalize Int.tmod (rd p 0) (f.length : Int) = b at m0 ⊢
    have hm := rd_mem f b m0
    have B := blk_parts (ok_blk ok hm)
    have hw := wr _ hm
    obtain ⟨bn, rfl⟩ := Int.eq_ofNat_of_zero_le m0.1
    have hbn : bn < f.length := by omega
    simp only [q2, show (0 : Int) < ((12 : Nat) : Int) from by omega, show ¬ ((f.length : Int) = 0) from by omega, ↓reduceIte, m0.1, m0.2]
    refine Ev.bind (impl_Wipe_ev f S (bn : Int)) (Ev.bind (impl_MarkBad_ev f S (bn : Int)) ?_)
    have okm := ok_mark ok (bn : Int)
    have em : markBadM f (bn : Int) = f.set bn ⟨true, (rd_T39 f (bn : Int)).f1, (rd_T39 f (bn : Int)).f2⟩ := by
      unfold markBadM
      rw [if_pos m0, Int.toNat_natCast]
    rw [em] at okm ⊢
    have rm := rd_set_self f bn ⟨true, (rd_T39 f (bn : Int)).f1, (rd_T39 f (bn : Int)).f2⟩ hbn
    have lm : (f.set bn ⟨true, (rd_T39 f (bn : Int)).f1, (rd_T39 f (bn : Int)).f2⟩).length = f.length := List.length_set
    generalize f.set bn ⟨true, (rd_T39 f (bn : Int)).f1, (rd_T39 f (bn : Int)).f2⟩ = m at okm rm lm ⊢
    have Sm := ok_small okm
    have w1 := impl_Wipe_ev m Sm (bn : Int)
    rw [wipeM_no (fun k => by rw [rm] at k; exact Bool.noConfusion k.2.2.1)] at w1
    refine Ev.bind w1 ?_
    simp only [lm, m0.2, ↓reduceIte]
    refine Ev.bind (impl_NextBlank_ev _ _ _ (by rw [rm]; show (rd_T39 f (bn : Int)).f2.length ≤ 1048576; omega)) ?_
    generalize hT : (⟨#[120]⟩ : ByteArray) = t
    have w2 := impl_Program_ev m Sm (bn : Int) (nb (rd_T39 m (bn : Int)).f2 0) t
    rw [progM_no (fun k => by rw [rm] at k; exact Bool.noConfusion k.2.2.1)] at w2
    refine Ev.bind w2 ?_
    simp only [Bool.false_eq_true, ↓reduceIte]
    have okn := ok_wipe ok (bn : Int)
    have Sn := ok_small okn
    cases hz : (rd_T39 f (bn : Int)).f0 with
    | true =>
      rw [wipeM_no (fun k => by rw [hz] at k; exact absurd k.2.2.1 (by decide))]
      simp only [show (false == true) = false from rfl, Bool.false_eq_true, ↓reduceIte]
      refine Ev.bind (impl_FlashOk_ev f S.1 (fun b hb => (S.2 b hb).1)) ?_
      refine ev_st ?_
      simp only [laws_FnWipes.j0, ok, Bool.not_true, Bool.false_eq_true, ↓reduceIte]
      exact Ev.bind (sameFlash_ev f S) (Ev.now _)
    | false =>
      have yes := wipeM_yes (l := f) (b := (bn : Int)) ⟨ok, m0, hz, by omega⟩
      rw [yes] at okn Sn ⊢
      rw [Int.toNat_natCast] at okn Sn ⊢
      have rn := rd_set_self f bn ⟨false, wrap64 ((rd_T39 f (bn : Int)).f1 + 1), List.replicate 4 z63⟩ hbn
      have ln : (f.set bn ⟨false, wrap64 ((rd_T39 f (bn : Int)).f1 + 1), List.replicate 4 z63⟩).length = f.length := List.length_set
      have bk := set_back f bn ⟨false, wrap64 ((rd_T39 f (bn : Int)).f1 + 1), List.replicate 4 z63⟩ hbn
      dsimp only at okn Sn ⊢
      generalize f.set bn ⟨false, wrap64 ((rd_T39 f (bn : Int)).f1 + 1), List.replicate 4 z63⟩ = n at okn Sn rn ln bk ⊢
      have r1 : readLeafOf f (bn : Int) 4 = ((⟨#[]⟩ : ByteArray), false) := by
        unfold readLeafOf
        rw [if_pos (by omega), if_neg (by omega)]
      simp only [show (true == false) = false from rfl, Bool.false_eq_true, ↓reduceIte]
      refine Ev.bind (impl_FlashOk_ev n Sn.1 (fun b hb => (Sn.2 b hb).1)) ?_
      refine ev_st ?_
      simp only [laws_FnWipes.j0, okn, Bool.not_true, Bool.false_eq_true, ↓reduceIte, ln, m0.1, m0.2, impl_ReadLeaf_eq f S, r1, Option.bind_some]
      have g1 : (rd_T39 n (bn : Int)).f1 = wrap64 ((rd_T39 f (bn : Int)).f1 + 1) := by rw [rn]
      have g2 : nb (rd_T39 n (bn : Int)).f2 0 = 0 := by rw [rn]; exact nb_blank
      simp only [g1, ↓reduceIte]
      refine Ev.bind (impl_NextBlank_ev _ _ _ (by rw [rn]; show (List.replicate 4 z63).length ≤ _; rw [List.length_replicate]; omega)) ?_
      simp only [g2, ↓reduceIte, Int.toNat_natCast, bk]
      refine Ev.bind (sameFlash_ev f S) ?_
      exact Ev.now _

end Go.Proofs.Ytbafmoggckeaeaa.Pure
