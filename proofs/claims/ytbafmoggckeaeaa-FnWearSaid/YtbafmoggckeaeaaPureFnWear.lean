/- What is proved here: the law FnWear, told as a plain function over numbers and lists, answers true at all arguments. Conditions: those of the row alone, none of ours. -/
import Derived.Test.YtbafmoggckeaeaaQFnWearx7
import Derived.Test.YtbafmoggckeaeaaKit
namespace Go.Proofs.Ytbafmoggckeaeaa.Pure
open Go.RowKit Go.Proofs.Ytbafmoggckeaeaa.QFnWear Go.Proofs.YtbafmoggckeaeaaW.PrintWords Go.Proofs.YtbafmoggckeaeaaW.PrintLast Go.Proofs.Ytbafmoggckeaeaa.Kit Go.Proofs.YtbafmoggckeaeaaW.PrintMore
set_option linter.unusedSimpArgs false
set_option linter.unusedVariables false

theorem rd_ML (xs : List S63) (i : Nat) (h : i < xs.length) : rd_T63 xs (i : Int) = xs[i] := by
  unfold rd_T63; rw [Int.toNat_natCast, List.getD_eq_getElem?_getD, List.getElem?_eq_getElem h]; rfl
theorem rd_MB (xs : List S39) (i : Nat) (h : i < xs.length) : rd_T39 xs (i : Int) = xs[i] := by
  unfold rd_T39; rw [Int.toNat_natCast, List.getD_eq_getElem?_getD, List.getElem?_eq_getElem h]; rfl
theorem drop_at {α : Type} (xs : List α) (i : Nat) (h : i < xs.length) : xs.drop i = xs[i] :: xs.drop (i + 1) := List.drop_eq_getElem_cons h
theorem drop_len {α : Type} (xs : List α) : xs.drop xs.length = [] := List.drop_eq_nil_of_le (Nat.le_refl _)
theorem wsucc (i n : Nat) (h : i < n) (hn : n ≤ 9223372036854775807) : wrap64 ((i : Int) + 1) = ((i + 1 : Nat) : Int) := by rw [w64 (by omega) (by omega)]; omega

theorem spec_l01In_eq (a b c : Int) : spec_l01In.f a b c = some (decide (b ≤ a ∧ a ≤ c)) := by
  unfold spec_l01In.f
  by_cases h : b ≤ a <;> simp [h, GE.ge]

theorem impl_in_eq (a b c : Int) : impl_in.f a b c = some (decide (b ≤ a ∧ a ≤ c)) := by
  unfold impl_in.f
  by_cases h : b ≤ a <;> simp [h, GE.ge]

/-! a flash is right -/
def leafOkB (x : S63) : Bool := if x.f0 = 0 then (x.f1.toList == ([] : List UInt8)) else if x.f0 = 1 then decide (1 ≤ (x.f1.size : Int) ∧ (x.f1.size : Int) ≤ 120) else if x.f0 = 2 then decide ((x.f1.size : Int) ≤ 120) else false
def lvs : Bool → List S63 → Bool
  | _, [] => true
  | pb, x :: t => if leafOkB x = true then (if pb = true ∧ ¬ x.f0 = 0 then false else lvs (decide (x.f0 = 0)) t) else false
def blkOk (b : S39) : Bool := decide ((b.f2.length : Int) = 4 ∧ (0 ≤ b.f1 ∧ b.f1 ≤ 1000000000)) && lvs false b.f2
def flashOk (l : List S39) : Bool := l.all blkOk && decide (3 ≤ (l.length : Int) ∧ (l.length : Int) ≤ 10)
/-- Is there a leaf ahead of place j, and is it blank? -/
def before (l : List S63) (j : Nat) : Bool := decide (0 < j ∧ (rd_T63 l ((j - 1 : Nat) : Int)).f0 = 0)
theorem before_succ (l : List S63) (j : Nat) (h : j < l.length) : before l (j + 1) = decide (l[j].f0 = 0) := by
  unfold before
  rw [Nat.add_sub_cancel, rd_ML l j h]
  simp

theorem spec_l05Leaf_eq (x : S63) : spec_l05Leaf.f x.f0 x.f1 = some (leafOkB x) := by
  unfold spec_l05Leaf.f leafOkB
  simp only [spec_l01In_eq, Option.bind_some]
  split
  · rfl
  · split
    · rfl
    · split <;> rfl
theorem spec_FlashOk_l1 (l : List S39) (i : Nat) (hi : i < l.length) (hl : l.length ≤ 1048576) (a : Bool) (b : Int) (v : List S63) (hv : v.length ≤ 1048576) (r : Bool) : ∀ (d j : Nat), j + d = v.length →
    (lvs (before v j) (v.drop j) = true → Ev (fun k => spec_FlashOk.l0 k ((i + 1 : Nat) : Int) l) r) → (lvs (before v j) (v.drop j) = false → r = false) → Ev (fun k => spec_FlashOk.l1 k (i : Int) (j : Int) l a b v) r := by
  intro d
  induction d with
  | zero =>
    intro j hj h1 _
    obtain rfl : j = v.length := by omega
    rw [drop_len] at h1
    refine ev_st ?_
    simp only [spec_FlashOk.l1, show ¬ ((v.length : Int) < (v.length : Int)) from by omega, ↓reduceIte, wsucc i l.length hi (by omega)]
    exact h1 rfl
  | succ d ih =>
    intro j hj h1 h2
    have hlt : j < v.length := by omega
    have f1 : (j : Int) < (v.length : Int) := by omega
    have f2 : (0 : Int) ≤ (j : Int) := by omega
    have f3 := wsucc j v.length hlt (by omega)
    have f4 : j + 1 + d = v.length := by omega
    have fp : 0 < j → (j : Int) > 0 ∧ wrap64 ((j : Int) - 1) = ((j - 1 : Nat) : Int) ∧ (0 : Int) ≤ ((j - 1 : Nat) : Int) ∧ ((j - 1 : Nat) : Int) < (v.length : Int) := by
      intro h
      refine ⟨by omega, ?_, by omega, by omega⟩
      rw [w64 (by omega) (by omega)]; omega
    have fn : ¬ 0 < j → ¬ ((j : Int) > 0) := by omega
    rw [drop_at v j hlt, lvs] at h1 h2
    have g := ih (j + 1) f4
    rw [before_succ v j hlt] at g
    refine ev_st ?_
    simp only [spec_FlashOk.l1, f1, f2, ↓reduceIte, rd_ML v j hlt, spec_l05Leaf_eq, Option.bind_some, f3]
    by_cases hL : leafOkB v[j] = true
    · simp only [hL, ↓reduceIte] at h1 h2 ⊢
      by_cases hp : 0 < j
      · obtain ⟨p1, p2, p3, p4⟩ := fp hp
        simp only [p1, p2, p3, p4, ↓reduceIte]
        by_cases hz : (rd_T63 v ((j - 1 : Nat) : Int)).f0 = 0
        · have hb : before v j = true := by unfold before; rw [decide_eq_true_eq]; exact ⟨hp, hz⟩
          by_cases hx : v[j].f0 = 0
          · simp only [hb, hx, not_true_eq_false, and_false, ↓reduceIte, hz] at h1 h2 g ⊢
            exact g h1 h2
          · simp only [hb, hx, not_false_eq_true, and_self, ↓reduceIte, hz] at h1 h2 ⊢
            rw [h2 trivial]
            exact Ev.now _
        · have hb : before v j = false := by unfold before; rw [decide_eq_false_iff_not]; exact fun q => hz q.2
          simp only [hb, Bool.false_eq_true, false_and, ↓reduceIte, hz] at h1 h2 ⊢
          exact g h1 h2
      · have hb : before v j = false := by unfold before; rw [decide_eq_false_iff_not]; exact fun q => hp q.1
        simp only [fn hp, hb, Bool.false_eq_true, false_and, ↓reduceIte] at h1 h2 ⊢
        exact g h1 h2
    · simp only [hL, ↓reduceIte, Bool.false_eq_true] at h2 ⊢
      rw [h2 trivial]
      exact Ev.now _
theorem spec_FlashOk_l0 (l : List S39) (hl : l.length ≤ 1048576) (hs : ∀ b ∈ l, b.f2.length ≤ 1048576) : ∀ (d i : Nat), i + d = l.length → Ev (fun k => spec_FlashOk.l0 k (i : Int) l) ((l.drop i).all blkOk && decide (3 ≤ (l.length : Int) ∧ (l.length : Int) ≤ 10)) := by
  intro d
  induction d with
  | zero =>
    intro i hi
    obtain rfl : i = l.length := by omega
    refine ev_st ?_
    simp only [spec_FlashOk.l0, show ¬ ((l.length : Int) < (l.length : Int)) from by omega, ↓reduceIte, drop_len, spec_l01In_eq, Option.bind_some, List.all_nil, Bool.true_and]
    exact Ev.now _
  | succ d ih =>
    intro i hi
    have hlt : i < l.length := by omega
    have f1 : (i : Int) < (l.length : Int) := by omega
    have f2 : (0 : Int) ≤ (i : Int) := by omega
    have g := ih (i + 1) (by omega)
    have hb := hs l[i] (List.getElem_mem hlt)
    rw [drop_at l i hlt, List.all_cons]
    refine ev_st ?_
    simp only [spec_FlashOk.l0, f1, f2, ↓reduceIte, rd_MB l i hlt, spec_l01In_eq, Option.bind_some]
    by_cases h1 : (l[i].f2.length : Int) = 4
    · by_cases h2 : 0 ≤ l[i].f1 ∧ l[i].f1 ≤ 1000000000
      · simp only [h1, h2, and_self, decide_true, Bool.not_true, ↓reduceIte]
        refine ev_st ?_
        simp only [spec_FlashOk.j1, Bool.false_eq_true, ↓reduceIte]
        have e : blkOk l[i] = lvs false l[i].f2 := by unfold blkOk; rw [decide_eq_true (show (l[i].f2.length : Int) = 4 ∧ (0 ≤ l[i].f1 ∧ l[i].f1 ≤ 1000000000) from ⟨h1, h2⟩), Bool.true_and]
        rw [e]
        refine spec_FlashOk_l1 l i hlt hl _ _ l[i].f2 hb _ l[i].f2.length 0 (by omega) ?_ ?_
        · intro q
          rw [List.drop_zero] at q
          have q : lvs false l[i].f2 = true := q
          rw [q, Bool.true_and]
          exact g
        · intro q
          rw [List.drop_zero] at q
          have q : lvs false l[i].f2 = false := q
          rw [q, Bool.false_and, Bool.false_and]
      · have e : blkOk l[i] = false := by unfold blkOk; rw [decide_eq_false (fun q => h2 q.2), Bool.false_and]
        simp only [h1, h2, decide_false, Bool.not_false, ↓reduceIte]
        refine ev_st ?_
        simp only [spec_FlashOk.j1, ↓reduceIte, e, Bool.false_and]
        exact Ev.now _
    · have e : blkOk l[i] = false := by unfold blkOk; rw [decide_eq_false (fun q => h1 q.1), Bool.false_and]
      simp only [h1, ↓reduceIte]
      refine ev_st ?_
      simp only [spec_FlashOk.j1, ↓reduceIte, e, Bool.false_and]
      exact Ev.now _
theorem spec_FlashOk_ev (l : List S39) (hl : l.length ≤ 1048576) (hs : ∀ b ∈ l, b.f2.length ≤ 1048576) : Ev (fun k => spec_FlashOk.f k l) (flashOk l) := spec_FlashOk_l0 l hl hs l.length 0 (by omega)

theorem impl_leafOk_eq (x : S63) : impl_leafOk.f x.f0 x.f1 = some (leafOkB x) := by
  unfold impl_leafOk.f leafOkB
  simp only [impl_in_eq, Option.bind_some]
  split
  · rfl
  · split
    · rfl
    · split <;> rfl
theorem impl_FlashOk_l1 (l : List S39) (i : Nat) (hi : i < l.length) (hl : l.length ≤ 1048576) (a : Bool) (b : Int) (v : List S63) (hv : v.length ≤ 1048576) (r : Bool) : ∀ (d j : Nat), j + d = v.length →
    (lvs (before v j) (v.drop j) = true → Ev (fun k => impl_FlashOk.l0 k l (l.length : Int) ((i + 1 : Nat) : Int) l) r) → (lvs (before v j) (v.drop j) = false → r = false) → Ev (fun k => impl_FlashOk.l1 k l (l.length : Int) (i : Int) v (v.length : Int) (j : Int) l a b v) r := by
  intro d
  induction d with
  | zero =>
    intro j hj h1 _
    obtain rfl : j = v.length := by omega
    rw [drop_len] at h1
    refine ev_st ?_
    simp only [impl_FlashOk.l1, show ¬ ((v.length : Int) < (v.length : Int)) from by omega, ↓reduceIte, wsucc i l.length hi (by omega)]
    exact h1 rfl
  | succ d ih =>
    intro j hj h1 h2
    have hlt : j < v.length := by omega
    have f1 : (j : Int) < (v.length : Int) := by omega
    have f2 : (0 : Int) ≤ (j : Int) := by omega
    have f3 := wsucc j v.length hlt (by omega)
    have f4 : j + 1 + d = v.length := by omega
    have fp : 0 < j → (j : Int) > 0 ∧ wrap64 ((j : Int) - 1) = ((j - 1 : Nat) : Int) ∧ (0 : Int) ≤ ((j - 1 : Nat) : Int) ∧ ((j - 1 : Nat) : Int) < (v.length : Int) := by
      intro h
      refine ⟨by omega, ?_, by omega, by omega⟩
      rw [w64 (by omega) (by omega)]; omega
    have fn : ¬ 0 < j → ¬ ((j : Int) > 0) := by omega
    rw [drop_at v j hlt, lvs] at h1 h2
    have g := ih (j + 1) f4
    rw [before_succ v j hlt] at g
    refine ev_st ?_
    simp only [impl_FlashOk.l1, f1, f2, ↓reduceIte, rd_ML v j hlt, impl_leafOk_eq, Option.bind_some, f3]
    by_cases hL : leafOkB v[j] = true
    · simp only [hL, ↓reduceIte] at h1 h2 ⊢
      by_cases hp : 0 < j
      · obtain ⟨p1, p2, p3, p4⟩ := fp hp
        simp only [p1, p2, p3, p4, ↓reduceIte]
        by_cases hz : (rd_T63 v ((j - 1 : Nat) : Int)).f0 = 0
        · have hb : before v j = true := by unfold before; rw [decide_eq_true_eq]; exact ⟨hp, hz⟩
          by_cases hx : v[j].f0 = 0
          · simp only [hb, hx, not_true_eq_false, and_false, ↓reduceIte, hz] at h1 h2 g ⊢
            exact g h1 h2
          · simp only [hb, hx, not_false_eq_true, and_self, ↓reduceIte, hz] at h1 h2 ⊢
            rw [h2 trivial]
            exact Ev.now _
        · have hb : before v j = false := by unfold before; rw [decide_eq_false_iff_not]; exact fun q => hz q.2
          simp only [hb, Bool.false_eq_true, false_and, ↓reduceIte, hz] at h1 h2 ⊢
          exact g h1 h2
      · have hb : before v j = false := by unfold before; rw [decide_eq_false_iff_not]; exact fun q => hp q.1
        simp only [fn hp, hb, Bool.false_eq_true, false_and, ↓reduceIte] at h1 h2 ⊢
        exact g h1 h2
    · simp only [hL, ↓reduceIte, Bool.false_eq_true] at h2 ⊢
      rw [h2 trivial]
      exact Ev.now _
theorem impl_FlashOk_l0 (l : List S39) (hl : l.length ≤ 1048576) (hs : ∀ b ∈ l, b.f2.length ≤ 1048576) : ∀ (d i : Nat), i + d = l.length → Ev (fun k => impl_FlashOk.l0 k l (l.length : Int) (i : Int) l) ((l.drop i).all blkOk && decide (3 ≤ (l.length : Int) ∧ (l.length : Int) ≤ 10)) := by
  intro d
  induction d with
  | zero =>
    intro i hi
    obtain rfl : i = l.length := by omega
    refine ev_st ?_
    simp only [impl_FlashOk.l0, show ¬ ((l.length : Int) < (l.length : Int)) from by omega, ↓reduceIte, drop_len, impl_in_eq, Option.bind_some, List.all_nil, Bool.true_and]
    exact Ev.now _
  | succ d ih =>
    intro i hi
    have hlt : i < l.length := by omega
    have f1 : (i : Int) < (l.length : Int) := by omega
    have f2 : (0 : Int) ≤ (i : Int) := by omega
    have g := ih (i + 1) (by omega)
    have hb := hs l[i] (List.getElem_mem hlt)
    rw [drop_at l i hlt, List.all_cons]
    refine ev_st ?_
    simp only [impl_FlashOk.l0, f1, f2, ↓reduceIte, rd_MB l i hlt, impl_in_eq, Option.bind_some]
    by_cases h1 : (l[i].f2.length : Int) = 4
    · by_cases h2 : 0 ≤ l[i].f1 ∧ l[i].f1 ≤ 1000000000
      · simp only [h1, h2, and_self, decide_true, Bool.not_true, ↓reduceIte]
        refine ev_st ?_
        simp only [impl_FlashOk.j1, Bool.false_eq_true, ↓reduceIte]
        have e : blkOk l[i] = lvs false l[i].f2 := by unfold blkOk; rw [decide_eq_true (show (l[i].f2.length : Int) = 4 ∧ (0 ≤ l[i].f1 ∧ l[i].f1 ≤ 1000000000) from ⟨h1, h2⟩), Bool.true_and]
        rw [e]
        refine impl_FlashOk_l1 l i hlt hl _ _ l[i].f2 hb _ l[i].f2.length 0 (by omega) ?_ ?_
        · intro q
          rw [List.drop_zero] at q
          have q : lvs false l[i].f2 = true := q
          rw [q, Bool.true_and]
          exact g
        · intro q
          rw [List.drop_zero] at q
          have q : lvs false l[i].f2 = false := q
          rw [q, Bool.false_and, Bool.false_and]
      · have e : blkOk l[i] = false := by unfold blkOk; rw [decide_eq_false (fun q => h2 q.2), Bool.false_and]
        simp only [h1, h2, decide_false, Bool.not_false, ↓reduceIte]
        refine ev_st ?_
        simp only [impl_FlashOk.j1, ↓reduceIte, e, Bool.false_and]
        exact Ev.now _
    · have e : blkOk l[i] = false := by unfold blkOk; rw [decide_eq_false (fun q => h1 q.1), Bool.false_and]
      simp only [h1, ↓reduceIte]
      refine ev_st ?_
      simp only [impl_FlashOk.j1, ↓reduceIte, e, Bool.false_and]
      exact Ev.now _
theorem impl_FlashOk_ev (l : List S39) (hl : l.length ≤ 1048576) (hs : ∀ b ∈ l, b.f2.length ≤ 1048576) : Ev (fun k => impl_FlashOk.f k l) (flashOk l) := impl_FlashOk_l0 l hl hs l.length 0 (by omega)

/-! a flash of blank blocks, by its wear -/
def Bl : List S63 := List.replicate 4 z63
def blkW (x : Int) : S39 := ⟨false, x, Bl⟩
def F (w : List Int) : List S39 := w.map blkW
theorem F_len (w : List Int) : (F w).length = w.length := List.length_map ..
theorem F_at (w : List Int) (i : Nat) (h : i < (F w).length) : (F w)[i] = blkW (w[i]'(by rw [F_len] at h; exact h)) := List.getElem_map ..
theorem F_rd (w : List Int) (i : Nat) (h : i < w.length) : rd_T39 (F w) (i : Int) = blkW w[i] := by rw [rd_MB (F w) i (by rw [F_len]; exact h), F_at]
theorem copy_l0 (l : List S39) (hl : l.length ≤ 1000) (hs : ∀ b ∈ l, b.f2.length ≤ 1000) : ∀ (d i : Nat), i + d = l.length → ∀ acc : List S39, acc.length + d ≤ 1000 → Ev (fun k => spec_l05Copy.l0 k (i : Int) l acc) (acc ++ l.drop i) := by
  intro d
  induction d with
  | zero =>
    intro i hi acc ha
    obtain rfl : i = l.length := by omega
    refine ev_st ?_
    rw [drop_len, List.append_nil]
    simp only [spec_l05Copy.l0, Int.lt_irrefl, ↓reduceIte]
    exact Ev.now _
  | succ d ih =>
    intro i hi acc ha
    have hlt : i < l.length := by omega
    have c1 : (i : Int) < (l.length : Int) := by omega
    have c2 : (0 : Int) ≤ (i : Int) := by omega
    have hb := hs l[i] (List.getElem_mem hlt)
    have c3 : ([] : List S63).length + l[i].f2.length < 5864062014805 := by simp; omega
    have c4 : acc.length < 3518437208883 := by omega
    have g := ih (i + 1) (by omega) (acc ++ [l[i]]) (by simp; omega)
    refine ev_st ?_
    simp only [spec_l05Copy.l0, c1, c2, ↓reduceIte, rd_MB l i hlt, Option.bind_some, c3, c4, wsucc i l.length hlt (by omega), List.nil_append]
    rw [drop_at l i hlt]
    rw [List.append_assoc] at g
    exact g
theorem copy_ev (l : List S39) (hl : l.length ≤ 1000) (hs : ∀ b ∈ l, b.f2.length ≤ 1000) : Ev (fun k => spec_l05Copy.f k l) l := by
  simp only [spec_l05Copy.f]
  exact copy_l0 l hl hs l.length 0 (by omega) [] (by simp; omega)
theorem F_leaves (w : List Int) : ∀ b ∈ F w, b.f2 = Bl := by
  intro b hb
  obtain ⟨x, _, rfl⟩ := List.mem_map.1 hb
  rfl
theorem Bl_len : Bl.length = 4 := rfl
theorem lvs_Bl : lvs false Bl = true := by
  have h0 : z63.f0 = 0 := rfl
  have hz : leafOkB z63 = true := by
    unfold leafOkB
    rw [if_pos h0, ByteArray.toList_eq]
    rfl
  simp [Bl, List.replicate, lvs, hz, h0]
theorem F_ok (w : List Int) (hw : w.length = 5) (hr : ∀ x ∈ w, 0 ≤ x ∧ x ≤ 1000000) : flashOk (F w) = true := by
  unfold flashOk
  rw [Bool.and_eq_true, List.all_eq_true]
  refine ⟨fun b hb => ?_, by rw [F_len, hw]; decide⟩
  obtain ⟨x, hx, rfl⟩ := List.mem_map.1 hb
  have := hr x hx
  unfold blkOk blkW
  rw [Bool.and_eq_true]
  have h1 : x ≤ 1000000000 := by omega
  exact ⟨decide_eq_true ⟨rfl, this.1, h1⟩, lvs_Bl⟩
theorem wipe_ev (w : List Int) (hw : w.length = 5) (hr : ∀ x ∈ w, 0 ≤ x ∧ x ≤ 1000) (b : Nat) (hb : b < 5) : Ev (fun k => spec_Wipe.f k (F w) (b : Int)) (F (w.set b (w[b] + 1)), true) := by
  have hl : (F w).length = 5 := by rw [F_len, hw]
  have hs : ∀ x ∈ F w, x.f2.length ≤ 1000 := fun x hx => by rw [F_leaves w x hx, Bl_len]; omega
  simp only [spec_Wipe.f]
  refine Ev.bind (copy_ev (F w) (by omega) hs) ?_
  have k := spec_FlashOk_ev (F w) (by omega) (fun x hx => by have := hs x hx; omega)
  rw [F_ok w hw (fun x hx => by have := hr x hx; omega)] at k
  refine Ev.bind k ?_
  have e1 : wrap64 (((F w).length : Int) - 1) = 4 := by rw [hl, w64 (by omega) (by omega)]; rfl
  have e2 : spec_l01In.f (b : Int) 0 4 = some true := by rw [spec_l01In_eq, decide_eq_true ⟨by omega, by omega⟩]
  have c1 : (0 : Int) ≤ (b : Int) := by omega
  have c2 : (b : Int) < ((F w).length : Int) := by omega
  have wb := hr (w[b]'(by omega)) (List.getElem_mem _)
  have c3 : ¬ (w[b]'(by omega) = 1000000000) := by omega
  have e3 : wrap64 (w[b]'(by omega) + 1) = w[b]'(by omega) + 1 := w64 (by omega) (by omega)
  simp only [↓reduceIte, e1, e2, Option.bind_some, c1, c2, F_rd w b (by omega), blkW, Bool.false_eq_true, c3, show (4 : Int) ≤ 11728124029610 from by omega, show (4 : Nat) ≤ 11728124029610 from by omega, e3, Int.toNat_natCast]
  have e4 : F (w.set b (w[b]'(by omega) + 1)) = (F w).set b ⟨false, w[b]'(by omega) + 1, List.replicate 4 z63⟩ := by unfold F; rw [List.map_set]; rfl
  rw [e4]
  exact Ev.now _

def SmallM (l : List S39) : Prop := l.length ≤ 1048576 ∧ ∀ b ∈ l, b.f2.length ≤ 1048576 ∧ ∀ x ∈ b.f2, x.f1.size ≤ 1048576

/-- How many leaves are blank. -/
def nblank : List S63 → Int
  | [] => 0
  | x :: t => (if x.f0 = 0 then 1 else 0) + nblank t
theorem nblank_range : ∀ l : List S63, 0 ≤ nblank l ∧ nblank l ≤ l.length
  | [] => by simp [nblank]
  | x :: t => by
    have := nblank_range t
    simp only [nblank, List.length_cons]
    split <;> omega
theorem impl_blanks_l0 (l : List S63) (hl : l.length ≤ 1048576) : ∀ (d i : Nat), i + d = l.length → ∀ n : Int, 0 ≤ n → n ≤ i → Ev (fun k => impl_blanks.l0 k n l (l.length : Int) (i : Int)) (n + nblank (l.drop i)) := by
  intro d
  induction d with
  | zero =>
    intro i hi n h0 h1
    obtain rfl : i = l.length := by omega
    refine ev_st ?_
    simp only [impl_blanks.l0, show ¬ ((l.length : Int) < (l.length : Int)) from by omega, ↓reduceIte, drop_len, nblank, Int.add_zero]
    exact Ev.now _
  | succ d ih =>
    intro i hi n h0 h1
    have hlt : i < l.length := by omega
    have e : wrap64 (n + 1) = n + 1 := w64 (by omega) (by omega)
    refine ev_st ?_
    simp only [impl_blanks.l0, show (i : Int) < (l.length : Int) from by omega, show (0 : Int) ≤ (i : Int) from by omega, ↓reduceIte, rd_ML l i hlt, wsucc i l.length hlt (by omega), e]
    rw [drop_at l i hlt, nblank]
    by_cases h : l[i].f0 = 0
    · simp only [h, ↓reduceIte]
      have g := ih (i + 1) (by omega) (n + 1) (by omega) (by omega)
      rw [Int.add_assoc] at g
      exact g
    · simp only [h, ↓reduceIte, Int.zero_add]
      exact ih (i + 1) (by omega) n h0 (by omega)
theorem impl_blanks_ev (a : Bool) (b : Int) (l : List S63) (hl : l.length ≤ 1048576) : Ev (fun k => impl_blanks.f k a b l) (nblank l) := by
  have g := impl_blanks_l0 l hl l.length 0 (by omega) 0 (by omega) (by omega)
  rw [List.drop_zero, Int.zero_add] at g
  exact g

def openB : List S39 → Nat → Int
  | [], _ => -1
  | b :: t, i => if b.f0 = true then openB t (i + 1) else if nblank b.f2 > 0 ∧ nblank b.f2 < (b.f2.length : Int) then (i : Int) else openB t (i + 1)

theorem impl_OpenBlock_l0 (l : List S39) (hf : SmallM l) : ∀ (d i : Nat), i + d = l.length → Ev (fun k => impl_OpenBlock.l0 k l (l.length : Int) (i : Int)) (openB (l.drop i) i) := by
  obtain ⟨hl, hs⟩ := hf
  intro d
  induction d with
  | zero =>
    intro i hi
    obtain rfl : i = l.length := by omega
    refine ev_st ?_
    simp only [impl_OpenBlock.l0, show ¬ ((l.length : Int) < (l.length : Int)) from by omega, ↓reduceIte, drop_len, openB]
    exact Ev.now _
  | succ d ih =>
    intro i hi
    have hlt : i < l.length := by omega
    have hb := (hs l[i] (List.getElem_mem hlt)).1
    refine ev_st ?_
    simp only [impl_OpenBlock.l0, show (i : Int) < (l.length : Int) from by omega, show (0 : Int) ≤ (i : Int) from by omega, ↓reduceIte, rd_MB l i hlt, wsucc i l.length hlt (by omega)]
    rw [drop_at l i hlt, openB]
    refine Ev.bind (impl_blanks_ev _ _ _ hb) ?_
    by_cases h : l[i].f0 = true
    · simp only [h, ↓reduceIte]
      exact ih (i + 1) (by omega)
    · by_cases h1 : nblank l[i].f2 > 0
      · by_cases h2 : nblank l[i].f2 < (l[i].f2.length : Int)
        · simp only [h, h1, h2, ↓reduceIte, Bool.false_eq_true, and_self]
          exact Ev.now _
        · simp only [h, h1, h2, ↓reduceIte, Bool.false_eq_true, and_false]
          exact ih (i + 1) (by omega)
      · simp only [h, h1, ↓reduceIte, Bool.false_eq_true, false_and]
        exact ih (i + 1) (by omega)
theorem impl_OpenBlock_ev (l : List S39) (hf : SmallM l) : Ev (fun k => impl_OpenBlock.f k l) (openB l 0) := impl_OpenBlock_l0 l hf l.length 0 (by omega)

/-! what is drawn -/
theorem bits_and255 (x : Int) : 0 ≤ Go.bits .and .i64 x 255 ∧ Go.bits .and .i64 x 255 ≤ 255 := by
  have h : (BitVec.ofInt IntKind.i64.bits x &&& BitVec.ofInt IntKind.i64.bits 255).toNat ≤ 255 := by
    rw [BitVec.toNat_and]
    exact Nat.le_trans Nat.and_le_right (by decide)
  simp only [Go.bits, IntKind.wrap_i64]
  omega
theorem l01Byte_is (l : List Int) (i s : Int) (hl : l.length ≤ 1048576) (hi : 0 ≤ i) : ∃ b j t, spec_l01Byte.f l i s = some (b, j, t) ∧ 0 ≤ b ∧ b ≤ 255 ∧ 0 ≤ j := by
  unfold spec_l01Byte.f
  by_cases h : i < (l.length : Int)
  · simp only [h, hi, ↓reduceIte]
    have e : wrap64 (i + 1) = i + 1 := w64 (by omega) (by omega)
    exact ⟨_, _, _, rfl, (bits_and255 _).1, (bits_and255 _).2, by omega⟩
  · simp only [h, ↓reduceIte]
    exact ⟨_, _, _, rfl, (bits_and255 _).1, (bits_and255 _).2, hi⟩
theorem tmod_range (a n : Int) (ha : 0 ≤ a) (hn : 1 ≤ n) : 0 ≤ Int.tmod a n ∧ Int.tmod a n < n := by
  rw [Int.tmod_eq_emod_of_nonneg ha]
  exact ⟨Int.emod_nonneg _ (by omega), Int.emod_lt_of_pos _ (by omega)⟩
theorem l01Below_is (l : List Int) (i s n : Int) (hl : l.length ≤ 1048576) (hi : 0 ≤ i) : ∃ b j t, spec_l01Below.f l i s n = some (b, j, t) ∧ 0 ≤ b ∧ (1 ≤ n → b < n) ∧ 0 ≤ j := by
  unfold spec_l01Below.f
  by_cases h : n ≤ 0
  · simp only [h, ↓reduceIte]
    exact ⟨_, _, _, rfl, by omega, fun h => by omega, hi⟩
  · simp only [h, show ¬ n = 0 from by omega, ↓reduceIte]
    obtain ⟨b1, j1, t1, e1, g1, g2, g3⟩ := l01Byte_is l i s hl hi
    by_cases h2 : n ≤ 256
    · have q := tmod_range b1 n g1 (by omega)
      simp only [h2, ↓reduceIte, e1, Option.bind_some]
      exact ⟨_, _, _, rfl, q.1, fun _ => q.2, g3⟩
    · obtain ⟨b2, j2, t2, e2, k1, k2, k3⟩ := l01Byte_is l j1 t1 hl g3
      obtain ⟨b3, j3, t3, e3, m1, m2, m3⟩ := l01Byte_is l j2 t2 hl k3
      obtain ⟨b4, j4, t4, e4, n1, n2, n3⟩ := l01Byte_is l j3 t3 hl m3
      simp only [h2, ↓reduceIte, e1, e2, e3, e4, Option.bind_some]
      have q := tmod_range (wrap64 ((wrap64 ((wrap64 ((wrap64 (b1 * 16777216)) + (wrap64 (b2 * 65536)))) + (wrap64 (b3 * 256)))) + b4)) n (by
        rw [w64 (n := b1 * 16777216) (by omega) (by omega), w64 (n := b2 * 65536) (by omega) (by omega), w64 (n := b3 * 256) (by omega) (by omega), w64 (n := b1 * 16777216 + b2 * 65536) (by omega) (by omega), w64 (n := b1 * 16777216 + b2 * 65536 + b3 * 256) (by omega) (by omega), w64 (by omega) (by omega)]
        omega) (by omega)
      exact ⟨_, _, _, rfl, q.1, fun _ => q.2, n3⟩
theorem l01New_l0 (l : List Int) (hl : l.length ≤ 1048576) : ∀ (d i : Nat), i + d = l.length → ∀ x : Int, ∃ y, Ev (fun k => spec_l01New.l0 k l x (i : Int)) (l, 0, y) := by
  intro d
  induction d with
  | zero =>
    intro i hi x
    obtain rfl : i = l.length := by omega
    refine ⟨x, ev_st ?_⟩
    simp only [spec_l01New.l0, Int.lt_irrefl, ↓reduceIte]
    exact Ev.now _
  | succ d ih =>
    intro i hi x
    have h1 : (i : Int) < (l.length : Int) := by omega
    have h2 : (0 : Int) ≤ (i : Int) := by omega
    have e : wrap64 ((i : Int) + 1) = ((i + 1 : Nat) : Int) := by rw [w64 (by omega) (by omega)]; omega
    by_cases h3 : (i : Int) < 4000
    · obtain ⟨y, hy⟩ := ih (i + 1) (by omega) (Go.bits .and .i64 (wrap64 ((wrap64 ((wrap64 (x * 131)) + (wrap64 (rd l (i : Int))))) + 7)) 1073741823)
      refine ⟨y, ev_st ?_⟩
      simp only [spec_l01New.l0, h1, h2, h3, ↓reduceIte, e]
      exact hy
    · refine ⟨x, ev_st ?_⟩
      simp only [spec_l01New.l0, h1, h3, ↓reduceIte]
      exact Ev.now _
theorem l01New_ev (l : List Int) (hl : l.length ≤ 1048576) : ∃ y, Ev (fun k => spec_l01New.f k l) (l, 0, y) := by
  obtain ⟨y, hy⟩ := l01New_l0 l hl l.length 0 (by omega) (wrap64 (36501 + (l.length : Int)))
  exact ⟨y, by simpa [spec_l01New.f] using hy⟩

/-! twelve places -/
theorem DrawPlaces_l0 (l : List Int) (hl : l.length ≤ 1048576) : ∀ (d n : Nat), n + d = 12 → ∀ (xs : List Int) (i s : Int), 0 ≤ i → xs.length = n → (∀ x ∈ xs, 0 ≤ x ∧ x < 10000) → ∃ p, Ev (fun k => spec_DrawPlaces.l0 k xs (n : Int) l i s) p ∧ p.length = 12 ∧ ∀ x ∈ p, 0 ≤ x ∧ x < 10000 := by
  intro d
  induction d with
  | zero =>
    intro n hn xs i s hi hx hr
    refine ⟨xs, ev_st ?_, by omega, hr⟩
    simp only [spec_DrawPlaces.l0, show ¬ ((n : Int) < 12) from by omega, ↓reduceIte]
    exact Ev.now _
  | succ d ih =>
    intro n hn xs i s hi hx hr
    obtain ⟨b, j, t, e, h1, h2, h3⟩ := l01Below_is l i s 10000 hl hi
    have h4 := h2 (by omega)
    have e4 : wrap64 ((n : Int) + 1) = ((n + 1 : Nat) : Int) := by rw [w64 (by omega) (by omega)]; omega
    obtain ⟨p, q1, q2, q3⟩ := ih (n + 1) (by omega) (xs ++ [b]) j t h3 (by rw [List.length_append, List.length_singleton]; omega) (by
      intro x hx
      rcases List.mem_append.1 hx with hx | hx
      · exact hr x hx
      · simp only [List.mem_singleton] at hx; omega)
    refine ⟨p, ev_st ?_, q2, q3⟩
    simp only [spec_DrawPlaces.l0, show (n : Int) < 12 from by omega, ↓reduceIte, e, Option.bind_some, show xs.length < 17592186044416 from by omega, e4]
    exact q1
theorem DrawPlaces_ev (l : List Int) (hl : l.length ≤ 1048576) : ∃ p, Ev (fun k => spec_DrawPlaces.f k l) p ∧ p.length = 12 ∧ ∀ x ∈ p, 0 ≤ x ∧ x < 10000 := by
  obtain ⟨y, hy⟩ := l01New_ev l hl
  obtain ⟨b, j, t, e, h1, h2, h3⟩ := l01Byte_is l 0 y hl (by omega)
  obtain ⟨p, q1, q2, q3⟩ := DrawPlaces_l0 l hl 12 0 (by omega) [] j t h3 rfl (by simp)
  refine ⟨p, ?_, q2, q3⟩
  simp only [spec_DrawPlaces.f]
  refine Ev.bind hy ?_
  simp only [e, Option.bind_some]
  exact q1
theorem place_at (p : List Int) (hp : p.length = 12) (hr : ∀ x ∈ p, 0 ≤ x ∧ x < 10000) (i : Nat) (hi : i < 12) : 0 ≤ rd p (i : Int) ∧ rd p (i : Int) < 10000 := by
  unfold rd
  rw [Int.toNat_natCast, List.getD_eq_getElem?_getD, List.getElem?_eq_getElem (by omega)]
  exact hr _ (List.getElem_mem _)

theorem nb_Bl : nblank Bl = 4 := by decide
theorem openF : ∀ (w : List Int) (i : Nat), openB (F w) i = -1
  | [], _ => rfl
  | x :: t, i => by
    show openB (blkW x :: F t) i = -1
    rw [openB]
    have e : (blkW x).f2 = Bl := rfl
    rw [if_neg (show ¬ ((blkW x).f0 = true) from (by decide : ¬ (false = true))), e, nb_Bl, Bl_len, if_neg (by omega)]
    exact openF t (i + 1)
theorem F_small (w : List Int) (hw : w.length = 5) : SmallM (F w) := by
  refine ⟨by rw [F_len]; omega, fun b hb => ?_⟩
  rw [F_leaves w b hb]
  exact ⟨by rw [Bl_len]; omega, by decide⟩
def fr (i : Nat) : List Int := (List.range i).map (fun n : Nat => (n : Int))
theorem fr_succ (i : Nat) : fr (i + 1) = fr i ++ [(i : Int)] := by unfold fr; rw [List.range_succ, List.map_append]; rfl
theorem fr_len (i : Nat) : (fr i).length = i := by unfold fr; simp
theorem free_l0 (w : List Int) (hw : w.length = 5) : ∀ (d i : Nat), i + d = 5 → Ev (fun k => impl_FreeBlocks.l0 k (fr i) (F w) 5 (i : Int)) (fr 5) := by
  intro d
  induction d with
  | zero =>
    intro i hi
    obtain rfl : i = 5 := by omega
    refine ev_st ?_
    simp only [impl_FreeBlocks.l0, show ¬ (((5 : Nat) : Int) < 5) from by omega, ↓reduceIte]
    exact Ev.now _
  | succ d ih =>
    intro i hi
    have g := ih (i + 1) (by omega)
    rw [fr_succ] at g
    have c1 : (i : Int) < 5 := by omega
    have c2 : (0 : Int) ≤ (i : Int) := by omega
    have c3 : (i : Int) < ((F w).length : Int) := by rw [F_len]; omega
    have c4 : (fr i).length < 17592186044416 := by rw [fr_len]; omega
    have e1 : wrap64 ((i : Int) + 1) = ((i + 1 : Nat) : Int) := by rw [w64 (by omega) (by omega)]; omega
    have kb := impl_blanks_ev false (w[i]'(by omega)) Bl (by rw [Bl_len]; omega)
    rw [nb_Bl] at kb
    refine ev_st ?_
    simp only [impl_FreeBlocks.l0, c1, c2, c3, ↓reduceIte, F_rd w i (by omega), blkW, Bool.false_eq_true]
    refine Ev.bind kb ?_
    simp only [show (4 : Int) = ((Bl.length : Nat) : Int) from rfl, ↓reduceIte, c4, e1]
    exact g
theorem free_ev (w : List Int) (hw : w.length = 5) : Ev (fun k => impl_FreeBlocks.f k (F w)) (fr 5) := by
  simp only [impl_FreeBlocks.f, F_len, hw]
  exact free_l0 w hw 5 0 (by omega)
/-- m is the first of the least among the first i. -/
def Best (w : List Int) (hw : w.length = 5) (m i : Nat) : Prop := m < i ∧ ∀ j (hj : j < 5) (hm : m < 5), j < i → w[m] ≤ w[j] ∧ (w[j] = w[m] → m ≤ j)
theorem fr_rd (i : Nat) (h : i < 5) : rd (fr 5) (i : Int) = (i : Int) := by
  have hh : i = 0 ∨ i = 1 ∨ i = 2 ∨ i = 3 ∨ i = 4 := by omega
  rcases hh with rfl | rfl | rfl | rfl | rfl <;> rfl
theorem place_l0 (w : List Int) (hw : w.length = 5) : ∀ (d i : Nat), i + d = 5 → 1 ≤ i → ∀ m : Nat, Best w hw m i → ∃ q : Nat, Best w hw q 5 ∧ Ev (fun k => impl_PlaceOf.l0 k (m : Int) (fr 5) 5 (i : Int) (F w)) ((q : Int), 0, true) := by
  intro d
  induction d with
  | zero =>
    intro i hi h1 m hb
    obtain rfl : i = 5 := by omega
    refine ⟨m, hb, ev_st ?_⟩
    simp only [impl_PlaceOf.l0, show ¬ (((5 : Nat) : Int) < 5) from by omega, show ¬ ((m : Int) < 0) from by omega, ↓reduceIte]
    exact Ev.now _
  | succ d ih =>
    intro i hi h1 m hb
    have c1 : (i : Int) < 5 := by omega
    have c2 : (0 : Int) ≤ (i : Int) := by omega
    have c3 : (i : Int) < ((fr 5).length : Int) := by rw [fr_len]; omega
    have c4 : ¬ ((m : Int) < 0) := by omega
    have c5 : (i : Int) < ((F w).length : Int) := by rw [F_len]; omega
    have c6 : (0 : Int) ≤ (m : Int) := by omega
    have hm5 : m < 5 := by have := hb.1; omega
    have c7 : (m : Int) < ((F w).length : Int) := by rw [F_len]; omega
    have e1 : wrap64 ((i : Int) + 1) = ((i + 1 : Nat) : Int) := by rw [w64 (by omega) (by omega)]; omega
    by_cases hlt : w[i]'(by omega) < w[m]'(by omega)
    · obtain ⟨q, hq, g⟩ := ih (i + 1) (by omega) (by omega) i ⟨by omega, fun j hj hm hji => by
        rcases Nat.lt_or_ge j i with h | h
        · have := hb.2 j hj hm5 h
          exact ⟨by omega, fun e => by omega⟩
        · obtain rfl : j = i := by omega
          exact ⟨Int.le_refl _, fun _ => Nat.le_refl _⟩⟩
      refine ⟨q, hq, ev_st ?_⟩
      simp only [impl_PlaceOf.l0, c1, c2, c3, c4, ↓reduceIte, fr_rd i (by omega), c5, c6, c7, F_rd w i (by omega), F_rd w m (by omega), blkW, hlt, e1]
      exact g
    · obtain ⟨q, hq, g⟩ := ih (i + 1) (by omega) (by omega) m ⟨by have := hb.1; omega, fun j hj hm hji => by
        rcases Nat.lt_or_ge j i with h | h
        · exact hb.2 j hj hm h
        · obtain rfl : j = i := by omega
          exact ⟨by omega, fun _ => by have := hb.1; omega⟩⟩
      refine ⟨q, hq, ev_st ?_⟩
      simp only [impl_PlaceOf.l0, c1, c2, c3, c4, ↓reduceIte, fr_rd i (by omega), c5, c6, c7, F_rd w i (by omega), F_rd w m (by omega), blkW, hlt, e1]
      exact g
theorem place_ev (w : List Int) (hw : w.length = 5) (hr : ∀ x ∈ w, 0 ≤ x ∧ x ≤ 1000) : ∃ q : Nat, Best w hw q 5 ∧ Ev (fun k => impl_PlaceOf.f k (F w)) ((q : Int), 0, true) := by
  obtain ⟨q, hq, g⟩ := place_l0 w hw 4 1 (by omega) (by omega) 0 ⟨by omega, fun j hj hm hji => by
    obtain rfl : j = 0 := by omega
    exact ⟨Int.le_refl _, fun _ => Nat.le_refl _⟩⟩
  refine ⟨q, hq, ?_⟩
  have k := impl_FlashOk_ev (F w) (by rw [F_len]; omega) (fun x hx => by rw [F_leaves w x hx, Bl_len]; omega)
  rw [F_ok w hw (fun x hx => by have := hr x hx; omega)] at k
  have k2 := impl_OpenBlock_ev (F w) (F_small w hw)
  rw [openF] at k2
  simp only [impl_PlaceOf.f]
  refine Ev.bind k ?_
  simp only [↓reduceIte]
  refine Ev.bind k2 ?_
  simp only [show ¬ ((-1 : Int) ≥ 0) from by omega, ↓reduceIte]
  refine Ev.bind (free_ev w hw) ?_
  have e0 : ((fr 5).length : Int) = 5 := by rw [fr_len]; rfl
  rw [e0]
  refine ev_st ?_
  have c3 : (0 : Int) < ((fr 5).length : Int) := by rw [fr_len]; omega
  have e1 : wrap64 ((0 : Int) + 1) = ((1 : Nat) : Int) := by rw [w64 (by omega) (by omega)]; rfl
  have r0 : rd (fr 5) 0 = 0 := rfl
  simp only [impl_PlaceOf.l0, show (0 : Int) < 5 from by omega, show (0 : Int) ≤ 0 from by omega, c3, show (-1 : Int) < 0 from by omega, ↓reduceIte, e1, r0]
  exact g
theorem check_l1 (w : List Int) (hw : w.length = 5) (q : Nat) (hq : Best w hw q 5) : ∀ (d i : Nat), i + d = 5 → Ev (fun k => laws_FnWear.l1 k true (q : Int) 0 true (i : Int) (F w)) true := by
  intro d
  induction d with
  | zero =>
    intro i hi
    obtain rfl : i = 5 := by omega
    refine ev_st ?_
    simp only [laws_FnWear.l1, show ¬ (((5 : Nat) : Int) < 5) from by omega, ↓reduceIte]
    refine Ev.bind (free_ev w hw) ?_
    exact Ev.now _
  | succ d ih =>
    intro i hi
    have g := ih (i + 1) (by omega)
    have hq5 : q < 5 := hq.1
    have b := hq.2 i (by omega) hq5 (by omega)
    have c1 : (i : Int) < 5 := by omega
    have c2 : (0 : Int) ≤ (i : Int) := by omega
    have c5 : (i : Int) < ((F w).length : Int) := by rw [F_len]; omega
    have c6 : (0 : Int) ≤ (q : Int) := by omega
    have c7 : (q : Int) < ((F w).length : Int) := by rw [F_len]; omega
    have e1 : wrap64 ((i : Int) + 1) = ((i + 1 : Nat) : Int) := by rw [w64 (by omega) (by omega)]; omega
    have n1 : ¬ (w[i]'(by omega) < w[q]'(by omega)) := by have := b.1; omega
    refine ev_st ?_
    by_cases he : w[i]'(by omega) = w[q]'(by omega)
    · have n2 : ¬ ((i : Int) < (q : Int)) := by have := b.2 he; omega
      simp only [laws_FnWear.l1, c1, c2, c5, c6, c7, ↓reduceIte, F_rd w i (by omega), F_rd w q (by omega), blkW, n1, he, n2, e1, Int.lt_irrefl]
      exact g
    · simp only [laws_FnWear.l1, c1, c2, c5, c6, c7, ↓reduceIte, F_rd w i (by omega), F_rd w q (by omega), blkW, n1, he, e1]
      exact g
theorem wear_l0 (p : List Int) (hp : p.length = 12) (hr : ∀ x ∈ p, 0 ≤ x ∧ x < 10000) : ∀ (d i : Nat), i + d = 9 → ∀ w : List Int, w.length = 5 → (∀ x ∈ w, 0 ≤ x ∧ x ≤ (i : Int)) → Ev (fun k => laws_FnWear.l0 k true p (i : Int) (F w)) true := by
  intro d
  induction d with
  | zero =>
    intro i hi w hw hb
    obtain rfl : i = 9 := by omega
    refine ev_st ?_
    simp only [laws_FnWear.l0, show ¬ (((9 : Nat) : Int) < 9) from by omega, ↓reduceIte]
    obtain ⟨q, hq, g⟩ := place_ev w hw (fun x hx => by have := hb x hx; omega)
    refine Ev.bind g ?_
    exact check_l1 w hw q hq 5 0 (by omega)
  | succ d ih =>
    intro i hi w hw hb
    have pi := place_at p hp hr i (by omega)
    have m0 := tmod_range (rd p (i : Int)) 5 pi.1 (by omega)
    have c1 : (i : Int) < 9 := by omega
    have c2 : (0 : Int) ≤ (i : Int) := by omega
    have c3 : (i : Int) < (p.length : Int) := by omega
    have e1 : wrap64 ((i : Int) + 1) = ((i + 1 : Nat) : Int) := by rw [w64 (by omega) (by omega)]; omega
    obtain ⟨b, hbn⟩ : ∃ b : Nat, Int.tmod (rd p (i : Int)) 5 = (b : Int) := ⟨(Int.tmod (rd p (i : Int)) 5).toNat, by omega⟩
    rw [hbn] at m0
    have k := wipe_ev w hw (fun x hx => by have := hb x hx; omega) b (by omega)
    have g := ih (i + 1) (by omega) (w.set b (w[b]'(by omega) + 1)) (by rw [List.length_set]; exact hw) (fun x hx => by
      rcases List.mem_or_eq_of_mem_set hx with h | rfl
      · have := hb x h; omega
      · have := hb (w[b]'(by omega)) (List.getElem_mem _); omega)
    refine ev_st ?_
    simp only [laws_FnWear.l0, c1, c2, c3, ↓reduceIte, hbn]
    refine Ev.bind k ?_
    rw [e1]
    exact g

theorem new5 : ∃ k, spec_FlashNew.f k 5 = some (F [0, 0, 0, 0, 0], true) := ⟨60, by kernel_rfl⟩
theorem FnWear : laws_FnWear.Pure := by
  intro c _ _ _
  refine Ev.rounds ?_
  simp only [laws_FnWear.f, laws_big.f, Option.bind_some]
  by_cases hb : (c.length : Int) > 1048576
  · simp only [hb, decide_true, ↓reduceIte]; exact Ev.now _
  · simp only [hb, decide_false, Bool.false_eq_true, ↓reduceIte]
    obtain ⟨k, hk⟩ := new5
    refine Ev.bind (Ev.of (spec_FlashNew.mono 5) hk) ?_
    obtain ⟨p, q1, q2, q3⟩ := DrawPlaces_ev c (by omega)
    refine Ev.bind q1 ?_
    exact wear_l0 p q2 q3 9 0 (by omega) [0, 0, 0, 0, 0] rfl (by simp)

end Go.Proofs.Ytbafmoggckeaeaa.Pure
