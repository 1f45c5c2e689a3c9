/- What is proved here: the law FnScans, told as a plain function over numbers and lists, answers true at all arguments. Conditions: those of the row alone, none of ours. -/
import Derived.Test.YthbdijeikfgjeaaQFnScansx17
import Derived.Test.YthbdijeikfgjeaaKit
namespace Go.Proofs.Ythbdijeikfgjeaa.Pure
open Go.RowKit Go.Proofs.Ythbdijeikfgjeaa.QFnScans Go.Proofs.YthbdijeikfgjeaaW.PrintWords Go.Proofs.YthbdijeikfgjeaaW.PrintLast Go.Proofs.Ythbdijeikfgjeaa.Kit Go.Proofs.YthbdijeikfgjeaaW.PrintMore
set_option linter.unusedSimpArgs false
set_option linter.unusedVariables false

theorem spec_l01In_eq (a b c : Int) : spec_l01In.f a b c = some (decide (b ≤ a ∧ a ≤ c)) := by
  unfold spec_l01In.f
  by_cases h : b ≤ a <;> simp [h, GE.ge]

theorem impl_in_eq (a b c : Int) : impl_in.f a b c = some (decide (b ≤ a ∧ a ≤ c)) := by
  unfold impl_in.f
  by_cases h : b ≤ a <;> simp [h, GE.ge]

theorem rd_ML (xs : List S59) (i : Nat) (h : i < xs.length) : rd_T59 xs (i : Int) = xs[i] := by
  unfold rd_T59; rw [Int.toNat_natCast, List.getD_eq_getElem?_getD, List.getElem?_eq_getElem h]; rfl
theorem drop_at {α : Type} (xs : List α) (i : Nat) (h : i < xs.length) : xs.drop i = xs[i] :: xs.drop (i + 1) := List.drop_eq_getElem_cons h
theorem drop_len {α : Type} (xs : List α) : xs.drop xs.length = [] := List.drop_eq_nil_of_le (Nat.le_refl _)
theorem wsucc (i n : Nat) (h : i < n) (hn : n ≤ 9223372036854775807) : wrap64 ((i : Int) + 1) = ((i + 1 : Nat) : Int) := by rw [w64 (by omega) (by omega)]; omega
theorem rd_MB (xs : List S57) (i : Nat) (h : i < xs.length) : rd_T57 xs (i : Int) = xs[i] := by
  unfold rd_T57; rw [Int.toNat_natCast, List.getD_eq_getElem?_getD, List.getElem?_eq_getElem h]; rfl
def SmallM (l : List S57) : Prop := l.length ≤ 1048576 ∧ ∀ b ∈ l, b.f2.length ≤ 1048576 ∧ ∀ x ∈ b.f2, x.f1.size ≤ 1048576

theorem rd_mem (l : List S57) (b : Int) (h : 0 ≤ b ∧ b < (l.length : Int)) : rd_T57 l b ∈ l := by
  obtain ⟨i, rfl⟩ := Int.eq_ofNat_of_zero_le h.1
  rw [rd_MB l i (by omega)]
  exact List.getElem_mem _
def nb : List S59 → Nat → Int
  | [], _ => 4
  | x :: t, i => if x.f0 = 0 then (i : Int) else nb t (i + 1)
theorem spec_NextBlank_l0 (a : Bool) (b : Int) (l : List S59) (hl : l.length ≤ 1048576) : ∀ (d i : Nat), i + d = l.length → Ev (fun k => spec_NextBlank.l0 k (i : Int) a b l) (nb (l.drop i) i) := by
  intro d
  induction d with
  | zero =>
    intro i hi
    obtain rfl : i = l.length := by omega
    refine ev_st ?_
    simp only [spec_NextBlank.l0, show ¬ ((l.length : Int) < (l.length : Int)) from by omega, ↓reduceIte, drop_len, nb]
    exact Ev.now _
  | succ d ih =>
    intro i hi
    have hlt : i < l.length := by omega
    refine ev_st ?_
    simp only [spec_NextBlank.l0, show (i : Int) < (l.length : Int) from by omega, show (0 : Int) ≤ (i : Int) from by omega, ↓reduceIte, rd_ML l i hlt, wsucc i l.length hlt (by omega)]
    rw [drop_at l i hlt, nb]
    by_cases h : l[i].f0 = 0
    · simp only [h, ↓reduceIte]; exact Ev.now _
    · simp only [h, ↓reduceIte]; exact ih (i + 1) (by omega)
theorem spec_NextBlank_ev (a : Bool) (b : Int) (l : List S59) (hl : l.length ≤ 1048576) : Ev (fun k => spec_NextBlank.f k a b l) (nb l 0) := spec_NextBlank_l0 a b l hl l.length 0 (by omega)

/-! a flash is right -/
def leafOkB (x : S59) : Bool := if x.f0 = 0 then (x.f1.toList == ([] : List UInt8)) else if x.f0 = 1 then decide (1 ≤ (x.f1.size : Int) ∧ (x.f1.size : Int) ≤ 120) else if x.f0 = 2 then decide ((x.f1.size : Int) ≤ 120) else false
def lvs : Bool → List S59 → Bool
  | _, [] => true
  | pb, x :: t => if leafOkB x = true then (if pb = true ∧ ¬ x.f0 = 0 then false else lvs (decide (x.f0 = 0)) t) else false
def blkOk (b : S57) : Bool := decide ((b.f2.length : Int) = 4 ∧ (0 ≤ b.f1 ∧ b.f1 ≤ 1000000000)) && lvs false b.f2
def flashOk (l : List S57) : Bool := l.all blkOk && decide (3 ≤ (l.length : Int) ∧ (l.length : Int) ≤ 10)
/-- Is there a leaf ahead of place j, and is it blank? -/
def before (l : List S59) (j : Nat) : Bool := decide (0 < j ∧ (rd_T59 l ((j - 1 : Nat) : Int)).f0 = 0)
theorem before_succ (l : List S59) (j : Nat) (h : j < l.length) : before l (j + 1) = decide (l[j].f0 = 0) := by
  unfold before
  rw [Nat.add_sub_cancel, rd_ML l j h]
  simp

theorem spec_l05Leaf_eq (x : S59) : spec_l05Leaf.f x.f0 x.f1 = some (leafOkB x) := by
  unfold spec_l05Leaf.f leafOkB
  simp only [spec_l01In_eq, Option.bind_some]
  split
  · rfl
  · split
    · rfl
    · split <;> rfl
theorem spec_FlashOk_l1 (l : List S57) (i : Nat) (hi : i < l.length) (hl : l.length ≤ 1048576) (a : Bool) (b : Int) (v : List S59) (hv : v.length ≤ 1048576) (r : Bool) : ∀ (d j : Nat), j + d = v.length →
    (lvs (before v j) (v.drop j) = true → Ev (fun k => spec_FlashOk.l0 k ((i + 1 : Nat) : Int) l) r) → (lvs (before v j) (v.drop j) = false → r = false) → Ev (fun k => spec_FlashOk.l1 k (i : Int) (j : Int) l a b v) r := by
  intro d
  induction d with
  | zero =>
    intro j hj h1 _
    obtain rfl : j = v.length := by omega
    rw [drop_len] at h1
    refine ev_st ?_
    simp only [spec_FlashOk.l1, show ¬ ((v.length : Int) < (v.length : Int)) from by omega, ↓reduceIte, wsucc i l.length hi (by omega)]
    exact h1 rfl
  | succ d ih =>
    intro j hj h1 h2
    have hlt : j < v.length := by omega
    have f1 : (j : Int) < (v.length : Int) := by omega
    have f2 : (0 : Int) ≤ (j : Int) := by omega
    have f3 := wsucc j v.length hlt (by omega)
    have f4 : j + 1 + d = v.length := by omega
    have fp : 0 < j → (j : Int) > 0 ∧ wrap64 ((j : Int) - 1) = ((j - 1 : Nat) : Int) ∧ (0 : Int) ≤ ((j - 1 : Nat) : Int) ∧ ((j - 1 : Nat) : Int) < (v.length : Int) := by
      intro h
      refine ⟨by omega, ?_, by omega, by omega⟩
      rw [w64 (by omega) (by omega)]; omega
    have fn : ¬ 0 < j → ¬ ((j : Int) > 0) := by omega
    rw [drop_at v j hlt, lvs] at h1 h2
    have g := ih (j + 1) f4
    rw [before_succ v j hlt] at g
    refine ev_st ?_
    simp only [spec_FlashOk.l1, f1, f2, ↓reduceIte, rd_ML v j hlt, spec_l05Leaf_eq, Option.bind_some, f3]
    by_cases hL : leafOkB v[j] = true
    · simp only [hL, ↓reduceIte] at h1 h2 ⊢
      by_cases hp : 0 < j
      · obtain ⟨p1, p2, p3, p4⟩ := fp hp
        simp only [p1, p2, p3, p4, ↓reduceIte]
        by_cases hz : (rd_T59 v ((j - 1 : Nat) : Int)).f0 = 0
        · have hb : before v j = true := by unfold before; rw [decide_eq_true_eq]; exact ⟨hp, hz⟩
          by_cases hx : v[j].f0 = 0
          · simp only [hb, hx, not_true_eq_false, and_false, ↓reduceIte, hz] at h1 h2 g ⊢
            exact g h1 h2
          · simp only [hb, hx, not_false_eq_true, and_self, ↓reduceIte, hz] at h1 h2 ⊢
            rw [h2 trivial]
            exact Ev.now _
        · have hb : before v j = false := by unfold before; rw [decide_eq_false_iff_not]; exact fun q => hz q.2
          simp only [hb, Bool.false_eq_true, false_and, ↓reduceIte, hz] at h1 h2 ⊢
          exact g h1 h2
      · have hb : before v j = false := by unfold before; rw [decide_eq_false_iff_not]; exact fun q => hp q.1
        simp only [fn hp, hb, Bool.false_eq_true, false_and, ↓reduceIte] at h1 h2 ⊢
        exact g h1 h2
    · simp only [hL, ↓reduceIte, Bool.false_eq_true] at h2 ⊢
      rw [h2 trivial]
      exact Ev.now _
theorem spec_FlashOk_l0 (l : List S57) (hl : l.length ≤ 1048576) (hs : ∀ b ∈ l, b.f2.length ≤ 1048576) : ∀ (d i : Nat), i + d = l.length → Ev (fun k => spec_FlashOk.l0 k (i : Int) l) ((l.drop i).all blkOk && decide (3 ≤ (l.length : Int) ∧ (l.length : Int) ≤ 10)) := by
  intro d
  induction d with
  | zero =>
    intro i hi
    obtain rfl : i = l.length := by omega
    refine ev_st ?_
    simp only [spec_FlashOk.l0, show ¬ ((l.length : Int) < (l.length : Int)) from by omega, ↓reduceIte, drop_len, spec_l01In_eq, Option.bind_some, List.all_nil, Bool.true_and]
    exact Ev.now _
  | succ d ih =>
    intro i hi
    have hlt : i < l.length := by omega
    have f1 : (i : Int) < (l.length : Int) := by omega
    have f2 : (0 : Int) ≤ (i : Int) := by omega
    have g := ih (i + 1) (by omega)
    have hb := hs l[i] (List.getElem_mem hlt)
    rw [drop_at l i hlt, List.all_cons]
    refine ev_st ?_
    simp only [spec_FlashOk.l0, f1, f2, ↓reduceIte, rd_MB l i hlt, spec_l01In_eq, Option.bind_some]
    by_cases h1 : (l[i].f2.length : Int) = 4
    · by_cases h2 : 0 ≤ l[i].f1 ∧ l[i].f1 ≤ 1000000000
      · simp only [h1, h2, and_self, decide_true, Bool.not_true, ↓reduceIte]
        refine ev_st ?_
        simp only [spec_FlashOk.j1, Bool.false_eq_true, ↓reduceIte]
        have e : blkOk l[i] = lvs false l[i].f2 := by unfold blkOk; rw [decide_eq_true (show (l[i].f2.length : Int) = 4 ∧ (0 ≤ l[i].f1 ∧ l[i].f1 ≤ 1000000000) from ⟨h1, h2⟩), Bool.true_and]
        rw [e]
        refine spec_FlashOk_l1 l i hlt hl _ _ l[i].f2 hb _ l[i].f2.length 0 (by omega) ?_ ?_
        · intro q
          rw [List.drop_zero] at q
          have q : lvs false l[i].f2 = true := q
          rw [q, Bool.true_and]
          exact g
        · intro q
          rw [List.drop_zero] at q
          have q : lvs false l[i].f2 = false := q
          rw [q, Bool.false_and, Bool.false_and]
      · have e : blkOk l[i] = false := by unfold blkOk; rw [decide_eq_false (fun q => h2 q.2), Bool.false_and]
        simp only [h1, h2, decide_false, Bool.not_false, ↓reduceIte]
        refine ev_st ?_
        simp only [spec_FlashOk.j1, ↓reduceIte, e, Bool.false_and]
        exact Ev.now _
    · have e : blkOk l[i] = false := by unfold blkOk; rw [decide_eq_false (fun q => h1 q.1), Bool.false_and]
      simp only [h1, ↓reduceIte]
      refine ev_st ?_
      simp only [spec_FlashOk.j1, ↓reduceIte, e, Bool.false_and]
      exact Ev.now _
theorem spec_FlashOk_ev (l : List S57) (hl : l.length ≤ 1048576) (hs : ∀ b ∈ l, b.f2.length ≤ 1048576) : Ev (fun k => spec_FlashOk.f k l) (flashOk l) := spec_FlashOk_l0 l hl hs l.length 0 (by omega)

/-! a flash is copied -/
theorem copyS_l0 (l : List S57) (hf : SmallM l) : ∀ (d i : Nat), i + d = l.length → Ev (fun k => spec_l05Copy.l0 k (i : Int) l (l.take i)) l := by
  obtain ⟨hl, hs⟩ := hf
  intro d
  induction d with
  | zero =>
    intro i hi
    obtain rfl : i = l.length := by omega
    refine ev_st ?_
    simp only [spec_l05Copy.l0, show ¬ ((l.length : Int) < (l.length : Int)) from by omega, ↓reduceIte, List.take_length]
    exact Ev.now _
  | succ d ih =>
    intro i hi
    have hlt : i < l.length := by omega
    have hb := (hs l[i] (List.getElem_mem hlt)).1
    have c1 : ([] : List S59).length + l[i].f2.length < 5864062014805 := by simp only [List.length_nil]; omega
    have c2 : (l.take i).length < 3518437208883 := by rw [List.length_take]; omega
    refine ev_st ?_
    simp only [spec_l05Copy.l0, show (i : Int) < (l.length : Int) from by omega, show (0 : Int) ≤ (i : Int) from by omega, ↓reduceIte, Option.bind_some, rd_MB l i hlt, wsucc i l.length hlt (by omega), c1, c2, List.nil_append]
    have g := ih (i + 1) (by omega)
    rw [List.take_succ_eq_append_getElem hlt] at g
    exact g
theorem copyS_ev (l : List S57) (hf : SmallM l) : Ev (fun k => spec_l05Copy.f k l) l := copyS_l0 l hf l.length 0 (by omega)

theorem nb_ge : ∀ (l : List S59) (i : Nat), 0 ≤ nb l i
  | [], _ => by simp [nb]
  | x :: t, i => by
    rw [nb]
    split
    · omega
    · exact nb_ge t (i + 1)
theorem ok_leaves {l : List S57} (h : flashOk l = true) {b : S57} (hb : b ∈ l) : (b.f2.length : Int) = 4 := by
  unfold flashOk at h
  rw [Bool.and_eq_true] at h
  have k := List.all_eq_true.mp h.1 b hb
  unfold blkOk at k
  rw [Bool.and_eq_true] at k
  exact (of_decide_eq_true k.1).1
def progM (l : List S57) (b leaf : Int) (t : ByteArray) : List S57 × Bool :=
  if flashOk l = true ∧ (0 ≤ b ∧ b < (l.length : Int)) ∧ (rd_T57 l b).f0 = false ∧ leaf < 4 ∧ leaf = nb (rd_T57 l b).f2 0 ∧ (1 ≤ (t.size : Int) ∧ (t.size : Int) ≤ 120) then
    (l.set b.toNat ⟨(rd_T57 l b).f0, (rd_T57 l b).f1, (rd_T57 l b).f2.set leaf.toNat ⟨1, t⟩⟩, true) else (l, false)
theorem progM_yes {l : List S57} {b leaf : Int} {t : ByteArray} (h : flashOk l = true ∧ (0 ≤ b ∧ b < (l.length : Int)) ∧ (rd_T57 l b).f0 = false ∧ leaf < 4 ∧ leaf = nb (rd_T57 l b).f2 0 ∧ (1 ≤ (t.size : Int) ∧ (t.size : Int) ≤ 120)) : progM l b leaf t = (l.set b.toNat ⟨(rd_T57 l b).f0, (rd_T57 l b).f1, (rd_T57 l b).f2.set leaf.toNat ⟨1, t⟩⟩, true) := by
  unfold progM
  exact if_pos h
theorem progM_no {l : List S57} {b leaf : Int} {t : ByteArray} (h : ¬ (flashOk l = true ∧ (0 ≤ b ∧ b < (l.length : Int)) ∧ (rd_T57 l b).f0 = false ∧ leaf < 4 ∧ leaf = nb (rd_T57 l b).f2 0 ∧ (1 ≤ (t.size : Int) ∧ (t.size : Int) ≤ 120))) : progM l b leaf t = (l, false) := by
  unfold progM
  exact if_neg h
theorem spec_May_ev (l : List S57) (hf : SmallM l) (b leaf : Int) (t : ByteArray) :
    Ev (fun k => spec_l05May.f k l b leaf t) (decide ((0 ≤ b ∧ b < (l.length : Int)) ∧ (rd_T57 l b).f0 = false ∧ leaf < 4 ∧ leaf = nb (rd_T57 l b).f2 0 ∧ (1 ≤ (t.size : Int) ∧ (t.size : Int) ≤ 120))) := by
  have hl := hf.1
  simp only [spec_l05May.f, spec_l01In_eq, w64 (n := (l.length : Int) - 1) (show -9223372036854775808 ≤ (l.length : Int) - 1 from by omega) (show (l.length : Int) - 1 ≤ 9223372036854775807 from by omega), Option.bind_some, decide_eq_true_eq]
  by_cases h1 : 0 ≤ b ∧ b < (l.length : Int)
  · have hm := (hf.2 _ (rd_mem l b h1)).1
    simp only [if_pos (show 0 ≤ b ∧ b ≤ (l.length : Int) - 1 from by omega), if_pos h1.1, if_pos h1.2]
    by_cases h2 : (rd_T57 l b).f0 = true
    · simp only [if_pos h2]
      rw [decide_eq_false (fun k => by rw [h2] at k; exact absurd k.2.1 (by decide))]
      exact Ev.now _
    · have h2f := Bool.eq_false_iff.mpr h2
      simp only [if_neg h2]
      by_cases h3 : leaf < 4
      · simp only [if_pos h3]
        refine Ev.bind (spec_NextBlank_ev _ _ _ hm) ?_
        by_cases h4 : leaf = nb (rd_T57 l b).f2 0
        · simp only [if_pos h4]
          have e : decide ((0 ≤ b ∧ b < (l.length : Int)) ∧ (rd_T57 l b).f0 = false ∧ leaf < 4 ∧ leaf = nb (rd_T57 l b).f2 0 ∧ (1 ≤ (t.size : Int) ∧ (t.size : Int) ≤ 120)) = decide (1 ≤ (t.size : Int) ∧ (t.size : Int) ≤ 120) := decide_eq_decide.mpr ⟨fun k => k.2.2.2.2, fun k => ⟨h1, h2f, h3, h4, k⟩⟩
          rw [e]
          exact Ev.now _
        · simp only [if_neg h4]
          rw [decide_eq_false (fun k => h4 k.2.2.2.1)]
          exact Ev.now _
      · simp only [if_neg h3]
        rw [decide_eq_false (fun k => h3 k.2.2.1)]
        exact Ev.now _
  · simp only [if_neg (show ¬ (0 ≤ b ∧ b ≤ (l.length : Int) - 1) from by omega)]
    rw [decide_eq_false (fun k => h1 k.1)]
    exact Ev.now _
theorem spec_Program_ev (l : List S57) (hf : SmallM l) (b leaf : Int) (t : ByteArray) : Ev (fun k => spec_Program.f k l b leaf t) (progM l b leaf t) := by
  simp only [spec_Program.f]
  refine Ev.bind (copyS_ev l hf) (Ev.bind (spec_FlashOk_ev l hf.1 (fun b hb => (hf.2 b hb).1)) ?_)
  by_cases h0 : flashOk l = true
  · simp only [if_pos h0]
    refine Ev.bind (spec_May_ev l hf b leaf t) ?_
    by_cases h : (0 ≤ b ∧ b < (l.length : Int)) ∧ (rd_T57 l b).f0 = false ∧ leaf < 4 ∧ leaf = nb (rd_T57 l b).f2 0 ∧ (1 ≤ (t.size : Int) ∧ (t.size : Int) ≤ 120)
    · have g0 := nb_ge (rd_T57 l b).f2 0
      have g1 := ok_leaves h0 (rd_mem l b h.1)
      rw [decide_eq_true h, progM_yes ⟨h0, h⟩]
      simp only [↓reduceIte, if_pos h.1.1, if_pos h.1.2, if_pos (show 0 ≤ leaf from by omega), if_pos (show leaf < ((rd_T57 l b).f2.length : Int) from by omega)]
      exact Ev.now _
    · rw [decide_eq_false h, progM_no (fun k => h k.2)]
      simp only [Bool.false_eq_true, ↓reduceIte]
      exact Ev.now _
  · rw [progM_no (fun k => h0 k.1)]
    simp only [if_neg h0]
    exact Ev.now _

def wipeM (l : List S57) (b : Int) : List S57 × Bool :=
  if flashOk l = true ∧ (0 ≤ b ∧ b < (l.length : Int)) ∧ (rd_T57 l b).f0 = false ∧ ¬ (rd_T57 l b).f1 = 1000000000 then
    (l.set b.toNat ⟨false, wrap64 ((rd_T57 l b).f1 + 1), List.replicate 4 z59⟩, true) else (l, false)
theorem wipeM_yes {l : List S57} {b : Int} (h : flashOk l = true ∧ (0 ≤ b ∧ b < (l.length : Int)) ∧ (rd_T57 l b).f0 = false ∧ ¬ (rd_T57 l b).f1 = 1000000000) : wipeM l b = (l.set b.toNat ⟨false, wrap64 ((rd_T57 l b).f1 + 1), List.replicate 4 z59⟩, true) := by
  unfold wipeM
  exact if_pos h
theorem wipeM_no {l : List S57} {b : Int} (h : ¬ (flashOk l = true ∧ (0 ≤ b ∧ b < (l.length : Int)) ∧ (rd_T57 l b).f0 = false ∧ ¬ (rd_T57 l b).f1 = 1000000000)) : wipeM l b = (l, false) := by
  unfold wipeM
  exact if_neg h
theorem spec_Wipe_ev (l : List S57) (hf : SmallM l) (b : Int) : Ev (fun k => spec_Wipe.f k l b) (wipeM l b) := by
  have hl := hf.1
  simp only [spec_Wipe.f]
  refine Ev.bind (copyS_ev l hf) (Ev.bind (spec_FlashOk_ev l hf.1 (fun b hb => (hf.2 b hb).1)) ?_)
  by_cases h0 : flashOk l = true
  · simp only [if_pos h0, spec_l01In_eq, w64 (n := (l.length : Int) - 1) (show -9223372036854775808 ≤ (l.length : Int) - 1 from by omega) (show (l.length : Int) - 1 ≤ 9223372036854775807 from by omega), Option.bind_some, decide_eq_true_eq]
    by_cases h1 : 0 ≤ b ∧ b < (l.length : Int)
    · simp only [if_pos (show 0 ≤ b ∧ b ≤ (l.length : Int) - 1 from by omega), if_pos (show 0 ≤ b ∧ b < (l.length : Int) ∧ b < (l.length : Int) from ⟨h1.1, h1.2, h1.2⟩)]
      by_cases h2 : (rd_T57 l b).f0 = true
      · rw [wipeM_no (fun k => by rw [h2] at k; exact absurd k.2.2.1 (by decide))]
        simp only [if_pos h2]
        exact Ev.now _
      · simp only [if_neg h2]
        by_cases h3 : (rd_T57 l b).f1 = 1000000000
        · rw [wipeM_no (fun k => k.2.2.2 h3)]
          simp only [if_pos h3]
          exact Ev.now _
        · rw [wipeM_yes ⟨h0, h1, Bool.eq_false_iff.mpr h2, h3⟩]
          simp only [if_neg h3]
          exact Ev.now _
    · rw [wipeM_no (fun k => h1 k.2.1)]
      simp only [if_neg (show ¬ (0 ≤ b ∧ b ≤ (l.length : Int) - 1) from by omega)]
      exact Ev.now _
  · rw [wipeM_no (fun k => h0 k.1)]
    simp only [if_neg h0]
    exact Ev.now _

def markBadM (l : List S57) (b : Int) : List S57 := if 0 ≤ b ∧ b < (l.length : Int) then l.set b.toNat ⟨true, (rd_T57 l b).f1, (rd_T57 l b).f2⟩ else l
theorem spec_MarkBad_ev (l : List S57) (hf : SmallM l) (b : Int) : Ev (fun k => spec_MarkBad.f k l b) (markBadM l b) := by
  have hl := hf.1
  simp only [spec_MarkBad.f]
  refine Ev.bind (copyS_ev l hf) ?_
  rw [spec_l01In_eq, w64 (n := (l.length : Int) - 1) (by omega) (by omega)]
  simp only [Option.bind_some, decide_eq_true_eq]
  unfold markBadM
  by_cases h : 0 ≤ b ∧ b < (l.length : Int)
  · rw [if_pos h]
    simp only [if_pos (show 0 ≤ b ∧ b ≤ (l.length : Int) - 1 from by omega), if_pos h.1, if_pos h.2]
    exact Ev.now _
  · rw [if_neg h]
    simp only [if_neg (show ¬ (0 ≤ b ∧ b ≤ (l.length : Int) - 1) from by omega)]
    exact Ev.now _

/-! what is drawn -/
theorem bits_and255 (x : Int) : 0 ≤ Go.bits .and .i64 x 255 ∧ Go.bits .and .i64 x 255 ≤ 255 := by
  have h : (BitVec.ofInt IntKind.i64.bits x &&& BitVec.ofInt IntKind.i64.bits 255).toNat ≤ 255 := by
    rw [BitVec.toNat_and]
    exact Nat.le_trans Nat.and_le_right (by decide)
  simp only [Go.bits, IntKind.wrap_i64]
  omega
theorem l01Byte_is (l : List Int) (i s : Int) (hl : l.length ≤ 1048576) (hi : 0 ≤ i) : ∃ b j t, spec_l01Byte.f l i s = some (b, j, t) ∧ 0 ≤ b ∧ b ≤ 255 ∧ 0 ≤ j := by
  unfold spec_l01Byte.f
  by_cases h : i < (l.length : Int)
  · simp only [h, hi, ↓reduceIte]
    have e : wrap64 (i + 1) = i + 1 := w64 (by omega) (by omega)
    exact ⟨_, _, _, rfl, (bits_and255 _).1, (bits_and255 _).2, by omega⟩
  · simp only [h, ↓reduceIte]
    exact ⟨_, _, _, rfl, (bits_and255 _).1, (bits_and255 _).2, hi⟩
theorem tmod_range (a n : Int) (ha : 0 ≤ a) (hn : 1 ≤ n) : 0 ≤ Int.tmod a n ∧ Int.tmod a n < n := by
  rw [Int.tmod_eq_emod_of_nonneg ha]
  exact ⟨Int.emod_nonneg _ (by omega), Int.emod_lt_of_pos _ (by omega)⟩
theorem l01Below_is (l : List Int) (i s n : Int) (hl : l.length ≤ 1048576) (hi : 0 ≤ i) : ∃ b j t, spec_l01Below.f l i s n = some (b, j, t) ∧ 0 ≤ b ∧ (1 ≤ n → b < n) ∧ 0 ≤ j := by
  unfold spec_l01Below.f
  by_cases h : n ≤ 0
  · simp only [h, ↓reduceIte]
    exact ⟨_, _, _, rfl, by omega, fun h => by omega, hi⟩
  · simp only [h, show ¬ n = 0 from by omega, ↓reduceIte]
    obtain ⟨b1, j1, t1, e1, g1, g2, g3⟩ := l01Byte_is l i s hl hi
    by_cases h2 : n ≤ 256
    · have q := tmod_range b1 n g1 (by omega)
      simp only [h2, ↓reduceIte, e1, Option.bind_some]
      exact ⟨_, _, _, rfl, q.1, fun _ => q.2, g3⟩
    · obtain ⟨b2, j2, t2, e2, k1, k2, k3⟩ := l01Byte_is l j1 t1 hl g3
      obtain ⟨b3, j3, t3, e3, m1, m2, m3⟩ := l01Byte_is l j2 t2 hl k3
      obtain ⟨b4, j4, t4, e4, n1, n2, n3⟩ := l01Byte_is l j3 t3 hl m3
      simp only [h2, ↓reduceIte, e1, e2, e3, e4, Option.bind_some]
      have q := tmod_range (wrap64 ((wrap64 ((wrap64 ((wrap64 (b1 * 16777216)) + (wrap64 (b2 * 65536)))) + (wrap64 (b3 * 256)))) + b4)) n (by
        rw [w64 (n := b1 * 16777216) (by omega) (by omega), w64 (n := b2 * 65536) (by omega) (by omega), w64 (n := b3 * 256) (by omega) (by omega), w64 (n := b1 * 16777216 + b2 * 65536) (by omega) (by omega), w64 (n := b1 * 16777216 + b2 * 65536 + b3 * 256) (by omega) (by omega), w64 (by omega) (by omega)]
        omega) (by omega)
      exact ⟨_, _, _, rfl, q.1, fun _ => q.2, n3⟩
theorem l01New_l0 (l : List Int) (hl : l.length ≤ 1048576) : ∀ (d i : Nat), i + d = l.length → ∀ x : Int, ∃ y, Ev (fun k => spec_l01New.l0 k l x (i : Int)) (l, 0, y) := by
  intro d
  induction d with
  | zero =>
    intro i hi x
    obtain rfl : i = l.length := by omega
    refine ⟨x, ev_st ?_⟩
    simp only [spec_l01New.l0, Int.lt_irrefl, ↓reduceIte]
    exact Ev.now _
  | succ d ih =>
    intro i hi x
    have h1 : (i : Int) < (l.length : Int) := by omega
    have h2 : (0 : Int) ≤ (i : Int) := by omega
    have e : wrap64 ((i : Int) + 1) = ((i + 1 : Nat) : Int) := by rw [w64 (by omega) (by omega)]; omega
    by_cases h3 : (i : Int) < 4000
    · obtain ⟨y, hy⟩ := ih (i + 1) (by omega) (Go.bits .and .i64 (wrap64 ((wrap64 ((wrap64 (x * 131)) + (wrap64 (rd l (i : Int))))) + 7)) 1073741823)
      refine ⟨y, ev_st ?_⟩
      simp only [spec_l01New.l0, h1, h2, h3, ↓reduceIte, e]
      exact hy
    · refine ⟨x, ev_st ?_⟩
      simp only [spec_l01New.l0, h1, h3, ↓reduceIte]
      exact Ev.now _
theorem l01New_ev (l : List Int) (hl : l.length ≤ 1048576) : ∃ y, Ev (fun k => spec_l01New.f k l) (l, 0, y) := by
  obtain ⟨y, hy⟩ := l01New_l0 l hl l.length 0 (by omega) (wrap64 (36501 + (l.length : Int)))
  exact ⟨y, by simpa [spec_l01New.f] using hy⟩

theorem l01Text_l0 (l : List Int) (hl : l.length ≤ 1048576) (N : Nat) (hN : N ≤ 5000) : ∀ (d n : Nat), n + d = N → ∀ (xs : List Int) (i s : Int), 0 ≤ i → xs.length = n → ∃ r j t, Ev (fun k => spec_l01Text.l0 k (N : Int) xs (n : Int) l i s) (r, j, t) ∧ r.size = N ∧ 0 ≤ j := by
  intro d
  induction d with
  | zero =>
    intro n hn xs i s hi hx
    refine ⟨strOfNums xs, i, s, ev_st ?_, by rw [strOfNums_size]; omega, hi⟩
    simp only [spec_l01Text.l0, show ¬ ((n : Int) < (N : Int)) from by omega, ↓reduceIte]
    exact Ev.now _
  | succ d ih =>
    intro n hn xs i s hi hx
    have c1 : (n : Int) < (N : Int) := by omega
    have c2 : xs.length < 140737488355328 := by omega
    have e1 : wrap64 ((n : Int) + 1) = ((n + 1 : Nat) : Int) := by rw [w64 (by omega) (by omega)]; omega
    obtain ⟨b, j, t, h1, h2, h3, h4⟩ := l01Byte_is l i s hl hi
    obtain ⟨r, j2, t2, e, h5, h6⟩ := ih (n + 1) (by omega) (xs ++ [b % 256]) j t h4 (by simp; omega)
    refine ⟨r, j2, t2, ev_st ?_, h5, h6⟩
    simp only [spec_l01Text.l0, c1, ↓reduceIte, h1, Option.bind_some, c2, e1]
    exact e
theorem l01Text_ev (l : List Int) (hl : l.length ≤ 1048576) (i s : Int) (hi : 0 ≤ i) (n : Nat) (hn : n ≤ 5000) : ∃ r j t, Ev (fun k => spec_l01Text.f k l i s (n : Int)) (r, j, t) ∧ r.size = n ∧ 0 ≤ j := by
  obtain ⟨r, j, t, e, h1, h2⟩ := l01Text_l0 l hl n hn n 0 (by omega) [] i s hi rfl
  refine ⟨r, j, t, ?_, h1, h2⟩
  simp only [spec_l01Text.f, show ¬ ((n : Int) > 5000) from by omega, ↓reduceIte]
  refine ev_st ?_
  simp only [spec_l01Text.j0]
  exact e

theorem l01PickInt_is (l : List Int) (i s : Int) (m : List Int) (hl : l.length ≤ 1048576) (hi : 0 ≤ i) (hm : 1 ≤ m.length) : ∃ b j t, spec_l01PickInt.f l i s m = some (b, j, t) ∧ b ∈ m ∧ 0 ≤ j := by
  obtain ⟨b, j, t, e, h1, h2, h3⟩ := l01Below_is l i s (m.length : Int) hl hi
  have h4 := h2 (by omega)
  unfold spec_l01PickInt.f
  simp only [e, Option.bind_some, h1, h4, ↓reduceIte]
  refine ⟨_, _, _, rfl, ?_, h3⟩
  unfold rd
  rw [List.getD_eq_getElem?_getD, List.getElem?_eq_getElem (by omega)]
  exact List.getElem_mem _

def readLeafOf (l : List S57) (a b : Int) : ByteArray × Bool :=
  if 0 ≤ a ∧ a ≤ (l.length : Int) - 1 then (if 0 ≤ b ∧ b ≤ ((rd_T57 l a).f2.length : Int) - 1 then (if (rd_T59 (rd_T57 l a).f2 b).f0 = 1 then ((rd_T59 (rd_T57 l a).f2 b).f1, true) else ((⟨#[]⟩ : ByteArray), false)) else ((⟨#[]⟩ : ByteArray), false)) else ((⟨#[]⟩ : ByteArray), false)
theorem spec_ReadLeaf_eq (l : List S57) (hf : SmallM l) (a b : Int) : spec_ReadLeaf.f l a b = some (readLeafOf l a b) := by
  have hl := hf.1
  unfold spec_ReadLeaf.f readLeafOf
  rw [w64 (n := (l.length : Int) - 1) (by omega) (by omega)]
  simp only [spec_l01In_eq, Option.bind_some, decide_eq_true_eq]
  by_cases h1 : 0 ≤ a ∧ a ≤ (l.length : Int) - 1
  · have hm : (rd_T57 l a).f2.length ≤ 1048576 := by
      obtain ⟨i, rfl⟩ := Int.eq_ofNat_of_zero_le h1.1
      rw [rd_MB l i (by omega)]
      exact (hf.2 _ (List.getElem_mem (show i < l.length by omega))).1
    rw [if_pos h1, if_pos h1, if_pos h1.1, if_pos (by omega), w64 (n := ((rd_T57 l a).f2.length : Int) - 1) (by omega) (by omega)]
    by_cases h2 : 0 ≤ b ∧ b ≤ ((rd_T57 l a).f2.length : Int) - 1
    · rw [if_pos h2, if_pos h2, if_pos h2.1, if_pos (by omega)]
      split <;> rfl
    · rw [if_neg h2, if_neg h2]
  · rw [if_neg h1, if_neg h1]

/-! a number's bytes -/
def vt (n : Nat) : List Int := if 127 < n then ((n % 128 + 128 : Nat) : Int) :: vt (n / 128) else [(n : Int)]
termination_by n
decreasing_by omega
theorem vt_range (n : Nat) : ∀ x ∈ vt n, 0 ≤ x ∧ x < 256 := by
  induction n using Nat.strongRecOn with
  | _ n ih =>
    rw [vt]
    split
    · intro x hx
      rcases List.mem_cons.1 hx with rfl | hx
      · omega
      · exact ih (n / 128) (by omega) x hx
    · intro x hx
      obtain rfl := List.mem_singleton.1 hx
      omega
theorem vt_len (n : Nat) : ∀ j : Nat, n < 128 ^ (j + 1) → (vt n).length ≤ j + 1 := by
  intro j
  induction j generalizing n with
  | zero => intro h; rw [vt, if_neg (by omega)]; simp
  | succ j ih =>
    intro h
    rw [vt]
    split
    · have := ih (n / 128) (by rw [Nat.div_lt_iff_lt_mul (by omega)]; rw [Nat.pow_succ] at h; exact h)
      simp only [List.length_cons]; omega
    · simp
theorem vt_len5 (n : Nat) (h : n ≤ 1000000000) : (vt n).length ≤ 5 := vt_len n 4 (by omega)
def varS (n : Int) : ByteArray := strOfNums (vt n.toNat)
theorem tdiv128 (n : Nat) (h : n ≤ 1000000000000) : wrap64 (Int.tdiv (n : Int) 128) = ((n / 128 : Nat) : Int) := by
  rw [Int.tdiv_eq_ediv_of_nonneg (by omega), w64 (by omega) (by omega)]; omega
theorem tmod128 (n : Nat) (h : n ≤ 1000000000000) : wrap64 (Int.tmod (n : Int) 128 + 128) % 256 = ((n % 128 + 128 : Nat) : Int) := by
  rw [Int.tmod_eq_emod_of_nonneg (by omega), w64 (by omega) (by omega)]; omega

theorem spec_l01Var_l0 (n : Nat) : n ≤ 1000000000000 → ∀ acc : List Int, acc.length + n < 140737488355328 → Ev (fun k => spec_l01Var.l0 k (n : Int) acc) (strOfNums (acc ++ vt n)) := by
  induction n using Nat.strongRecOn with
  | _ n ih =>
    intro hn acc ha
    refine ev_st ?_
    have hl : acc.length < 140737488355328 := by omega
    rw [vt]
    by_cases h : 127 < n
    · simp only [spec_l01Var.l0, show (n : Int) > 127 from by omega, hl, h, ↓reduceIte, tdiv128 n hn, tmod128 n hn]
      have g := ih (n / 128) (by omega) (by omega) (acc ++ [((n % 128 + 128 : Nat) : Int)]) (by simp; omega)
      rw [List.append_assoc] at g
      exact g
    · simp only [spec_l01Var.l0, show ¬ ((n : Int) > 127) from by omega, hl, h, ↓reduceIte, show (n : Int) % 256 = (n : Int) from by omega]
      exact Ev.now _
theorem spec_l01Var_ev (n : Int) (h0 : 0 ≤ n) (h1 : n ≤ 1000000000000) : Ev (fun k => spec_l01Var.f k n) (varS n) := by
  obtain ⟨m, rfl⟩ := Int.eq_ofNat_of_zero_le h0
  exact spec_l01Var_l0 m (by omega) [] (by simp; omega)

theorem varS_size (n : Int) (h0 : 0 ≤ n) (h1 : n ≤ 1000000000) : (varS n).size ≤ 5 := by
  unfold varS
  rw [strOfNums_size]
  exact vt_len5 _ (by omega)

/-! a number is read -/
def rvPre : Nat → List Int → Option (List Int)
  | 0, _ => none
  | _ + 1, [] => none
  | f + 1, b :: t => if 128 ≤ b then (rvPre f t).map (b :: ·) else some [b]
def vval : List Int → Int
  | [] => 0
  | b :: t => b % 128 + 128 * vval t
def rvFail (w : List Int) : Prop := (1 < w.length ∧ w.getLast? = some 0) ∨ vval w > 1000000000
instance (w : List Int) : Decidable (rvFail w) := by unfold rvFail; infer_instance
def rvRes (at' : Int) (q : List Int) : Option (List Int) → Int × Int × Bool
  | none => (0, 0, false)
  | some p => if rvFail (q ++ p) then (0, 0, false) else (vval (q ++ p), at' + ((q ++ p).length : Int), true)
def readVarOf (s : ByteArray) (at' : Int) : Int × Int × Bool := if 0 ≤ at' ∧ at' ≤ (s.size : Int) then rvRes at' [] (rvPre 5 ((bytesOf s).drop at'.toNat)) else (0, 0, false)
theorem rvRes_step (at' : Int) (q : List Int) (f : Nat) (b : Int) (t : List Int) (h : 128 ≤ b) : rvRes at' q (rvPre (f + 1) (b :: t)) = rvRes at' (q ++ [b]) (rvPre f t) := by
  rw [rvPre, if_pos h]
  cases rvPre f t with
  | none => rfl
  | some p => simp only [Option.map_some, rvRes, List.append_assoc, List.singleton_append]
theorem vval_snoc (q : List Int) (b : Int) : vval (q ++ [b]) = vval q + b % 128 * 128 ^ q.length := by
  induction q with
  | nil => simp [vval]
  | cons c q ih =>
    simp only [List.cons_append, vval, ih, List.length_cons]
    rw [Int.pow_succ]
    have : 128 * (b % 128 * 128 ^ q.length) = b % 128 * (128 ^ q.length * 128) := by rw [Int.mul_comm, Int.mul_assoc]
    rw [Int.mul_add, this]; omega
theorem vval_bound (q : List Int) : 0 ≤ vval q ∧ vval q < 128 ^ q.length := by
  induction q with
  | nil => simp [vval]
  | cons c q ih =>
    simp only [vval, List.length_cons]
    rw [Int.pow_succ]
    generalize (128 : Int) ^ q.length = p at ih ⊢
    omega
theorem vval_bound_le (q : List Int) (j : Nat) (h : q.length ≤ j) : 0 ≤ vval q ∧ vval q < 128 ^ j := by
  have b := vval_bound q
  have : (128 : Int) ^ q.length ≤ 128 ^ j := pow128_le h
  omega
/-- All but the last go on, the last does not. -/
def Ends : List Int → Prop
  | [] => False
  | [b] => 0 ≤ b ∧ b < 128
  | b :: t => 128 ≤ b ∧ b < 256 ∧ Ends t
theorem ends_vt (n : Nat) : Ends (vt n) := by
  induction n using Nat.strongRecOn with
  | _ n ih =>
    rw [vt]
    split
    · have g := ih (n / 128) (by omega)
      generalize vt (n / 128) = l at g ⊢
      cases l with
      | nil => exact g.elim
      | cons c t => exact ⟨by omega, by omega, g⟩
    · exact ⟨by omega, by omega⟩
theorem last_vt (n : Nat) (h : 1 ≤ n) : (vt n).getLast? ≠ some 0 := by
  induction n using Nat.strongRecOn with
  | _ n ih =>
    rw [vt]
    split
    · have g := ih (n / 128) (by omega) (by omega)
      have e := ends_vt (n / 128)
      generalize vt (n / 128) = l at g e ⊢
      cases l with
      | nil => exact e.elim
      | cons c t => rw [List.getLast?_cons_cons]; exact g
    · simp; omega
theorem vval_pos (l : List Int) (h : Ends l) (hz : l.getLast? ≠ some 0) : 1 ≤ vval l := by
  induction l with
  | nil => exact h.elim
  | cons b t ih =>
    cases t with
    | nil =>
      simp [vval] at hz ⊢
      obtain ⟨h0, h1⟩ := h
      omega
    | cons c t =>
      obtain ⟨_, _, h2⟩ := h
      rw [List.getLast?_cons_cons] at hz
      have := ih h2 hz
      simp only [vval] at this ⊢
      omega
theorem vt_vval (l : List Int) (h : Ends l) (hz : 1 < l.length → l.getLast? ≠ some 0) : vt (vval l).toNat = l := by
  induction l with
  | nil => exact h.elim
  | cons b t ih =>
    cases t with
    | nil =>
      obtain ⟨h0, h1⟩ := h
      have e : vval [b] = b := by simp only [vval]; omega
      rw [e, vt, if_neg (by omega)]
      simp; omega
    | cons c t =>
      obtain ⟨h0, h1, h2⟩ := h
      have hz2 : (c :: t).getLast? ≠ some 0 := by
        have := hz (by simp)
        rw [List.getLast?_cons_cons] at this
        exact this
      have p := vval_pos (c :: t) h2 hz2
      have g := ih h2 (fun _ => hz2)
      have e : vval (b :: c :: t) = b % 128 + 128 * vval (c :: t) := rfl
      generalize hv : vval (c :: t) = v at *
      rw [vt, if_pos (by omega)]
      have e1 : (vval (b :: c :: t)).toNat / 128 = v.toNat := by omega
      rw [e1, g]
      congr 1
      omega
/-- The reference's test by writing anew, and the program's test of the last byte. -/
theorem vt_iff (l : List Int) (h : Ends l) : vt (vval l).toNat = l ↔ ¬ (1 < l.length ∧ l.getLast? = some 0) := by
  constructor
  · rintro e ⟨h1, h2⟩
    have p : 1 ≤ (vval l).toNat := by
      rcases Nat.lt_or_ge (vval l).toNat 1 with q | q
      · rw [show (vval l).toNat = 0 from by omega, vt, if_neg (by omega)] at e
        rw [← e] at h1
        simp at h1
      · exact q
    exact last_vt _ p (by rw [e]; exact h2)
  · intro q
    exact vt_vval l h (fun h1 h2 => q ⟨h1, h2⟩)
theorem ends_snoc (q : List Int) (b : Int) (hq : ∀ x ∈ q, 128 ≤ x ∧ x < 256) (h0 : 0 ≤ b) (h1 : b < 128) : Ends (q ++ [b]) := by
  induction q with
  | nil => exact ⟨h0, h1⟩
  | cons c q ih =>
    have := ih (fun x hx => hq x (List.mem_cons_of_mem _ hx))
    have hc := hq c (List.mem_cons_self ..)
    rw [List.cons_append]
    generalize q ++ [b] = l at this ⊢
    cases l with
    | nil => exact this.elim
    | cons d t => exact ⟨hc.1, hc.2, this⟩

theorem term7 (b : Int) (h0 : 0 ≤ b) (q : List Int) (hq : q.length < 5) : wrap64 (vval q + b % 128 * 128 ^ q.length) = vval (q ++ [b]) := by
  have g := vval_bound_le (q ++ [b]) 5 (by simp; omega)
  rw [vval_snoc] at g
  rw [vval_snoc]
  exact w64 (by omega) (by omega)
theorem term7a (b : Int) (h0 : 0 ≤ b) (q : List Int) (hq : q.length < 5) : wrap64 (b % 128 * 128 ^ q.length) = b % 128 * 128 ^ q.length := by
  have g := vval_bound_le (q ++ [b]) 5 (by simp; omega)
  have g2 := vval_bound q
  rw [vval_snoc] at g
  have h : 0 ≤ b % 128 * 128 ^ q.length := Int.mul_nonneg (by omega) (Int.le_of_lt (pow128_pos _))
  exact w64 (by omega) (by omega)
theorem scale7 (q : List Int) (hq : q.length < 5) : wrap64 ((128 : Int) ^ q.length * 128) = 128 ^ (q.length + 1) := by
  have h : (128 : Int) ^ q.length ≤ 128 ^ 4 := pow128_le (by omega)
  have h2 := pow128_pos q.length
  rw [w64 (by omega) (by omega), Int.pow_succ]
theorem rvRes_last (at' : Int) (q : List Int) (f : Nat) (b : Int) (t : List Int) (h : ¬ 128 ≤ b) : rvRes at' q (rvPre (f + 1) (b :: t)) = if rvFail (q ++ [b]) then (0, 0, false) else (vval (q ++ [b]), at' + ((q ++ [b]).length : Int), true) := by
  rw [rvPre, if_neg h]; rfl
theorem rvFail_iff (q : List Int) (b : Int) : rvFail (q ++ [b]) ↔ (0 < q.length ∧ b = 0) ∨ vval (q ++ [b]) > 1000000000 := by
  unfold rvFail
  simp only [List.length_append, List.length_singleton, List.getLast?_append, List.getLast?_singleton, Option.some_or, Option.some.injEq]
  constructor
  · rintro (⟨h1, h2⟩ | h)
    · exact .inl ⟨by omega, h2⟩
    · exact .inr h
  · rintro (⟨h1, h2⟩ | h)
    · exact .inl ⟨by omega, h2⟩
    · exact .inr h

theorem rvPre_len : ∀ (f : Nat) (l p : List Int), rvPre f l = some p → p.length ≤ l.length
  | 0, _, _, h => by simp [rvPre] at h
  | _ + 1, [], _, h => by simp [rvPre] at h
  | f + 1, b :: t, p, h => by
    rw [rvPre] at h
    split at h
    · obtain ⟨p', h', rfl⟩ := Option.map_eq_some_iff.1 h
      have := rvPre_len f t p' h'
      simp; omega
    · obtain rfl := Option.some.inj h
      simp
theorem readVarOf_bounds (s : ByteArray) (a n nx : Int) (h : readVarOf s a = (n, nx, true)) : 0 ≤ n ∧ n ≤ 1000000000 ∧ 0 ≤ nx ∧ nx ≤ (s.size : Int) := by
  unfold readVarOf at h
  split at h
  next ha =>
    cases hp : rvPre 5 ((bytesOf s).drop a.toNat) with
    | none => rw [hp] at h; simp [rvRes] at h
    | some p =>
      rw [hp] at h
      have hl := rvPre_len _ _ _ hp
      rw [List.length_drop, bytesOf_length] at hl
      simp only [rvRes, List.nil_append] at h
      split at h
      · simp at h
      next hf =>
        have b := vval_bound p
        unfold rvFail at hf
        simp only [Prod.mk.injEq, and_true] at h
        have : ¬ vval p > 1000000000 := fun q => hf (.inr q)
        omega
  · simp at h

theorem shl7 (x : Int) (h0 : 0 ≤ x) (h1 : x < 128) (j : Nat) (hj : j < 5) : shl .i64 x (wrap64 (7 * (j : Int))) = x * 128 ^ j := by
  rw [w64 (by omega) (by omega)]
  unfold shl
  rw [IntKind.wrap_i64, show (7 * (j : Int)).toNat = 7 * j from by omega, Nat.min_eq_left (show 7 * j ≤ IntKind.i64.bits from by show 7 * j ≤ 64; omega)]
  obtain rfl | rfl | rfl | rfl | rfl : j = 0 ∨ j = 1 ∨ j = 2 ∨ j = 3 ∨ j = 4 := by omega
  all_goals (simp only [Nat.mul_zero, Nat.reduceMul, Int.reducePow, Int.pow_zero]; omega)
set_option maxHeartbeats 1000000 in
theorem impl_ReadVar_l0 (s : ByteArray) (hs : s.size ≤ 140737488351232) (a : Nat) : ∀ (f : Nat) (q : List Int), f + q.length = 5 → a + q.length ≤ s.size →
    Ev (fun k => impl_ReadVar.l0 k s (a : Int) (vval q) (q.length : Int)) (rvRes (a : Int) q (rvPre f ((bytesOf s).drop (a + q.length)))) := by
  intro f
  induction f with
  | zero =>
    intro q hf _
    refine ev_st (ev_st ?_)
    simp only [impl_ReadVar.l0, impl_ReadVar.j1, show ¬ ((q.length : Int) < 5) from by omega, ↓reduceIte, Bool.false_eq_true]
    exact Ev.now _
  | succ f ih =>
    intro q hf ha
    refine ev_st (ev_st ?_)
    have e0 : wrap64 ((s.size : Int) - (q.length : Int)) = (s.size : Int) - (q.length : Int) := w64 (by omega) (by omega)
    have e1 : wrap64 ((a : Int) + (q.length : Int)) = ((a + q.length : Nat) : Int) := by rw [w64 (by omega) (by omega)]; omega
    by_cases hlt : a + q.length < s.size
    · have b := bt_range s ((a + q.length : Nat) : Int)
      have hd := drop_bt s (a + q.length) hlt
      have f1 : (q.length : Int) < 5 := by omega
      have f2 : (a : Int) ≥ 0 := by omega
      have f3 : (a : Int) < (s.size : Int) - (q.length : Int) := by omega
      have f4 : (0 : Int) ≤ ((a + q.length : Nat) : Int) := by omega
      have f5 : ((a + q.length : Nat) : Int) < (s.size : Int) := by omega
      have f6 : q.length < 5 := by omega
      have f7 : 0 ≤ bt s ((a + q.length : Nat) : Int) % 128 := by omega
      have f8 : bt s ((a + q.length : Nat) : Int) % 128 < 128 := by omega
      have e5 : wrap64 (((a + q.length : Nat) : Int) + 1) = ((a : Int) + (((q.length + 1 : Nat)) : Int)) := by rw [w64 (by omega) (by omega)]; omega
      have e6 : wrap64 ((q.length : Int) + 1) = ((q.length + 1 : Nat) : Int) := by rw [w64 (by omega) (by omega)]; omega
      have e7 : (0 : Int) ≤ wrap64 (7 * (q.length : Int)) := by rw [w64 (by omega) (by omega)]; omega
      have e2 : Int.tmod (bt s ((a + q.length : Nat) : Int)) 128 = bt s ((a + q.length : Nat) : Int) % 128 := Int.tmod_eq_emod_of_nonneg b.1
      have e3 := shl7 (bt s ((a + q.length : Nat) : Int) % 128) f7 f8 q.length f6
      have e4 := term7 (bt s ((a + q.length : Nat) : Int)) b.1 q f6
      simp only [impl_ReadVar.l0, impl_ReadVar.j1, f1, f2, ↓reduceIte, e0, f3, decide_true, e1, f4, f5, bt_wrap, e2, e3, e4, e5, e6, e7]
      clear e2 e3 e4 e5 e6 e7 f7 f8
      rw [hd]
      generalize bt s ((a + q.length : Nat) : Int) = c at b ⊢
      by_cases hb : 128 ≤ c
      · rw [rvRes_step _ _ _ _ _ hb]
        simp only [show c ≥ 128 from hb, ↓reduceIte]
        have g := ih (q ++ [c]) (by simp; omega) (by simp; omega)
        simp only [List.length_append, List.length_singleton] at g
        exact g
      · rw [rvRes_last _ _ _ _ _ hb]
        simp only [show ¬ (c ≥ 128) from hb, ↓reduceIte, rvFail_iff, List.length_append, List.length_singleton]
        by_cases h0 : c = 0
        · by_cases hp : 0 < q.length
          · simp only [h0, show (q.length : Int) > 0 from by omega, hp, and_self, true_or, ↓reduceIte]
            exact Ev.now _
          · simp only [h0, show ¬ ((q.length : Int) > 0) from by omega, hp, false_and, false_or, ↓reduceIte]
            split
            · exact Ev.now _
            · exact Ev.now _
        · simp only [h0, and_false, false_or, ↓reduceIte]
          split
          · exact Ev.now _
          · exact Ev.now _
    · simp only [impl_ReadVar.l0, impl_ReadVar.j1, show (q.length : Int) < 5 from by omega, show (a : Int) ≥ 0 from by omega, ↓reduceIte, e0, show ¬ ((a : Int) < (s.size : Int) - (q.length : Int)) from by omega, decide_false, Bool.false_eq_true]
      rw [show a + q.length = s.size from by omega, drop_end]
      exact Ev.now _
theorem impl_ReadVar_ev (s : ByteArray) (hs : s.size ≤ 140737488351232) (a : Int) (h0 : -9223372036854775808 ≤ a) (h1 : a ≤ 9223372036854775807) : Ev (fun k => impl_ReadVar.f k s a) (readVarOf s a) := by
  unfold readVarOf
  simp only [impl_ReadVar.f]
  by_cases h : 0 ≤ a ∧ a ≤ (s.size : Int)
  · rw [if_pos h]
    obtain ⟨m, rfl⟩ := Int.eq_ofNat_of_zero_le h.1
    exact impl_ReadVar_l0 s hs m 5 [] rfl (by simp; omega)
  · rw [if_neg h]
    refine ev_st (ev_st ?_)
    have e : wrap64 ((s.size : Int) - 0) = (s.size : Int) := by rw [w64 (by omega) (by omega)]; omega
    simp only [impl_ReadVar.l0, impl_ReadVar.j1, show (0 : Int) < 5 from by omega, ↓reduceIte, e]
    by_cases ha : a ≥ 0
    · simp only [ha, show ¬ (a < (s.size : Int)) from by omega, ↓reduceIte, decide_false, Bool.false_eq_true]
      exact Ev.now _
    · simp only [ha, ↓reduceIte, Bool.false_eq_true]
      exact Ev.now _

theorem take_bt (s : ByteArray) (a j : Nat) (h : a + j < s.size) : ((bytesOf s).drop a).take (j + 1) = ((bytesOf s).drop a).take j ++ [bt s ((a + j : Nat) : Int)] := by
  rw [List.take_succ_eq_append_getElem (by rw [List.length_drop, bytesOf_length]; omega), List.getElem_drop, bt_get s (a + j) h]
theorem bytesOf_piece (s : ByteArray) (a j : Nat) : bytesOf (s.extract a (a + j)) = ((bytesOf s).drop a).take j := by
  rw [bytesOf_extract, List.drop_take, Nat.add_sub_cancel_left]
set_option maxHeartbeats 1000000 in
theorem spec_ReadVar_l0 (s : ByteArray) (hs : s.size ≤ 140737488351232) (a : Nat) : ∀ (f : Nat) (q : List Int), f + q.length = 5 → a + q.length ≤ s.size → ((bytesOf s).drop a).take q.length = q → (∀ x ∈ q, 128 ≤ x ∧ x < 256) →
    Ev (fun k => spec_ReadVar.l0 k s (a : Int) (vval q) (128 ^ q.length) ((a + q.length : Nat) : Int)) (rvRes (a : Int) q (rvPre f ((bytesOf s).drop (a + q.length)))) := by
  intro f
  induction f with
  | zero =>
    intro q hf ha _ _
    refine ev_st (ev_st ?_)
    have e : wrap64 ((a : Int) + 5) = (a : Int) + 5 := w64 (by omega) (by omega)
    by_cases hlt : ((a + q.length : Nat) : Int) < (s.size : Int)
    · simp only [spec_ReadVar.l0, spec_ReadVar.j1, hlt, e, show ¬ (((a + q.length : Nat) : Int) < (a : Int) + 5) from by omega, ↓reduceIte, decide_false, Bool.false_eq_true]
      exact Ev.now _
    · simp only [spec_ReadVar.l0, spec_ReadVar.j1, hlt, ↓reduceIte, Bool.false_eq_true]
      exact Ev.now _
  | succ f ih =>
    intro q hf ha hq hr
    refine ev_st (ev_st ?_)
    have e : wrap64 ((a : Int) + 5) = (a : Int) + 5 := w64 (by omega) (by omega)
    by_cases hlt : a + q.length < s.size
    · have b := bt_range s ((a + q.length : Nat) : Int)
      have hd := drop_bt s (a + q.length) hlt
      have ht := take_bt s a q.length hlt
      rw [hq] at ht
      have f1 : (q.length : Nat) < 5 := by omega
      have f2 : ((a + q.length : Nat) : Int) < (s.size : Int) := by omega
      have f3 : ((a + q.length : Nat) : Int) < (a : Int) + 5 := by omega
      have f4 : (0 : Int) ≤ ((a + q.length : Nat) : Int) := by omega
      have f5 : (0 : Int) ≤ (a : Int) := by omega
      have f6 : (a : Int) ≤ ((a + (q.length + 1) : Nat) : Int) := by omega
      have f7 : ((a + (q.length + 1) : Nat) : Int) ≤ (s.size : Int) := by omega
      have e5 : wrap64 (((a + q.length : Nat) : Int) + 1) = ((a + (q.length + 1) : Nat) : Int) := by rw [w64 (by omega) (by omega)]; omega
      have e2 : Int.tmod (bt s ((a + q.length : Nat) : Int)) 128 = bt s ((a + q.length : Nat) : Int) % 128 := Int.tmod_eq_emod_of_nonneg b.1
      have e4 := term7 (bt s ((a + q.length : Nat) : Int)) b.1 q f1
      have e3 := term7a (bt s ((a + q.length : Nat) : Int)) b.1 q f1
      have e6 := scale7 q f1
      simp only [spec_ReadVar.l0, spec_ReadVar.j1, f2, ↓reduceIte, e, f3, decide_true, f4, bt_wrap, e2, e3, e4, e5, e6, f5, f6, f7, Int.toNat_natCast]
      clear e2 e3 e4 e5 e6
      rw [hd]
      have hx := bytesOf_piece s a (q.length + 1)
      rw [ht] at hx
      generalize bt s ((a + q.length : Nat) : Int) = c at b ht hx ⊢
      by_cases hb : 128 ≤ c
      · rw [rvRes_step _ _ _ _ _ hb]
        simp only [show ¬ (c < 128) from by omega, ↓reduceIte]
        have g := ih (q ++ [c]) (by simp; omega) (by simp; omega) (by rw [List.length_append, List.length_singleton]; exact ht) (by
          intro x hx
          rcases List.mem_append.1 hx with h | h
          · exact hr x h
          · obtain rfl := List.mem_singleton.1 h; omega)
        simp only [List.length_append, List.length_singleton] at g
        exact g
      · rw [rvRes_last _ _ _ _ _ hb]
        have hE := ends_snoc q c hr (by omega) (by omega)
        have hv := vval_bound (q ++ [c])
        simp only [show c < 128 from by omega, ↓reduceIte]
        unfold rvFail
        by_cases hM : vval (q ++ [c]) > 1000000000
        · simp only [hM, or_true, ↓reduceIte]
          exact Ev.now _
        · simp only [hM, or_false, ↓reduceIte]
          refine Ev.bind (spec_l01Var_ev _ hv.1 (by omega)) ?_
          have key : (varS (vval (q ++ [c]))).toList = (s.extract a (a + (q.length + 1))).toList ↔ ¬ (1 < (q ++ [c]).length ∧ (q ++ [c]).getLast? = some 0) := by
            rw [toList_inj, ← vt_iff _ hE]
            unfold varS
            constructor
            · intro h
              have h2 := congrArg bytesOf h
              rw [bytesOf_str (vt_range _), hx] at h2
              exact h2
            · intro h
              refine bytesOf_inj ?_
              rw [bytesOf_str (vt_range _), hx]
              exact h
          simp only [key, List.length_append, List.length_singleton]
          by_cases hk : 1 < q.length + 1 ∧ (q ++ [c]).getLast? = some 0
          · simp only [hk, not_true_eq_false, and_self, ↓reduceIte]
            exact Ev.now _
          · simp only [hk, not_false_eq_true, ↓reduceIte]
            rw [show ((a + (q.length + 1) : Nat) : Int) = (a : Int) + ((q.length + 1 : Nat) : Int) from by omega]
            exact Ev.now _
    · simp only [spec_ReadVar.l0, spec_ReadVar.j1, show ¬ (((a + q.length : Nat) : Int) < (s.size : Int)) from by omega, ↓reduceIte, Bool.false_eq_true]
      rw [show a + q.length = s.size from by omega, drop_end]
      exact Ev.now _
theorem spec_ReadVar_ev (s : ByteArray) (hs : s.size ≤ 140737488351232) (a : Int) : Ev (fun k => spec_ReadVar.f k s a) (readVarOf s a) := by
  unfold readVarOf
  simp only [spec_ReadVar.f, spec_l01In_eq, Option.bind_some, decide_eq_true_eq]
  by_cases h : 0 ≤ a ∧ a ≤ (s.size : Int)
  · simp only [h, and_self, ↓reduceIte]
    obtain ⟨m, rfl⟩ := Int.eq_ofNat_of_zero_le h.1
    exact spec_ReadVar_l0 s hs m 5 [] rfl (by simp; omega) rfl (by simp)
  · simp only [h, ↓reduceIte]
    exact Ev.now _

/-! the sum -/
def cstep (x : Int) : Int := if x % 2 = 1 then Go.bits .xor .u32 (x / 2) 3558460437 else x / 2
def cbits : Nat → Int → Int
  | 0, x => x
  | n + 1, x => cbits n (cstep x)
def cbyte (x b : Int) : Int := cbits 8 (Go.bits .xor .u32 x b)
def crc (x : Int) (l : List Int) : Int := l.foldl cbyte x
theorem cstep_range {x : Int} (h0 : 0 ≤ x) (h1 : x < 4294967296) : 0 ≤ cstep x ∧ cstep x < 4294967296 := by
  unfold cstep
  split
  · exact xor32_range _ _
  · omega
theorem cbits_range : ∀ (n : Nat) {x : Int}, 0 ≤ x → x < 4294967296 → 0 ≤ cbits n x ∧ cbits n x < 4294967296
  | 0, _, h0, h1 => ⟨h0, h1⟩
  | n + 1, _, h0, h1 => cbits_range n (cstep_range h0 h1).1 (cstep_range h0 h1).2
theorem cbyte_range (x b : Int) : 0 ≤ cbyte x b ∧ cbyte x b < 4294967296 := cbits_range 8 (xor32_range x b).1 (xor32_range x b).2
theorem and1_u32 {x : Int} (h0 : 0 ≤ x) (h1 : x < 4294967296) : Go.bits .and .u32 x 1 = x % 2 :=
  bits_mask .u32 32 (by decide) (fun n h h' => by rw [IntKind.wrap_u32]; omega) 1 (by decide) x h0 h1


theorem spec_SumMore_l1 (s : ByteArray) (i r : Int) : ∀ j : Nat, j ≤ 8 → ∀ x : Int, 0 ≤ x → x < 4294967296 → Ev (fun k => spec_SumMore.l0 k (cbits j x) s (wrap64 (i + 1))) r →
    Ev (fun k => spec_SumMore.l1 k x s i (8 - (j : Int))) r := by
  intro j
  induction j with
  | zero =>
    intro _ x h0 h1 h
    refine ev_st ?_
    simp only [spec_SumMore.l1, show ¬ ((8 : Int) - ((0 : Nat) : Int) < 8) from by omega, ↓reduceIte]
    exact h
  | succ j ih =>
    intro hj x h0 h1 h
    refine ev_st ?_
    have e : wrap64 ((8 : Int) - ((j + 1 : Nat) : Int) + 1) = 8 - (j : Int) := by rw [w64 (by omega) (by omega)]; omega
    have t : Int.tmod x 2 = x % 2 := Int.tmod_eq_emod_of_nonneg h0
    have d : Int.tdiv x 2 % 4294967296 = x / 2 := by rw [Int.tdiv_eq_ediv_of_nonneg h0]; omega
    have c := cstep_range h0 h1
    have g := ih (by omega) (cstep x) c.1 c.2 h
    simp only [spec_SumMore.l1, show (8 : Int) - ((j + 1 : Nat) : Int) < 8 from by omega, ↓reduceIte, e, t, d]
    unfold cstep at g
    by_cases hp : x % 2 = 1
    · simp only [hp, ↓reduceIte] at g ⊢
      exact g
    · simp only [hp, ↓reduceIte] at g ⊢
      exact g
theorem spec_SumMore_l0 (s : ByteArray) (hs : s.size ≤ 140737488351232) : ∀ (d i : Nat), i + d = s.size → ∀ x : Int, 0 ≤ x → x < 4294967296 →
    Ev (fun k => spec_SumMore.l0 k x s (i : Int)) (crc x ((bytesOf s).drop i)) := by
  intro d
  induction d with
  | zero =>
    intro i hi x h0 h1
    refine ev_st ?_
    obtain rfl : i = s.size := by omega
    simp only [spec_SumMore.l0, show ¬ ((s.size : Int) < (s.size : Int)) from by omega, ↓reduceIte, drop_end]
    exact Ev.now _
  | succ d ih =>
    intro i hi x h0 h1
    refine ev_st ?_
    have b := bt_range s i
    have e : bt s i % 4294967296 = bt s i := by omega
    simp only [spec_SumMore.l0, show (i : Int) < (s.size : Int) from by omega, show (0 : Int) ≤ (i : Int) from by omega, ↓reduceIte, e]
    rw [drop_bt s i (by omega)]
    have g := spec_SumMore_l1 s i (crc x (bt s i :: (bytesOf s).drop (i + 1))) 8 (by omega) (Go.bits .xor .u32 x (bt s i)) (xor32_range _ _).1 (xor32_range _ _).2
    rw [show (8 : Int) - ((8 : Nat) : Int) = 0 from rfl] at g
    refine g ?_
    rw [w64 (by omega) (by omega), show (i : Int) + 1 = ((i + 1 : Nat) : Int) from by omega]
    exact ih (i + 1) (by omega) _ (cbyte_range _ _).1 (cbyte_range _ _).2
theorem spec_SumMore_ev (s : ByteArray) (hs : s.size ≤ 140737488351232) (x : Int) (h0 : 0 ≤ x) (h1 : x < 4294967296) : Ev (fun k => spec_SumMore.f k x s) (crc x (bytesOf s)) :=
  spec_SumMore_l0 s hs s.size 0 (by omega) x h0 h1


theorem impl_SumMore_l1 (s : ByteArray) (i r : Int) : ∀ j : Nat, j ≤ 8 → ∀ x : Int, 0 ≤ x → x < 4294967296 → Ev (fun k => impl_SumMore.l0 k (cbits j x) s (wrap64 (i + 1))) r →
    Ev (fun k => impl_SumMore.l1 k x s i (8 - (j : Int))) r := by
  intro j
  induction j with
  | zero =>
    intro _ x h0 h1 h
    refine ev_st ?_
    simp only [impl_SumMore.l1, show ¬ ((8 : Int) - ((0 : Nat) : Int) < 8) from by omega, ↓reduceIte]
    exact h
  | succ j ih =>
    intro hj x h0 h1 h
    refine ev_st ?_
    have e : wrap64 ((8 : Int) - ((j + 1 : Nat) : Int) + 1) = 8 - (j : Int) := by rw [w64 (by omega) (by omega)]; omega
    have t := and1_u32 h0 h1
    have c := cstep_range h0 h1
    have g := ih (by omega) (cstep x) c.1 c.2 h
    simp only [impl_SumMore.l1, show (8 : Int) - ((j + 1 : Nat) : Int) < 8 from by omega, ↓reduceIte, e, t]
    unfold cstep at g
    by_cases hp : x % 2 = 1
    · simp only [hp, ↓reduceIte] at g ⊢
      exact g
    · simp only [hp, ↓reduceIte] at g ⊢
      exact g
theorem impl_SumMore_l0 (s : ByteArray) (hs : s.size ≤ 140737488351232) : ∀ (d i : Nat), i + d = s.size → ∀ x : Int, 0 ≤ x → x < 4294967296 →
    Ev (fun k => impl_SumMore.l0 k x s (i : Int)) (crc x ((bytesOf s).drop i)) := by
  intro d
  induction d with
  | zero =>
    intro i hi x h0 h1
    refine ev_st ?_
    obtain rfl : i = s.size := by omega
    simp only [impl_SumMore.l0, show ¬ ((s.size : Int) < (s.size : Int)) from by omega, ↓reduceIte, drop_end]
    exact Ev.now _
  | succ d ih =>
    intro i hi x h0 h1
    refine ev_st ?_
    have b := bt_range s i
    have e : bt s i % 4294967296 = bt s i := by omega
    simp only [impl_SumMore.l0, show (i : Int) < (s.size : Int) from by omega, show (0 : Int) ≤ (i : Int) from by omega, ↓reduceIte, e]
    rw [drop_bt s i (by omega)]
    have g := impl_SumMore_l1 s i (crc x (bt s i :: (bytesOf s).drop (i + 1))) 8 (by omega) (Go.bits .xor .u32 x (bt s i)) (xor32_range _ _).1 (xor32_range _ _).2
    rw [show (8 : Int) - ((8 : Nat) : Int) = 0 from rfl] at g
    refine g ?_
    rw [w64 (by omega) (by omega), show (i : Int) + 1 = ((i + 1 : Nat) : Int) from by omega]
    exact ih (i + 1) (by omega) _ (cbyte_range _ _).1 (cbyte_range _ _).2
theorem impl_SumMore_ev (s : ByteArray) (hs : s.size ≤ 140737488351232) (x : Int) (h0 : 0 ≤ x) (h1 : x < 4294967296) : Ev (fun k => impl_SumMore.f k x s) (crc x (bytesOf s)) :=
  impl_SumMore_l0 s hs s.size 0 (by omega) x h0 h1

theorem spec_SumOf_ev (s : ByteArray) (hs : s.size ≤ 140737488351232) : Ev (fun k => spec_SumOf.f k s) (crc 4294967295 (bytesOf s)) :=
  Ev.bind (spec_SumMore_ev s hs 4294967295 (by omega) (by omega)) (Ev.now _)

theorem impl_SumOf_ev (s : ByteArray) (hs : s.size ≤ 140737488351232) : Ev (fun k => impl_SumOf.f k s) (crc 4294967295 (bytesOf s)) :=
  Ev.bind (impl_SumMore_ev s hs 4294967295 (by omega) (by omega)) (Ev.now _)

/-! a text with its sum -/
def fourOf (x : Int) : ByteArray := strOfNums [x / 16777216 % 256, x / 65536 % 256, x / 256 % 256, x % 256]
theorem fourOf_size (x : Int) : (fourOf x).size = 4 := by unfold fourOf; rw [strOfNums_size]; rfl
def sumFour (s : ByteArray) : ByteArray := fourOf (crc 4294967295 (bytesOf s))
theorem sumFour_size (s : ByteArray) : (sumFour s).size = 4 := fourOf_size _
def sealOf (s : ByteArray) : ByteArray × Bool := if (s.size : Int) > 20000 then ((⟨#[]⟩ : ByteArray), false) else (s ++ sumFour s, true)

theorem spec_Sealed_ev (s : ByteArray) (hs : s.size ≤ 140737488351232) : Ev (fun k => spec_Sealed.f k s) (sealOf s) := by
  simp only [spec_Sealed.f]
  unfold sealOf
  by_cases h : (s.size : Int) > 20000
  · simp only [h, ↓reduceIte]; exact Ev.now _
  · simp only [h, ↓reduceIte]
    refine Ev.bind (spec_SumOf_ev s hs) ?_
    have h4 := sumFour_size s
    simp only [spec_l02Four.f, Option.bind_some]
    unfold sumFour fourOf at h4 ⊢
    simp only [show s.size + (strOfNums [crc 4294967295 (bytesOf s) / 16777216 % 256, crc 4294967295 (bytesOf s) / 65536 % 256, crc 4294967295 (bytesOf s) / 256 % 256, crc 4294967295 (bytesOf s) % 256]).size ≤ 9223372036854775807 from by omega, ↓reduceIte]
    exact Ev.now _

theorem impl_Sealed_ev (s : ByteArray) (hs : s.size ≤ 140737488351232) : Ev (fun k => impl_Sealed.f k s) (sealOf s) := by
  simp only [impl_Sealed.f]
  unfold sealOf
  by_cases h : (s.size : Int) > 20000
  · simp only [h, ↓reduceIte]; exact Ev.now _
  · simp only [h, ↓reduceIte]
    refine Ev.bind (impl_SumOf_ev s hs) ?_
    have h4 := sumFour_size s
    simp only [Option.bind_some]
    unfold sumFour fourOf at h4 ⊢
    simp only [show s.size + (strOfNums [crc 4294967295 (bytesOf s) / 16777216 % 256, crc 4294967295 (bytesOf s) / 65536 % 256, crc 4294967295 (bytesOf s) / 256 % 256, crc 4294967295 (bytesOf s) % 256]).size ≤ 9223372036854775807 from by omega, ↓reduceIte]
    exact Ev.now _

/-! a text without its sum -/
def unsealOf (t : ByteArray) : ByteArray × Bool :=
  if t.size < 4 then ((⟨#[]⟩ : ByteArray), false) else if sealOf (t.extract 0 (t.size - 4)) = (t, true) then (t.extract 0 (t.size - 4), true) else ((⟨#[]⟩ : ByteArray), false)
theorem split4 (t : ByteArray) (h : 4 ≤ t.size) : t.extract 0 (t.size - 4) ++ t.extract (t.size - 4) t.size = t := by
  refine bytesOf_inj ?_
  rw [bytesOf_append, bytesOf_extract, bytesOf_extract, List.drop_zero, List.take_of_length_le (l := bytesOf t) (i := t.size) (by rw [bytesOf_length]; exact Nat.le_refl _), List.take_append_drop]

theorem spec_Unsealed_ev (t : ByteArray) (hs : t.size ≤ 140737488351232) : Ev (fun k => spec_Unsealed.f k t) (unsealOf t) := by
  simp only [spec_Unsealed.f]
  unfold unsealOf
  rw [w64 (by omega) (by omega)]
  by_cases h : t.size < 4
  · simp only [show (t.size : Int) - 4 < 0 from by omega, h, ↓reduceIte]; exact Ev.now _
  · have hz : (t.extract 0 (t.size - 4)).size = t.size - 4 := by rw [ByteArray.size_extract]; omega
    simp only [show ¬ ((t.size : Int) - 4 < 0) from by omega, h, ↓reduceIte]
    by_cases h2 : (t.size : Int) - 4 > 20000
    · have e : sealOf (t.extract 0 (t.size - 4)) ≠ (t, true) := by
        unfold sealOf
        rw [if_pos (by rw [hz]; omega)]
        intro e
        simp at e
      simp only [h2, e, ↓reduceIte]
      exact Ev.now _
    · simp only [h2, show (0 : Int) ≤ (t.size : Int) - 4 from by omega, show (t.size : Int) - 4 ≤ (t.size : Int) from by omega, ↓reduceIte, show ((t.size : Int) - 4).toNat = t.size - 4 from by omega]
      refine Ev.bind (spec_SumOf_ev _ (by rw [hz]; omega)) ?_
      simp only [spec_l02Four.f, Option.bind_some]
      have e : sealOf (t.extract 0 (t.size - 4)) = (t.extract 0 (t.size - 4) ++ sumFour (t.extract 0 (t.size - 4)), true) := by
        unfold sealOf
        rw [if_neg (by rw [hz]; omega)]
      have key : (t.extract (t.size - 4) t.size).toList = (sumFour (t.extract 0 (t.size - 4))).toList ↔ sealOf (t.extract 0 (t.size - 4)) = (t, true) := by
        rw [toList_inj, e]
        simp only [Prod.mk.injEq, and_true]
        constructor
        · intro q; rw [← q]; exact split4 t (by omega)
        · intro q
          have q2 := split4 t (by omega)
          rw [← q] at q2
          rw [← ByteArray.append_right_inj (t.extract 0 (t.size - 4))]
          rw [q, split4 t (by omega)]
      unfold sumFour fourOf at key
      simp only [key]
      split
      · exact Ev.now _
      · exact Ev.now _

theorem impl_Unsealed_ev (t : ByteArray) (hs : t.size ≤ 140737488351232) : Ev (fun k => impl_Unsealed.f k t) (unsealOf t) := by
  simp only [impl_Unsealed.f]
  unfold unsealOf
  by_cases h : t.size < 4
  · simp only [show (t.size : Int) < 4 from by omega, h, ↓reduceIte]; exact Ev.now _
  · have hz : (t.extract 0 (t.size - 4)).size = t.size - 4 := by rw [ByteArray.size_extract]; omega
    have e : wrap64 ((t.size : Int) - 4) = (t.size : Int) - 4 := w64 (by omega) (by omega)
    simp only [e, show ¬ ((t.size : Int) < 4) from by omega, h, show (0 : Int) ≤ (t.size : Int) - 4 from by omega, show (t.size : Int) - 4 ≤ (t.size : Int) from by omega, ↓reduceIte, show ((t.size : Int) - 4).toNat = t.size - 4 from by omega]
    refine Ev.bind (impl_Sealed_ev _ (by rw [hz]; omega)) ?_
    generalize sealOf (t.extract 0 (t.size - 4)) = q
    obtain ⟨a, b⟩ := q
    cases b with
    | false => simp; exact Ev.now _
    | true =>
      simp only [toList_inj, Prod.mk.injEq, and_true, ↓reduceIte]
      split
      · exact Ev.now _
      · exact Ev.now _

def pageOk (kind seq tx part count : Int) (text : ByteArray) : Bool :=
  decide ((1 ≤ seq ∧ seq ≤ 1000000000) ∧ (1 ≤ tx ∧ tx ≤ 1000000000) ∧ (1 ≤ count ∧ count ≤ 9) ∧ (0 ≤ part ∧ part ≤ count - 1) ∧ ¬ ((text.size : Int) > 90) ∧ (kind = 2 ∨ (kind = 1 ∧ count = 1)))
theorem spec_PageOk_eq (a b c d e : Int) (t : ByteArray) (hd : -9223372036854775808 ≤ d ∧ d ≤ 9223372036854775807) (he : -9223372036854775808 ≤ e ∧ e ≤ 9223372036854775807) : spec_PageOk.f a b c d e t = some (pageOk a b c d e t) := by
  unfold spec_PageOk.f pageOk
  simp only [spec_l01In_eq, Option.bind_some, decide_eq_true_eq]
  by_cases h1 : 1 ≤ b ∧ b ≤ 1000000000
  · by_cases h2 : 1 ≤ c ∧ c ≤ 1000000000
    · by_cases h3 : 1 ≤ e ∧ e ≤ 9
      · rw [w64 (n := e - 1) (by omega) (by omega)]
        by_cases h4 : 0 ≤ d ∧ d ≤ e - 1
        · by_cases h5 : (t.size : Int) > 90
          · simp [h1, h2, h3, h4, h5]
          · by_cases h6 : a = 2
            · simp [h1, h2, h3, h4, h5, h6]
            · by_cases h7 : a = 1
              · simp only [h1, h2, h3, h4, h5, h6, h7, and_self, if_true, if_false, true_and, not_false_eq_true, false_or]
                simp
                by_cases h8 : e = 1 <;> simp [h8]
              · have : ¬ (1 ≤ a ∧ a ≤ 2) := by omega
                simp [this, h6, h7]
        · simp [h1, h2, h3, h4]
      · simp [h1, h2, h3]
    · simp [h1, h2]
  · simp [h1]
theorem impl_PageOk_eq (a b c d e : Int) (t : ByteArray) (hd : -9223372036854775808 ≤ d ∧ d ≤ 9223372036854775807) (he : -9223372036854775808 ≤ e ∧ e ≤ 9223372036854775807) : impl_PageOk.f a b c d e t = some (pageOk a b c d e t) := by
  unfold impl_PageOk.f pageOk
  simp only [impl_in_eq, Option.bind_some, decide_eq_true_eq]
  by_cases h1 : 1 ≤ b ∧ b ≤ 1000000000
  · by_cases h2 : 1 ≤ c ∧ c ≤ 1000000000
    · by_cases h3 : 1 ≤ e ∧ e ≤ 9
      · rw [w64 (n := e - 1) (by omega) (by omega)]
        by_cases h4 : 0 ≤ d ∧ d ≤ e - 1
        · by_cases h5 : (t.size : Int) > 90
          · simp [h1, h2, h3, h4, h5]
          · by_cases h6 : a = 2
            · simp [h1, h2, h3, h4, h5, h6]
            · by_cases h7 : a = 1
              · simp only [h1, h2, h3, h4, h5, h6, h7, and_self, if_true, if_false, true_and, not_false_eq_true, false_or]
                simp
                by_cases h8 : e = 1 <;> simp [h8]
              · simp [h1, h2, h3, h4, h5, h6, h7]
        · simp [h1, h2, h3, h4]
      · simp [h1, h2, h3]
    · simp [h1, h2]
  · simp [h1]

def pageTextOf (kind seq tx part count : Int) (text : ByteArray) : ByteArray × Bool :=
  if pageOk kind seq tx part count text = true then sealOf (((((strOfNums [kind % 256] ++ varS seq) ++ varS tx) ++ varS part) ++ varS count) ++ text) else ((⟨#[]⟩ : ByteArray), false)
theorem page_sizes {kind seq tx part count : Int} {text : ByteArray} (h : pageOk kind seq tx part count text = true) : (1 ≤ seq ∧ seq ≤ 1000000000) ∧ (1 ≤ tx ∧ tx ≤ 1000000000) ∧ (0 ≤ part ∧ part ≤ 9) ∧ (1 ≤ count ∧ count ≤ 9) ∧ text.size ≤ 90 ∧
    (varS seq).size ≤ 5 ∧ (varS tx).size ≤ 5 ∧ (varS part).size ≤ 5 ∧ (varS count).size ≤ 5 := by
  unfold pageOk at h
  have h := of_decide_eq_true h
  obtain ⟨h1, h2, h3, h4, h5, _⟩ := h
  refine ⟨h1, h2, by omega, h3, by omega, varS_size _ (by omega) (by omega), varS_size _ (by omega) (by omega), varS_size _ (by omega) (by omega), varS_size _ (by omega) (by omega)⟩

theorem spec_PageText_ev (a b c d e : Int) (t : ByteArray) (hd : -9223372036854775808 ≤ d ∧ d ≤ 9223372036854775807) (he : -9223372036854775808 ≤ e ∧ e ≤ 9223372036854775807) : Ev (fun k => spec_PageText.f k a b c d e t) (pageTextOf a b c d e t) := by
  simp only [spec_PageText.f, spec_PageOk_eq a b c d e t hd he, Option.bind_some]
  unfold pageTextOf
  by_cases h : pageOk a b c d e t = true
  · obtain ⟨h1, h2, h3, h4, h5, z1, z2, z3, z4⟩ := page_sizes h
    have z0 : (strOfNums [a % 256]).size = 1 := by rw [strOfNums_size]; rfl
    simp only [h, ↓reduceIte, spec_l06Byte.f, Option.bind_some]
    refine Ev.bind (spec_l01Var_ev b (by omega) (by omega)) ?_
    simp only [show (strOfNums [a % 256]).size + (varS b).size ≤ 9223372036854775807 from by omega, ↓reduceIte]
    refine Ev.bind (spec_l01Var_ev c (by omega) (by omega)) ?_
    simp only [ByteArray.size_append, show (strOfNums [a % 256]).size + (varS b).size + (varS c).size ≤ 9223372036854775807 from by omega, ↓reduceIte]
    refine Ev.bind (spec_l01Var_ev d (by omega) (by omega)) ?_
    simp only [show (strOfNums [a % 256]).size + (varS b).size + (varS c).size + (varS d).size ≤ 9223372036854775807 from by omega, ↓reduceIte]
    refine Ev.bind (spec_l01Var_ev e (by omega) (by omega)) ?_
    simp only [show (strOfNums [a % 256]).size + (varS b).size + (varS c).size + (varS d).size + (varS e).size ≤ 9223372036854775807 from by omega, ↓reduceIte,
      show (strOfNums [a % 256]).size + (varS b).size + (varS c).size + (varS d).size + (varS e).size + t.size ≤ 9223372036854775807 from by omega]
    refine Ev.bind (spec_Sealed_ev _ (by simp only [ByteArray.size_append]; omega)) (Ev.now _)
  · simp only [h, ↓reduceIte, Bool.false_eq_true]
    exact Ev.now _

/-! a page is read: both ways answer alike (plain models) -/
theorem rvPre_cut : ∀ (f : Nat) (l p : List Int), (∀ b ∈ l, 0 ≤ b ∧ b < 256) → rvPre f l = some p → Ends p ∧ l = p ++ l.drop p.length
  | 0, _, _, _, h => by simp [rvPre] at h
  | _ + 1, [], _, _, h => by simp [rvPre] at h
  | f + 1, b :: t, p, hr, h => by
    have hb := hr b (List.mem_cons_self ..)
    rw [rvPre] at h
    split at h
    · next h128 =>
      obtain ⟨p', h', rfl⟩ := Option.map_eq_some_iff.1 h
      obtain ⟨e1, e2⟩ := rvPre_cut f t p' (fun c hc => hr c (List.mem_cons_of_mem _ hc)) h'
      refine ⟨?_, by rw [List.length_cons, List.drop_succ_cons, List.cons_append, ← e2]⟩
      cases p' with
      | nil => exact e1.elim
      | cons c q => exact ⟨h128, hb.2, e1⟩
    · next h128 =>
      obtain rfl := Option.some.inj h
      exact ⟨⟨hb.1, by omega⟩, rfl⟩
/-- What was read stands there just as it is written. -/
theorem read_back (s : ByteArray) (a n nx : Int) (h : readVarOf s a = (n, nx, true)) : 0 ≤ a ∧ a ≤ nx ∧ nx ≤ (s.size : Int) ∧ (0 ≤ n ∧ n ≤ 1000000000) ∧ (bytesOf s).drop a.toNat = vt n.toNat ++ (bytesOf s).drop nx.toNat := by
  have hb := readVarOf_bounds s a n nx h
  unfold readVarOf at h
  split at h
  · next ha =>
    cases hp : rvPre 5 ((bytesOf s).drop a.toNat) with
    | none => rw [hp] at h; unfold rvRes at h; simp at h
    | some p =>
      rw [hp] at h
      unfold rvRes at h
      simp only [List.nil_append] at h
      split at h
      · simp at h
      · next hf =>
        simp only [Prod.mk.injEq, and_true] at h
        obtain ⟨rfl, rfl⟩ := h
        obtain ⟨e1, e2⟩ := rvPre_cut 5 _ p (fun c hc => bytesOf_range s c (List.mem_of_mem_drop hc)) hp
        have e3 : vt (vval p).toNat = p := (vt_iff p e1).2 (fun k => hf (Or.inl k))
        refine ⟨ha.1, by omega, hb.2.2.2, ⟨hb.1, hb.2.1⟩, ?_⟩
        rw [e3, show (a + (p.length : Int)).toNat = a.toNat + p.length from by omega, ← List.drop_drop]
        exact e2
  · simp at h
/-- Four numbers, one behind the other. -/
def four (s : ByteArray) : Option (Int × Int × Int × Int × Int) :=
  if (readVarOf s 1).2.2 = true then
    (if (readVarOf s (readVarOf s 1).2.1).2.2 = true then
      (if (readVarOf s (readVarOf s (readVarOf s 1).2.1).2.1).2.2 = true then
        (if (readVarOf s (readVarOf s (readVarOf s (readVarOf s 1).2.1).2.1).2.1).2.2 = true then
          some ((readVarOf s 1).1, (readVarOf s (readVarOf s 1).2.1).1, (readVarOf s (readVarOf s (readVarOf s 1).2.1).2.1).1, (readVarOf s (readVarOf s (readVarOf s (readVarOf s 1).2.1).2.1).2.1).1, (readVarOf s (readVarOf s (readVarOf s (readVarOf s 1).2.1).2.1).2.1).2.1)
        else none) else none) else none) else none
theorem read_some (s : ByteArray) (a : Int) (h : (readVarOf s a).2.2 = true) : readVarOf s a = ((readVarOf s a).1, (readVarOf s a).2.1, true) := by rw [← h]
theorem four_back (s : ByteArray) (h1 : 1 ≤ s.size) (n1 n2 n3 n4 at' : Int) (h : four s = some (n1, n2, n3, n4, at')) :
    (0 ≤ n1 ∧ n1 ≤ 1000000000) ∧ (0 ≤ n2 ∧ n2 ≤ 1000000000) ∧ (0 ≤ n3 ∧ n3 ≤ 1000000000) ∧ (0 ≤ n4 ∧ n4 ≤ 1000000000) ∧ 0 ≤ at' ∧ at' ≤ (s.size : Int) ∧
    s = ((((strOfNums [bt s 0 % 256] ++ varS n1) ++ varS n2) ++ varS n3) ++ varS n4) ++ s.extract at'.toNat s.size := by
  unfold four at h
  split at h
  · next k1 =>
    split at h
    · next k2 =>
      split at h
      · next k3 =>
        split at h
        · next k4 =>
          simp only [Option.some.injEq, Prod.mk.injEq] at h
          obtain ⟨rfl, rfl, rfl, rfl, rfl⟩ := h
          have r1 := read_back s _ _ _ (read_some s _ k1)
          have r2 := read_back s _ _ _ (read_some s _ k2)
          have r3 := read_back s _ _ _ (read_some s _ k3)
          have r4 := read_back s _ _ _ (read_some s _ k4)
          generalize readVarOf s (readVarOf s (readVarOf s (readVarOf s 1).2.1).2.1).2.1 = q4 at r4 ⊢
          generalize readVarOf s (readVarOf s (readVarOf s 1).2.1).2.1 = q3 at r3 r4 ⊢
          generalize readVarOf s (readVarOf s 1).2.1 = q2 at r2 r3 r4 ⊢
          generalize readVarOf s 1 = q1 at r1 r2 r3 r4 ⊢
          refine ⟨r1.2.2.2.1, r2.2.2.2.1, r3.2.2.2.1, r4.2.2.2.1, by omega, r4.2.2.1, ?_⟩
          have bv : ∀ n : Int, bytesOf (varS n) = vt n.toNat := fun n => by unfold varS; exact bytesOf_str (vt_range _)
          apply bytesOf_inj
          have b0 := bt_range s 0
          have e0 : bytesOf (strOfNums [bt s 0 % 256]) = [bt s 0] := by
            rw [bytesOf_str (by simp; omega)]
            congr 1
            omega
          simp only [bytesOf_append, e0, bv, bytesOf_extract]
          rw [List.take_of_length_le (i := s.size) (by rw [bytesOf_length]; exact Nat.le_refl _)]
          simp only [List.append_assoc]
          rw [← r4.2.2.2.2, ← r3.2.2.2.2, ← r2.2.2.2.2, ← r1.2.2.2.2]
          have d0 := drop_bt s 0 (by omega)
          rw [List.drop_zero] at d0
          exact d0
        · cases h
      · cases h
    · cases h
  · cases h
def noPage : Int × Int × Int × Int × Int × ByteArray × Bool := (0, 0, 0, 0, 0, (⟨#[]⟩ : ByteArray), false)
/-- The program's way. -/
def implPage (t : ByteArray) : Int × Int × Int × Int × Int × ByteArray × Bool :=
  if (unsealOf t).2 = true ∧ (unsealOf t).1.size ≠ 0 then (match four (unsealOf t).1 with
    | some (n1, n2, n3, n4, a) => if pageOk (bt (unsealOf t).1 0) n1 n2 n3 n4 ((unsealOf t).1.extract a.toNat (unsealOf t).1.size) = true then (bt (unsealOf t).1 0, n1, n2, n3, n4, (unsealOf t).1.extract a.toNat (unsealOf t).1.size, true) else noPage
    | none => noPage) else noPage
/-- The reference's way: it writes the page anew. -/
def specPage (t : ByteArray) : Int × Int × Int × Int × Int × ByteArray × Bool :=
  if (unsealOf t).2 = true ∧ (unsealOf t).1.size ≠ 0 then (match four (unsealOf t).1 with
    | some (n1, n2, n3, n4, a) => if pageTextOf (bt (unsealOf t).1 0) n1 n2 n3 n4 ((unsealOf t).1.extract a.toNat (unsealOf t).1.size) = (t, true) then (bt (unsealOf t).1 0, n1, n2, n3, n4, (unsealOf t).1.extract a.toNat (unsealOf t).1.size, true) else noPage
    | none => noPage) else noPage
theorem unseal_ok (t : ByteArray) (h : (unsealOf t).2 = true) : sealOf (unsealOf t).1 = (t, true) := by
  unfold unsealOf at h ⊢
  split at h
  · cases h
  · next h4 =>
    rw [if_neg h4]
    split at h
    · next hs => rw [if_pos hs]; exact hs
    · cases h
theorem page_same (t : ByteArray) : specPage t = implPage t := by
  unfold specPage implPage
  split
  · next hu =>
    have hs := unseal_ok t hu.1
    generalize (unsealOf t).1 = s at hu hs ⊢
    cases hf : four s with
    | none => rfl
    | some x =>
      obtain ⟨n1, n2, n3, n4, a⟩ := x
      have b := four_back s (by omega) n1 n2 n3 n4 a hf
      have e := b.2.2.2.2.2.2
      simp only
      unfold pageTextOf
      by_cases ho : pageOk (bt s 0) n1 n2 n3 n4 (s.extract a.toNat s.size) = true
      · rw [if_pos ho, ← e, if_pos hs, if_pos ho]
      · rw [if_neg ho, if_neg ho, if_neg (fun k => by injection k with _ k; cases k)]
  · rfl

/-! the walks of ReadPage answer as the plain models -/
theorem unseal_size (t : ByteArray) (h : t.size ≤ 140737488351232) : (unsealOf t).1.size ≤ 140737488351232 := by
  unfold unsealOf
  split
  · show 0 ≤ _; omega
  · split
    · rw [ByteArray.size_extract]; omega
    · show 0 ≤ _; omega
def rdM (s : ByteArray) (a : Int) (bad : Bool) : Int × Int × Bool := (if bad = true ∨ (readVarOf s a).2.2 = false then 0 else (readVarOf s a).1, if bad = true ∨ (readVarOf s a).2.2 = false then a else (readVarOf s a).2.1, bad || !(readVarOf s a).2.2)
theorem rdM_bad (s : ByteArray) (a : Int) : rdM s a true = (0, a, true) := by simp [rdM]
theorem rdM_ok {s : ByteArray} {a : Int} (h : (readVarOf s a).2.2 = true) : rdM s a false = ((readVarOf s a).1, (readVarOf s a).2.1, false) := by simp [rdM, h]
theorem rdM_no {s : ByteArray} {a : Int} (h : ¬ (readVarOf s a).2.2 = true) : rdM s a false = (0, a, true) := by
  have h := Bool.eq_false_iff.mpr h
  simp [rdM, h]
theorem rd_ev (s : ByteArray) (hs : s.size ≤ 140737488351232) (a : Int) (bad : Bool) : Ev (fun k => spec_l06Var.rd k s a bad) (rdM s a bad) := by
  unfold spec_l06Var.rd
  refine Ev.bind (spec_ReadVar_ev s hs a) ?_
  exact Ev.now _
theorem fin_bad (t s : ByteArray) (v1 v2 v3 v4 a4 : Int) : Ev (fun k => spec_ReadPage.fin k t s v1 v2 v3 v4 a4 true) noPage := by
  simp only [spec_ReadPage.fin, ↓reduceIte]
  exact Ev.now _
theorem four_ok {s : ByteArray} (k1 : (readVarOf s 1).2.2 = true) (k2 : (readVarOf s (readVarOf s 1).2.1).2.2 = true) (k3 : (readVarOf s (readVarOf s (readVarOf s 1).2.1).2.1).2.2 = true) (k4 : (readVarOf s (readVarOf s (readVarOf s (readVarOf s 1).2.1).2.1).2.1).2.2 = true) :
    four s = some ((readVarOf s 1).1, (readVarOf s (readVarOf s 1).2.1).1, (readVarOf s (readVarOf s (readVarOf s 1).2.1).2.1).1, (readVarOf s (readVarOf s (readVarOf s (readVarOf s 1).2.1).2.1).2.1).1, (readVarOf s (readVarOf s (readVarOf s (readVarOf s 1).2.1).2.1).2.1).2.1) := by
  unfold four
  rw [if_pos k1, if_pos k2, if_pos k3, if_pos k4]
theorem spec_ReadPage_ev (t : ByteArray) (ht : t.size ≤ 140737488351232) : Ev (fun k => spec_ReadPage.f k t) (specPage t) := by
  unfold spec_ReadPage.f
  refine Ev.bind (spec_Unsealed_ev t ht) ?_
  have hs := unseal_size t ht
  unfold specPage
  generalize (unsealOf t) = u at hs ⊢
  obtain ⟨s, ok⟩ := u
  dsimp only at hs ⊢
  refine Ev.bind (rd_ev s hs 1 _) (Ev.bind (rd_ev s hs _ _) (Ev.bind (rd_ev s hs _ _) (Ev.bind (rd_ev s hs _ _) ?_)))
  by_cases hu : ok = true ∧ s.size ≠ 0
  · rw [if_pos hu]
    have hb : (!ok || decide ((s.size : Int) < 1)) = false := by
      rw [hu.1]
      have : ¬ ((s.size : Int) < 1) := by omega
      simp [this]
    rw [hb]
    by_cases k1 : (readVarOf s 1).2.2 = true
    · rw [rdM_ok k1]
      by_cases k2 : (readVarOf s (readVarOf s 1).2.1).2.2 = true
      · rw [rdM_ok k2]
        by_cases k3 : (readVarOf s (readVarOf s (readVarOf s 1).2.1).2.1).2.2 = true
        · rw [rdM_ok k3]
          by_cases k4 : (readVarOf s (readVarOf s (readVarOf s (readVarOf s 1).2.1).2.1).2.1).2.2 = true
          · rw [rdM_ok k4]
            have e := four_ok k1 k2 k3 k4
            have b := four_back s (by omega) _ _ _ _ _ e
            rw [e]
            dsimp only
            simp only [spec_ReadPage.fin, Bool.false_eq_true, ↓reduceIte]
            generalize (readVarOf s (readVarOf s (readVarOf s (readVarOf s 1).2.1).2.1).2.1) = q4 at b ⊢
            generalize (readVarOf s (readVarOf s (readVarOf s 1).2.1).2.1) = q3 at b ⊢
            generalize (readVarOf s (readVarOf s 1).2.1) = q2 at b ⊢
            generalize readVarOf s 1 = q1 at b ⊢
            have hc : 0 < s.size ∧ 0 ≤ q4.2.1 ∧ q4.2.1 ≤ (s.size : Int) := ⟨by omega, b.2.2.2.2.1, b.2.2.2.2.2.1⟩
            simp only [if_pos hc]
            refine Ev.bind (spec_PageText_ev _ _ _ _ _ _ ⟨by omega, by omega⟩ ⟨by omega, by omega⟩) ?_
            generalize pageTextOf (bt s 0) q1.1 q2.1 q3.1 q4.1 (s.extract q4.2.1.toNat s.size) = x
            obtain ⟨x1, x2⟩ := x
            by_cases hx : x2 = true ∧ x1 = t
            · rw [if_pos (show (x1, x2) = (t, true) from by rw [hx.1, hx.2])]
              simp only [if_pos hx]
              exact Ev.now _
            · rw [if_neg (show ¬ (x1, x2) = (t, true) from fun k => hx (by injection k with ka kb; exact ⟨kb, ka⟩))]
              simp only [if_neg hx]
              exact Ev.now _
          · rw [rdM_no k4]
            have e : four s = none := by unfold four; rw [if_pos k1, if_pos k2, if_pos k3, if_neg k4]
            rw [e]
            exact fin_bad ..
        · rw [rdM_no k3, rdM_bad]
          have e : four s = none := by unfold four; rw [if_pos k1, if_pos k2, if_neg k3]
          rw [e]
          exact fin_bad ..
      · rw [rdM_no k2, rdM_bad, rdM_bad]
        have e : four s = none := by unfold four; rw [if_pos k1, if_neg k2]
        rw [e]
        exact fin_bad ..
    · rw [rdM_no k1, rdM_bad, rdM_bad, rdM_bad]
      have e : four s = none := by unfold four; rw [if_neg k1]
      rw [e]
      exact fin_bad ..
  · rw [if_neg hu]
    have hb : (!ok || decide ((s.size : Int) < 1)) = true := by
      by_cases ho : ok = true
      · have : s.size = 0 := by by_cases hz : s.size = 0; exact hz; exact absurd ⟨ho, hz⟩ hu
        simp [this]
      · simp [ho]
    rw [hb, rdM_bad, rdM_bad, rdM_bad, rdM_bad]
    exact fin_bad ..
theorem lp_ok {s : ByteArray} (hs : s.size ≤ 140737488351232) {q : Nat} {l : List Int} {x : Int} (hx : 0 ≤ x ∧ x ≤ 9223372036854775807) {R : Int × Int × Int × Int × Int × ByteArray × Bool} (h : (readVarOf s x).2.2 = true) (H : Ev (fun k => impl_ReadPage.lp k s q (l.set (3 - q) (readVarOf s x).1) (readVarOf s x).2.1) R) : Ev (fun k => impl_ReadPage.lp k s (q + 1) l x) R := by
  simp only [impl_ReadPage.lp]
  refine Ev.bind (impl_ReadVar_ev s hs x (by omega) hx.2) ?_
  simp only [if_pos h]
  exact H
theorem lp_no {s : ByteArray} (hs : s.size ≤ 140737488351232) {q : Nat} {l : List Int} {x : Int} (hx : 0 ≤ x ∧ x ≤ 9223372036854775807) (h : ¬ (readVarOf s x).2.2 = true) : Ev (fun k => impl_ReadPage.lp k s (q + 1) l x) noPage := by
  simp only [impl_ReadPage.lp]
  refine Ev.bind (impl_ReadVar_ev s hs x (by omega) hx.2) ?_
  simp only [if_neg h]
  exact Ev.now _
theorem impl_ReadPage_ev (t : ByteArray) (ht : t.size ≤ 140737488351232) : Ev (fun k => impl_ReadPage.f k t) (implPage t) := by
  unfold impl_ReadPage.f
  refine Ev.bind (impl_Unsealed_ev t ht) ?_
  have hs := unseal_size t ht
  unfold implPage
  generalize (unsealOf t) = u at hs ⊢
  obtain ⟨s, ok⟩ := u
  dsimp only at hs ⊢
  by_cases hu : ok = true ∧ s.size ≠ 0
  · simp only [if_pos hu]
    have h1 : (0 : Int) ≤ 1 ∧ (1 : Int) ≤ 9223372036854775807 := by omega
    by_cases k1 : (readVarOf s 1).2.2 = true
    · have r1 := read_back s _ _ _ (read_some s _ k1)
      by_cases k2 : (readVarOf s (readVarOf s 1).2.1).2.2 = true
      · have r2 := read_back s _ _ _ (read_some s _ k2)
        by_cases k3 : (readVarOf s (readVarOf s (readVarOf s 1).2.1).2.1).2.2 = true
        · have r3 := read_back s _ _ _ (read_some s _ k3)
          by_cases k4 : (readVarOf s (readVarOf s (readVarOf s (readVarOf s 1).2.1).2.1).2.1).2.2 = true
          · have e := four_ok k1 k2 k3 k4
            have b := four_back s (by omega) _ _ _ _ _ e
            rw [e]
            refine lp_ok hs h1 k1 (lp_ok hs ⟨by omega, by omega⟩ k2 (lp_ok hs ⟨by omega, by omega⟩ k3 (lp_ok hs ⟨by omega, by omega⟩ k4 ?_)))
            clear r1 r2 r3
            dsimp only
            generalize (readVarOf s (readVarOf s (readVarOf s (readVarOf s 1).2.1).2.1).2.1) = q4 at b ⊢
            generalize (readVarOf s (readVarOf s (readVarOf s 1).2.1).2.1) = q3 at b ⊢
            generalize (readVarOf s (readVarOf s 1).2.1) = q2 at b ⊢
            generalize readVarOf s 1 = q1 at b ⊢
            show Ev (fun k => impl_ReadPage.fin s [q1.1, q2.1, q3.1, q4.1] q4.2.1) _
            unfold impl_ReadPage.fin
            have hc : 0 < s.size ∧ 0 ≤ q4.2.1 ∧ q4.2.1 ≤ (s.size : Int) := ⟨by omega, b.2.2.2.2.1, b.2.2.2.2.2.1⟩
            rw [if_pos hc]
            have e4 : rd [q1.1, q2.1, q3.1, q4.1] 0 = q1.1 ∧ rd [q1.1, q2.1, q3.1, q4.1] 1 = q2.1 ∧ rd [q1.1, q2.1, q3.1, q4.1] 2 = q3.1 ∧ rd [q1.1, q2.1, q3.1, q4.1] 3 = q4.1 := ⟨rfl, rfl, rfl, rfl⟩
            rw [e4.1, e4.2.1, e4.2.2.1, e4.2.2.2, impl_PageOk_eq _ _ _ _ _ _ ⟨by omega, by omega⟩ ⟨by omega, by omega⟩]
            simp only [Option.bind_some]
            by_cases ho : pageOk (bt s 0) q1.1 q2.1 q3.1 q4.1 (s.extract q4.2.1.toNat s.size) = true
            · rw [if_pos ho, if_pos ho]; exact Ev.now _
            · rw [if_neg ho, if_neg ho]; exact Ev.now _
          · have e : four s = none := by unfold four; rw [if_pos k1, if_pos k2, if_pos k3, if_neg k4]
            rw [e]
            exact lp_ok hs h1 k1 (lp_ok hs ⟨by omega, by omega⟩ k2 (lp_ok hs ⟨by omega, by omega⟩ k3 (lp_no hs ⟨by omega, by omega⟩ k4)))
        · have e : four s = none := by unfold four; rw [if_pos k1, if_pos k2, if_neg k3]
          rw [e]
          exact lp_ok hs h1 k1 (lp_ok hs ⟨by omega, by omega⟩ k2 (lp_no hs ⟨by omega, by omega⟩ k3))
      · have e : four s = none := by unfold four; rw [if_pos k1, if_neg k2]
        rw [e]
        exact lp_ok hs h1 k1 (lp_no hs ⟨by omega, by omega⟩ k2)
    · have e : four s = none := by unfold four; rw [if_neg k1]
      rw [e]
      exact lp_no hs h1 k1
  · simp only [if_neg hu]
    exact Ev.now _

/-! the draws of a page -/
theorem l01Once_is (l : List Int) (i s n : Int) (hl : l.length ≤ 1048576) (hi : 0 ≤ i) : ∃ b j t, spec_l01Once.f l i s n = some (b, j, t) ∧ 0 ≤ j := by
  obtain ⟨x, j, t, h1, _, _, h4⟩ := l01Below_is l i s n hl hi
  exact ⟨x == 0, j, t, by simp only [spec_l01Once.f, h1, Option.bind_some], h4⟩
/-- A drawn page's own bounds. -/
def PageIn (d e : Int) (t : ByteArray) : Prop := (-9223372036854775808 ≤ d ∧ d ≤ 9223372036854775807) ∧ (-9223372036854775808 ≤ e ∧ e ≤ 9223372036854775807) ∧ t.size ≤ 5000
theorem l06Page_j0 (l : List Int) (hl : l.length ≤ 1048576) (i s : Int) (hi : 0 ≤ i) (x : Bool) (a b c : Int) (t : ByteArray) (ht : t.size ≤ 5000) : ∃ d e j u, Ev (fun k => spec_l06Page.j0 k x l i s a b c 0 1 t) (a, b, c, d, e, t, j, u) ∧ PageIn d e t ∧ (0 ≤ e ∧ e ≤ 4) ∧ 0 ≤ j := by
  cases x with
  | false =>
    refine ⟨0, 1, i, s, ev_st ?_, ⟨by omega, by omega, ht⟩, by omega, hi⟩
    simp only [spec_l06Page.j0, Bool.false_eq_true, ↓reduceIte]
    exact Ev.now _
  | true =>
    obtain ⟨y, j, u, h1, h2, h3, h4⟩ := l01Below_is l i s 4 hl hi
    have h3 := h3 (by omega)
    obtain ⟨z, j2, u2, g1, g2, g3, g4⟩ := l01Below_is l j u (wrap64 (1 + y)) hl h4
    rw [w64 (n := 1 + y) (by omega) (by omega)] at g1 g3
    have g3 := g3 (by omega)
    refine ⟨z, 1 + y, j2, u2, ev_st ?_, ⟨by omega, by omega, ht⟩, by omega, g4⟩
    simp only [spec_l06Page.j0, ↓reduceIte, h1, Option.bind_some, w64 (n := 1 + y) (by omega) (by omega), g1]
    exact Ev.now _
theorem l06Page_ev (l : List Int) (hl : l.length ≤ 1048576) (i s : Int) (hi : 0 ≤ i) : ∃ a b c d e t j u, Ev (fun k => spec_l06Page.f k l i s) (a, b, c, d, e, t, j, u) ∧ PageIn d e t ∧ (0 ≤ e ∧ e ≤ 4) ∧ 0 ≤ j := by
  obtain ⟨x1, j1, t1, f1, _, _, k1⟩ := l01Below_is l i s 2 hl hi
  obtain ⟨x2, j2, t2, f2, _, _, k2⟩ := l01Below_is l j1 t1 30 hl k1
  obtain ⟨x3, j3, t3, f3, _, _, k3⟩ := l01Below_is l j2 t2 9 hl k2
  obtain ⟨x4, j4, t4, f4, g4, h4, k4⟩ := l01Below_is l j3 t3 9 hl k3
  have h4 := h4 (by omega)
  obtain ⟨r, j5, t5, e5, z5, k5⟩ := l01Text_ev l hl j4 t4 k4 x4.toNat (by omega)
  rw [show ((x4.toNat : Nat) : Int) = x4 from by omega] at e5
  by_cases hk : wrap64 (1 + x1) = 2
  · obtain ⟨o, j6, t6, f6, k6⟩ := l01Once_is l j5 t5 2 hl k5
    obtain ⟨d, e, j, u, q1, q2, q3, q4⟩ := l06Page_j0 l hl j6 t6 k6 o (wrap64 (1 + x1)) (wrap64 (1 + x2)) (wrap64 (1 + x3)) r (by omega)
    refine ⟨wrap64 (1 + x1), wrap64 (1 + x2), wrap64 (1 + x3), d, e, r, j, u, ?_, q2, q3, q4⟩
    simp only [spec_l06Page.f, f1, f2, f3, f4, Option.bind_some]
    refine Ev.bind e5 ?_
    simp only [if_pos hk, f6, Option.bind_some]
    exact q1
  · obtain ⟨d, e, j, u, q1, q2, q3, q4⟩ := l06Page_j0 l hl j5 t5 k5 false (wrap64 (1 + x1)) (wrap64 (1 + x2)) (wrap64 (1 + x3)) r (by omega)
    refine ⟨wrap64 (1 + x1), wrap64 (1 + x2), wrap64 (1 + x3), d, e, r, j, u, ?_, q2, q3, q4⟩
    simp only [spec_l06Page.f, f1, f2, f3, f4, Option.bind_some]
    refine Ev.bind e5 ?_
    simp only [if_neg hk]
    exact q1
/-! a right flash stays right -/
theorem ok_len {l : List S57} (h : flashOk l = true) : 3 ≤ (l.length : Int) ∧ (l.length : Int) ≤ 10 := by
  unfold flashOk at h
  rw [Bool.and_eq_true] at h
  exact of_decide_eq_true h.2
theorem ok_blk {l : List S57} (h : flashOk l = true) {b : S57} (hb : b ∈ l) : blkOk b = true := by
  unfold flashOk at h
  rw [Bool.and_eq_true] at h
  exact List.all_eq_true.mp h.1 b hb
theorem lvs_all : ∀ (l : List S59) (p : Bool), lvs p l = true → ∀ x ∈ l, leafOkB x = true
  | [], _, _, _, hx => by cases hx
  | y :: t, p, h, x, hx => by
    rw [lvs] at h
    by_cases h1 : leafOkB y = true
    · rw [if_pos h1] at h
      by_cases h2 : p = true ∧ ¬ y.f0 = 0
      · rw [if_pos h2] at h
        cases h
      · rw [if_neg h2] at h
        rcases List.mem_cons.mp hx with rfl | hx
        · exact h1
        · exact lvs_all t _ h x hx
    · rw [if_neg h1] at h
      cases h
theorem leaf_size {x : S59} (h : leafOkB x = true) : x.f1.size ≤ 120 := by
  unfold leafOkB at h
  split at h
  · have e := eq_of_beq h
    rw [ByteArray.toList_eq] at e
    have : x.f1.size = x.f1.data.toList.length := rfl
    rw [this, e]
    exact Nat.zero_le _
  · split at h
    · have := of_decide_eq_true h
      omega
    · split at h
      · have := of_decide_eq_true h
        omega
      · cases h
theorem blk_parts {b : S57} (h : blkOk b = true) : ((b.f2.length : Int) = 4 ∧ (0 ≤ b.f1 ∧ b.f1 ≤ 1000000000)) ∧ lvs false b.f2 = true := by
  unfold blkOk at h
  rw [Bool.and_eq_true] at h
  exact ⟨of_decide_eq_true h.1, h.2⟩
theorem blk_make {b : S57} (h1 : (b.f2.length : Int) = 4) (h2 : 0 ≤ b.f1 ∧ b.f1 ≤ 1000000000) (h3 : lvs false b.f2 = true) : blkOk b = true := by
  unfold blkOk
  rw [h3, decide_eq_true ⟨h1, h2⟩]
  rfl
theorem ok_small {l : List S57} (h : flashOk l = true) : SmallM l := by
  have k := ok_len h
  refine ⟨by omega, fun b hb => ?_⟩
  have p := blk_parts (ok_blk h hb)
  refine ⟨by omega, fun x hx => ?_⟩
  have := leaf_size (lvs_all _ _ p.2 x hx)
  omega
theorem ok_set {l : List S57} (h : flashOk l = true) (i : Nat) {x : S57} (hx : blkOk x = true) : flashOk (l.set i x) = true := by
  have k := ok_len h
  unfold flashOk
  rw [Bool.and_eq_true]
  refine ⟨List.all_eq_true.mpr fun b hb => ?_, by rw [List.length_set]; exact decide_eq_true k⟩
  rcases List.mem_or_eq_of_mem_set hb with e | rfl
  · exact ok_blk h e
  · exact hx
theorem lvs_free : ∀ (t : List S59), lvs true t = true → lvs false t = true
  | [], _ => rfl
  | x :: t, h => by
    rw [lvs] at h ⊢
    by_cases h1 : leafOkB x = true
    · rw [if_pos h1] at h ⊢
      by_cases h2 : x.f0 = 0
      · rw [if_neg (fun k => k.2 h2)] at h
        rw [if_neg (fun k => k.2 h2)]
        exact h
      · rw [if_pos ⟨rfl, h2⟩] at h
        cases h
    · rw [if_neg h1] at h
      cases h
theorem nb_from : ∀ (l : List S59) (i : Nat), i + l.length ≤ 4 → (i : Int) ≤ nb l i
  | [], i, h => by
    rw [nb]
    simp only [List.length_nil] at h
    omega
  | x :: t, i, h => by
    rw [nb]
    simp only [List.length_cons] at h
    split
    · exact Int.le_refl _
    · have := nb_from t (i + 1) (by omega)
      omega
theorem nb_first : ∀ (t : List S59) (i : Nat), lvs true t = true → i + t.length = 4 → nb t i = (i : Int)
  | [], i, _, h => by
    rw [nb]
    simp only [List.length_nil] at h
    omega
  | x :: t, i, h, _ => by
    rw [lvs] at h
    rw [nb]
    by_cases h2 : x.f0 = 0
    · rw [if_pos h2]
    · by_cases h1 : leafOkB x = true
      · rw [if_pos h1, if_pos ⟨rfl, h2⟩] at h
        cases h
      · rw [if_neg h1] at h
        cases h
/-- The first blank leaf is written. -/
theorem lvs_put (y : S59) (hy : leafOkB y = true) (h0 : ¬ y.f0 = 0) : ∀ (l : List S59) (i : Nat), lvs false l = true → i + l.length = 4 → nb l i < 4 →
    lvs false (l.set (nb l i - i).toNat y) = true ∧ nb (l.set (nb l i - i).toNat y) i = nb l i + 1
  | [], i, _, _, h => by
    rw [nb] at h
    omega
  | x :: t, i, h, hi, hn => by
    have hi' : i + 1 + t.length = 4 := by simp only [List.length_cons] at hi; omega
    rw [lvs] at h
    by_cases h1 : leafOkB x = true
    · rw [if_pos h1, if_neg (fun k => absurd k.1 (by decide))] at h
      by_cases h2 : x.f0 = 0
      · have e : nb (x :: t) i = (i : Int) := by rw [nb, if_pos h2]
        rw [decide_eq_true h2] at h
        rw [e, show ((i : Int) - (i : Int)).toNat = 0 from by omega, List.set_cons_zero]
        refine ⟨?_, ?_⟩
        · rw [lvs, if_pos hy, if_neg (fun k => absurd k.1 (by decide)), decide_eq_false h0]
          exact lvs_free t h
        · rw [nb, if_neg h0, nb_first t (i + 1) h hi']
          omega
      · have e : nb (x :: t) i = nb t (i + 1) := by rw [nb, if_neg h2]
        rw [decide_eq_false h2] at h
        have g := nb_from t (i + 1) (by omega)
        rw [e] at hn
        obtain ⟨k1, k2⟩ := lvs_put y hy h0 t (i + 1) h hi' hn
        rw [e, show (nb t (i + 1) - (i : Int)).toNat = (nb t (i + 1) - ((i + 1 : Nat) : Int)).toNat + 1 from by omega, List.set_cons_succ]
        refine ⟨?_, ?_⟩
        · rw [lvs, if_pos h1, if_neg (fun k => absurd k.1 (by decide)), decide_eq_false h2]
          exact k1
        · rw [nb, if_neg h2]
          exact k2
    · rw [if_neg h1] at h
      cases h
theorem blk_put {b : S57} (h : blkOk b = true) (y : S59) (hy : leafOkB y = true) (h0 : ¬ y.f0 = 0) (hn : nb b.f2 0 < 4) :
    blkOk ⟨b.f0, b.f1, b.f2.set (nb b.f2 0).toNat y⟩ = true ∧ nb (b.f2.set (nb b.f2 0).toNat y) 0 = nb b.f2 0 + 1 := by
  have p := blk_parts h
  have k := lvs_put y hy h0 b.f2 0 p.2 (by omega) hn
  rw [show (nb b.f2 0 - ((0 : Nat) : Int)).toNat = (nb b.f2 0).toNat from by omega] at k
  exact ⟨blk_make (by show ((b.f2.set _ y).length : Int) = 4; rw [List.length_set]; exact p.1.1) p.1.2 k.1, k.2⟩
theorem full_ok {t : ByteArray} (h : 1 ≤ (t.size : Int) ∧ (t.size : Int) ≤ 120) : leafOkB ⟨1, t⟩ = true := by
  unfold leafOkB
  rw [if_neg (show ¬ ((1 : Int) = 0) from by decide), if_pos rfl]
  exact decide_eq_true h
theorem ok_prog {l : List S57} (h : flashOk l = true) (b leaf : Int) (t : ByteArray) : flashOk (progM l b leaf t).1 = true := by
  unfold progM
  split
  · next hc =>
    obtain ⟨_, hb, _, h3, h4, h5⟩ := hc
    subst h4
    exact ok_set h _ (blk_put (ok_blk h (rd_mem l b hb)) ⟨1, t⟩ (full_ok h5) (show ¬ (1 : Int) = 0 from by decide) h3).1
  · exact h
theorem blank_lvs : lvs false (List.replicate 4 z59) = true := by
  have e : leafOkB z59 = true := by
    unfold leafOkB
    rw [if_pos (show z59.f0 = 0 from rfl), show z59.f1.toList = [] from by rw [ByteArray.toList_eq]; rfl]
    rfl
  simp only [List.replicate, lvs, e, ↓reduceIte, show z59.f0 = 0 from rfl, not_true_eq_false, and_false, decide_true]
theorem ok_wipe {l : List S57} (h : flashOk l = true) (b : Int) : flashOk (wipeM l b).1 = true := by
  unfold wipeM
  split
  · next hc =>
    have p := blk_parts (ok_blk h (rd_mem l b hc.2.1))
    have hw : wrap64 ((rd_T57 l b).f1 + 1) = (rd_T57 l b).f1 + 1 := w64 (by omega) (by omega)
    refine ok_set h _ (blk_make (by rfl) ?_ blank_lvs)
    show 0 ≤ wrap64 ((rd_T57 l b).f1 + 1) ∧ wrap64 ((rd_T57 l b).f1 + 1) ≤ 1000000000
    have := hc.2.2.2
    omega
  · exact h
theorem ok_mark {l : List S57} (h : flashOk l = true) (b : Int) : flashOk (markBadM l b) = true := by
  unfold markBadM
  split
  · next hb =>
    have p := blk_parts (ok_blk h (rd_mem l b hb))
    exact ok_set h _ (blk_make p.1.1 p.1.2 p.2)
  · exact h
theorem torn_ok : leafOkB ⟨2, (⟨#[116, 111]⟩ : ByteArray)⟩ = true := by
  unfold leafOkB
  rw [if_neg (show ¬ ((2 : Int) = 0) from by decide), if_neg (show ¬ ((2 : Int) = 1) from by decide), if_pos rfl]
  decide
theorem ok_blank (m : Nat) (h1 : 3 ≤ m) (h2 : m ≤ 10) : flashOk (List.replicate m ⟨false, 0, List.replicate 4 z59⟩) = true := by
  unfold flashOk
  rw [Bool.and_eq_true]
  refine ⟨List.all_eq_true.mpr fun b hb => ?_, by rw [List.length_replicate]; exact decide_eq_true (by omega)⟩
  rw [List.eq_of_mem_replicate hb]
  exact blk_make (by rfl) (by decide) blank_lvs
theorem new_l0 (n : Nat) (hn : n ≤ 10) : ∀ (d i : Nat), i + d = n → Ev (fun k => spec_FlashNew.l0 k (n : Int) (i : Int) (List.replicate i ⟨false, 0, List.replicate 4 z59⟩)) (List.replicate n ⟨false, 0, List.replicate 4 z59⟩, true) := by
  intro d
  induction d with
  | zero =>
    intro i hi
    obtain rfl : i = n := by omega
    refine ev_st ?_
    simp only [spec_FlashNew.l0, Int.lt_irrefl, ↓reduceIte]
    exact Ev.now _
  | succ d ih =>
    intro i hi
    refine ev_st ?_
    simp only [spec_FlashNew.l0, show (i : Int) < (n : Int) from by omega, ↓reduceIte, show 4 ≤ 11728124029610 from by omega, List.length_replicate, show i < 3518437208883 from by omega, wsucc i n (by omega) (by omega)]
    have := ih (i + 1) (by omega)
    rwa [List.replicate_succ'] at this
theorem new_ev (n : Nat) (h1 : 3 ≤ n) (h2 : n ≤ 10) : Ev (fun k => spec_FlashNew.f k (n : Int)) (List.replicate n ⟨false, 0, List.replicate 4 z59⟩, true) := by
  simp only [spec_FlashNew.f, spec_l01In_eq, Option.bind_some, decide_eq_true_eq, if_pos (show (3 : Int) ≤ (n : Int) ∧ (n : Int) ≤ 10 from by omega)]
  exact new_l0 n h2 n 0 (by omega)
/-- The rounds of the drawn flash. -/
theorem l05Flash_l0 (l : List Int) (hl : l.length ≤ 1048576) : ∀ (d i : Nat), i + d = 20 → ∀ (x : List S57) (j s : Int), flashOk x = true → 0 ≤ j → ∃ r j2 s2, Ev (fun k => spec_l05Flash.l0 k (i : Int) l j s x) (r, j2, s2) ∧ flashOk r = true ∧ 0 ≤ j2 := by
  have out : ∀ (x : List S57) (j s : Int), flashOk x = true → 0 ≤ j → ∃ r j2 s2, Ev (fun k => (spec_l01Once.f l j s 4).bind fun b => (if b.1 = true then ((spec_l01Below.f l b.2.1 b.2.2 (x.length : Int)).bind fun c => ((spec_MarkBad.f k x c.1).bind fun t => (some (t, c.2.1, c.2.2)))) else (some (x, b.2.1, b.2.2)))) (r, j2, s2) ∧ flashOk r = true ∧ 0 ≤ j2 := by
    intro x j s hx hj
    obtain ⟨b, j1, s1, e1, h1⟩ := l01Once_is l j s 4 hl hj
    simp only [e1, Option.bind_some]
    cases b with
    | true =>
      obtain ⟨c, j2, s2, e2, _, _, c4⟩ := l01Below_is l j1 s1 (x.length : Int) hl h1
      simp only [e2, Option.bind_some, ↓reduceIte]
      exact ⟨_, _, _, Ev.bind (spec_MarkBad_ev x (ok_small hx) c) (Ev.now _), ok_mark hx c, c4⟩
    | false =>
      simp only [Bool.false_eq_true, ↓reduceIte]
      exact ⟨_, _, _, Ev.now _, hx, h1⟩
  intro d
  induction d with
  | zero =>
    intro i hi x j s hx hj
    obtain ⟨b, j1, s1, e1, g1, g2, g3⟩ := l01Below_is l j s 20 hl hj
    have g2 := g2 (by omega)
    obtain ⟨r, j2, s2, e, hr⟩ := out x j1 s1 hx g3
    refine ⟨r, j2, s2, ev_st ?_, hr⟩
    simp only [spec_l05Flash.l0, e1, Option.bind_some, if_neg (show ¬ (i : Int) < b from by omega)]
    exact e
  | succ d ih =>
    intro i hi x j s hx hj
    obtain ⟨b, j1, s1, e1, g1, g2, g3⟩ := l01Below_is l j s 20 hl hj
    have ei : wrap64 ((i : Int) + 1) = ((i + 1 : Nat) : Int) := wsucc i 20 (by omega) (by omega)
    by_cases hb : (i : Int) < b
    · have L := ok_len hx
      obtain ⟨c, j2, s2, e2, c1, c2, c3⟩ := l01Below_is l j1 s1 (x.length : Int) hl g3
      have c2 := c2 (by omega)
      obtain ⟨q, j3, s3, e3, q1, q2, q3⟩ := l01Below_is l j2 s2 8 hl c3
      by_cases h0 : q = 0
      · obtain ⟨r, j4, s4, e, hr⟩ := ih (i + 1) (by omega) (wipeM x c).1 j3 s3 (ok_wipe hx c) q3
        refine ⟨r, j4, s4, ev_st ?_, hr⟩
        simp only [spec_l05Flash.l0, e1, e2, e3, Option.bind_some, if_pos hb, if_pos h0, ei]
        exact Ev.bind (spec_Wipe_ev x (ok_small hx) c) e
      · have hm := rd_mem x c ⟨c1, c2⟩
        have p := blk_parts (ok_blk hx hm)
        have hn := spec_NextBlank_ev (rd_T57 x c).f0 (rd_T57 x c).f1 (rd_T57 x c).f2 (by omega)
        have hg := nb_ge (rd_T57 x c).f2 0
        by_cases h1 : q = 1
        · by_cases h4 : nb (rd_T57 x c).f2 0 < 4
          · obtain ⟨r, j4, s4, e, hr⟩ := ih (i + 1) (by omega) (x.set c.toNat ⟨(rd_T57 x c).f0, (rd_T57 x c).f1, (rd_T57 x c).f2.set (nb (rd_T57 x c).f2 0).toNat ⟨2, (⟨#[116, 111]⟩ : ByteArray)⟩⟩) j3 s3 (ok_set hx _ (blk_put (ok_blk hx hm) _ torn_ok (by decide) h4).1) q3
            refine ⟨r, j4, s4, ev_st ?_, hr⟩
            simp only [spec_l05Flash.l0, e1, e2, e3, Option.bind_some, if_pos hb, if_neg h0, if_pos h1, ei, if_pos c1, if_pos c2]
            refine Ev.bind hn ?_
            simp only [if_pos h4]
            refine Ev.bind hn ?_
            simp only [if_pos hg, if_pos (show nb (rd_T57 x c).f2 0 < ((rd_T57 x c).f2.length : Int) from by omega)]
            exact e
          · obtain ⟨r, j4, s4, e, hr⟩ := ih (i + 1) (by omega) x j3 s3 hx q3
            refine ⟨r, j4, s4, ev_st ?_, hr⟩
            simp only [spec_l05Flash.l0, e1, e2, e3, Option.bind_some, if_pos hb, if_neg h0, if_pos h1, ei, if_pos c1, if_pos c2]
            refine Ev.bind hn ?_
            simp only [if_neg h4]
            exact e
        · obtain ⟨v, j4, s4, e4, v1, v2, v3⟩ := l01Below_is l j3 s3 5 hl q3
          have v2 := v2 (by omega)
          obtain ⟨t, j5, s5, e5, t1, t2⟩ := l01Text_ev l hl j4 s4 v3 (1 + v).toNat (by omega)
          obtain ⟨r, j6, s6, e, hr⟩ := ih (i + 1) (by omega) (progM x c (nb (rd_T57 x c).f2 0) t).1 j5 s5 (ok_prog hx c _ t) t2
          refine ⟨r, j6, s6, ev_st ?_, hr⟩
          simp only [spec_l05Flash.l0, e1, e2, e3, Option.bind_some, if_pos hb, if_neg h0, if_neg h1, ei, if_pos c1, if_pos c2, e4, show wrap64 (1 + v) = (((1 + v).toNat : Nat) : Int) from by rw [w64 (by omega) (by omega)]; omega]
          exact Ev.bind hn (Ev.bind e5 (Ev.bind (spec_Program_ev x (ok_small hx) c _ t) e))
    · obtain ⟨r, j2, s2, e, hr⟩ := out x j1 s1 hx g3
      refine ⟨r, j2, s2, ev_st ?_, hr⟩
      simp only [spec_l05Flash.l0, e1, Option.bind_some, if_neg hb]
      exact e

/-! ### The scan: both ways of it keep the same list, in the flash's order -/
def foundOf (b i : Int) (t : ByteArray) : S43 := ⟨b, i, (⟨(implPage t).1, (implPage t).2.1, (implPage t).2.2.1, (implPage t).2.2.2.1, (implPage t).2.2.2.2.1, (implPage t).2.2.2.2.2.1⟩ : S41)⟩
def leafStep (b i : Int) (x : S59) (out : List S43) : List S43 := if (implPage x.f1).2.2.2.2.2.2 = true then (if x.f0 = 1 then out ++ [foundOf b i x.f1] else out) else out
def leavesM (b : Int) : List S59 → Nat → List S43 → List S43
  | [], _, out => out
  | x :: t, i, out => leavesM b t (i + 1) (leafStep b (i : Int) x out)
def blocksM : List S57 → Nat → List S43 → List S43
  | [], _, out => out
  | x :: t, b, out => blocksM t (b + 1) (leavesM (b : Int) x.f2 0 out)
theorem leafStep_len (b i : Int) (x : S59) (out : List S43) : (leafStep b i x out).length ≤ out.length + 1 := by
  unfold leafStep; split
  · split
    · simp
    · omega
  · omega
theorem leavesM_len (b : Int) : ∀ (l : List S59) (i : Nat) (out : List S43), (leavesM b l i out).length ≤ out.length + l.length
  | [], _, out => by simp [leavesM]
  | x :: t, i, out => by
    have h1 := leavesM_len b t (i + 1) (leafStep b (i : Int) x out)
    have h2 := leafStep_len b (i : Int) x out
    rw [leavesM, List.length_cons]; omega
theorem blocksM_len : ∀ (l : List S57) (b : Nat) (out : List S43), (∀ x ∈ l, x.f2.length ≤ 1048576) → (blocksM l b out).length ≤ out.length + l.length * 1048576
  | [], _, out, _ => by simp [blocksM]
  | x :: t, b, out, h => by
    have h1 := blocksM_len t (b + 1) (leavesM (b : Int) x.f2 0 out) (fun y hy => h y (List.mem_cons_of_mem _ hy))
    have h2 := leavesM_len (b : Int) x.f2 0 out
    have h3 := h x (List.mem_cons_self ..)
    rw [blocksM, List.length_cons, Nat.succ_mul]; omega
theorem impl_scan_l1 (l : List S57) (hf : SmallM l) (b : Nat) (hb : b < l.length) {R : List S43} : ∀ (d i : Nat) (out : List S43), i + d = l[b].f2.length → out.length + d ≤ 1099511627776 →
    Ev (fun k => impl_ScanAll.l0 k l (l.length : Int) ((b + 1 : Nat) : Int) (leavesM (b : Int) (l[b].f2.drop i) i out)) R →
    Ev (fun k => impl_ScanAll.l1 k (b : Int) l (l.length : Int) (b : Int) l[b].f2 (l[b].f2.length : Int) (i : Int) out) R := by
  have hl := hf.1
  intro d
  induction d with
  | zero =>
    intro i out hi ho h
    refine ev_st ?_
    simp only [impl_ScanAll.l1, show ¬ ((i : Int) < (l[b].f2.length : Int)) from by omega, ↓reduceIte, wsucc b l.length hb (by omega)]
    rw [List.drop_eq_nil_of_le (by omega)] at h
    exact h
  | succ d ih =>
    intro i out hi ho h
    have hbb := hf.2 _ (List.getElem_mem hb)
    have hlt : i < l[b].f2.length := by omega
    rw [List.drop_eq_getElem_cons hlt, leavesM] at h
    refine ev_st ?_
    simp only [impl_ScanAll.l1, show (i : Int) < (l[b].f2.length : Int) from by omega, show (0 : Int) ≤ (i : Int) from by omega, ↓reduceIte, rd_ML _ i hlt, wsucc i l[b].f2.length hlt (by omega)]
    refine Ev.bind (impl_ReadPage_ev _ (by have := hbb.2 _ (List.getElem_mem hlt); omega)) ?_
    unfold leafStep at h
    split
    · rename_i h1
      rw [if_pos h1] at h
      split
      · rename_i h2
        rw [if_pos h2] at h
        simp only [show out.length < 1954687338268 from by omega, ↓reduceIte]
        exact ih (i + 1) _ (by omega) (by simp; omega) h
      · rename_i h2
        rw [if_neg h2] at h
        exact ih (i + 1) _ (by omega) (by omega) h
    · rename_i h1
      rw [if_neg h1] at h
      exact ih (i + 1) _ (by omega) (by omega) h
theorem impl_scan_l0 (l : List S57) (hf : SmallM l) : ∀ (d b : Nat) (out : List S43), b + d = l.length → out.length + d * 1048576 ≤ 1099511627776 →
    Ev (fun k => impl_ScanAll.l0 k l (l.length : Int) (b : Int) out) (blocksM (l.drop b) b out) := by
  have hl := hf.1
  intro d
  induction d with
  | zero =>
    intro b out hi ho
    refine ev_st ?_
    simp only [impl_ScanAll.l0, show ¬ ((b : Int) < (l.length : Int)) from by omega, ↓reduceIte]
    rw [List.drop_eq_nil_of_le (by omega)]
    exact Ev.now _
  | succ d ih =>
    intro b out hi ho
    have hlt : b < l.length := by omega
    have hbb := hf.2 _ (List.getElem_mem hlt)
    rw [List.drop_eq_getElem_cons hlt, blocksM]
    refine ev_st ?_
    simp only [impl_ScanAll.l0, show (b : Int) < (l.length : Int) from by omega, show (0 : Int) ≤ (b : Int) from by omega, ↓reduceIte, rd_MB l b hlt]
    refine impl_scan_l1 l hf b hlt l[b].f2.length 0 out (by omega) (by have := hbb.1; rw [Nat.succ_mul] at ho; omega) ?_
    rw [List.drop_zero]
    have := leavesM_len (b : Int) l[b].f2 0 out
    exact ih (b + 1) _ (by omega) (by have := hbb.1; rw [Nat.succ_mul] at ho; omega)
theorem impl_scan_ev (l : List S57) (hf : SmallM l) : Ev (fun k => impl_ScanAll.g k l) (blocksM l 0 []) := by
  have h := impl_scan_l0 l hf l.length 0 [] (by omega) (by have := hf.1; simp; omega)
  simpa [impl_ScanAll.g] using h
theorem spec_page_ev (t : ByteArray) (ht : t.size ≤ 140737488351232) : Ev (fun k => spec_ReadPage.f k t) (implPage t) := page_same t ▸ spec_ReadPage_ev t ht
theorem spec_scan_l1 (l : List S57) (hf : SmallM l) (b : Nat) (hb : b < l.length) {R : List S43} : ∀ (d i : Nat) (out : List S43), i + d = l[b].f2.length → out.length + d ≤ 1099511627776 →
    Ev (fun k => spec_ScanAll.l0 k (leavesM (b : Int) (l[b].f2.drop i) i out) ((b + 1 : Nat) : Int) l) R →
    Ev (fun k => spec_ScanAll.l1 k out (b : Int) (i : Int) l) R := by
  have hl := hf.1
  intro d
  induction d with
  | zero =>
    intro i out hi ho h
    refine ev_st ?_
    simp only [spec_ScanAll.l1, show (b : Int) < (l.length : Int) from by omega, show (0 : Int) ≤ (b : Int) from by omega, rd_MB l b hb, show ¬ ((i : Int) < (l[b].f2.length : Int)) from by omega, ↓reduceIte, wsucc b l.length hb (by omega)]
    rw [List.drop_eq_nil_of_le (by omega)] at h
    exact h
  | succ d ih =>
    intro i out hi ho h
    have hbb := hf.2 _ (List.getElem_mem hb)
    have hlt : i < l[b].f2.length := by omega
    rw [List.drop_eq_getElem_cons hlt, leavesM] at h
    have hr : readLeafOf l (b : Int) (i : Int) = if l[b].f2[i].f0 = 1 then (l[b].f2[i].f1, true) else ((⟨#[]⟩ : ByteArray), false) := by
      unfold readLeafOf
      rw [if_pos (by omega), rd_MB l b hb, if_pos (by omega), rd_ML _ i hlt]
    refine ev_st ?_
    simp only [spec_ScanAll.l1, show (b : Int) < (l.length : Int) from by omega, show (0 : Int) ≤ (b : Int) from by omega, rd_MB l b hb, show (i : Int) < (l[b].f2.length : Int) from by omega, ↓reduceIte, wsucc i l[b].f2.length hlt (by omega), spec_ReadLeaf_eq l hf, Option.bind_some, hr]
    unfold leafStep at h
    by_cases h2 : l[b].f2[i].f0 = 1
    · simp only [h2, ↓reduceIte] at h ⊢
      refine Ev.bind (spec_page_ev _ (by have := hbb.2 _ (List.getElem_mem hlt); omega)) ?_
      split
      · rename_i h1
        rw [if_pos h1] at h
        simp only [show out.length < 1954687338268 from by omega, ↓reduceIte]
        exact ih (i + 1) _ (by omega) (by simp; omega) h
      · rename_i h1
        rw [if_neg h1] at h
        exact ih (i + 1) _ (by omega) (by omega) h
    · simp only [h2, ↓reduceIte, ite_self, Bool.false_eq_true] at h ⊢
      refine Ev.bind (spec_page_ev _ (by decide)) ?_
      exact ih (i + 1) _ (by omega) (by omega) h
theorem spec_scan_l0 (l : List S57) (hf : SmallM l) {R : List S43} : ∀ (d b : Nat) (out : List S43), b + d = l.length → out.length + d * 1048576 ≤ 1099511627776 →
    Ev (fun k => spec_ScanAll.l2 k (blocksM (l.drop b) b out) 1) R → Ev (fun k => spec_ScanAll.l0 k out (b : Int) l) R := by
  have hl := hf.1
  intro d
  induction d with
  | zero =>
    intro b out hi ho h
    refine ev_st ?_
    simp only [spec_ScanAll.l0, show ¬ ((b : Int) < (l.length : Int)) from by omega, ↓reduceIte]
    rw [List.drop_eq_nil_of_le (by omega)] at h
    exact h
  | succ d ih =>
    intro b out hi ho h
    have hlt : b < l.length := by omega
    have hbb := hf.2 _ (List.getElem_mem hlt)
    rw [List.drop_eq_getElem_cons hlt, blocksM] at h
    refine ev_st ?_
    simp only [spec_ScanAll.l0, show (b : Int) < (l.length : Int) from by omega, ↓reduceIte]
    have := leavesM_len (b : Int) l[b].f2 0 out
    refine spec_scan_l1 l hf b hlt l[b].f2.length 0 out (by omega) (by have := hbb.1; rw [Nat.succ_mul] at ho; omega) ?_
    rw [List.drop_zero]
    exact ih (b + 1) _ (by omega) (by have := hbb.1; rw [Nat.succ_mul] at ho; omega) h

/-! ### The sort: both ways of it give the one list that is sorted by number, then by place -/
def markF (x : S43) : Nat := x.f0.toNat * 2097152 + x.f1.toNat
def TF (x y : S43) : Prop := x.f2.f1 < y.f2.f1 ∨ (x.f2.f1 = y.f2.f1 ∧ markF x < markF y)
theorem irrF (x : S43) : ¬ TF x x := by unfold TF; omega
theorem ordF : Stab.Ord impl_ScanAll.lt TF markF where
  trans := by intro x y z h1 h2; unfold TF at *; omega
  no := by intro u v h1 h2; simp only [impl_ScanAll.lt, decide_eq_false_iff_not] at h2; unfold TF; omega
  yes := by intro u v h1 h2; simp only [impl_ScanAll.lt, decide_eq_true_eq] at h2; unfold TF; omega
def Marks (out : List S43) (m : Nat) : Prop := (∀ x ∈ out, markF x < m) ∧ out.Pairwise (fun x y => markF x < markF y)
theorem Marks.mono {out : List S43} {m m' : Nat} (h : Marks out m) (hm : m ≤ m') : Marks out m' := ⟨fun x hx => Nat.lt_of_lt_of_le (h.1 x hx) hm, h.2⟩
theorem Marks.snoc {out : List S43} {m : Nat} (h : Marks out m) (x : S43) (hx : markF x = m) : Marks (out ++ [x]) (m + 1) := by
  refine ⟨fun y hy => ?_, ?_⟩
  · rcases List.mem_append.1 hy with hy | hy
    · exact Nat.lt_succ_of_lt (h.1 y hy)
    · rw [List.mem_singleton.1 hy, hx]; exact Nat.lt_succ_self _
  · refine List.pairwise_append.2 ⟨h.2, List.pairwise_singleton _ _, fun a ha y hy => ?_⟩
    rw [List.mem_singleton.1 hy, hx]; exact h.1 a ha
theorem leafStep_marks (b i : Nat) (x : S59) (out : List S43) (h : Marks out (b * 2097152 + i)) : Marks (leafStep (b : Int) (i : Int) x out) (b * 2097152 + (i + 1)) := by
  unfold leafStep
  split
  · split
    · exact (h.snoc _ (by simp [markF, foundOf])).mono (by omega)
    · exact h.mono (by omega)
  · exact h.mono (by omega)
theorem leavesM_marks (b : Nat) : ∀ (l : List S59) (i : Nat) (out : List S43), Marks out (b * 2097152 + i) → Marks (leavesM (b : Int) l i out) (b * 2097152 + (i + l.length))
  | [], _, _, h => h
  | x :: t, i, out, h => by
    have := leavesM_marks b t (i + 1) _ (leafStep_marks b i x out h)
    rw [leavesM, List.length_cons]
    exact this.mono (by omega)
theorem blocksM_marks : ∀ (l : List S57) (b : Nat) (out : List S43), (∀ x ∈ l, x.f2.length ≤ 1048576) → Marks out (b * 2097152) → Marks (blocksM l b out) ((b + l.length) * 2097152)
  | [], _, _, _, h => h
  | x :: t, b, out, hs, h => by
    have h1 := leavesM_marks b x.f2 0 out (h.mono (by omega))
    have h2 := hs x (List.mem_cons_self ..)
    have := blocksM_marks t (b + 1) _ (fun y hy => hs y (List.mem_cons_of_mem _ hy)) (h1.mono (by omega))
    rw [blocksM, List.length_cons]
    exact this.mono (by omega)
theorem marks_at {out : List S43} {m : Nat} (h : Marks out m) : ∀ i j, i < j → j < out.length → markF out.toArray[i]! < markF out.toArray[j]! := by
  intro i j h1 h2
  have := List.pairwise_iff_getElem.1 h.2 i j (by omega) h2 h1
  rw [getElem!_pos out.toArray i (by simp; omega), getElem!_pos out.toArray j (by simpa using h2)]
  simpa using this
def sortM (o : List S43) : List S43 := (Sort.insertionSort impl_ScanAll.lt o.toArray 0 o.length).toList
theorem perm_list {d d' : Array S43} {n : Nat} (hn : n = d.size) (h : Sort.PermIn 0 n d d') : d'.toList.Perm d.toList := by
  subst hn
  have h1 : (d'.extract 0 d.size).toList = d'.toList := by rw [← h.1]; simp
  have h2 : (d.extract 0 d.size).toList = d.toList := by simp
  rw [← h1, ← h2]; exact h.2.2
theorem sorted_list {d : Array S43} {n : Nat} (hn : n = d.size) (h : Stab.SortedT TF 0 n d) : d.toList.Pairwise TF := by
  subst hn
  refine List.pairwise_iff_getElem.2 fun i j hi hj hij => ?_
  have := h i j (Nat.zero_le _) hij (by simpa using hj)
  rw [getElem!_pos d i (by simpa using hi), getElem!_pos d j (by simpa using hj)] at this
  simpa using this
theorem sortM_perm {o : List S43} {m : Nat} (h : Marks o m) : (sortM o).Perm o ∧ (sortM o).Pairwise TF := by
  have k := Stab.insertionSort_T irrF ordF 0 o.length o.toArray (by simp) (fun p q _ h2 h3 => marks_at h p q h2 h3)
  have hs : o.length = (Sort.insertionSort impl_ScanAll.lt o.toArray 0 o.length).size := by rw [k.1.1]; simp
  exact ⟨by simpa [sortM] using perm_list (by simp) k.1, sorted_list hs k.2⟩
theorem stable_sortM {o : List S43} {m : Nat} (h : Marks o m) : (Stab.stable impl_ScanAll.lt o.toArray o.length).toList = sortM o := by
  have k := Stab.stable_T irrF ordF o.toArray o.length (by simp) (fun p q h2 h3 => marks_at h p q h2 h3)
  have hs : o.length = (Stab.stable impl_ScanAll.lt o.toArray o.length).size := by rw [k.1.1]; simp
  have hp : (Stab.stable impl_ScanAll.lt o.toArray o.length).toList.Perm o := by simpa using perm_list (by simp) k.1
  exact List.Perm.eq_of_pairwise (fun a b _ _ h1 h2 => absurd h2 (Stab.T_asym irrF ordF h1)) (sorted_list hs k.2) (sortM_perm h).2 (hp.trans (sortM_perm h).1.symm)
theorem sortM_few (o : List S43) (h : o.length < 2) : sortM o = o := by
  unfold sortM Sort.insertionSort Sort.insOuter
  rw [if_neg (by omega)]
def scanM (l : List S57) : List S43 := sortM (blocksM l 0 [])
theorem scan_marks (l : List S57) (hf : SmallM l) : Marks (blocksM l 0 []) (l.length * 2097152) := by
  have := blocksM_marks l 0 [] (fun x hx => (hf.2 x hx).1) ⟨fun _ hx => (by cases hx), List.Pairwise.nil⟩
  simpa using this
theorem impl_ScanAll_ev (l : List S57) (hf : SmallM l) : Ev (fun k => impl_ScanAll.f k l) (scanM l) := by
  have hl := blocksM_len l 0 [] (fun x hx => (hf.2 x hx).1)
  have h1 := hf.1
  refine Ev.bind (impl_scan_ev l hf) (ev_some ?_)
  unfold impl_ScanAll.sorted
  split
  · rename_i h; rw [scanM, sortM_few _ h]
  · rw [if_pos (by simp at hl; omega), stable_sortM (scan_marks l hf)]; rfl

theorem wpred (j : Nat) (h : j < 9223372036854775807) : wrap64 (((j + 1 : Nat) : Int) - 1) = (j : Int) := by rw [w64 (by omega) (by omega)]; omega
theorem rd_MFa (xs : List S43) (i : Nat) (h : i < xs.length) : rd_T43 xs (i : Int) = xs[i] := by
  simp [rd_T43, List.getD_eq_getElem?_getD, h]
theorem swp_list (x : List S43) (j : Nat) (h : j + 1 < x.length) : (Sort.swp x.toArray (j + 1) j).toList = (x.set (j + 1) x[j]).set j x[j + 1] := by
  have h1 : x.toArray[j + 1]! = x[j + 1] := by rw [getElem!_pos x.toArray (j + 1) (by simpa using h)]; simp
  have h2 : x.toArray[j]! = x[j] := by rw [getElem!_pos x.toArray j (by simp; omega)]; simp
  simp [Sort.swp, h1, h2]
theorem spec_sort_l3 {R : List S43} (i : Nat) : ∀ (j : Nat) (x : List S43), j ≤ i → i < x.length → x.length ≤ 1099511627776 →
    Ev (fun k => spec_ScanAll.l2 k (Sort.insInner impl_ScanAll.lt 0 j x.toArray).toList ((i + 1 : Nat) : Int)) R → Ev (fun k => spec_ScanAll.l3 k x (i : Int) (j : Int)) R := by
  intro j
  induction j with
  | zero =>
    intro x hj hi hx h
    refine ev_st ?_
    simp only [spec_ScanAll.l3, show ¬ (((0 : Nat) : Int) > 0) from by omega, ↓reduceIte, wsucc i x.length hi (by omega)]
    simpa [Sort.insInner] using h
  | succ j ih =>
    intro x hj hi hx h
    have h1 : x.toArray[j + 1]! = x[j + 1] := by rw [getElem!_pos x.toArray (j + 1) (by simp; omega)]; simp
    have h2 : x.toArray[j]! = x[j] := by rw [getElem!_pos x.toArray j (by simp; omega)]; simp
    refine ev_st ?_
    simp only [spec_ScanAll.l3, show ((j + 1 : Nat) : Int) > 0 from by omega, ↓reduceIte, wpred j (by omega), show (0 : Int) ≤ (j : Int) from by omega, show (j : Int) < (x.length : Int) from by omega, show (0 : Int) ≤ ((j + 1 : Nat) : Int) from by omega,
      show ((j + 1 : Nat) : Int) < (x.length : Int) from by omega, rd_MFa x j (by omega), rd_MFa x (j + 1) (by omega), wsucc i x.length hi (by omega), Int.toNat_natCast]
    unfold Sort.insInner at h
    rw [h1, h2] at h
    by_cases c : x[j + 1].f2.f1 < x[j].f2.f1
    · rw [if_pos (by simp [impl_ScanAll.lt, c])] at h
      simp only [show x[j].f2.f1 > x[j + 1].f2.f1 from c, ↓reduceIte]
      have e := swp_list x j (by omega)
      have e2 : Sort.swp x.toArray (j + 1) j = ((x.set (j + 1) x[j]).set j x[j + 1]).toArray := by rw [← e]
      rw [e2] at h
      exact ih _ (by omega) (by simpa using hi) (by simpa using hx) h
    · rw [if_neg (by simp [impl_ScanAll.lt, c])] at h
      simp only [show ¬ (x[j].f2.f1 > x[j + 1].f2.f1) from c, ↓reduceIte]
      exact h
theorem insInner_size (j : Nat) : ∀ (d : Array S43), (Sort.insInner impl_ScanAll.lt 0 j d).size = d.size := fun d => insInner_n impl_ScanAll.lt 0 j d
theorem spec_sort_l2 (n : Nat) (hn : n ≤ 1099511627776) : ∀ (d i : Nat) (x : List S43), x.length = n → n ≤ i + d → Ev (fun k => spec_ScanAll.l2 k x (i : Int)) (Sort.insOuter impl_ScanAll.lt 0 n i x.toArray).toList := by
  intro d
  induction d with
  | zero =>
    intro i x hx hi
    refine ev_st ?_
    unfold Sort.insOuter
    simp only [spec_ScanAll.l2, show ¬ ((i : Int) < (x.length : Int)) from by omega, ↓reduceIte, show ¬ (i < n) from by omega]
    exact Ev.now _
  | succ d ih =>
    intro i x hx hi
    by_cases c : i < n
    · refine ev_st ?_
      unfold Sort.insOuter
      simp only [spec_ScanAll.l2, show (i : Int) < (x.length : Int) from by omega, ↓reduceIte, c]
      refine spec_sort_l3 i i x (Nat.le_refl _) (by omega) (by omega) ?_
      have := ih (i + 1) (Sort.insInner impl_ScanAll.lt 0 i x.toArray).toList (by simp [insInner_size, hx]) (by omega)
      simpa using this
    · refine ev_st ?_
      unfold Sort.insOuter
      simp only [spec_ScanAll.l2, show ¬ ((i : Int) < (x.length : Int)) from by omega, ↓reduceIte, c]
      exact Ev.now _
theorem spec_ScanAll_ev (l : List S57) (hf : SmallM l) : Ev (fun k => spec_ScanAll.f k l) (scanM l) := by
  have hl := blocksM_len l 0 [] (fun x hx => (hf.2 x hx).1)
  have h1 := hf.1
  have h2 : (blocksM l 0 []).length ≤ 1099511627776 := by simp at hl; omega
  simp only [spec_ScanAll.f]
  refine spec_scan_l0 l hf l.length 0 [] (by omega) (by simp; omega) ?_
  rw [List.drop_zero]
  exact spec_sort_l2 _ h2 (blocksM l 0 []).length 1 _ rfl (by omega)
/-! ### The last number -/
theorem page_seq (t : ByteArray) : 0 ≤ (implPage t).2.1 := by
  unfold implPage
  split
  · split
    · split
      · rename_i h
        simp only [pageOk, decide_eq_true_eq] at h
        have := h.1.1
        dsimp only
        omega
      · exact Int.le_refl _
    · exact Int.le_refl _
  · exact Int.le_refl _
theorem leaves_seq (b : Int) : ∀ (l : List S59) (i : Nat) (out : List S43), (∀ x ∈ out, 0 ≤ x.f2.f1) → ∀ x ∈ leavesM b l i out, 0 ≤ x.f2.f1
  | [], _, _, h => h
  | y :: t, i, out, h => by
    rw [leavesM]
    refine leaves_seq b t (i + 1) _ ?_
    unfold leafStep
    split
    · split
      · intro x hx
        rcases List.mem_append.1 hx with hx | hx
        · exact h x hx
        · rw [List.mem_singleton.1 hx]; exact page_seq _
      · exact h
    · exact h
theorem blocks_seq : ∀ (l : List S57) (b : Nat) (out : List S43), (∀ x ∈ out, 0 ≤ x.f2.f1) → ∀ x ∈ blocksM l b out, 0 ≤ x.f2.f1
  | [], _, _, h => h
  | y :: t, b, out, h => by rw [blocksM]; exact blocks_seq t (b + 1) _ (leaves_seq (b : Int) y.f2 0 out h)
theorem scan_facts (l : List S57) (hf : SmallM l) : (scanM l).Pairwise TF ∧ (∀ x ∈ scanM l, 0 ≤ x.f2.f1) ∧ (scanM l).length ≤ 1099511627776 := by
  have hl := blocksM_len l 0 [] (fun x hx => (hf.2 x hx).1)
  have h1 := hf.1
  have k := sortM_perm (scan_marks l hf)
  refine ⟨k.2, fun x hx => blocks_seq l 0 [] (fun _ h => by cases h) x ((k.1.mem_iff).1 hx), ?_⟩
  have := k.1.length_eq
  unfold scanM; rw [this]; simp at hl; omega

def lastOf (o : List S43) (n : Nat) : Int := if h : 0 < n ∧ n ≤ o.length then (o[n - 1]).f2.f1 else 0
theorem impl_last_l0 (o : List S43) (hp : o.Pairwise TF) (h0 : ∀ x ∈ o, 0 ≤ x.f2.f1) (hn : o.length ≤ 1099511627776) : ∀ (d i : Nat), i + d = o.length → Ev (fun k => impl_LastSeq.l0 k (lastOf o i) o (o.length : Int) (i : Int)) (lastOf o o.length) := by
  intro d
  induction d with
  | zero =>
    intro i hi
    obtain rfl : i = o.length := by omega
    refine ev_st ?_
    simp only [impl_LastSeq.l0, show ¬ ((o.length : Int) < (o.length : Int)) from by omega, ↓reduceIte]
    exact Ev.now _
  | succ d ih =>
    intro i hi
    have hlt : i < o.length := by omega
    refine ev_st ?_
    simp only [impl_LastSeq.l0, show (i : Int) < (o.length : Int) from by omega, show (0 : Int) ≤ (i : Int) from by omega, ↓reduceIte, rd_MFa o i hlt, wsucc i o.length hlt (by omega)]
    have e : mx (lastOf o i) o[i].f2.f1 = lastOf o (i + 1) := by
      have hz := h0 _ (List.getElem_mem hlt)
      have hle : lastOf o i ≤ o[i].f2.f1 := by
        unfold lastOf
        split
        · rename_i c
          have := List.pairwise_iff_getElem.1 hp (i - 1) i (by omega) hlt (by omega)
          unfold TF at this; omega
        · exact hz
      have hr : lastOf o (i + 1) = o[i].f2.f1 := by
        unfold lastOf
        rw [dif_pos (by omega)]
        simp
      rw [hr]; unfold mx; split <;> omega
    rw [e]
    exact ih (i + 1) (by omega)
theorem impl_LastSeq_ev (l : List S57) (hf : SmallM l) : Ev (fun k => impl_LastSeq.f k l) (lastOf (scanM l) (scanM l).length) := by
  obtain ⟨h1, h2, h3⟩ := scan_facts l hf
  refine Ev.bind (impl_ScanAll_ev l hf) ?_
  have := impl_last_l0 (scanM l) h1 h2 h3 (scanM l).length 0 (by omega)
  simpa [lastOf] using this

/-! ### The drawn flash of pages -/
theorem l05Flash_ev (l : List Int) (hl : l.length ≤ 1048576) (i s : Int) (hi : 0 ≤ i) : ∃ r j u, Ev (fun k => spec_l05Flash.f k l i s) (r, j, u) ∧ flashOk r = true ∧ 0 ≤ j := by
  obtain ⟨b, j1, s1, e1, g1, g2, g3⟩ := l01Below_is l i s 5 hl hi
  have g2 := g2 (by omega)
  have ew : wrap64 (3 + b) = (((3 + b).toNat : Nat) : Int) := by rw [w64 (by omega) (by omega)]; omega
  obtain ⟨r, j2, s2, e, hr⟩ := l05Flash_l0 l hl 20 0 (by omega) (List.replicate (3 + b).toNat ⟨false, 0, List.replicate 4 z59⟩) j1 s1 (ok_blank _ (by omega) (by omega)) g3
  refine ⟨r, j2, s2, ?_, hr⟩
  simp only [spec_l05Flash.f, e1, Option.bind_some, ew]
  exact Ev.bind (new_ev _ (by omega) (by omega)) e
theorem rdl_mem (l : List S59) (i : Int) (h : 0 ≤ i ∧ i < (l.length : Int)) : rd_T59 l i ∈ l := by
  obtain ⟨n, rfl⟩ := Int.eq_ofNat_of_zero_le h.1
  rw [rd_ML l n (by omega)]
  exact List.getElem_mem _
theorem small_put {l : List S57} (h : SmallM l) (i : Nat) {x : S57} (hx : x.f2.length ≤ 1048576 ∧ ∀ y ∈ x.f2, y.f1.size ≤ 1048576) : SmallM (l.set i x) := by
  refine ⟨by rw [List.length_set]; exact h.1, fun b hb => ?_⟩
  rcases List.mem_or_eq_of_mem_set hb with e | rfl
  · exact h.2 b e
  · exact hx
theorem l05Any_ev (l : List Int) (hl : l.length ≤ 1048576) (i s : Int) (hi : 0 ≤ i) : ∃ r j u, Ev (fun k => spec_l05Any.f k l i s) (r, j, u) ∧ SmallM r := by
  obtain ⟨x, j1, s1, e1, ok, h1⟩ := l05Flash_ev l hl i s hi
  have S := ok_small ok
  have L := ok_len ok
  obtain ⟨b, j2, s2, e2, b1, b2, h2⟩ := l01Below_is l j1 s1 (x.length : Int) hl h1
  have b2 := b2 (by omega)
  obtain ⟨q, j3, s3, e3, _, _, h3⟩ := l01Below_is l j2 s2 16 hl h2
  have hm := rd_mem x b ⟨b1, b2⟩
  have P := (blk_parts (ok_blk ok hm)).1.1
  have SB := S.2 _ hm
  have start : ∀ {R : List S57 × Int × Int}, Ev (fun k => if q = 0 then (if 0 ≤ b then (if b < (x.length : Int) then ((spec_l01Below.f l j3 s3 4).bind fun bt315 => ((spec_l01Below.f l bt315.2.1 bt315.2.2 5).bind fun bt318 => (if 0 ≤ bt315.1 then (if bt315.1 < (((rd_T57 x b).f2).length : Int) then (some ((x.set (b : Int).toNat (⟨(rd_T57 x b).f0, (rd_T57 x b).f1, ((rd_T57 x b).f2).set (bt315.1 : Int).toNat (⟨bt318.1, (rd_T59 ((rd_T57 x b).f2) bt315.1).f1⟩ : S59)⟩ : S57)), bt318.2.1, bt318.2.2)) else (none)) else (none)))) else (none)) else (none)) else (if q = 1 then (if 0 ≤ b then (if b < (x.length : Int) then (if 1 ≤ (((rd_T57 x b).f2).length : Int) then (some ((x.set (b : Int).toNat (⟨(rd_T57 x b).f0, (rd_T57 x b).f1, (((rd_T57 x b).f2).drop 1)⟩ : S57)), j3, s3)) else (none)) else (none)) else (none)) else (if q = 2 then ((spec_l01PickInt.f l j3 s3 (([(-1), 1000000000, 1000000001] : List Int))).bind fun bt332 => (if 0 ≤ b then (if b < (x.length : Int) then (some ((x.set (b : Int).toNat (⟨(rd_T57 x b).f0, bt332.1, (rd_T57 x b).f2⟩ : S57)), bt332.2.1, bt332.2.2)) else (none)) else (none))) else (if q = 3 then ((spec_l01Below.f l j3 s3 3).bind fun bt336 => (if 0 ≤ bt336.1 then (if bt336.1 ≤ (x.length : Int) then (some ((x.take (bt336.1 : Int).toNat), bt336.2.1, bt336.2.2)) else (none)) else (none))) else (some (x, j3, s3)))))) R → Ev (fun k => spec_l05Any.f k l i s) R := by
    intro R h
    simp only [spec_l05Any.f]
    refine Ev.bind e1 (Ev.bind (copyS_ev x S) ?_)
    simp only [e2, e3, Option.bind_some]
    exact h
  by_cases q0 : q = 0
  · obtain ⟨c, j4, s4, e4, c1, c2, h4⟩ := l01Below_is l j3 s3 4 hl h3
    have c2 := c2 (by omega)
    obtain ⟨d, j5, s5, e5, _, _, _⟩ := l01Below_is l j4 s4 5 hl h4
    refine ⟨_, j5, s5, start ?_, small_put S b.toNat (x := ⟨(rd_T57 x b).f0, (rd_T57 x b).f1, ((rd_T57 x b).f2).set c.toNat ⟨d, (rd_T59 ((rd_T57 x b).f2) c).f1⟩⟩) ⟨by rw [List.length_set]; omega, fun y hy => ?_⟩⟩
    · simp only [if_pos q0, if_pos b1, if_pos b2, e4, e5, Option.bind_some, if_pos c1, if_pos (show c < ((rd_T57 x b).f2.length : Int) from by omega)]
      exact Ev.now _
    · rcases List.mem_or_eq_of_mem_set hy with e | rfl
      · exact SB.2 y e
      · show (rd_T59 ((rd_T57 x b).f2) c).f1.size ≤ 1048576
        exact SB.2 _ (rdl_mem (rd_T57 x b).f2 c ⟨c1, by omega⟩)
  · by_cases q1 : q = 1
    · refine ⟨_, j3, s3, start ?_, small_put S b.toNat (x := ⟨(rd_T57 x b).f0, (rd_T57 x b).f1, ((rd_T57 x b).f2).drop 1⟩) ⟨by rw [List.length_drop]; omega, fun y hy => SB.2 y (List.mem_of_mem_drop hy)⟩⟩
      simp only [if_neg q0, if_pos q1, if_pos b1, if_pos b2, if_pos (show 1 ≤ ((rd_T57 x b).f2.length : Int) from by omega)]
      exact Ev.now _
    · by_cases q2 : q = 2
      · obtain ⟨v, j4, s4, e4, _, _⟩ := l01PickInt_is l j3 s3 [(-1), 1000000000, 1000000001] hl h3 (by decide)
        refine ⟨_, j4, s4, start ?_, small_put S b.toNat (x := ⟨(rd_T57 x b).f0, v, (rd_T57 x b).f2⟩) SB⟩
        simp only [if_neg q0, if_neg q1, if_pos q2, if_pos b1, if_pos b2, e4, Option.bind_some]
        exact Ev.now _
      · by_cases q3 : q = 3
        · obtain ⟨c, j4, s4, e4, c1, c2, _⟩ := l01Below_is l j3 s3 3 hl h3
          have c2 := c2 (by omega)
          refine ⟨_, j4, s4, start ?_, (⟨by rw [List.length_take]; omega, fun y hy => S.2 y (List.mem_of_mem_take hy)⟩ : SmallM (x.take c.toNat))⟩
          simp only [if_neg q0, if_neg q1, if_neg q2, if_pos q3, e4, Option.bind_some, if_pos c1, if_pos (show c ≤ (x.length : Int) from by omega)]
          exact Ev.now _
        · refine ⟨x, j3, s3, start ?_, S⟩
          simp only [if_neg q0, if_neg q1, if_neg q2, if_neg q3]
          exact Ev.now _
theorem prog_len (l : List S57) (b leaf : Int) (t : ByteArray) : (progM l b leaf t).1.length = l.length := by
  unfold progM
  split
  · exact List.length_set
  · rfl
theorem l06Flash_l0 (l : List Int) (hl : l.length ≤ 1048576) : ∀ (d i : Nat), i + d = 14 → ∀ (x : List S57) (j s : Int), flashOk x = true → x.length = 4 → 0 ≤ j → ∃ r j2 s2, Ev (fun k => spec_l06Flash.l0 k (i : Int) l j s x) (r, j2, s2) ∧ flashOk r = true := by
  intro d
  induction d with
  | zero =>
    intro i hi x j s hx hx4 hj
    obtain ⟨b, j1, s1, e1, g1, g2, g3⟩ := l01Below_is l j s 14 hl hj
    have g2 := g2 (by omega)
    refine ⟨x, j1, s1, ev_st ?_, hx⟩
    simp only [spec_l06Flash.l0, e1, Option.bind_some, if_neg (show ¬ (i : Int) < b from by omega)]
    exact Ev.now _
  | succ d ih =>
    intro i hi x j s hx hx4 hj
    obtain ⟨b, j1, s1, e1, g1, g2, g3⟩ := l01Below_is l j s 14 hl hj
    have ei : wrap64 ((i : Int) + 1) = ((i + 1 : Nat) : Int) := wsucc i 14 (by omega) (by omega)
    by_cases hb : (i : Int) < b
    · obtain ⟨p1, p2, p3, p4, p5, t, j2, s2, e2, hp, _, h2⟩ := l06Page_ev l hl j1 s1 g3
      have e3 := spec_PageText_ev p1 p2 p3 p4 p5 t hp.1 hp.2.1
      obtain ⟨c, j3, s3, e4, c1, c2, h3⟩ := l01Below_is l j2 s2 4 hl h2
      have c2 := c2 (by omega)
      cases hok : (pageTextOf p1 p2 p3 p4 p5 t).2 with
      | true =>
        have hm := rd_mem x c ⟨c1, by omega⟩
        have p := blk_parts (ok_blk hx hm)
        have hn := spec_NextBlank_ev (rd_T57 x c).f0 (rd_T57 x c).f1 (rd_T57 x c).f2 (by omega)
        obtain ⟨r, j4, s4, e, hr⟩ := ih (i + 1) (by omega) (progM x c (nb (rd_T57 x c).f2 0) (pageTextOf p1 p2 p3 p4 p5 t).1).1 j3 s3 (ok_prog hx c _ _) (by rw [prog_len]; exact hx4) h3
        refine ⟨r, j4, s4, ev_st ?_, hr⟩
        simp only [spec_l06Flash.l0, e1, Option.bind_some, if_pos hb, ei]
        refine Ev.bind e2 (Ev.bind e3 ?_)
        simp only [e4, Option.bind_some, hok, if_true, if_pos c1, if_pos (show c < (x.length : Int) from by omega)]
        exact Ev.bind hn (Ev.bind (spec_Program_ev x (ok_small hx) c _ _) e)
      | false =>
        obtain ⟨r, j4, s4, e, hr⟩ := ih (i + 1) (by omega) x j3 s3 hx hx4 h3
        refine ⟨r, j4, s4, ev_st ?_, hr⟩
        simp only [spec_l06Flash.l0, e1, Option.bind_some, if_pos hb, ei]
        refine Ev.bind e2 (Ev.bind e3 ?_)
        simp only [e4, Option.bind_some, hok, Bool.false_eq_true, if_false]
        exact e
    · refine ⟨x, j1, s1, ev_st ?_, hx⟩
      simp only [spec_l06Flash.l0, e1, Option.bind_some, if_neg hb]
      exact Ev.now _
theorem l06Flash_ev (l : List Int) (hl : l.length ≤ 1048576) (i s : Int) (hi : 0 ≤ i) : ∃ r j u, Ev (fun k => spec_l06Flash.f k l i s) (r, j, u) ∧ SmallM r := by
  obtain ⟨b, j1, s1, e1, h1⟩ := l01Once_is l i s 3 hl hi
  simp only [spec_l06Flash.f, e1, Option.bind_some]
  cases b with
  | true =>
    obtain ⟨r, j2, s2, e2, hr⟩ := l05Any_ev l hl j1 s1 h1
    refine ⟨r, j2, s2, ?_, hr⟩
    simp only [if_true]
    exact Ev.bind e2 (Ev.now _)
  | false =>
    obtain ⟨r, j2, s2, e2, hr⟩ := l06Flash_l0 l hl 14 0 (by omega) (List.replicate 4 ⟨false, 0, List.replicate 4 z59⟩) j1 s1 (ok_blank _ (by omega) (by omega)) (by rw [List.length_replicate]) h1
    refine ⟨r, j2, s2, ?_, ok_small hr⟩
    simp only [Bool.false_eq_true, if_false]
    exact Ev.bind (new_ev 4 (by omega) (by omega)) e2
theorem DrawScanAll_ev (l : List Int) (hl : l.length ≤ 1048576) : ∃ r, Ev (fun k => spec_DrawScanAll.f k l) r ∧ SmallM r := by
  obtain ⟨y, hy⟩ := l01New_ev l hl
  obtain ⟨r, j, u, e, hr⟩ := l06Flash_ev l hl 0 y (by omega)
  refine ⟨r, ?_, hr⟩
  simp only [spec_DrawScanAll.f]
  exact Ev.bind hy (Ev.bind e (Ev.now _))
/-! ### What a scan tells is there -/
def There (l : List S57) (b : Nat) (x : S43) : Prop := ∃ (c : Nat) (hc : c < l.length) (j : Nat) (hj : j < l[c].f2.length), l[c].f2[j].f0 = 1 ∧ (implPage l[c].f2[j].f1).2.2.2.2.2.2 = true ∧ x = foundOf ((b + c : Nat) : Int) (j : Int) l[c].f2[j].f1
theorem mem_leaves (b : Int) : ∀ (l : List S59) (i : Nat) (out : List S43) (x : S43), x ∈ leavesM b l i out → x ∈ out ∨ ∃ (j : Nat) (hj : j < l.length), l[j].f0 = 1 ∧ (implPage l[j].f1).2.2.2.2.2.2 = true ∧ x = foundOf b ((i + j : Nat) : Int) l[j].f1
  | [], _, _, x, h => .inl h
  | y :: t, i, out, x, h => by
    rw [leavesM] at h
    rcases mem_leaves b t (i + 1) _ x h with h | ⟨j, hj, h1, h2, h3⟩
    · unfold leafStep at h
      split at h
      · rename_i c1
        split at h
        · rename_i c2
          rcases List.mem_append.1 h with h | h
          · exact .inl h
          · exact .inr ⟨0, by simp, c2, c1, by simpa using h⟩
        · exact .inl h
      · exact .inl h
    · exact .inr ⟨j + 1, by simpa using hj, by simpa using h1, by simpa using h2, by rw [h3, show i + 1 + j = i + (j + 1) from by omega]; rfl⟩
theorem mem_blocks : ∀ (l : List S57) (b : Nat) (out : List S43) (x : S43), x ∈ blocksM l b out → x ∈ out ∨ There l b x
  | [], _, _, x, h => .inl h
  | y :: t, b, out, x, h => by
    rw [blocksM] at h
    rcases mem_blocks t (b + 1) _ x h with h | ⟨c, hc, j, hj, h1, h2, h3⟩
    · rcases mem_leaves (b : Int) y.f2 0 out x h with h | ⟨j, hj, h1, h2, h3⟩
      · exact .inl h
      · exact .inr ⟨0, by simp, j, by simpa using hj, by simpa using h1, by simpa using h2, by simpa using h3⟩
    · exact .inr ⟨c + 1, by simpa using hc, j, by simpa using hj, by simpa using h1, by simpa using h2, by rw [h3, show b + 1 + c = b + (c + 1) from by omega]; rfl⟩
theorem scan_there (l : List S57) (hf : SmallM l) (x : S43) (hx : x ∈ scanM l) : There l 0 x := by
  have h := ((sortM_perm (scan_marks l hf)).1.mem_iff).1 hx
  rcases mem_blocks l 0 [] x h with h | h
  · cases h
  · exact h
theorem there_reads {l : List S57} {x : S43} (h : There l 0 x) : ∃ t, readLeafOf l x.f0 x.f1 = (t, true) ∧ t.size = t.size ∧ implPage t = (x.f2.f0, x.f2.f1, x.f2.f2, x.f2.f3, x.f2.f4, x.f2.f5, true) ∧ ∃ b ∈ l, ∃ y ∈ b.f2, y.f1 = t := by
  obtain ⟨c, hc, j, hj, h1, h2, rfl⟩ := h
  refine ⟨l[c].f2[j].f1, ?_, rfl, ?_, l[c], List.getElem_mem hc, l[c].f2[j], List.getElem_mem hj, rfl⟩
  · unfold readLeafOf foundOf
    rw [Nat.zero_add]
    dsimp only
    rw [if_pos (by omega), rd_MB l c hc, if_pos (by omega), rd_ML _ j hj, if_pos h1]
  · unfold foundOf
    rw [← h2]
theorem scans_l0 (f : List S57) (hf : SmallM f) (o : List S43) (ho : o = scanM f) : ∀ (d i : Nat), i + d = o.length → Ev (fun k => laws_FnScans.l0 k o o (lastOf o i) (i : Int) f) true := by
  have F := scan_facts f hf
  rw [← ho] at F
  intro d
  induction d with
  | zero =>
    intro i hi
    obtain rfl : i = o.length := by omega
    refine ev_st ?_
    simp only [laws_FnScans.l0, Int.lt_irrefl, ↓reduceIte]
    refine Ev.bind (ho ▸ impl_LastSeq_ev f hf) ?_
    simp only [beq_self_eq_true]
    exact Ev.now _
  | succ d ih =>
    intro i hi
    have hlt : i < o.length := by omega
    have hx : o[i] ∈ scanM f := ho ▸ List.getElem_mem hlt
    obtain ⟨t, r1, _, r2, bb, hb, yy, hy, et⟩ := there_reads (scan_there f hf _ hx)
    have hsz : t.size ≤ 140737488351232 := by have := (hf.2 bb hb).2 yy hy; rw [et] at this; omega
    have hle : lastOf o i ≤ o[i].f2.f1 := by
      unfold lastOf
      split
      · rename_i h
        have := List.pairwise_iff_getElem.1 F.1 (i - 1) i (by omega) hlt (by omega)
        unfold TF at this
        omega
      · exact F.2.1 _ (List.getElem_mem hlt)
    have hnext : lastOf o (i + 1) = o[i].f2.f1 := by
      unfold lastOf
      rw [dif_pos ⟨by omega, by omega⟩]
      simp
    refine ev_st ?_
    simp only [laws_FnScans.l0, show (i : Int) < (o.length : Int) from by omega, show (0 : Int) ≤ (i : Int) from by omega, ↓reduceIte, rd_MFa o i hlt, spec_ReadLeaf_eq f hf, Option.bind_some, r1]
    refine Ev.bind (spec_page_ev t hsz) ?_
    rw [r2]
    simp only [↓reduceIte, beq_self_eq_true, Bool.not_true, Bool.or_self, Bool.false_eq_true, if_neg (show ¬ o[i].f2.f1 < lastOf o i from by omega), wsucc i o.length hlt (by omega)]
    rw [← hnext]
    exact ih (i + 1) (by omega)

theorem FnScans : laws_FnScans.Pure := by
  intro c _ _ _
  refine Ev.rounds ?_
  simp only [laws_FnScans.f, laws_big.f, Option.bind_some]
  by_cases hb : (c.length : Int) > 1048576
  · simp only [hb, decide_true, ↓reduceIte]; exact Ev.now _
  · simp only [hb, decide_false, Bool.false_eq_true, ↓reduceIte]
    obtain ⟨f, e, hf⟩ := DrawScanAll_ev c (by omega)
    refine Ev.bind e (Ev.bind (impl_ScanAll_ev f hf) (Ev.bind (spec_ScanAll_ev f hf) ?_))
    simp only [↓reduceIte]
    have h := scans_l0 f hf (scanM f) rfl (scanM f).length 0 (by omega)
    have e0 : lastOf (scanM f) 0 = 0 := by unfold lastOf; rw [dif_neg (by omega)]
    rw [e0] at h
    exact h

end Go.Proofs.Ythbdijeikfgjeaa.Pure
