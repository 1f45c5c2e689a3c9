/- What is proved here: impl.Decimal and the law FnExactDecimal, walked, where the table of powers lies as listed; and the plain law: the reference's figures are the library's. No condition of ours. -/
import Derived.Test.YtbiapgneafgdeaaDoorPDec
import Derived.Test.YtbiapgneafgdeaaDoorShelf
import Derived.StillTailTactics
import Derived.Lib.AppendIntMem
import Derived.Lib.SmallJoins
namespace Go.Proofs.YtbiapgneafgdeaaDoor.Dec
open Go.RowKit Go.Proofs.YtbiapgneafgdeaaDoorW.PrintWords Go.Proofs.YtbiapgneafgdeaaDoorW.PrintLast Go.Proofs.YtbiapgneafgdeaaDoor.PFnExactDecimal
set_option linter.unusedVariables false
set_option linter.unusedSimpArgs false
/-- The table, as listed. -/
def Tab (w : World) : Prop := Lib.TabIs Tryd.prog w "internal/strconv.uint64pow10" .u64 Lib.pow10Tab
theorem gTab : Tryd.prog.globalNamed "internal/strconv.uint64pow10" = some 3 := by kernel_rfl
theorem Tab.below {w w' : World} (h : Tab w) (hb : Below w.heap.size w w') : Tab w' := Joins.tab_stays gTab h hb (Nat.le_refl _)
def itoaB (n : Int) : ByteArray := ⟨(Lib.itoa n).toArray⟩
set_option maxHeartbeats 4000000 in
theorem impl_Decimal.calls (n : Int) (h0 : -9223372036854775808 ≤ n) (h1 : n ≤ 9223372036854775807) (w : World) (htab : Tab w) :
    Calls Tryd.prog 8 #[.int .i64 n] w fun e w' => e = .returned (.string (itoaB n)) ∧ Below w.heap.size w w' := by
  go_enter Tryd.func8, Tryd.ntmps8
  go_wp2_with (go_at_call 26; refine (Tryd.strconv_Itoa n h0 h1 _ htab).mono ?_; rintro e w' ⟨rfl, k, os, rfl⟩)
  go_ret
  exact ⟨rfl, Lib.below_grow _ _ (Nat.le_refl _) _ _⟩
/-! the plain law -/
theorem w64 {n : Int} (h1 : -9223372036854775808 ≤ n) (h2 : n ≤ 9223372036854775807) : wrap64 n = n := by unfold wrap64; omega
theorem wf64 {a : Int} (h : (Lit.int .i64 a).wf = true) : -9223372036854775808 ≤ a ∧ a ≤ 9223372036854775807 := by
  simp only [Lit.wf, IntKind.min, IntKind.max, IntKind.signed, IntKind.bits, Bool.and_eq_true, decide_eq_true_eq, if_true] at h
  omega
/-- The figures of a number, none for nought. -/
def figs : Nat → Nat → List UInt8
  | 0, _ => []
  | m + 1, u => if u = 0 then [] else figs m (u / 10) ++ [UInt8.ofNat (48 + u % 10)]
theorem figs_dec : ∀ (m u : Nat), u < 10 ^ m → 0 < u → figs m u = Lib.decDigits u
  | 0, u, h, h0 => by simp at h; omega
  | m + 1, u, h, h0 => by
    rw [figs, if_neg (by omega), Lib.decDigits]
    by_cases hu : u < 10
    · rw [dif_pos hu, show u / 10 = 0 from by omega, show u % 10 = u from by omega]
      cases m with
      | zero => rfl
      | succ m => rw [figs, if_pos rfl]; rfl
    · rw [dif_neg hu, figs_dec m (u / 10) (by rw [Nat.pow_succ] at h; omega) (by omega)]
theorem cons_fig (d : Int) (L : List UInt8) : strOfNums [d] ++ (⟨L.toArray⟩ : ByteArray) = ⟨(UInt8.ofNat d.toNat :: L).toArray⟩ := by
  apply ByteArray.ext
  rw [ByteArray.data_append]
  apply Array.ext'
  rw [Array.toList_append, strOfNums_data]
  simp
theorem fig_eq (d : Nat) (h : d < 10) : spec_l01Figure.f (d : Int) = some ((48 + d : Nat) : Int) := by
  unfold spec_l01Figure.f
  rw [if_pos (by omega), w64 (by omega) (by omega)]
  congr 1
  omega
theorem one_size (d : Int) : (strOfNums [d]).size = 1 := strOfNums_size [d]
theorem tdiv_abs (x : Int) : (Int.tdiv x 10).natAbs = x.natAbs / 10 := by rw [Int.natAbs_tdiv]; rfl
theorem tdiv_range (x : Int) (h0 : -9223372036854775808 ≤ x) (h1 : x ≤ 9223372036854775807) : -9223372036854775808 ≤ Int.tdiv x 10 ∧ Int.tdiv x 10 ≤ 9223372036854775807 := by
  have := tdiv_abs x
  omega
theorem tmod_cases (x : Int) : (Int.tmod x 10 < 0 → Int.tmod x 10 = -((x.natAbs % 10 : Nat) : Int)) ∧ (¬ Int.tmod x 10 < 0 → Int.tmod x 10 = ((x.natAbs % 10 : Nat) : Int)) := by
  rcases Int.le_total 0 x with h | h
  · have e : Int.tmod x 10 = x % 10 := Int.tmod_eq_emod_of_nonneg h
    constructor <;> intro k <;> omega
  · have e : Int.tmod x 10 = -((-x) % 10) := by
      have := Int.neg_tmod (-x) 10
      rw [Int.neg_neg] at this
      rw [this, Int.tmod_eq_emod_of_nonneg (by omega)]
    constructor <;> intro k <;> omega
theorem dec_l0 (neg : Bool) : ∀ (m : Nat) (x : Int) (L : List UInt8), x.natAbs < 10 ^ m → -9223372036854775808 ≤ x → x ≤ 9223372036854775807 → L.length + m ≤ 100 →
    Ev (fun k => spec_Decimal.l0 k x neg (⟨L.toArray⟩ : ByteArray)) (⟨((if neg = true then [45] else []) ++ figs m x.natAbs ++ L).toArray⟩ : ByteArray) := by
  intro m
  induction m with
  | zero =>
    intro x L hm h0 h1 hL
    have hx : x = 0 := by simp at hm; omega
    subst hx
    refine Ev.step (fun k => rfl) ?_
    have hz : (⟨L.toArray⟩ : ByteArray).size = L.length := by simp [ByteArray.size]
    simp only [spec_Decimal.l0, ↓reduceIte, hz, figs, List.append_nil]
    cases neg with
    | false => simp only [Bool.false_eq_true, ↓reduceIte, List.nil_append]; exact Ev.now _
    | true =>
      simp only [↓reduceIte, show 1 + L.length ≤ 9223372036854775807 from by omega]
      have e : (⟨#[45]⟩ : ByteArray) ++ (⟨L.toArray⟩ : ByteArray) = (⟨([45] ++ L).toArray⟩ : ByteArray) := by
        apply ByteArray.ext
        rw [ByteArray.data_append]
        simp
      rw [e]
      exact Ev.now _
  | succ m ih =>
    intro x L hm h0 h1 hL
    have hz : (⟨L.toArray⟩ : ByteArray).size = L.length := by simp [ByteArray.size]
    by_cases hx : x = 0
    · subst hx
      refine Ev.step (fun k => rfl) ?_
      simp only [spec_Decimal.l0, ↓reduceIte, hz, figs, Int.natAbs_zero, List.append_nil]
      cases neg with
      | false => simp only [Bool.false_eq_true, ↓reduceIte, List.nil_append]; exact Ev.now _
      | true =>
        simp only [↓reduceIte, show 1 + L.length ≤ 9223372036854775807 from by omega]
        have e : (⟨#[45]⟩ : ByteArray) ++ (⟨L.toArray⟩ : ByteArray) = (⟨([45] ++ L).toArray⟩ : ByteArray) := by
          apply ByteArray.ext
          rw [ByteArray.data_append]
          simp
        rw [e]
        exact Ev.now _
    · have c1 : 1 + L.length ≤ 9223372036854775807 := by omega
      have t0 := tdiv_range x h0 h1
      have ta := tdiv_abs x
      have d10 : x.natAbs % 10 < 10 := Nat.mod_lt _ (by omega)
      have hdiv : (Int.tdiv x 10).natAbs < 10 ^ m := by rw [ta]; rw [Nat.pow_succ] at hm; omega
      have g := ih (Int.tdiv x 10) (UInt8.ofNat (48 + x.natAbs % 10) :: L) hdiv t0.1 t0.2 (by simp; omega)
      have e2 : (if neg = true then [45] else []) ++ figs (m + 1) x.natAbs ++ L = (if neg = true then [45] else []) ++ figs m (Int.tdiv x 10).natAbs ++ UInt8.ofNat (48 + x.natAbs % 10) :: L := by
        rw [figs, if_neg (show ¬ x.natAbs = 0 from by omega), ta, List.append_assoc, List.append_assoc, List.append_assoc, List.singleton_append]
      rw [e2]
      obtain ⟨ca, cb⟩ := tmod_cases x
      have wt : wrap64 (Int.tdiv x 10) = Int.tdiv x 10 := w64 t0.1 t0.2
      refine Ev.step (fun k => rfl) ?_
      by_cases hn : Int.tmod x 10 < 0
      · have e := ca hn
        have f := fig_eq (x.natAbs % 10) d10
        have we : wrap64 (-(Int.tmod x 10)) = ((x.natAbs % 10 : Nat) : Int) := by rw [e, Int.neg_neg, w64 (by omega) (by omega)]
        simp only [spec_Decimal.l0, hx, hn, ↓reduceIte, we, f, Option.bind_some, one_size, hz, c1, wt, cons_fig, Int.toNat_natCast]
        exact g
      · have e := cb hn
        have f := fig_eq (x.natAbs % 10) d10
        rw [← e] at f
        simp only [spec_Decimal.l0, hx, hn, ↓reduceIte, f, Option.bind_some, one_size, hz, c1, wt, cons_fig, Int.toNat_natCast]
        exact g
theorem dec_ev (n : Int) (h0 : -9223372036854775808 ≤ n) (h1 : n ≤ 9223372036854775807) : Ev (fun k => spec_Decimal.f k n) (itoaB n) := by
  simp only [spec_Decimal.f]
  by_cases hn : n = 0
  · subst hn
    have e : itoaB 0 = (⟨#[48]⟩ : ByteArray) := by
      unfold itoaB Lib.itoa
      rw [if_neg (by omega), Lib.decDigits, dif_pos (by omega)]
      rfl
    rw [e]
    simp only [↓reduceIte]
    exact Ev.now _
  · simp only [hn, ↓reduceIte]
    have g := dec_l0 (decide (n < 0)) 20 n [] (by omega) h0 h1 (by simp)
    have e : (⟨((if decide (n < 0) = true then [45] else []) ++ figs 20 n.natAbs ++ []).toArray⟩ : ByteArray) = itoaB n := by
      unfold itoaB Lib.itoa
      rw [figs_dec 20 n.natAbs (by omega) (by omega), List.append_nil]
      by_cases hn2 : n < 0
      · simp [hn2]
      · simp [hn2, show n.toNat = n.natAbs from by omega]
    rw [e] at g
    exact g
/-! the law -/
set_option maxHeartbeats 4000000 in
theorem law_walk (n : Int) (hw : (Lit.int .i64 n).wf = true) (w : World) (htab : Tab w) :
    Calls Tryd.prog 3 #[.int .i64 n] w fun e w' => e = .returned (.bool true) ∧ Below w.heap.size w w' := by
  have hr := wf64 hw
  obtain ⟨k, hk⟩ := dec_ev n hr.1 hr.2
  have hk := hk k (Nat.le_refl _)
  go_enter Tryd.func3, Tryd.ntmps3
  go_wp2_with (first
    | (go_at_call 7; refine (spec_Decimal.calls k n (itoaB n) _ hk).mono ?_; rintro e w1 ⟨rfl, hb1⟩)
    | (go_at_call 8; refine (impl_Decimal.calls n hr.1 hr.2 _ (htab.below hb1)).mono ?_; rintro e w2 ⟨rfl, hb2⟩))
  go_ret
  exact ⟨rfl, below_step hb1 hb2⟩
end Go.Proofs.YtbiapgneafgdeaaDoor.Dec
