/- What is proved here: the law FnExactNextBlank, told as a plain function over numbers and lists, answers true at all arguments. Conditions: those of the row alone, none of ours. -/
import Derived.Test.YtekeaciflbkhpaaGFnExactNextBlank
import Derived.Test.YtekeaciflbkhpaaKit
namespace Go.Proofs.Ytekeaciflbkhpaa.Pure
open Go.RowKit Go.Proofs.Ytekeaciflbkhpaa.PFnExactNextBlank Go.Proofs.Ytekeaciflbkhpaa.GFnExactNextBlank Go.Proofs.YtekeaciflbkhpaaW.PrintWords Go.Proofs.YtekeaciflbkhpaaW.PrintLast Go.Proofs.Ytekeaciflbkhpaa.Kit Go.Proofs.YtekeaciflbkhpaaW.PrintMore
set_option linter.unusedSimpArgs false
set_option linter.unusedVariables false

/-! leaves: read, measured, copied, held against each other -/
theorem rd_LL (xs : List S119) (i : Nat) (h : i < xs.length) : rd_T119 xs (i : Int) = xs[i] := by
  unfold rd_T119; rw [Int.toNat_natCast, List.getD_eq_getElem?_getD, List.getElem?_eq_getElem h]; rfl
theorem rd_ML (xs : List S96) (i : Nat) (h : i < xs.length) : rd_T96 xs (i : Int) = xs[i] := by
  unfold rd_T96; rw [Int.toNat_natCast, List.getD_eq_getElem?_getD, List.getElem?_eq_getElem h]; rfl
theorem drop_at {α : Type} (xs : List α) (i : Nat) (h : i < xs.length) : xs.drop i = xs[i] :: xs.drop (i + 1) := List.drop_eq_getElem_cons h
theorem drop_len {α : Type} (xs : List α) : xs.drop xs.length = [] := List.drop_eq_nil_of_le (Nat.le_refl _)
theorem wsucc (i n : Nat) (h : i < n) (hn : n ≤ 9223372036854775807) : wrap64 ((i : Int) + 1) = ((i + 1 : Nat) : Int) := by rw [w64 (by omega) (by omega)]; omega
theorem szLeaf_eq (a : Int) (b : ByteArray) (left : Int) (hb : b.size ≤ 9223372036854775807) (h0 : 0 ≤ left) (h1 : left ≤ 1048576) :
    laws_szLeaf.f a b left = some (if left - (b.size : Int) < 0 then -1 else left - (b.size : Int)) := by
  unfold laws_szLeaf.f
  rw [w64 (by omega) (by omega)]
  split <;> rfl
theorem szLeafS_l0 (l : List S119) (hl : l.length ≤ 9223372036854775807) (hs : ∀ x ∈ l, x.f1.size ≤ 9223372036854775807) : ∀ (d i : Nat), i + d = l.length → ∀ left : Int, 0 ≤ left → left ≤ 1048576 →
    ∃ r : Int, Ev (fun k => laws_szLeafS.l0 k l left (i : Int)) r ∧ r ≤ left ∧ (0 ≤ r → ∀ x ∈ l.drop i, (x.f1.size : Int) ≤ left) := by
  intro d
  induction d with
  | zero =>
    intro i hi left h0 h1
    obtain rfl : i = l.length := by omega
    refine ⟨left, ev_st ?_, Int.le_refl _, fun _ => by rw [drop_len]; simp⟩
    simp only [laws_szLeafS.l0, show ¬ ((l.length : Int) < (l.length : Int)) from by omega, ↓reduceIte]
    exact Ev.now _
  | succ d ih =>
    intro i hi left h0 h1
    have hlt : i < l.length := by omega
    have hx := hs l[i] (List.getElem_mem hlt)
    have e := szLeaf_eq l[i].f0 l[i].f1 left hx h0 h1
    by_cases hneg : left - (l[i].f1.size : Int) < 0
    · refine ⟨-1, ev_st ?_, by omega, fun h => by omega⟩
      simp only [laws_szLeafS.l0, show (i : Int) < (l.length : Int) from by omega, show (0 : Int) ≤ (i : Int) from by omega, ↓reduceIte, rd_LL l i hlt, e, hneg, Option.bind_some, show (-1 : Int) < 0 from by omega]
      exact Ev.now _
    · obtain ⟨r, hr, hle, hall⟩ := ih (i + 1) (by omega) (left - (l[i].f1.size : Int)) (by omega) (by omega)
      refine ⟨r, ev_st ?_, by omega, fun h => ?_⟩
      · simp only [laws_szLeafS.l0, show (i : Int) < (l.length : Int) from by omega, show (0 : Int) ≤ (i : Int) from by omega, ↓reduceIte, rd_LL l i hlt, e, hneg, Option.bind_some, wsucc i l.length hlt hl]
        exact hr
      · rw [drop_at l i hlt]
        intro x hx
        rcases List.mem_cons.1 hx with rfl | hx
        · omega
        · have := hall h x hx; omega
theorem szLeafS_ev (l : List S119) (hl : l.length ≤ 9223372036854775807) (hs : ∀ x ∈ l, x.f1.size ≤ 9223372036854775807) (left : Int) (h0 : 0 ≤ left) (h1 : left ≤ 1048576) :
    ∃ r : Int, Ev (fun k => laws_szLeafS.f k l left) r ∧ r ≤ left ∧ (0 ≤ r → (l.length : Int) ≤ left ∧ ∀ x ∈ l, (x.f1.size : Int) ≤ left) := by
  have e : wrap64 (left - (l.length : Int)) = left - (l.length : Int) := w64 (by omega) (by omega)
  by_cases hneg : left - (l.length : Int) < 0
  · refine ⟨-1, ?_, by omega, fun h => by omega⟩
    simp only [laws_szLeafS.f, e, hneg, ↓reduceIte]
    exact Ev.now _
  · obtain ⟨r, hr, hle, hall⟩ := szLeafS_l0 l hl hs l.length 0 (by omega) (left - (l.length : Int)) (by omega) (by omega)
    refine ⟨r, ?_, by omega, fun h => ⟨by omega, fun x hx => by have := hall h x (by simpa using hx); omega⟩⟩
    simp only [laws_szLeafS.f, e, hneg, ↓reduceIte]
    exact hr
def toL (x : S119) : S96 := ⟨x.f0, x.f1⟩
theorem set_mid {α : Type} (p r : List α) (z v : α) (i : Nat) (h : p.length = i) : (p ++ z :: r).set i v = (p ++ [v]) ++ r := by
  subst h
  simp
theorem toLeafS_l0 (l : List S119) (hl : l.length ≤ 1048576) : ∀ (d i : Nat), i + d = l.length →
    Ev (fun k => laws_toLeafS.l0 k l ((l.take i).map toL ++ List.replicate d z96) (i : Int)) (l.map toL) := by
  intro d
  induction d with
  | zero =>
    intro i hi
    obtain rfl : i = l.length := by omega
    refine ev_st ?_
    simp only [laws_toLeafS.l0, show ¬ ((l.length : Int) < (l.length : Int)) from by omega, ↓reduceIte, List.take_length, List.replicate_zero, List.append_nil]
    exact Ev.now _
  | succ d ih =>
    intro i hi
    have hlt : i < l.length := by omega
    have hlen : ((l.take i).map toL ++ List.replicate (d + 1) z96).length = l.length := by simp; omega
    have hset : ((l.take i).map toL ++ List.replicate (d + 1) z96).set i (⟨l[i].f0, l[i].f1⟩ : S96) = (l.take (i + 1)).map toL ++ List.replicate d z96 := by
      rw [List.replicate_succ, set_mid _ _ _ _ _ (by simp; omega), List.take_succ_eq_append_getElem hlt, List.map_append]
      rfl
    refine ev_st ?_
    simp only [laws_toLeafS.l0, show (i : Int) < (l.length : Int) from by omega, show (0 : Int) ≤ (i : Int) from by omega, ↓reduceIte, rd_LL l i hlt, laws_toLeaf.f, Option.bind_some, hlen, Int.toNat_natCast, hset, wsucc i l.length hlt (by omega)]
    exact ih (i + 1) (by omega)
theorem toLeafS_ev (l : List S119) (hl : l.length ≤ 1048576) : Ev (fun k => laws_toLeafS.f k l) (l.map toL) := by
  have h := toLeafS_l0 l hl l.length 0 (by omega)
  simp only [laws_toLeafS.f, show (0 : Int) ≤ (l.length : Int) from by omega, Int.toNat_natCast, ↓reduceIte]
  split
  · exact h
  · omega
theorem eqLeafS_l0 (l : List S96) (hl : l.length ≤ 1048576) : ∀ (d i : Nat), i + d = l.length → Ev (fun k => laws_eqLeafS.l0 k l l (i : Int)) true := by
  intro d
  induction d with
  | zero =>
    intro i hi
    obtain rfl : i = l.length := by omega
    refine ev_st ?_
    simp only [laws_eqLeafS.l0, show ¬ ((l.length : Int) < (l.length : Int)) from by omega, ↓reduceIte]
    exact Ev.now _
  | succ d ih =>
    intro i hi
    have hlt : i < l.length := by omega
    refine ev_st ?_
    simp only [laws_eqLeafS.l0, show (i : Int) < (l.length : Int) from by omega, show (0 : Int) ≤ (i : Int) from by omega, ↓reduceIte, laws_eqLeaf.f, Option.bind_some, wsucc i l.length hlt (by omega)]
    exact ih (i + 1) (by omega)
theorem eqLeafS_ev (l : List S96) (hl : l.length ≤ 1048576) : Ev (fun k => laws_eqLeafS.f k l l) true := by
  simp only [laws_eqLeafS.f, ↓reduceIte]
  exact eqLeafS_l0 l hl l.length 0 (by omega)
theorem szBlock_ev (a : Bool) (b : Int) (l : List S119) (hl : l.length ≤ 9223372036854775807) (hs : ∀ x ∈ l, x.f1.size ≤ 9223372036854775807) (left : Int) (h0 : 0 ≤ left) (h1 : left ≤ 1048576) :
    ∃ r : Int, Ev (fun k => laws_szBlock.f k a b l left) r ∧ r ≤ left ∧ (0 ≤ r → (l.length : Int) ≤ left ∧ ∀ x ∈ l, (x.f1.size : Int) ≤ left) := by
  obtain ⟨r, hr, hle, hall⟩ := szLeafS_ev l hl hs left h0 h1
  by_cases hn : r < 0
  · refine ⟨-1, ?_, by omega, fun h => by omega⟩
    refine Ev.bind hr ?_
    simp only [hn, ↓reduceIte]
    exact Ev.now _
  · refine ⟨r, ?_, hle, hall⟩
    refine Ev.bind hr ?_
    simp only [hn, ↓reduceIte]
    exact Ev.now _
theorem toBlock_ev (a : Bool) (b : Int) (l : List S119) (hl : l.length ≤ 1048576) : Ev (fun k => laws_toBlock.f k a b l) (a, b, l.map toL) := Ev.bind (toLeafS_ev l hl) (Ev.now _)
theorem eqBlock_ev (a : Bool) (b : Int) (l : List S96) (hl : l.length ≤ 1048576) : Ev (fun k => laws_eqBlock.f k a b l a b l) true := by
  simp only [laws_eqBlock.f, bne_self_eq_false, Bool.false_eq_true, ↓reduceIte]
  refine Ev.bind (eqLeafS_ev l hl) ?_
  simp only [↓reduceIte]
  exact Ev.now _

def nb : List S96 → Nat → Int
  | [], _ => 4
  | x :: t, i => if x.f0 = 0 then (i : Int) else nb t (i + 1)
theorem spec_NextBlank_l0 (a : Bool) (b : Int) (l : List S96) (hl : l.length ≤ 1048576) : ∀ (d i : Nat), i + d = l.length → Ev (fun k => spec_NextBlank.l0 k (i : Int) a b l) (nb (l.drop i) i) := by
  intro d
  induction d with
  | zero =>
    intro i hi
    obtain rfl : i = l.length := by omega
    refine ev_st ?_
    simp only [spec_NextBlank.l0, show ¬ ((l.length : Int) < (l.length : Int)) from by omega, ↓reduceIte, drop_len, nb]
    exact Ev.now _
  | succ d ih =>
    intro i hi
    have hlt : i < l.length := by omega
    refine ev_st ?_
    simp only [spec_NextBlank.l0, show (i : Int) < (l.length : Int) from by omega, show (0 : Int) ≤ (i : Int) from by omega, ↓reduceIte, rd_ML l i hlt, wsucc i l.length hlt (by omega)]
    rw [drop_at l i hlt, nb]
    by_cases h : l[i].f0 = 0
    · simp only [h, ↓reduceIte]; exact Ev.now _
    · simp only [h, ↓reduceIte]; exact ih (i + 1) (by omega)
theorem spec_NextBlank_ev (a : Bool) (b : Int) (l : List S96) (hl : l.length ≤ 1048576) : Ev (fun k => spec_NextBlank.f k a b l) (nb l 0) := spec_NextBlank_l0 a b l hl l.length 0 (by omega)
theorem impl_NextBlank_l0 (l : List S96) (hl : l.length ≤ 1048576) : ∀ (d i : Nat), i + d = l.length → Ev (fun k => impl_NextBlank.l0 k l (l.length : Int) (i : Int)) (nb (l.drop i) i) := by
  intro d
  induction d with
  | zero =>
    intro i hi
    obtain rfl : i = l.length := by omega
    refine ev_st ?_
    simp only [impl_NextBlank.l0, show ¬ ((l.length : Int) < (l.length : Int)) from by omega, ↓reduceIte, drop_len, nb]
    exact Ev.now _
  | succ d ih =>
    intro i hi
    have hlt : i < l.length := by omega
    refine ev_st ?_
    simp only [impl_NextBlank.l0, show (i : Int) < (l.length : Int) from by omega, show (0 : Int) ≤ (i : Int) from by omega, ↓reduceIte, rd_ML l i hlt, wsucc i l.length hlt (by omega)]
    rw [drop_at l i hlt, nb]
    by_cases h : l[i].f0 = 0
    · simp only [h, ↓reduceIte]; exact Ev.now _
    · simp only [h, ↓reduceIte]; exact ih (i + 1) (by omega)
theorem impl_NextBlank_ev (a : Bool) (b : Int) (l : List S96) (hl : l.length ≤ 1048576) : Ev (fun k => impl_NextBlank.f k a b l) (nb l 0) := impl_NextBlank_l0 l hl l.length 0 (by omega)

theorem FnExactNextBlank : Plain := by
  intro a b l hb hl
  refine Ev.rounds ?_
  simp only [laws_FnExactNextBlank.f]
  have hl' : l.length ≤ 9223372036854775807 ∧ ∀ x ∈ l, x.f1.size ≤ 9223372036854775807 := ⟨hl.1, fun x hx => (hl.2 x hx).2⟩
  obtain ⟨r, hr, _, hall⟩ := szBlock_ev a b l hl'.1 hl'.2 1048576 (by omega) (by omega)
  refine Ev.bind hr ?_
  by_cases hn : r < 0
  · simp only [hn, ↓reduceIte]; exact Ev.now _
  · have hs : l.length ≤ 1048576 := by have := (hall (by omega)).1; omega
    have hm : (l.map toL).length ≤ 1048576 := by rw [List.length_map]; exact hs
    simp only [hn, ↓reduceIte]
    refine Ev.bind (toBlock_ev a b l hs) (Ev.bind (spec_NextBlank_ev a b _ hm) (Ev.bind (toBlock_ev a b l hs) (Ev.bind (impl_NextBlank_ev a b _ hm) ?_)))
    simp only [↓reduceIte]
    refine Ev.bind (toBlock_ev a b l hs) (Ev.bind (eqBlock_ev a b _ hm) ?_)
    simp only [↓reduceIte]
    exact Ev.now _

end Go.Proofs.Ytekeaciflbkhpaa.Pure
