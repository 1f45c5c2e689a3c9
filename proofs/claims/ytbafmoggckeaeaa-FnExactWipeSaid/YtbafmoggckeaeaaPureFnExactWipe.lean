/- What is proved here: the law FnExactWipe, told as a plain function over numbers and lists, answers true at all arguments. Conditions: those of the row alone, none of ours. -/
import Derived.Test.YtbafmoggckeaeaaGFnExactWipe
import Derived.Test.YtbafmoggckeaeaaKit
namespace Go.Proofs.Ytbafmoggckeaeaa.Pure
open Go.RowKit Go.Proofs.Ytbafmoggckeaeaa.QFnExactWipe Go.Proofs.Ytbafmoggckeaeaa.GFnExactWipe Go.Proofs.YtbafmoggckeaeaaW.PrintWords Go.Proofs.YtbafmoggckeaeaaW.PrintLast Go.Proofs.Ytbafmoggckeaeaa.Kit Go.Proofs.YtbafmoggckeaeaaW.PrintMore
set_option linter.unusedSimpArgs false
set_option linter.unusedVariables false

theorem spec_l01In_eq (a b c : Int) : spec_l01In.f a b c = some (decide (b ≤ a ∧ a ≤ c)) := by
  unfold spec_l01In.f
  by_cases h : b ≤ a <;> simp [h, GE.ge]

theorem impl_in_eq (a b c : Int) : impl_in.f a b c = some (decide (b ≤ a ∧ a ≤ c)) := by
  unfold impl_in.f
  by_cases h : b ≤ a <;> simp [h, GE.ge]

/-! leaves: read, measured, copied, held against each other -/
theorem rd_LL (xs : List S111) (i : Nat) (h : i < xs.length) : rd_T111 xs (i : Int) = xs[i] := by
  unfold rd_T111; rw [Int.toNat_natCast, List.getD_eq_getElem?_getD, List.getElem?_eq_getElem h]; rfl
theorem rd_ML (xs : List S63) (i : Nat) (h : i < xs.length) : rd_T63 xs (i : Int) = xs[i] := by
  unfold rd_T63; rw [Int.toNat_natCast, List.getD_eq_getElem?_getD, List.getElem?_eq_getElem h]; rfl
theorem drop_at {α : Type} (xs : List α) (i : Nat) (h : i < xs.length) : xs.drop i = xs[i] :: xs.drop (i + 1) := List.drop_eq_getElem_cons h
theorem drop_len {α : Type} (xs : List α) : xs.drop xs.length = [] := List.drop_eq_nil_of_le (Nat.le_refl _)
theorem wsucc (i n : Nat) (h : i < n) (hn : n ≤ 9223372036854775807) : wrap64 ((i : Int) + 1) = ((i + 1 : Nat) : Int) := by rw [w64 (by omega) (by omega)]; omega
theorem szLeaf_eq (a : Int) (b : ByteArray) (left : Int) (hb : b.size ≤ 9223372036854775807) (h0 : 0 ≤ left) (h1 : left ≤ 1048576) :
    laws_szLeaf.f a b left = some (if left - (b.size : Int) < 0 then -1 else left - (b.size : Int)) := by
  unfold laws_szLeaf.f
  rw [w64 (by omega) (by omega)]
  split <;> rfl
theorem szLeafS_l0 (l : List S111) (hl : l.length ≤ 9223372036854775807) (hs : ∀ x ∈ l, x.f1.size ≤ 9223372036854775807) : ∀ (d i : Nat), i + d = l.length → ∀ left : Int, 0 ≤ left → left ≤ 1048576 →
    ∃ r : Int, Ev (fun k => laws_szLeafS.l0 k l left (i : Int)) r ∧ r ≤ left ∧ (0 ≤ r → ∀ x ∈ l.drop i, (x.f1.size : Int) ≤ left) := by
  intro d
  induction d with
  | zero =>
    intro i hi left h0 h1
    obtain rfl : i = l.length := by omega
    refine ⟨left, ev_st ?_, Int.le_refl _, fun _ => by rw [drop_len]; simp⟩
    simp only [laws_szLeafS.l0, show ¬ ((l.length : Int) < (l.length : Int)) from by omega, ↓reduceIte]
    exact Ev.now _
  | succ d ih =>
    intro i hi left h0 h1
    have hlt : i < l.length := by omega
    have hx := hs l[i] (List.getElem_mem hlt)
    have e := szLeaf_eq l[i].f0 l[i].f1 left hx h0 h1
    by_cases hneg : left - (l[i].f1.size : Int) < 0
    · refine ⟨-1, ev_st ?_, by omega, fun h => by omega⟩
      simp only [laws_szLeafS.l0, show (i : Int) < (l.length : Int) from by omega, show (0 : Int) ≤ (i : Int) from by omega, ↓reduceIte, rd_LL l i hlt, e, hneg, Option.bind_some, show (-1 : Int) < 0 from by omega]
      exact Ev.now _
    · obtain ⟨r, hr, hle, hall⟩ := ih (i + 1) (by omega) (left - (l[i].f1.size : Int)) (by omega) (by omega)
      refine ⟨r, ev_st ?_, by omega, fun h => ?_⟩
      · simp only [laws_szLeafS.l0, show (i : Int) < (l.length : Int) from by omega, show (0 : Int) ≤ (i : Int) from by omega, ↓reduceIte, rd_LL l i hlt, e, hneg, Option.bind_some, wsucc i l.length hlt hl]
        exact hr
      · rw [drop_at l i hlt]
        intro x hx
        rcases List.mem_cons.1 hx with rfl | hx
        · omega
        · have := hall h x hx; omega
theorem szLeafS_ev (l : List S111) (hl : l.length ≤ 9223372036854775807) (hs : ∀ x ∈ l, x.f1.size ≤ 9223372036854775807) (left : Int) (h0 : 0 ≤ left) (h1 : left ≤ 1048576) :
    ∃ r : Int, Ev (fun k => laws_szLeafS.f k l left) r ∧ r ≤ left ∧ (0 ≤ r → (l.length : Int) ≤ left ∧ ∀ x ∈ l, (x.f1.size : Int) ≤ left) := by
  have e : wrap64 (left - (l.length : Int)) = left - (l.length : Int) := w64 (by omega) (by omega)
  by_cases hneg : left - (l.length : Int) < 0
  · refine ⟨-1, ?_, by omega, fun h => by omega⟩
    simp only [laws_szLeafS.f, e, hneg, ↓reduceIte]
    exact Ev.now _
  · obtain ⟨r, hr, hle, hall⟩ := szLeafS_l0 l hl hs l.length 0 (by omega) (left - (l.length : Int)) (by omega) (by omega)
    refine ⟨r, ?_, by omega, fun h => ⟨by omega, fun x hx => by have := hall h x (by simpa using hx); omega⟩⟩
    simp only [laws_szLeafS.f, e, hneg, ↓reduceIte]
    exact hr
def toL (x : S111) : S63 := ⟨x.f0, x.f1⟩
theorem set_mid {α : Type} (p r : List α) (z v : α) (i : Nat) (h : p.length = i) : (p ++ z :: r).set i v = (p ++ [v]) ++ r := by
  subst h
  simp
theorem toLeafS_l0 (l : List S111) (hl : l.length ≤ 1048576) : ∀ (d i : Nat), i + d = l.length →
    Ev (fun k => laws_toLeafS.l0 k l ((l.take i).map toL ++ List.replicate d z63) (i : Int)) (l.map toL) := by
  intro d
  induction d with
  | zero =>
    intro i hi
    obtain rfl : i = l.length := by omega
    refine ev_st ?_
    simp only [laws_toLeafS.l0, show ¬ ((l.length : Int) < (l.length : Int)) from by omega, ↓reduceIte, List.take_length, List.replicate_zero, List.append_nil]
    exact Ev.now _
  | succ d ih =>
    intro i hi
    have hlt : i < l.length := by omega
    have hlen : ((l.take i).map toL ++ List.replicate (d + 1) z63).length = l.length := by simp; omega
    have hset : ((l.take i).map toL ++ List.replicate (d + 1) z63).set i (⟨l[i].f0, l[i].f1⟩ : S63) = (l.take (i + 1)).map toL ++ List.replicate d z63 := by
      rw [List.replicate_succ, set_mid _ _ _ _ _ (by simp; omega), List.take_succ_eq_append_getElem hlt, List.map_append]
      rfl
    refine ev_st ?_
    simp only [laws_toLeafS.l0, show (i : Int) < (l.length : Int) from by omega, show (0 : Int) ≤ (i : Int) from by omega, ↓reduceIte, rd_LL l i hlt, laws_toLeaf.f, Option.bind_some, hlen, Int.toNat_natCast, hset, wsucc i l.length hlt (by omega)]
    exact ih (i + 1) (by omega)
theorem toLeafS_ev (l : List S111) (hl : l.length ≤ 1048576) : Ev (fun k => laws_toLeafS.f k l) (l.map toL) := by
  have h := toLeafS_l0 l hl l.length 0 (by omega)
  simp only [laws_toLeafS.f, show (0 : Int) ≤ (l.length : Int) from by omega, Int.toNat_natCast, ↓reduceIte]
  split
  · exact h
  · omega
theorem eqLeafS_l0 (l : List S63) (hl : l.length ≤ 1048576) : ∀ (d i : Nat), i + d = l.length → Ev (fun k => laws_eqLeafS.l0 k l l (i : Int)) true := by
  intro d
  induction d with
  | zero =>
    intro i hi
    obtain rfl : i = l.length := by omega
    refine ev_st ?_
    simp only [laws_eqLeafS.l0, show ¬ ((l.length : Int) < (l.length : Int)) from by omega, ↓reduceIte]
    exact Ev.now _
  | succ d ih =>
    intro i hi
    have hlt : i < l.length := by omega
    refine ev_st ?_
    simp only [laws_eqLeafS.l0, show (i : Int) < (l.length : Int) from by omega, show (0 : Int) ≤ (i : Int) from by omega, ↓reduceIte, laws_eqLeaf.f, Option.bind_some, wsucc i l.length hlt (by omega)]
    exact ih (i + 1) (by omega)
theorem eqLeafS_ev (l : List S63) (hl : l.length ≤ 1048576) : Ev (fun k => laws_eqLeafS.f k l l) true := by
  simp only [laws_eqLeafS.f, ↓reduceIte]
  exact eqLeafS_l0 l hl l.length 0 (by omega)
theorem szBlock_ev (a : Bool) (b : Int) (l : List S111) (hl : l.length ≤ 9223372036854775807) (hs : ∀ x ∈ l, x.f1.size ≤ 9223372036854775807) (left : Int) (h0 : 0 ≤ left) (h1 : left ≤ 1048576) :
    ∃ r : Int, Ev (fun k => laws_szBlock.f k a b l left) r ∧ r ≤ left ∧ (0 ≤ r → (l.length : Int) ≤ left ∧ ∀ x ∈ l, (x.f1.size : Int) ≤ left) := by
  obtain ⟨r, hr, hle, hall⟩ := szLeafS_ev l hl hs left h0 h1
  by_cases hn : r < 0
  · refine ⟨-1, ?_, by omega, fun h => by omega⟩
    refine Ev.bind hr ?_
    simp only [hn, ↓reduceIte]
    exact Ev.now _
  · refine ⟨r, ?_, hle, hall⟩
    refine Ev.bind hr ?_
    simp only [hn, ↓reduceIte]
    exact Ev.now _
theorem toBlock_ev (a : Bool) (b : Int) (l : List S111) (hl : l.length ≤ 1048576) : Ev (fun k => laws_toBlock.f k a b l) (a, b, l.map toL) := Ev.bind (toLeafS_ev l hl) (Ev.now _)
theorem eqBlock_ev (a : Bool) (b : Int) (l : List S63) (hl : l.length ≤ 1048576) : Ev (fun k => laws_eqBlock.f k a b l a b l) true := by
  simp only [laws_eqBlock.f, bne_self_eq_false, Bool.false_eq_true, ↓reduceIte]
  refine Ev.bind (eqLeafS_ev l hl) ?_
  simp only [↓reduceIte]
  exact Ev.now _

/-! a flash: read, measured, copied, held against another -/
theorem rd_LB (xs : List S103) (i : Nat) (h : i < xs.length) : rd_T103 xs (i : Int) = xs[i] := by
  unfold rd_T103; rw [Int.toNat_natCast, List.getD_eq_getElem?_getD, List.getElem?_eq_getElem h]; rfl
theorem rd_MB (xs : List S39) (i : Nat) (h : i < xs.length) : rd_T39 xs (i : Int) = xs[i] := by
  unfold rd_T39; rw [Int.toNat_natCast, List.getD_eq_getElem?_getD, List.getElem?_eq_getElem h]; rfl
/-- No part of it takes more than the law looks at. -/
def SmallF (l : List S103) : Prop := l.length ≤ 1048576 ∧ ∀ b ∈ l, b.f2.length ≤ 1048576 ∧ ∀ x ∈ b.f2, x.f1.size ≤ 1048576
def FitsF (l : List S103) : Prop := l.length ≤ 9223372036854775807 ∧ ∀ b ∈ l, b.f2.length ≤ 9223372036854775807 ∧ ∀ x ∈ b.f2, x.f1.size ≤ 9223372036854775807
theorem szBlockS_l0 (l : List S103) (hf : FitsF l) : ∀ (d i : Nat), i + d = l.length → ∀ left : Int, 0 ≤ left → left ≤ 1048576 →
    ∃ r : Int, Ev (fun k => laws_szBlockS.l0 k l left (i : Int)) r ∧ r ≤ left ∧ (0 ≤ r → ∀ b ∈ l.drop i, b.f2.length ≤ 1048576 ∧ ∀ x ∈ b.f2, x.f1.size ≤ 1048576) := by
  obtain ⟨hl, hs⟩ := hf
  intro d
  induction d with
  | zero =>
    intro i hi left h0 h1
    obtain rfl : i = l.length := by omega
    refine ⟨left, ev_st ?_, Int.le_refl _, fun _ => by rw [drop_len]; simp⟩
    simp only [laws_szBlockS.l0, show ¬ ((l.length : Int) < (l.length : Int)) from by omega, ↓reduceIte]
    exact Ev.now _
  | succ d ih =>
    intro i hi left h0 h1
    have hlt : i < l.length := by omega
    have hx := hs l[i] (List.getElem_mem hlt)
    obtain ⟨t, ht, htle, htall⟩ := szBlock_ev l[i].f0 l[i].f1 l[i].f2 hx.1 hx.2 left h0 h1
    by_cases hneg : t < 0
    · refine ⟨-1, ev_st ?_, by omega, fun h => by omega⟩
      simp only [laws_szBlockS.l0, show (i : Int) < (l.length : Int) from by omega, show (0 : Int) ≤ (i : Int) from by omega, ↓reduceIte, rd_LB l i hlt]
      refine Ev.bind ht ?_
      simp only [hneg, ↓reduceIte]
      exact Ev.now _
    · obtain ⟨r, hr, hle, hall⟩ := ih (i + 1) (by omega) t (by omega) (by omega)
      refine ⟨r, ev_st ?_, by omega, fun h => ?_⟩
      · simp only [laws_szBlockS.l0, show (i : Int) < (l.length : Int) from by omega, show (0 : Int) ≤ (i : Int) from by omega, ↓reduceIte, rd_LB l i hlt, wsucc i l.length hlt hl]
        refine Ev.bind ht ?_
        simp only [hneg, ↓reduceIte]
        exact hr
      · rw [drop_at l i hlt]
        intro b hb
        rcases List.mem_cons.1 hb with rfl | hb
        · have q := htall (by omega)
          exact ⟨by omega, fun x hx => by have := q.2 x hx; omega⟩
        · exact hall h b hb
theorem szFlash_ev (l : List S103) (hf : FitsF l) : ∃ r : Int, Ev (fun k => laws_szFlash.f k l 1048576) r ∧ (0 ≤ r → SmallF l) := by
  have hl := hf.1
  have e : wrap64 (1048576 - (l.length : Int)) = 1048576 - (l.length : Int) := w64 (by omega) (by omega)
  by_cases hneg : 1048576 - (l.length : Int) < 0
  · refine ⟨-1, ?_, fun h => by omega⟩
    simp only [laws_szFlash.f]
    refine Ev.bind (a := -1) ?_ ?_
    · simp only [laws_szBlockS.f, e, hneg, ↓reduceIte]
      exact Ev.now _
    · simp only [show (-1 : Int) < 0 from by omega, ↓reduceIte]
      exact Ev.now _
  · obtain ⟨r, hr, hle, hall⟩ := szBlockS_l0 l hf l.length 0 (by omega) (1048576 - (l.length : Int)) (by omega) (by omega)
    by_cases hn : r < 0
    · refine ⟨-1, ?_, fun h => by omega⟩
      simp only [laws_szFlash.f]
      refine Ev.bind (a := r) ?_ ?_
      · simp only [laws_szBlockS.f, e, hneg, ↓reduceIte]
        exact hr
      · simp only [hn, ↓reduceIte]
        exact Ev.now _
    · refine ⟨r, ?_, fun h => ⟨by omega, fun b hb => hall h b (by simpa using hb)⟩⟩
      simp only [laws_szFlash.f]
      refine Ev.bind (a := r) ?_ ?_
      · simp only [laws_szBlockS.f, e, hneg, ↓reduceIte]
        exact hr
      · simp only [hn, ↓reduceIte]
        exact Ev.now _
def toB (x : S103) : S39 := ⟨x.f0, x.f1, x.f2.map toL⟩
theorem toBlockS_l0 (l : List S103) (hf : SmallF l) : ∀ (d i : Nat), i + d = l.length →
    Ev (fun k => laws_toBlockS.l0 k l ((l.take i).map toB ++ List.replicate d z39) (i : Int)) (l.map toB) := by
  obtain ⟨hl, hs⟩ := hf
  intro d
  induction d with
  | zero =>
    intro i hi
    obtain rfl : i = l.length := by omega
    refine ev_st ?_
    simp only [laws_toBlockS.l0, show ¬ ((l.length : Int) < (l.length : Int)) from by omega, ↓reduceIte, List.take_length, List.replicate_zero, List.append_nil]
    exact Ev.now _
  | succ d ih =>
    intro i hi
    have hlt : i < l.length := by omega
    have hlen : ((l.take i).map toB ++ List.replicate (d + 1) z39).length = l.length := by simp; omega
    have hset : ((l.take i).map toB ++ List.replicate (d + 1) z39).set i (⟨l[i].f0, l[i].f1, l[i].f2.map toL⟩ : S39) = (l.take (i + 1)).map toB ++ List.replicate d z39 := by
      rw [List.replicate_succ, set_mid _ _ _ _ _ (by simp; omega), List.take_succ_eq_append_getElem hlt, List.map_append]
      rfl
    refine ev_st ?_
    simp only [laws_toBlockS.l0, show (i : Int) < (l.length : Int) from by omega, show (0 : Int) ≤ (i : Int) from by omega, ↓reduceIte, rd_LB l i hlt, hlen, Int.toNat_natCast, wsucc i l.length hlt (by omega)]
    refine Ev.bind (toBlock_ev l[i].f0 l[i].f1 l[i].f2 (hs l[i] (List.getElem_mem hlt)).1) ?_
    simp only [hset]
    exact ih (i + 1) (by omega)
theorem toFlash_ev (l : List S103) (hf : SmallF l) : Ev (fun k => laws_toFlash.f k l) (l.map toB) := by
  have h := toBlockS_l0 l hf l.length 0 (by omega)
  refine Ev.bind ?_ (Ev.now _)
  simp only [laws_toBlockS.f, show (0 : Int) ≤ (l.length : Int) from by omega, Int.toNat_natCast, ↓reduceIte]
  split
  · exact h
  · have := hf.1; omega
def SmallM (l : List S39) : Prop := l.length ≤ 1048576 ∧ ∀ b ∈ l, b.f2.length ≤ 1048576 ∧ ∀ x ∈ b.f2, x.f1.size ≤ 1048576
theorem small_toB {l : List S103} (h : SmallF l) : SmallM (l.map toB) := by
  refine ⟨by rw [List.length_map]; exact h.1, fun b hb => ?_⟩
  obtain ⟨c, hc, rfl⟩ := List.mem_map.1 hb
  refine ⟨by simp only [toB, List.length_map]; exact (h.2 c hc).1, fun x hx => ?_⟩
  obtain ⟨y, hy, rfl⟩ := List.mem_map.1 hx
  exact (h.2 c hc).2 y hy
theorem eqBlockS_l0 (l : List S39) (hf : SmallM l) : ∀ (d i : Nat), i + d = l.length → Ev (fun k => laws_eqBlockS.l0 k l l (i : Int)) true := by
  obtain ⟨hl, hs⟩ := hf
  intro d
  induction d with
  | zero =>
    intro i hi
    obtain rfl : i = l.length := by omega
    refine ev_st ?_
    simp only [laws_eqBlockS.l0, show ¬ ((l.length : Int) < (l.length : Int)) from by omega, ↓reduceIte]
    exact Ev.now _
  | succ d ih =>
    intro i hi
    have hlt : i < l.length := by omega
    refine ev_st ?_
    simp only [laws_eqBlockS.l0, show (i : Int) < (l.length : Int) from by omega, show (0 : Int) ≤ (i : Int) from by omega, ↓reduceIte, rd_MB l i hlt, wsucc i l.length hlt (by omega)]
    refine Ev.bind (eqBlock_ev _ _ _ (hs l[i] (List.getElem_mem hlt)).1) ?_
    simp only [↓reduceIte]
    exact ih (i + 1) (by omega)
theorem eqFlash_ev (l : List S39) (hf : SmallM l) : Ev (fun k => laws_eqFlash.f k l l) true := by
  refine Ev.bind (a := true) ?_ ?_
  · simp only [laws_eqBlockS.f, ↓reduceIte]
    exact eqBlockS_l0 l hf l.length 0 (by omega)
  · simp only [↓reduceIte]
    exact Ev.now _

theorem fitsF (l : List S103) (h : l.length ≤ 9223372036854775807 ∧ ∀ y ∈ l, G103 y) : FitsF l := ⟨h.1, fun b hb => ⟨(h.2 b hb).2.2.1, fun x hx => ((h.2 b hb).2.2.2 x hx).2⟩⟩

/-! the marks -/
def mt (n : Nat) (acc : ByteArray) : ByteArray := if 0 < n then mt (n / 10) (strOfNums [((48 + n % 10 : Nat) : Int)] ++ acc) else (⟨#[109]⟩ : ByteArray) ++ acc
termination_by n
decreasing_by omega
def markOf (k : Int) : ByteArray := if k ≤ 0 then (⟨#[109, 48]⟩ : ByteArray) else mt k.toNat (⟨#[]⟩ : ByteArray)
theorem markText_l0 (n : Nat) : n ≤ 10000000000000 → ∀ acc : ByteArray, acc.size + n ≤ 10000000000001 → Ev (fun k => laws_markText.l0 k (n : Int) acc) (mt n acc) := by
  induction n using Nat.strongRecOn with
  | _ n ih =>
    intro hn acc ha
    refine ev_st ?_
    rw [mt]
    by_cases h : 0 < n
    · have e1 : wrap64 (Int.tdiv (n : Int) 10) = ((n / 10 : Nat) : Int) := by rw [Int.tdiv_eq_ediv_of_nonneg (by omega), w64 (by omega) (by omega)]; omega
      have e2 : wrap64 (48 + Int.tmod (n : Int) 10) % 256 = ((48 + n % 10 : Nat) : Int) := by rw [Int.tmod_eq_emod_of_nonneg (by omega), w64 (by omega) (by omega)]; omega
      have z : (strOfNums [((48 + n % 10 : Nat) : Int)]).size = 1 := by rw [strOfNums_size]; rfl
      simp only [laws_markText.l0, show (n : Int) > 0 from by omega, h, ↓reduceIte, e1, e2, Option.bind_some, show (strOfNums [((48 + n % 10 : Nat) : Int)]).size + acc.size ≤ 9223372036854775807 from by omega]
      exact ih (n / 10) (by omega) (by omega) _ (by rw [ByteArray.size_append]; omega)
    · simp only [laws_markText.l0, show ¬ ((n : Int) > 0) from by omega, h, ↓reduceIte, show 1 + acc.size ≤ 9223372036854775807 from by omega]
      exact Ev.now _
theorem markText_ev (n : Int) (h : n ≤ 10000000000000) : Ev (fun k => laws_markText.f k n) (markOf n) := by
  simp only [laws_markText.f]
  unfold markOf
  by_cases h0 : n ≤ 0
  · simp only [h0, ↓reduceIte]; exact Ev.now _
  · simp only [h0, ↓reduceIte]
    obtain ⟨m, rfl⟩ := Int.eq_ofNat_of_zero_le (show 0 ≤ n by omega)
    exact markText_l0 m (by omega) _ (by show 0 + m ≤ _; omega)

/-! a flash is marked, and holds its marks -/
def mL : List S63 → Int → List S63
  | [], _ => []
  | _ :: t, k => ⟨k, markOf (k + 1)⟩ :: mL t (k + 2)
theorem mL_len : ∀ (l : List S63) (k : Int), (mL l k).length = l.length
  | [], _ => rfl
  | _ :: t, k => by simp [mL, mL_len t (k + 2)]
theorem rd_setL (l : List S63) (i : Nat) (h : i < l.length) (v : S63) : rd_T63 (l.set i v) (i : Int) = v := by
  rw [rd_ML _ i (by rw [List.length_set]; exact h), List.getElem_set_self]
theorem markLeafS_l0 : ∀ (d i : Nat) (l : List S63), i + d = l.length → l.length ≤ 1048576 → ∀ k0 : Int, 0 ≤ k0 → k0 + 2 * d ≤ 9000000000000 →
    Ev (fun k => laws_markLeafS.l0 k l k0 (i : Int)) (k0 + 2 * d, l.take i ++ mL (l.drop i) k0) := by
  intro d
  induction d with
  | zero =>
    intro i l hi hl k0 h0 h1
    obtain rfl : i = l.length := by omega
    refine ev_st ?_
    simp only [laws_markLeafS.l0, show ¬ ((l.length : Int) < (l.length : Int)) from by omega, ↓reduceIte, List.take_length, drop_len, mL, List.append_nil]
    rw [show k0 + 2 * ((0 : Nat) : Int) = k0 from by omega]
    exact Ev.now _
  | succ d ih =>
    intro i l hi hl k0 h0 h1
    have hlt : i < l.length := by omega
    have e1 : wrap64 (k0 + 1) = k0 + 1 := w64 (by omega) (by omega)
    have e2 : wrap64 (k0 + 1 + 1) = k0 + 2 := by rw [w64 (by omega) (by omega)]; omega
    have e4 : wrap64 ((i : Int) + 1) = ((i + 1 : Nat) : Int) := by rw [w64 (by omega) (by omega)]; omega
    refine ev_st ?_
    simp only [laws_markLeafS.l0, show (i : Int) < (l.length : Int) from by omega, show (0 : Int) ≤ (i : Int) from by omega, ↓reduceIte, Option.bind_some, Int.toNat_natCast, e1, e2, e4, List.set_set, rd_setL l i hlt]
    refine Ev.bind (markText_ev (k0 + 1) (by omega)) ?_
    have g := ih (i + 1) (l.set i ⟨k0, markOf (k0 + 1)⟩) (by rw [List.length_set]; omega) (by rw [List.length_set]; exact hl) (k0 + 2) (by omega) (by omega)
    have q1 : (l.set i ⟨k0, markOf (k0 + 1)⟩).take (i + 1) = l.take i ++ [⟨k0, markOf (k0 + 1)⟩] := by
      rw [List.take_succ_eq_append_getElem (by rw [List.length_set]; exact hlt), List.getElem_set_self, List.take_set_of_le (Nat.le_refl _)]
    have q2 : (l.set i ⟨k0, markOf (k0 + 1)⟩).drop (i + 1) = l.drop (i + 1) := by rw [List.drop_set_of_lt (by omega)]
    rw [q1, q2] at g
    rw [List.drop_eq_getElem_cons hlt, mL]
    rw [List.append_assoc] at g
    rw [show k0 + 2 * ((d + 1 : Nat) : Int) = k0 + 2 + 2 * (d : Int) from by omega]
    exact g
theorem markLeafS_ev (l : List S63) (hl : l.length ≤ 1048576) (k0 : Int) (h0 : 0 ≤ k0) (h1 : k0 ≤ 8000000000000) : Ev (fun k => laws_markLeafS.f k l k0) (k0 + 2 * (l.length : Int), mL l k0) :=
  markLeafS_l0 l.length 0 l (by omega) hl k0 h0 (by omega)
theorem heldLeafS_l0 (l : List S63) (hl : l.length ≤ 1048576) : ∀ (d i : Nat), i + d = l.length → ∀ (m : List S63) (k0 : Int), l.drop i = mL m k0 → 0 ≤ k0 → k0 + 2 * d ≤ 9000000000000 →
    Ev (fun k => laws_heldLeafS.l0 k l k0 (i : Int)) (k0 + 2 * d) := by
  intro d
  induction d with
  | zero =>
    intro i hi m k0 hm h0 h1
    obtain rfl : i = l.length := by omega
    refine ev_st ?_
    simp only [laws_heldLeafS.l0, show ¬ ((l.length : Int) < (l.length : Int)) from by omega, ↓reduceIte]
    rw [show k0 + 2 * ((0 : Nat) : Int) = k0 from by omega]
    exact Ev.now _
  | succ d ih =>
    intro i hi m k0 hm h0 h1
    have hlt : i < l.length := by omega
    have e1 : wrap64 (k0 + 1) = k0 + 1 := w64 (by omega) (by omega)
    have e2 : wrap64 (k0 + 1 + 1) = k0 + 2 := by rw [w64 (by omega) (by omega)]; omega
    have e4 : wrap64 ((i : Int) + 1) = ((i + 1 : Nat) : Int) := by rw [w64 (by omega) (by omega)]; omega
    rw [List.drop_eq_getElem_cons hlt] at hm
    cases m with
    | nil => simp [mL] at hm; omega
    | cons x t =>
      rw [mL, List.cons.injEq] at hm
      refine ev_st ?_
      simp only [laws_heldLeafS.l0, show (i : Int) < (l.length : Int) from by omega, show (0 : Int) ≤ (i : Int) from by omega, ↓reduceIte, e1, e2, e4, rd_ML l i hlt, hm.1]
      refine Ev.bind (markText_ev (k0 + 1) (by omega)) ?_
      simp only [↓reduceIte]
      rw [show k0 + 2 * ((d + 1 : Nat) : Int) = k0 + 2 + 2 * (d : Int) from by omega]
      exact ih (i + 1) (by omega) t (k0 + 2) hm.2 (by omega) (by omega)
theorem heldLeafS_ev (l : List S63) (hl : l.length ≤ 1048576) (k0 : Int) (h0 : 0 ≤ k0) (h1 : k0 ≤ 8000000000000) : Ev (fun k => laws_heldLeafS.f k (mL l k0) k0) (k0 + 2 * (l.length : Int)) := by
  have g := heldLeafS_l0 (mL l k0) (by rw [mL_len]; exact hl) (mL l k0).length 0 (by omega) l k0 rfl h0 (by rw [mL_len]; omega)
  rw [mL_len] at g
  exact g
def mB : List S39 → Int → List S39
  | [], _ => []
  | b :: t, k => ⟨decide (Int.tmod k 3 = 0), k + 1, mL b.f2 (k + 2)⟩ :: mB t (k + 2 + 2 * (b.f2.length : Int))
def kB : List S39 → Int → Int
  | [], k => k
  | b :: t, k => kB t (k + 2 + 2 * (b.f2.length : Int))
theorem mB_len : ∀ (l : List S39) (k : Int), (mB l k).length = l.length
  | [], _ => rfl
  | b :: t, k => by simp [mB, mB_len t]
theorem kB_ge : ∀ (l : List S39) (k : Int), k ≤ kB l k
  | [], _ => Int.le_refl _
  | b :: t, k => by
    have := kB_ge t (k + 2 + 2 * (b.f2.length : Int))
    simp only [kB]
    omega
def Few (l : List S39) : Prop := ∀ b ∈ l, b.f2.length ≤ 1048576
theorem markBlockS_l0_ : ∀ (d i : Nat) (l : List S39), i + d = l.length → l.length ≤ 1048576 → Few (l.drop i) → ∀ k0 : Int, 0 ≤ k0 → k0 + 2097154 * d ≤ 7000000000000 →
    Ev (fun k => laws_markBlockS.l0 k l k0 (i : Int)) (kB (l.drop i) k0, l.take i ++ mB (l.drop i) k0) := by
  intro d
  induction d with
  | zero =>
    intro i l hi hl _ k0 h0 h1
    obtain rfl : i = l.length := by omega
    refine ev_st ?_
    simp only [laws_markBlockS.l0, show ¬ ((l.length : Int) < (l.length : Int)) from by omega, ↓reduceIte, List.take_length, drop_len, mB, kB, List.append_nil]
    exact Ev.now _
  | succ d ih =>
    intro i l hi hl hf k0 h0 h1
    have hlt : i < l.length := by omega
    have e1 : wrap64 (k0 + 1) = k0 + 1 := w64 (by omega) (by omega)
    have e2 : wrap64 (k0 + 1 + 1) = k0 + 2 := by rw [w64 (by omega) (by omega)]; omega
    have e4 : wrap64 ((i : Int) + 1) = ((i + 1 : Nat) : Int) := by rw [w64 (by omega) (by omega)]; omega
    rw [List.drop_eq_getElem_cons hlt] at hf ⊢
    have hb : l[i].f2.length ≤ 1048576 := hf _ (List.mem_cons_self ..)
    refine ev_st ?_
    simp only [laws_markBlockS.l0, show (i : Int) < (l.length : Int) from by omega, show (0 : Int) ≤ (i : Int) from by omega, ↓reduceIte, Int.toNat_natCast, e1, e2, e4, rd_MB l i hlt]
    refine Ev.bind (markLeafS_ev l[i].f2 hb (k0 + 2) (by omega) (by omega)) ?_
    have g := ih (i + 1) (l.set i ⟨decide (Int.tmod k0 3 = 0), k0 + 1, mL l[i].f2 (k0 + 2)⟩) (by rw [List.length_set]; omega) (by rw [List.length_set]; exact hl) (by rw [List.drop_set_of_lt (by omega)]; exact fun b hb => hf b (List.mem_cons_of_mem _ hb)) (k0 + 2 + 2 * (l[i].f2.length : Int)) (by omega) (by omega)
    have q1 : (l.set i (⟨decide (Int.tmod k0 3 = 0), k0 + 1, mL l[i].f2 (k0 + 2)⟩ : S39)).take (i + 1) = l.take i ++ [⟨decide (Int.tmod k0 3 = 0), k0 + 1, mL l[i].f2 (k0 + 2)⟩] := by
      rw [List.take_succ_eq_append_getElem (by rw [List.length_set]; exact hlt), List.getElem_set_self, List.take_set_of_le (Nat.le_refl _)]
    have q2 : (l.set i (⟨decide (Int.tmod k0 3 = 0), k0 + 1, mL l[i].f2 (k0 + 2)⟩ : S39)).drop (i + 1) = l.drop (i + 1) := by rw [List.drop_set_of_lt (by omega)]
    rw [q1, q2, List.append_assoc] at g
    simp only [mB, kB]
    exact g
theorem markFlash_ev (l : List S39) (hl : l.length ≤ 1048576) (hf : Few l) : Ev (fun k => laws_markFlash.f k l 1) (kB l 1, mB l 1) :=
  markBlockS_l0_ l.length 0 l (by omega) hl (by rw [List.drop_zero]; exact hf) 1 (by omega) (by omega)
theorem heldBlockS_l0 (l : List S39) (hl : l.length ≤ 1048576) : ∀ (d i : Nat), i + d = l.length → ∀ (m : List S39) (k0 : Int), l.drop i = mB m k0 → Few m → 0 ≤ k0 → k0 + 2097154 * d ≤ 7000000000000 →
    Ev (fun k => laws_heldBlockS.l0 k l k0 (i : Int)) (kB m k0) := by
  intro d
  induction d with
  | zero =>
    intro i hi m k0 hm _ h0 h1
    obtain rfl : i = l.length := by omega
    rw [drop_len] at hm
    cases m with
    | cons x t => simp [mB] at hm
    | nil =>
      refine ev_st ?_
      simp only [laws_heldBlockS.l0, show ¬ ((l.length : Int) < (l.length : Int)) from by omega, ↓reduceIte, kB]
      exact Ev.now _
  | succ d ih =>
    intro i hi m k0 hm hf h0 h1
    have hlt : i < l.length := by omega
    have e1 : wrap64 (k0 + 1) = k0 + 1 := w64 (by omega) (by omega)
    have e2 : wrap64 (k0 + 1 + 1) = k0 + 2 := by rw [w64 (by omega) (by omega)]; omega
    have e4 : wrap64 ((i : Int) + 1) = ((i + 1 : Nat) : Int) := by rw [w64 (by omega) (by omega)]; omega
    rw [List.drop_eq_getElem_cons hlt] at hm
    cases m with
    | nil => simp [mB] at hm; omega
    | cons x t =>
      rw [mB, List.cons.injEq] at hm
      have hx : x.f2.length ≤ 1048576 := hf x (List.mem_cons_self ..)
      have eb : (decide (Int.tmod k0 3 = 0) != (Int.tmod k0 3 == 0)) = false := by
        rw [show (Int.tmod k0 3 == 0) = decide (Int.tmod k0 3 = 0) from rfl]
        exact bne_self_eq_false _
      refine ev_st ?_
      simp only [laws_heldBlockS.l0, show (i : Int) < (l.length : Int) from by omega, show (0 : Int) ≤ (i : Int) from by omega, ↓reduceIte, e1, e2, e4, rd_MB l i hlt, hm.1, eb, Bool.false_eq_true]
      refine Ev.bind (heldLeafS_ev x.f2 hx (k0 + 2) (by omega) (by omega)) ?_
      simp only [show ¬ (k0 + 2 + 2 * (x.f2.length : Int) < 0) from by omega, ↓reduceIte, kB]
      exact ih (i + 1) (by omega) t (k0 + 2 + 2 * (x.f2.length : Int)) hm.2 (fun b hb => hf b (List.mem_cons_of_mem _ hb)) (by omega) (by omega)
theorem heldFlash_ev (l : List S39) (hl : l.length ≤ 1048576) (hf : Few l) : Ev (fun k => laws_heldFlash.f k (mB l 1) 1) (kB l 1) := by
  have g := heldBlockS_l0 (mB l 1) (by rw [mB_len]; exact hl) (mB l 1).length 0 (by omega) l 1 rfl hf (by omega) (by rw [mB_len]; omega)
  simp only [laws_heldFlash.f, laws_heldBlockS.f]
  refine Ev.bind g ?_
  have := kB_ge l 1
  simp only [show ¬ (kB l 1 < 0) from by omega, ↓reduceIte]
  exact Ev.now _

/-! a flash is copied -/
theorem copyI_l0 (l : List S39) (hf : SmallM l) : ∀ (d i : Nat), i + d = l.length → Ev (fun k => impl_copyFlash.l0 k l (l.length : Int) (i : Int) (l.take i)) l := by
  obtain ⟨hl, hs⟩ := hf
  intro d
  induction d with
  | zero =>
    intro i hi
    obtain rfl : i = l.length := by omega
    refine ev_st ?_
    simp only [impl_copyFlash.l0, show ¬ ((l.length : Int) < (l.length : Int)) from by omega, ↓reduceIte, List.take_length]
    exact Ev.now _
  | succ d ih =>
    intro i hi
    have hlt : i < l.length := by omega
    have hb := (hs l[i] (List.getElem_mem hlt)).1
    have c1 : ([] : List S63).length + l[i].f2.length < 5864062014805 := by simp only [List.length_nil]; omega
    have c2 : (l.take i).length < 3518437208883 := by rw [List.length_take]; omega
    refine ev_st ?_
    simp only [impl_copyFlash.l0, show (i : Int) < (l.length : Int) from by omega, show (0 : Int) ≤ (i : Int) from by omega, ↓reduceIte, rd_MB l i hlt, wsucc i l.length hlt (by omega), c1, c2, List.nil_append]
    have g := ih (i + 1) (by omega)
    rw [List.take_succ_eq_append_getElem hlt] at g
    exact g
theorem copyI_ev (l : List S39) (hf : SmallM l) : Ev (fun k => impl_copyFlash.f k l) l := copyI_l0 l hf l.length 0 (by omega)
theorem copyS_l0 (l : List S39) (hf : SmallM l) : ∀ (d i : Nat), i + d = l.length → Ev (fun k => spec_l05Copy.l0 k (i : Int) l (l.take i)) l := by
  obtain ⟨hl, hs⟩ := hf
  intro d
  induction d with
  | zero =>
    intro i hi
    obtain rfl : i = l.length := by omega
    refine ev_st ?_
    simp only [spec_l05Copy.l0, show ¬ ((l.length : Int) < (l.length : Int)) from by omega, ↓reduceIte, List.take_length]
    exact Ev.now _
  | succ d ih =>
    intro i hi
    have hlt : i < l.length := by omega
    have hb := (hs l[i] (List.getElem_mem hlt)).1
    have c1 : ([] : List S63).length + l[i].f2.length < 5864062014805 := by simp only [List.length_nil]; omega
    have c2 : (l.take i).length < 3518437208883 := by rw [List.length_take]; omega
    refine ev_st ?_
    simp only [spec_l05Copy.l0, show (i : Int) < (l.length : Int) from by omega, show (0 : Int) ≤ (i : Int) from by omega, ↓reduceIte, Option.bind_some, rd_MB l i hlt, wsucc i l.length hlt (by omega), c1, c2, List.nil_append]
    have g := ih (i + 1) (by omega)
    rw [List.take_succ_eq_append_getElem hlt] at g
    exact g
theorem copyS_ev (l : List S39) (hf : SmallM l) : Ev (fun k => spec_l05Copy.f k l) l := copyS_l0 l hf l.length 0 (by omega)

theorem rd_mem (l : List S39) (b : Int) (h : 0 ≤ b ∧ b < (l.length : Int)) : rd_T39 l b ∈ l := by
  obtain ⟨i, rfl⟩ := Int.eq_ofNat_of_zero_le h.1
  rw [rd_MB l i (by omega)]
  exact List.getElem_mem _
theorem small_set {l : List S39} (h : SmallM l) (i : Nat) (x : S39) (hx : x.f2.length ≤ 1048576 ∧ ∀ y ∈ x.f2, y.f1.size ≤ 1048576) : SmallM (l.set i x) :=
  ⟨by rw [List.length_set]; exact h.1, fun b hb => by
    rcases List.mem_or_eq_of_mem_set hb with k | rfl
    · exact h.2 b k
    · exact hx⟩

/-! a flash is right -/
def leafOkB (x : S63) : Bool := if x.f0 = 0 then (x.f1.toList == ([] : List UInt8)) else if x.f0 = 1 then decide (1 ≤ (x.f1.size : Int) ∧ (x.f1.size : Int) ≤ 120) else if x.f0 = 2 then decide ((x.f1.size : Int) ≤ 120) else false
def lvs : Bool → List S63 → Bool
  | _, [] => true
  | pb, x :: t => if leafOkB x = true then (if pb = true ∧ ¬ x.f0 = 0 then false else lvs (decide (x.f0 = 0)) t) else false
def blkOk (b : S39) : Bool := decide ((b.f2.length : Int) = 4 ∧ (0 ≤ b.f1 ∧ b.f1 ≤ 1000000000)) && lvs false b.f2
def flashOk (l : List S39) : Bool := l.all blkOk && decide (3 ≤ (l.length : Int) ∧ (l.length : Int) ≤ 10)
/-- Is there a leaf ahead of place j, and is it blank? -/
def before (l : List S63) (j : Nat) : Bool := decide (0 < j ∧ (rd_T63 l ((j - 1 : Nat) : Int)).f0 = 0)
theorem before_succ (l : List S63) (j : Nat) (h : j < l.length) : before l (j + 1) = decide (l[j].f0 = 0) := by
  unfold before
  rw [Nat.add_sub_cancel, rd_ML l j h]
  simp

theorem spec_l05Leaf_eq (x : S63) : spec_l05Leaf.f x.f0 x.f1 = some (leafOkB x) := by
  unfold spec_l05Leaf.f leafOkB
  simp only [spec_l01In_eq, Option.bind_some]
  split
  · rfl
  · split
    · rfl
    · split <;> rfl
theorem spec_FlashOk_l1 (l : List S39) (i : Nat) (hi : i < l.length) (hl : l.length ≤ 1048576) (a : Bool) (b : Int) (v : List S63) (hv : v.length ≤ 1048576) (r : Bool) : ∀ (d j : Nat), j + d = v.length →
    (lvs (before v j) (v.drop j) = true → Ev (fun k => spec_FlashOk.l0 k ((i + 1 : Nat) : Int) l) r) → (lvs (before v j) (v.drop j) = false → r = false) → Ev (fun k => spec_FlashOk.l1 k (i : Int) (j : Int) l a b v) r := by
  intro d
  induction d with
  | zero =>
    intro j hj h1 _
    obtain rfl : j = v.length := by omega
    rw [drop_len] at h1
    refine ev_st ?_
    simp only [spec_FlashOk.l1, show ¬ ((v.length : Int) < (v.length : Int)) from by omega, ↓reduceIte, wsucc i l.length hi (by omega)]
    exact h1 rfl
  | succ d ih =>
    intro j hj h1 h2
    have hlt : j < v.length := by omega
    have f1 : (j : Int) < (v.length : Int) := by omega
    have f2 : (0 : Int) ≤ (j : Int) := by omega
    have f3 := wsucc j v.length hlt (by omega)
    have f4 : j + 1 + d = v.length := by omega
    have fp : 0 < j → (j : Int) > 0 ∧ wrap64 ((j : Int) - 1) = ((j - 1 : Nat) : Int) ∧ (0 : Int) ≤ ((j - 1 : Nat) : Int) ∧ ((j - 1 : Nat) : Int) < (v.length : Int) := by
      intro h
      refine ⟨by omega, ?_, by omega, by omega⟩
      rw [w64 (by omega) (by omega)]; omega
    have fn : ¬ 0 < j → ¬ ((j : Int) > 0) := by omega
    rw [drop_at v j hlt, lvs] at h1 h2
    have g := ih (j + 1) f4
    rw [before_succ v j hlt] at g
    refine ev_st ?_
    simp only [spec_FlashOk.l1, f1, f2, ↓reduceIte, rd_ML v j hlt, spec_l05Leaf_eq, Option.bind_some, f3]
    by_cases hL : leafOkB v[j] = true
    · simp only [hL, ↓reduceIte] at h1 h2 ⊢
      by_cases hp : 0 < j
      · obtain ⟨p1, p2, p3, p4⟩ := fp hp
        simp only [p1, p2, p3, p4, ↓reduceIte]
        by_cases hz : (rd_T63 v ((j - 1 : Nat) : Int)).f0 = 0
        · have hb : before v j = true := by unfold before; rw [decide_eq_true_eq]; exact ⟨hp, hz⟩
          by_cases hx : v[j].f0 = 0
          · simp only [hb, hx, not_true_eq_false, and_false, ↓reduceIte, hz] at h1 h2 g ⊢
            exact g h1 h2
          · simp only [hb, hx, not_false_eq_true, and_self, ↓reduceIte, hz] at h1 h2 ⊢
            rw [h2 trivial]
            exact Ev.now _
        · have hb : before v j = false := by unfold before; rw [decide_eq_false_iff_not]; exact fun q => hz q.2
          simp only [hb, Bool.false_eq_true, false_and, ↓reduceIte, hz] at h1 h2 ⊢
          exact g h1 h2
      · have hb : before v j = false := by unfold before; rw [decide_eq_false_iff_not]; exact fun q => hp q.1
        simp only [fn hp, hb, Bool.false_eq_true, false_and, ↓reduceIte] at h1 h2 ⊢
        exact g h1 h2
    · simp only [hL, ↓reduceIte, Bool.false_eq_true] at h2 ⊢
      rw [h2 trivial]
      exact Ev.now _
theorem spec_FlashOk_l0 (l : List S39) (hl : l.length ≤ 1048576) (hs : ∀ b ∈ l, b.f2.length ≤ 1048576) : ∀ (d i : Nat), i + d = l.length → Ev (fun k => spec_FlashOk.l0 k (i : Int) l) ((l.drop i).all blkOk && decide (3 ≤ (l.length : Int) ∧ (l.length : Int) ≤ 10)) := by
  intro d
  induction d with
  | zero =>
    intro i hi
    obtain rfl : i = l.length := by omega
    refine ev_st ?_
    simp only [spec_FlashOk.l0, show ¬ ((l.length : Int) < (l.length : Int)) from by omega, ↓reduceIte, drop_len, spec_l01In_eq, Option.bind_some, List.all_nil, Bool.true_and]
    exact Ev.now _
  | succ d ih =>
    intro i hi
    have hlt : i < l.length := by omega
    have f1 : (i : Int) < (l.length : Int) := by omega
    have f2 : (0 : Int) ≤ (i : Int) := by omega
    have g := ih (i + 1) (by omega)
    have hb := hs l[i] (List.getElem_mem hlt)
    rw [drop_at l i hlt, List.all_cons]
    refine ev_st ?_
    simp only [spec_FlashOk.l0, f1, f2, ↓reduceIte, rd_MB l i hlt, spec_l01In_eq, Option.bind_some]
    by_cases h1 : (l[i].f2.length : Int) = 4
    · by_cases h2 : 0 ≤ l[i].f1 ∧ l[i].f1 ≤ 1000000000
      · simp only [h1, h2, and_self, decide_true, Bool.not_true, ↓reduceIte]
        refine ev_st ?_
        simp only [spec_FlashOk.j1, Bool.false_eq_true, ↓reduceIte]
        have e : blkOk l[i] = lvs false l[i].f2 := by unfold blkOk; rw [decide_eq_true (show (l[i].f2.length : Int) = 4 ∧ (0 ≤ l[i].f1 ∧ l[i].f1 ≤ 1000000000) from ⟨h1, h2⟩), Bool.true_and]
        rw [e]
        refine spec_FlashOk_l1 l i hlt hl _ _ l[i].f2 hb _ l[i].f2.length 0 (by omega) ?_ ?_
        · intro q
          rw [List.drop_zero] at q
          have q : lvs false l[i].f2 = true := q
          rw [q, Bool.true_and]
          exact g
        · intro q
          rw [List.drop_zero] at q
          have q : lvs false l[i].f2 = false := q
          rw [q, Bool.false_and, Bool.false_and]
      · have e : blkOk l[i] = false := by unfold blkOk; rw [decide_eq_false (fun q => h2 q.2), Bool.false_and]
        simp only [h1, h2, decide_false, Bool.not_false, ↓reduceIte]
        refine ev_st ?_
        simp only [spec_FlashOk.j1, ↓reduceIte, e, Bool.false_and]
        exact Ev.now _
    · have e : blkOk l[i] = false := by unfold blkOk; rw [decide_eq_false (fun q => h1 q.1), Bool.false_and]
      simp only [h1, ↓reduceIte]
      refine ev_st ?_
      simp only [spec_FlashOk.j1, ↓reduceIte, e, Bool.false_and]
      exact Ev.now _
theorem spec_FlashOk_ev (l : List S39) (hl : l.length ≤ 1048576) (hs : ∀ b ∈ l, b.f2.length ≤ 1048576) : Ev (fun k => spec_FlashOk.f k l) (flashOk l) := spec_FlashOk_l0 l hl hs l.length 0 (by omega)

theorem impl_leafOk_eq (x : S63) : impl_leafOk.f x.f0 x.f1 = some (leafOkB x) := by
  unfold impl_leafOk.f leafOkB
  simp only [impl_in_eq, Option.bind_some]
  split
  · rfl
  · split
    · rfl
    · split <;> rfl
theorem impl_FlashOk_l1 (l : List S39) (i : Nat) (hi : i < l.length) (hl : l.length ≤ 1048576) (a : Bool) (b : Int) (v : List S63) (hv : v.length ≤ 1048576) (r : Bool) : ∀ (d j : Nat), j + d = v.length →
    (lvs (before v j) (v.drop j) = true → Ev (fun k => impl_FlashOk.l0 k l (l.length : Int) ((i + 1 : Nat) : Int) l) r) → (lvs (before v j) (v.drop j) = false → r = false) → Ev (fun k => impl_FlashOk.l1 k l (l.length : Int) (i : Int) v (v.length : Int) (j : Int) l a b v) r := by
  intro d
  induction d with
  | zero =>
    intro j hj h1 _
    obtain rfl : j = v.length := by omega
    rw [drop_len] at h1
    refine ev_st ?_
    simp only [impl_FlashOk.l1, show ¬ ((v.length : Int) < (v.length : Int)) from by omega, ↓reduceIte, wsucc i l.length hi (by omega)]
    exact h1 rfl
  | succ d ih =>
    intro j hj h1 h2
    have hlt : j < v.length := by omega
    have f1 : (j : Int) < (v.length : Int) := by omega
    have f2 : (0 : Int) ≤ (j : Int) := by omega
    have f3 := wsucc j v.length hlt (by omega)
    have f4 : j + 1 + d = v.length := by omega
    have fp : 0 < j → (j : Int) > 0 ∧ wrap64 ((j : Int) - 1) = ((j - 1 : Nat) : Int) ∧ (0 : Int) ≤ ((j - 1 : Nat) : Int) ∧ ((j - 1 : Nat) : Int) < (v.length : Int) := by
      intro h
      refine ⟨by omega, ?_, by omega, by omega⟩
      rw [w64 (by omega) (by omega)]; omega
    have fn : ¬ 0 < j → ¬ ((j : Int) > 0) := by omega
    rw [drop_at v j hlt, lvs] at h1 h2
    have g := ih (j + 1) f4
    rw [before_succ v j hlt] at g
    refine ev_st ?_
    simp only [impl_FlashOk.l1, f1, f2, ↓reduceIte, rd_ML v j hlt, impl_leafOk_eq, Option.bind_some, f3]
    by_cases hL : leafOkB v[j] = true
    · simp only [hL, ↓reduceIte] at h1 h2 ⊢
      by_cases hp : 0 < j
      · obtain ⟨p1, p2, p3, p4⟩ := fp hp
        simp only [p1, p2, p3, p4, ↓reduceIte]
        by_cases hz : (rd_T63 v ((j - 1 : Nat) : Int)).f0 = 0
        · have hb : before v j = true := by unfold before; rw [decide_eq_true_eq]; exact ⟨hp, hz⟩
          by_cases hx : v[j].f0 = 0
          · simp only [hb, hx, not_true_eq_false, and_false, ↓reduceIte, hz] at h1 h2 g ⊢
            exact g h1 h2
          · simp only [hb, hx, not_false_eq_true, and_self, ↓reduceIte, hz] at h1 h2 ⊢
            rw [h2 trivial]
            exact Ev.now _
        · have hb : before v j = false := by unfold before; rw [decide_eq_false_iff_not]; exact fun q => hz q.2
          simp only [hb, Bool.false_eq_true, false_and, ↓reduceIte, hz] at h1 h2 ⊢
          exact g h1 h2
      · have hb : before v j = false := by unfold before; rw [decide_eq_false_iff_not]; exact fun q => hp q.1
        simp only [fn hp, hb, Bool.false_eq_true, false_and, ↓reduceIte] at h1 h2 ⊢
        exact g h1 h2
    · simp only [hL, ↓reduceIte, Bool.false_eq_true] at h2 ⊢
      rw [h2 trivial]
      exact Ev.now _
theorem impl_FlashOk_l0 (l : List S39) (hl : l.length ≤ 1048576) (hs : ∀ b ∈ l, b.f2.length ≤ 1048576) : ∀ (d i : Nat), i + d = l.length → Ev (fun k => impl_FlashOk.l0 k l (l.length : Int) (i : Int) l) ((l.drop i).all blkOk && decide (3 ≤ (l.length : Int) ∧ (l.length : Int) ≤ 10)) := by
  intro d
  induction d with
  | zero =>
    intro i hi
    obtain rfl : i = l.length := by omega
    refine ev_st ?_
    simp only [impl_FlashOk.l0, show ¬ ((l.length : Int) < (l.length : Int)) from by omega, ↓reduceIte, drop_len, impl_in_eq, Option.bind_some, List.all_nil, Bool.true_and]
    exact Ev.now _
  | succ d ih =>
    intro i hi
    have hlt : i < l.length := by omega
    have f1 : (i : Int) < (l.length : Int) := by omega
    have f2 : (0 : Int) ≤ (i : Int) := by omega
    have g := ih (i + 1) (by omega)
    have hb := hs l[i] (List.getElem_mem hlt)
    rw [drop_at l i hlt, List.all_cons]
    refine ev_st ?_
    simp only [impl_FlashOk.l0, f1, f2, ↓reduceIte, rd_MB l i hlt, impl_in_eq, Option.bind_some]
    by_cases h1 : (l[i].f2.length : Int) = 4
    · by_cases h2 : 0 ≤ l[i].f1 ∧ l[i].f1 ≤ 1000000000
      · simp only [h1, h2, and_self, decide_true, Bool.not_true, ↓reduceIte]
        refine ev_st ?_
        simp only [impl_FlashOk.j1, Bool.false_eq_true, ↓reduceIte]
        have e : blkOk l[i] = lvs false l[i].f2 := by unfold blkOk; rw [decide_eq_true (show (l[i].f2.length : Int) = 4 ∧ (0 ≤ l[i].f1 ∧ l[i].f1 ≤ 1000000000) from ⟨h1, h2⟩), Bool.true_and]
        rw [e]
        refine impl_FlashOk_l1 l i hlt hl _ _ l[i].f2 hb _ l[i].f2.length 0 (by omega) ?_ ?_
        · intro q
          rw [List.drop_zero] at q
          have q : lvs false l[i].f2 = true := q
          rw [q, Bool.true_and]
          exact g
        · intro q
          rw [List.drop_zero] at q
          have q : lvs false l[i].f2 = false := q
          rw [q, Bool.false_and, Bool.false_and]
      · have e : blkOk l[i] = false := by unfold blkOk; rw [decide_eq_false (fun q => h2 q.2), Bool.false_and]
        simp only [h1, h2, decide_false, Bool.not_false, ↓reduceIte]
        refine ev_st ?_
        simp only [impl_FlashOk.j1, ↓reduceIte, e, Bool.false_and]
        exact Ev.now _
    · have e : blkOk l[i] = false := by unfold blkOk; rw [decide_eq_false (fun q => h1 q.1), Bool.false_and]
      simp only [h1, ↓reduceIte]
      refine ev_st ?_
      simp only [impl_FlashOk.j1, ↓reduceIte, e, Bool.false_and]
      exact Ev.now _
theorem impl_FlashOk_ev (l : List S39) (hl : l.length ≤ 1048576) (hs : ∀ b ∈ l, b.f2.length ≤ 1048576) : Ev (fun k => impl_FlashOk.f k l) (flashOk l) := impl_FlashOk_l0 l hl hs l.length 0 (by omega)

theorem usable_ev (l : List S39) (hf : SmallM l) (b : Int) : Ev (fun k => impl_usable.f k l b) (decide (flashOk l = true ∧ (0 ≤ b ∧ b < (l.length : Int)) ∧ (rd_T39 l b).f0 = false)) := by
  have hl := hf.1
  simp only [impl_usable.f]
  refine Ev.bind (impl_FlashOk_ev l hf.1 (fun b hb => (hf.2 b hb).1)) ?_
  by_cases h0 : flashOk l = true
  · simp only [if_pos h0, impl_in_eq, w64 (n := (l.length : Int) - 1) (show -9223372036854775808 ≤ (l.length : Int) - 1 from by omega) (show (l.length : Int) - 1 ≤ 9223372036854775807 from by omega), Option.bind_some, decide_eq_true_eq]
    by_cases h1 : 0 ≤ b ∧ b < (l.length : Int)
    · simp only [if_pos (show 0 ≤ b ∧ b ≤ (l.length : Int) - 1 from by omega), if_pos h1.1, if_pos h1.2]
      cases h2 : (rd_T39 l b).f0 with
      | true =>
        rw [decide_eq_false (fun k => absurd k.2.2 (by decide))]
        exact Ev.now _
      | false =>
        rw [decide_eq_true ⟨h0, h1, rfl⟩]
        exact Ev.now _
    · simp only [if_neg (show ¬ (0 ≤ b ∧ b ≤ (l.length : Int) - 1) from by omega)]
      rw [decide_eq_false (fun k => h1 k.2.1)]
      exact Ev.now _
  · simp only [if_neg h0]
    rw [decide_eq_false (fun k => h0 k.1)]
    exact Ev.now _

def wipeM (l : List S39) (b : Int) : List S39 × Bool :=
  if flashOk l = true ∧ (0 ≤ b ∧ b < (l.length : Int)) ∧ (rd_T39 l b).f0 = false ∧ ¬ (rd_T39 l b).f1 = 1000000000 then
    (l.set b.toNat ⟨false, wrap64 ((rd_T39 l b).f1 + 1), List.replicate 4 z63⟩, true) else (l, false)
theorem wipeM_yes {l : List S39} {b : Int} (h : flashOk l = true ∧ (0 ≤ b ∧ b < (l.length : Int)) ∧ (rd_T39 l b).f0 = false ∧ ¬ (rd_T39 l b).f1 = 1000000000) : wipeM l b = (l.set b.toNat ⟨false, wrap64 ((rd_T39 l b).f1 + 1), List.replicate 4 z63⟩, true) := by
  unfold wipeM
  exact if_pos h
theorem wipeM_no {l : List S39} {b : Int} (h : ¬ (flashOk l = true ∧ (0 ≤ b ∧ b < (l.length : Int)) ∧ (rd_T39 l b).f0 = false ∧ ¬ (rd_T39 l b).f1 = 1000000000)) : wipeM l b = (l, false) := by
  unfold wipeM
  exact if_neg h
theorem small_wipe {l : List S39} (h : SmallM l) (b : Int) : SmallM (wipeM l b).1 := by
  unfold wipeM
  split
  · refine small_set h _ _ ⟨by rw [List.length_replicate]; omega, fun y hy => ?_⟩
    rw [List.eq_of_mem_replicate hy]
    show (⟨#[]⟩ : ByteArray).size ≤ _
    decide
  · exact h
theorem spec_Wipe_ev (l : List S39) (hf : SmallM l) (b : Int) : Ev (fun k => spec_Wipe.f k l b) (wipeM l b) := by
  have hl := hf.1
  simp only [spec_Wipe.f]
  refine Ev.bind (copyS_ev l hf) (Ev.bind (spec_FlashOk_ev l hf.1 (fun b hb => (hf.2 b hb).1)) ?_)
  by_cases h0 : flashOk l = true
  · simp only [if_pos h0, spec_l01In_eq, w64 (n := (l.length : Int) - 1) (show -9223372036854775808 ≤ (l.length : Int) - 1 from by omega) (show (l.length : Int) - 1 ≤ 9223372036854775807 from by omega), Option.bind_some, decide_eq_true_eq]
    by_cases h1 : 0 ≤ b ∧ b < (l.length : Int)
    · simp only [if_pos (show 0 ≤ b ∧ b ≤ (l.length : Int) - 1 from by omega), if_pos h1.1, if_pos h1.2]
      by_cases h2 : (rd_T39 l b).f0 = true
      · rw [wipeM_no (fun k => by rw [h2] at k; exact absurd k.2.2.1 (by decide))]
        simp only [if_pos h2]
        exact Ev.now _
      · simp only [if_neg h2]
        by_cases h3 : (rd_T39 l b).f1 = 1000000000
        · rw [wipeM_no (fun k => k.2.2.2 h3)]
          simp only [if_pos h3]
          exact Ev.now _
        · rw [wipeM_yes ⟨h0, h1, Bool.eq_false_iff.mpr h2, h3⟩]
          simp only [if_neg h3, if_pos (show 4 ≤ 11728124029610 from by omega)]
          exact Ev.now _
    · rw [wipeM_no (fun k => h1 k.2.1)]
      simp only [if_neg (show ¬ (0 ≤ b ∧ b ≤ (l.length : Int) - 1) from by omega)]
      exact Ev.now _
  · rw [wipeM_no (fun k => h0 k.1)]
    simp only [if_neg h0]
    exact Ev.now _
theorem impl_Wipe_ev (l : List S39) (hf : SmallM l) (b : Int) : Ev (fun k => impl_Wipe.f k l b) (wipeM l b) := by
  simp only [impl_Wipe.f]
  refine Ev.bind (copyI_ev l hf) (Ev.bind (usable_ev l hf b) ?_)
  by_cases h0 : flashOk l = true ∧ (0 ≤ b ∧ b < (l.length : Int)) ∧ (rd_T39 l b).f0 = false
  · rw [decide_eq_true h0]
    simp only [↓reduceIte, if_pos (show 0 ≤ b ∧ b < (l.length : Int) ∧ b < (l.length : Int) from ⟨h0.2.1.1, h0.2.1.2, h0.2.1.2⟩)]
    by_cases h3 : (rd_T39 l b).f1 = 1000000000
    · rw [wipeM_no (fun k => k.2.2.2 h3)]
      simp only [if_pos h3]
      exact Ev.now _
    · rw [wipeM_yes ⟨h0.1, h0.2.1, h0.2.2, h3⟩]
      simp only [if_neg h3, h0.2.2]
      exact Ev.now _
  · rw [decide_eq_false h0, wipeM_no (fun k => h0 ⟨k.1, k.2.1, k.2.2.1⟩)]
    simp only [Bool.false_eq_true, ↓reduceIte]
    exact Ev.now _

theorem FnExactWipe : Plain := by
  intro l b hl hb
  refine Ev.rounds ?_
  simp only [laws_FnExactWipe.f]
  obtain ⟨r, hr, hall⟩ := szFlash_ev l (fitsF l hl)
  refine Ev.bind hr ?_
  by_cases hn : r < 0
  · simp only [hn, ↓reduceIte]; exact Ev.now _
  · have hs := hall (by omega)
    have hm := small_toB hs
    have hg := small_wipe hm b
    have e1 := spec_Wipe_ev _ hm b
    have e2 := impl_Wipe_ev _ hm b
    simp only [hn, ↓reduceIte]
    generalize wipeM (l.map toB) b = x at hg e1 e2
    obtain ⟨g, ok⟩ := x
    dsimp only at hg
    refine Ev.bind (toFlash_ev l hs) (Ev.bind e1 (Ev.bind e2 (Ev.bind (eqFlash_ev _ hg) (Ev.bind (eqFlash_ev _ hm) (Ev.bind (markFlash_ev _ hm.1 (fun b hb => (hm.2 b hb).1)) (Ev.bind (markFlash_ev _ hg.1 (fun b hb => (hg.2 b hb).1)) (Ev.bind (heldFlash_ev _ hg.1 (fun b hb => (hg.2 b hb).1)) ?_)))))))
    have k1 := kB_ge (l.map toB) 1
    have k2 : 1 ≤ kB (g, ok).1 1 := kB_ge g 1
    rw [if_pos ⟨rfl, rfl, by omega, rfl, by omega, rfl⟩]
    exact Ev.now _

end Go.Proofs.Ytbafmoggckeaeaa.Pure
