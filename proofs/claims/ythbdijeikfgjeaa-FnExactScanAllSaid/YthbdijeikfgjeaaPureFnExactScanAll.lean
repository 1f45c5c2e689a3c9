/- What is proved here: the law FnExactScanAll, told as a plain function over numbers and lists, answers true at all arguments. Conditions: those of the row alone, none of ours. -/
import Derived.Test.YthbdijeikfgjeaaGFnExactScanAll
import Derived.Test.YthbdijeikfgjeaaKit
namespace Go.Proofs.Ythbdijeikfgjeaa.Pure
open Go.RowKit Go.Proofs.Ythbdijeikfgjeaa.QFnExactScanAll Go.Proofs.Ythbdijeikfgjeaa.GFnExactScanAll Go.Proofs.YthbdijeikfgjeaaW.PrintWords Go.Proofs.YthbdijeikfgjeaaW.PrintLast Go.Proofs.Ythbdijeikfgjeaa.Kit Go.Proofs.YthbdijeikfgjeaaW.PrintMore
set_option linter.unusedSimpArgs false
set_option linter.unusedVariables false

theorem spec_l01In_eq (a b c : Int) : spec_l01In.f a b c = some (decide (b ≤ a ∧ a ≤ c)) := by
  unfold spec_l01In.f
  by_cases h : b ≤ a <;> simp [h, GE.ge]

theorem impl_in_eq (a b c : Int) : impl_in.f a b c = some (decide (b ≤ a ∧ a ≤ c)) := by
  unfold impl_in.f
  by_cases h : b ≤ a <;> simp [h, GE.ge]

/-! leaves: read, measured, copied, held against each other -/
theorem rd_LL (xs : List S125) (i : Nat) (h : i < xs.length) : rd_T125 xs (i : Int) = xs[i] := by
  unfold rd_T125; rw [Int.toNat_natCast, List.getD_eq_getElem?_getD, List.getElem?_eq_getElem h]; rfl
theorem rd_ML (xs : List S59) (i : Nat) (h : i < xs.length) : rd_T59 xs (i : Int) = xs[i] := by
  unfold rd_T59; rw [Int.toNat_natCast, List.getD_eq_getElem?_getD, List.getElem?_eq_getElem h]; rfl
theorem drop_at {α : Type} (xs : List α) (i : Nat) (h : i < xs.length) : xs.drop i = xs[i] :: xs.drop (i + 1) := List.drop_eq_getElem_cons h
theorem drop_len {α : Type} (xs : List α) : xs.drop xs.length = [] := List.drop_eq_nil_of_le (Nat.le_refl _)
theorem wsucc (i n : Nat) (h : i < n) (hn : n ≤ 9223372036854775807) : wrap64 ((i : Int) + 1) = ((i + 1 : Nat) : Int) := by rw [w64 (by omega) (by omega)]; omega
theorem szLeaf_eq (a : Int) (b : ByteArray) (left : Int) (hb : b.size ≤ 9223372036854775807) (h0 : 0 ≤ left) (h1 : left ≤ 1048576) :
    laws_szLeaf.f a b left = some (if left - (b.size : Int) < 0 then -1 else left - (b.size : Int)) := by
  unfold laws_szLeaf.f
  rw [w64 (by omega) (by omega)]
  split <;> rfl
theorem szLeafS_l0 (l : List S125) (hl : l.length ≤ 9223372036854775807) (hs : ∀ x ∈ l, x.f1.size ≤ 9223372036854775807) : ∀ (d i : Nat), i + d = l.length → ∀ left : Int, 0 ≤ left → left ≤ 1048576 →
    ∃ r : Int, Ev (fun k => laws_szLeafS.l0 k l left (i : Int)) r ∧ r ≤ left ∧ (0 ≤ r → ∀ x ∈ l.drop i, (x.f1.size : Int) ≤ left) := by
  intro d
  induction d with
  | zero =>
    intro i hi left h0 h1
    obtain rfl : i = l.length := by omega
    refine ⟨left, ev_st ?_, Int.le_refl _, fun _ => by rw [drop_len]; simp⟩
    simp only [laws_szLeafS.l0, show ¬ ((l.length : Int) < (l.length : Int)) from by omega, ↓reduceIte]
    exact Ev.now _
  | succ d ih =>
    intro i hi left h0 h1
    have hlt : i < l.length := by omega
    have hx := hs l[i] (List.getElem_mem hlt)
    have e := szLeaf_eq l[i].f0 l[i].f1 left hx h0 h1
    by_cases hneg : left - (l[i].f1.size : Int) < 0
    · refine ⟨-1, ev_st ?_, by omega, fun h => by omega⟩
      simp only [laws_szLeafS.l0, show (i : Int) < (l.length : Int) from by omega, show (0 : Int) ≤ (i : Int) from by omega, ↓reduceIte, rd_LL l i hlt, e, hneg, Option.bind_some, show (-1 : Int) < 0 from by omega]
      exact Ev.now _
    · obtain ⟨r, hr, hle, hall⟩ := ih (i + 1) (by omega) (left - (l[i].f1.size : Int)) (by omega) (by omega)
      refine ⟨r, ev_st ?_, by omega, fun h => ?_⟩
      · simp only [laws_szLeafS.l0, show (i : Int) < (l.length : Int) from by omega, show (0 : Int) ≤ (i : Int) from by omega, ↓reduceIte, rd_LL l i hlt, e, hneg, Option.bind_some, wsucc i l.length hlt hl]
        exact hr
      · rw [drop_at l i hlt]
        intro x hx
        rcases List.mem_cons.1 hx with rfl | hx
        · omega
        · have := hall h x hx; omega
theorem szLeafS_ev (l : List S125) (hl : l.length ≤ 9223372036854775807) (hs : ∀ x ∈ l, x.f1.size ≤ 9223372036854775807) (left : Int) (h0 : 0 ≤ left) (h1 : left ≤ 1048576) :
    ∃ r : Int, Ev (fun k => laws_szLeafS.f k l left) r ∧ r ≤ left ∧ (0 ≤ r → (l.length : Int) ≤ left ∧ ∀ x ∈ l, (x.f1.size : Int) ≤ left) := by
  have e : wrap64 (left - (l.length : Int)) = left - (l.length : Int) := w64 (by omega) (by omega)
  by_cases hneg : left - (l.length : Int) < 0
  · refine ⟨-1, ?_, by omega, fun h => by omega⟩
    simp only [laws_szLeafS.f, e, hneg, ↓reduceIte]
    exact Ev.now _
  · obtain ⟨r, hr, hle, hall⟩ := szLeafS_l0 l hl hs l.length 0 (by omega) (left - (l.length : Int)) (by omega) (by omega)
    refine ⟨r, ?_, by omega, fun h => ⟨by omega, fun x hx => by have := hall h x (by simpa using hx); omega⟩⟩
    simp only [laws_szLeafS.f, e, hneg, ↓reduceIte]
    exact hr
def toL (x : S125) : S59 := ⟨x.f0, x.f1⟩
theorem set_mid {α : Type} (p r : List α) (z v : α) (i : Nat) (h : p.length = i) : (p ++ z :: r).set i v = (p ++ [v]) ++ r := by
  subst h
  simp
theorem toLeafS_l0 (l : List S125) (hl : l.length ≤ 1048576) : ∀ (d i : Nat), i + d = l.length →
    Ev (fun k => laws_toLeafS.l0 k l ((l.take i).map toL ++ List.replicate d z59) (i : Int)) (l.map toL) := by
  intro d
  induction d with
  | zero =>
    intro i hi
    obtain rfl : i = l.length := by omega
    refine ev_st ?_
    simp only [laws_toLeafS.l0, show ¬ ((l.length : Int) < (l.length : Int)) from by omega, ↓reduceIte, List.take_length, List.replicate_zero, List.append_nil]
    exact Ev.now _
  | succ d ih =>
    intro i hi
    have hlt : i < l.length := by omega
    have hlen : ((l.take i).map toL ++ List.replicate (d + 1) z59).length = l.length := by simp; omega
    have hset : ((l.take i).map toL ++ List.replicate (d + 1) z59).set i (⟨l[i].f0, l[i].f1⟩ : S59) = (l.take (i + 1)).map toL ++ List.replicate d z59 := by
      rw [List.replicate_succ, set_mid _ _ _ _ _ (by simp; omega), List.take_succ_eq_append_getElem hlt, List.map_append]
      rfl
    refine ev_st ?_
    simp only [laws_toLeafS.l0, show (i : Int) < (l.length : Int) from by omega, show (0 : Int) ≤ (i : Int) from by omega, ↓reduceIte, rd_LL l i hlt, laws_toLeaf.f, Option.bind_some, hlen, Int.toNat_natCast, hset, wsucc i l.length hlt (by omega)]
    exact ih (i + 1) (by omega)
theorem toLeafS_ev (l : List S125) (hl : l.length ≤ 1048576) : Ev (fun k => laws_toLeafS.f k l) (l.map toL) := by
  have h := toLeafS_l0 l hl l.length 0 (by omega)
  simp only [laws_toLeafS.f, show (0 : Int) ≤ (l.length : Int) from by omega, Int.toNat_natCast, ↓reduceIte]
  split
  · exact h
  · omega
theorem eqLeafS_l0 (l : List S59) (hl : l.length ≤ 1048576) : ∀ (d i : Nat), i + d = l.length → Ev (fun k => laws_eqLeafS.l0 k l l (i : Int)) true := by
  intro d
  induction d with
  | zero =>
    intro i hi
    obtain rfl : i = l.length := by omega
    refine ev_st ?_
    simp only [laws_eqLeafS.l0, show ¬ ((l.length : Int) < (l.length : Int)) from by omega, ↓reduceIte]
    exact Ev.now _
  | succ d ih =>
    intro i hi
    have hlt : i < l.length := by omega
    refine ev_st ?_
    simp only [laws_eqLeafS.l0, show (i : Int) < (l.length : Int) from by omega, show (0 : Int) ≤ (i : Int) from by omega, ↓reduceIte, laws_eqLeaf.f, Option.bind_some, wsucc i l.length hlt (by omega)]
    exact ih (i + 1) (by omega)
theorem eqLeafS_ev (l : List S59) (hl : l.length ≤ 1048576) : Ev (fun k => laws_eqLeafS.f k l l) true := by
  simp only [laws_eqLeafS.f, ↓reduceIte]
  exact eqLeafS_l0 l hl l.length 0 (by omega)
theorem szBlock_ev (a : Bool) (b : Int) (l : List S125) (hl : l.length ≤ 9223372036854775807) (hs : ∀ x ∈ l, x.f1.size ≤ 9223372036854775807) (left : Int) (h0 : 0 ≤ left) (h1 : left ≤ 1048576) :
    ∃ r : Int, Ev (fun k => laws_szBlock.f k a b l left) r ∧ r ≤ left ∧ (0 ≤ r → (l.length : Int) ≤ left ∧ ∀ x ∈ l, (x.f1.size : Int) ≤ left) := by
  obtain ⟨r, hr, hle, hall⟩ := szLeafS_ev l hl hs left h0 h1
  by_cases hn : r < 0
  · refine ⟨-1, ?_, by omega, fun h => by omega⟩
    refine Ev.bind hr ?_
    simp only [hn, ↓reduceIte]
    exact Ev.now _
  · refine ⟨r, ?_, hle, hall⟩
    refine Ev.bind hr ?_
    simp only [hn, ↓reduceIte]
    exact Ev.now _
theorem toBlock_ev (a : Bool) (b : Int) (l : List S125) (hl : l.length ≤ 1048576) : Ev (fun k => laws_toBlock.f k a b l) (a, b, l.map toL) := Ev.bind (toLeafS_ev l hl) (Ev.now _)
theorem eqBlock_ev (a : Bool) (b : Int) (l : List S59) (hl : l.length ≤ 1048576) : Ev (fun k => laws_eqBlock.f k a b l a b l) true := by
  simp only [laws_eqBlock.f, bne_self_eq_false, Bool.false_eq_true, ↓reduceIte]
  refine Ev.bind (eqLeafS_ev l hl) ?_
  simp only [↓reduceIte]
  exact Ev.now _

/-! a flash: read, measured, copied, held against another -/
theorem rd_LB (xs : List S75) (i : Nat) (h : i < xs.length) : rd_T75 xs (i : Int) = xs[i] := by
  unfold rd_T75; rw [Int.toNat_natCast, List.getD_eq_getElem?_getD, List.getElem?_eq_getElem h]; rfl
theorem rd_MB (xs : List S57) (i : Nat) (h : i < xs.length) : rd_T57 xs (i : Int) = xs[i] := by
  unfold rd_T57; rw [Int.toNat_natCast, List.getD_eq_getElem?_getD, List.getElem?_eq_getElem h]; rfl
/-- No part of it takes more than the law looks at. -/
def SmallF (l : List S75) : Prop := l.length ≤ 1048576 ∧ ∀ b ∈ l, b.f2.length ≤ 1048576 ∧ ∀ x ∈ b.f2, x.f1.size ≤ 1048576
def FitsF (l : List S75) : Prop := l.length ≤ 9223372036854775807 ∧ ∀ b ∈ l, b.f2.length ≤ 9223372036854775807 ∧ ∀ x ∈ b.f2, x.f1.size ≤ 9223372036854775807
theorem szBlockS_l0 (l : List S75) (hf : FitsF l) : ∀ (d i : Nat), i + d = l.length → ∀ left : Int, 0 ≤ left → left ≤ 1048576 →
    ∃ r : Int, Ev (fun k => laws_szBlockS.l0 k l left (i : Int)) r ∧ r ≤ left ∧ (0 ≤ r → ∀ b ∈ l.drop i, b.f2.length ≤ 1048576 ∧ ∀ x ∈ b.f2, x.f1.size ≤ 1048576) := by
  obtain ⟨hl, hs⟩ := hf
  intro d
  induction d with
  | zero =>
    intro i hi left h0 h1
    obtain rfl : i = l.length := by omega
    refine ⟨left, ev_st ?_, Int.le_refl _, fun _ => by rw [drop_len]; simp⟩
    simp only [laws_szBlockS.l0, show ¬ ((l.length : Int) < (l.length : Int)) from by omega, ↓reduceIte]
    exact Ev.now _
  | succ d ih =>
    intro i hi left h0 h1
    have hlt : i < l.length := by omega
    have hx := hs l[i] (List.getElem_mem hlt)
    obtain ⟨t, ht, htle, htall⟩ := szBlock_ev l[i].f0 l[i].f1 l[i].f2 hx.1 hx.2 left h0 h1
    by_cases hneg : t < 0
    · refine ⟨-1, ev_st ?_, by omega, fun h => by omega⟩
      simp only [laws_szBlockS.l0, show (i : Int) < (l.length : Int) from by omega, show (0 : Int) ≤ (i : Int) from by omega, ↓reduceIte, rd_LB l i hlt]
      refine Ev.bind ht ?_
      simp only [hneg, ↓reduceIte]
      exact Ev.now _
    · obtain ⟨r, hr, hle, hall⟩ := ih (i + 1) (by omega) t (by omega) (by omega)
      refine ⟨r, ev_st ?_, by omega, fun h => ?_⟩
      · simp only [laws_szBlockS.l0, show (i : Int) < (l.length : Int) from by omega, show (0 : Int) ≤ (i : Int) from by omega, ↓reduceIte, rd_LB l i hlt, wsucc i l.length hlt hl]
        refine Ev.bind ht ?_
        simp only [hneg, ↓reduceIte]
        exact hr
      · rw [drop_at l i hlt]
        intro b hb
        rcases List.mem_cons.1 hb with rfl | hb
        · have q := htall (by omega)
          exact ⟨by omega, fun x hx => by have := q.2 x hx; omega⟩
        · exact hall h b hb
theorem szFlash_ev (l : List S75) (hf : FitsF l) : ∃ r : Int, Ev (fun k => laws_szFlash.f k l 1048576) r ∧ (0 ≤ r → SmallF l) := by
  have hl := hf.1
  have e : wrap64 (1048576 - (l.length : Int)) = 1048576 - (l.length : Int) := w64 (by omega) (by omega)
  by_cases hneg : 1048576 - (l.length : Int) < 0
  · refine ⟨-1, ?_, fun h => by omega⟩
    simp only [laws_szFlash.f]
    refine Ev.bind (a := -1) ?_ ?_
    · simp only [laws_szBlockS.f, e, hneg, ↓reduceIte]
      exact Ev.now _
    · simp only [show (-1 : Int) < 0 from by omega, ↓reduceIte]
      exact Ev.now _
  · obtain ⟨r, hr, hle, hall⟩ := szBlockS_l0 l hf l.length 0 (by omega) (1048576 - (l.length : Int)) (by omega) (by omega)
    by_cases hn : r < 0
    · refine ⟨-1, ?_, fun h => by omega⟩
      simp only [laws_szFlash.f]
      refine Ev.bind (a := r) ?_ ?_
      · simp only [laws_szBlockS.f, e, hneg, ↓reduceIte]
        exact hr
      · simp only [hn, ↓reduceIte]
        exact Ev.now _
    · refine ⟨r, ?_, fun h => ⟨by omega, fun b hb => hall h b (by simpa using hb)⟩⟩
      simp only [laws_szFlash.f]
      refine Ev.bind (a := r) ?_ ?_
      · simp only [laws_szBlockS.f, e, hneg, ↓reduceIte]
        exact hr
      · simp only [hn, ↓reduceIte]
        exact Ev.now _
def toB (x : S75) : S57 := ⟨x.f0, x.f1, x.f2.map toL⟩
theorem toBlockS_l0 (l : List S75) (hf : SmallF l) : ∀ (d i : Nat), i + d = l.length →
    Ev (fun k => laws_toBlockS.l0 k l ((l.take i).map toB ++ List.replicate d z57) (i : Int)) (l.map toB) := by
  obtain ⟨hl, hs⟩ := hf
  intro d
  induction d with
  | zero =>
    intro i hi
    obtain rfl : i = l.length := by omega
    refine ev_st ?_
    simp only [laws_toBlockS.l0, show ¬ ((l.length : Int) < (l.length : Int)) from by omega, ↓reduceIte, List.take_length, List.replicate_zero, List.append_nil]
    exact Ev.now _
  | succ d ih =>
    intro i hi
    have hlt : i < l.length := by omega
    have hlen : ((l.take i).map toB ++ List.replicate (d + 1) z57).length = l.length := by simp; omega
    have hset : ((l.take i).map toB ++ List.replicate (d + 1) z57).set i (⟨l[i].f0, l[i].f1, l[i].f2.map toL⟩ : S57) = (l.take (i + 1)).map toB ++ List.replicate d z57 := by
      rw [List.replicate_succ, set_mid _ _ _ _ _ (by simp; omega), List.take_succ_eq_append_getElem hlt, List.map_append]
      rfl
    refine ev_st ?_
    simp only [laws_toBlockS.l0, show (i : Int) < (l.length : Int) from by omega, show (0 : Int) ≤ (i : Int) from by omega, ↓reduceIte, rd_LB l i hlt, hlen, Int.toNat_natCast, wsucc i l.length hlt (by omega)]
    refine Ev.bind (toBlock_ev l[i].f0 l[i].f1 l[i].f2 (hs l[i] (List.getElem_mem hlt)).1) ?_
    simp only [hset]
    exact ih (i + 1) (by omega)
theorem toFlash_ev (l : List S75) (hf : SmallF l) : Ev (fun k => laws_toFlash.f k l) (l.map toB) := by
  have h := toBlockS_l0 l hf l.length 0 (by omega)
  refine Ev.bind ?_ (Ev.now _)
  simp only [laws_toBlockS.f, show (0 : Int) ≤ (l.length : Int) from by omega, Int.toNat_natCast, ↓reduceIte]
  split
  · exact h
  · have := hf.1; omega
def SmallM (l : List S57) : Prop := l.length ≤ 1048576 ∧ ∀ b ∈ l, b.f2.length ≤ 1048576 ∧ ∀ x ∈ b.f2, x.f1.size ≤ 1048576
theorem small_toB {l : List S75} (h : SmallF l) : SmallM (l.map toB) := by
  refine ⟨by rw [List.length_map]; exact h.1, fun b hb => ?_⟩
  obtain ⟨c, hc, rfl⟩ := List.mem_map.1 hb
  refine ⟨by simp only [toB, List.length_map]; exact (h.2 c hc).1, fun x hx => ?_⟩
  obtain ⟨y, hy, rfl⟩ := List.mem_map.1 hx
  exact (h.2 c hc).2 y hy
theorem eqBlockS_l0 (l : List S57) (hf : SmallM l) : ∀ (d i : Nat), i + d = l.length → Ev (fun k => laws_eqBlockS.l0 k l l (i : Int)) true := by
  obtain ⟨hl, hs⟩ := hf
  intro d
  induction d with
  | zero =>
    intro i hi
    obtain rfl : i = l.length := by omega
    refine ev_st ?_
    simp only [laws_eqBlockS.l0, show ¬ ((l.length : Int) < (l.length : Int)) from by omega, ↓reduceIte]
    exact Ev.now _
  | succ d ih =>
    intro i hi
    have hlt : i < l.length := by omega
    refine ev_st ?_
    simp only [laws_eqBlockS.l0, show (i : Int) < (l.length : Int) from by omega, show (0 : Int) ≤ (i : Int) from by omega, ↓reduceIte, rd_MB l i hlt, wsucc i l.length hlt (by omega)]
    refine Ev.bind (eqBlock_ev _ _ _ (hs l[i] (List.getElem_mem hlt)).1) ?_
    simp only [↓reduceIte]
    exact ih (i + 1) (by omega)
theorem eqFlash_ev (l : List S57) (hf : SmallM l) : Ev (fun k => laws_eqFlash.f k l l) true := by
  refine Ev.bind (a := true) ?_ ?_
  · simp only [laws_eqBlockS.f, ↓reduceIte]
    exact eqBlockS_l0 l hf l.length 0 (by omega)
  · simp only [↓reduceIte]
    exact Ev.now _

theorem fitsF (l : List S75) (h : l.length ≤ 9223372036854775807 ∧ ∀ y ∈ l, G75 y) : FitsF l := ⟨h.1, fun b hb => ⟨(h.2 b hb).2.2.1, fun x hx => ((h.2 b hb).2.2.2 x hx).2⟩⟩

def readLeafOf (l : List S57) (a b : Int) : ByteArray × Bool :=
  if 0 ≤ a ∧ a ≤ (l.length : Int) - 1 then (if 0 ≤ b ∧ b ≤ ((rd_T57 l a).f2.length : Int) - 1 then (if (rd_T59 (rd_T57 l a).f2 b).f0 = 1 then ((rd_T59 (rd_T57 l a).f2 b).f1, true) else ((⟨#[]⟩ : ByteArray), false)) else ((⟨#[]⟩ : ByteArray), false)) else ((⟨#[]⟩ : ByteArray), false)
theorem spec_ReadLeaf_eq (l : List S57) (hf : SmallM l) (a b : Int) : spec_ReadLeaf.f l a b = some (readLeafOf l a b) := by
  have hl := hf.1
  unfold spec_ReadLeaf.f readLeafOf
  rw [w64 (n := (l.length : Int) - 1) (by omega) (by omega)]
  simp only [spec_l01In_eq, Option.bind_some, decide_eq_true_eq]
  by_cases h1 : 0 ≤ a ∧ a ≤ (l.length : Int) - 1
  · have hm : (rd_T57 l a).f2.length ≤ 1048576 := by
      obtain ⟨i, rfl⟩ := Int.eq_ofNat_of_zero_le h1.1
      rw [rd_MB l i (by omega)]
      exact (hf.2 _ (List.getElem_mem (show i < l.length by omega))).1
    rw [if_pos h1, if_pos h1, if_pos h1.1, if_pos (by omega), w64 (n := ((rd_T57 l a).f2.length : Int) - 1) (by omega) (by omega)]
    by_cases h2 : 0 ≤ b ∧ b ≤ ((rd_T57 l a).f2.length : Int) - 1
    · rw [if_pos h2, if_pos h2, if_pos h2.1, if_pos (by omega)]
      split <;> rfl
    · rw [if_neg h2, if_neg h2]
  · rw [if_neg h1, if_neg h1]

/-! a number's bytes -/
def vt (n : Nat) : List Int := if 127 < n then ((n % 128 + 128 : Nat) : Int) :: vt (n / 128) else [(n : Int)]
termination_by n
decreasing_by omega
theorem vt_range (n : Nat) : ∀ x ∈ vt n, 0 ≤ x ∧ x < 256 := by
  induction n using Nat.strongRecOn with
  | _ n ih =>
    rw [vt]
    split
    · intro x hx
      rcases List.mem_cons.1 hx with rfl | hx
      · omega
      · exact ih (n / 128) (by omega) x hx
    · intro x hx
      obtain rfl := List.mem_singleton.1 hx
      omega
theorem vt_len (n : Nat) : ∀ j : Nat, n < 128 ^ (j + 1) → (vt n).length ≤ j + 1 := by
  intro j
  induction j generalizing n with
  | zero => intro h; rw [vt, if_neg (by omega)]; simp
  | succ j ih =>
    intro h
    rw [vt]
    split
    · have := ih (n / 128) (by rw [Nat.div_lt_iff_lt_mul (by omega)]; rw [Nat.pow_succ] at h; exact h)
      simp only [List.length_cons]; omega
    · simp
theorem vt_len5 (n : Nat) (h : n ≤ 1000000000) : (vt n).length ≤ 5 := vt_len n 4 (by omega)
def varS (n : Int) : ByteArray := strOfNums (vt n.toNat)
theorem tdiv128 (n : Nat) (h : n ≤ 1000000000000) : wrap64 (Int.tdiv (n : Int) 128) = ((n / 128 : Nat) : Int) := by
  rw [Int.tdiv_eq_ediv_of_nonneg (by omega), w64 (by omega) (by omega)]; omega
theorem tmod128 (n : Nat) (h : n ≤ 1000000000000) : wrap64 (Int.tmod (n : Int) 128 + 128) % 256 = ((n % 128 + 128 : Nat) : Int) := by
  rw [Int.tmod_eq_emod_of_nonneg (by omega), w64 (by omega) (by omega)]; omega

theorem spec_l01Var_l0 (n : Nat) : n ≤ 1000000000000 → ∀ acc : List Int, acc.length + n < 140737488355328 → Ev (fun k => spec_l01Var.l0 k (n : Int) acc) (strOfNums (acc ++ vt n)) := by
  induction n using Nat.strongRecOn with
  | _ n ih =>
    intro hn acc ha
    refine ev_st ?_
    have hl : acc.length < 140737488355328 := by omega
    rw [vt]
    by_cases h : 127 < n
    · simp only [spec_l01Var.l0, show (n : Int) > 127 from by omega, hl, h, ↓reduceIte, tdiv128 n hn, tmod128 n hn]
      have g := ih (n / 128) (by omega) (by omega) (acc ++ [((n % 128 + 128 : Nat) : Int)]) (by simp; omega)
      rw [List.append_assoc] at g
      exact g
    · simp only [spec_l01Var.l0, show ¬ ((n : Int) > 127) from by omega, hl, h, ↓reduceIte, show (n : Int) % 256 = (n : Int) from by omega]
      exact Ev.now _
theorem spec_l01Var_ev (n : Int) (h0 : 0 ≤ n) (h1 : n ≤ 1000000000000) : Ev (fun k => spec_l01Var.f k n) (varS n) := by
  obtain ⟨m, rfl⟩ := Int.eq_ofNat_of_zero_le h0
  exact spec_l01Var_l0 m (by omega) [] (by simp; omega)

def varTextOf (n : Int) : ByteArray × Bool := if 0 ≤ n ∧ n ≤ 1000000000 then (varS n, true) else ((⟨#[]⟩ : ByteArray), false)

def shortOf (s : ByteArray) : ByteArray × Bool := if (s.size : Int) > 20000 then ((⟨#[]⟩ : ByteArray), false) else (varS (s.size : Int) ++ s, true)
theorem varS_size (n : Int) (h0 : 0 ≤ n) (h1 : n ≤ 1000000000) : (varS n).size ≤ 5 := by
  unfold varS
  rw [strOfNums_size]
  exact vt_len5 _ (by omega)

/-! a number is read -/
def rvPre : Nat → List Int → Option (List Int)
  | 0, _ => none
  | _ + 1, [] => none
  | f + 1, b :: t => if 128 ≤ b then (rvPre f t).map (b :: ·) else some [b]
def vval : List Int → Int
  | [] => 0
  | b :: t => b % 128 + 128 * vval t
def rvFail (w : List Int) : Prop := (1 < w.length ∧ w.getLast? = some 0) ∨ vval w > 1000000000
instance (w : List Int) : Decidable (rvFail w) := by unfold rvFail; infer_instance
def rvRes (at' : Int) (q : List Int) : Option (List Int) → Int × Int × Bool
  | none => (0, 0, false)
  | some p => if rvFail (q ++ p) then (0, 0, false) else (vval (q ++ p), at' + ((q ++ p).length : Int), true)
def readVarOf (s : ByteArray) (at' : Int) : Int × Int × Bool := if 0 ≤ at' ∧ at' ≤ (s.size : Int) then rvRes at' [] (rvPre 5 ((bytesOf s).drop at'.toNat)) else (0, 0, false)
theorem rvRes_step (at' : Int) (q : List Int) (f : Nat) (b : Int) (t : List Int) (h : 128 ≤ b) : rvRes at' q (rvPre (f + 1) (b :: t)) = rvRes at' (q ++ [b]) (rvPre f t) := by
  rw [rvPre, if_pos h]
  cases rvPre f t with
  | none => rfl
  | some p => simp only [Option.map_some, rvRes, List.append_assoc, List.singleton_append]
theorem vval_snoc (q : List Int) (b : Int) : vval (q ++ [b]) = vval q + b % 128 * 128 ^ q.length := by
  induction q with
  | nil => simp [vval]
  | cons c q ih =>
    simp only [List.cons_append, vval, ih, List.length_cons]
    rw [Int.pow_succ]
    have : 128 * (b % 128 * 128 ^ q.length) = b % 128 * (128 ^ q.length * 128) := by rw [Int.mul_comm, Int.mul_assoc]
    rw [Int.mul_add, this]; omega
theorem vval_bound (q : List Int) : 0 ≤ vval q ∧ vval q < 128 ^ q.length := by
  induction q with
  | nil => simp [vval]
  | cons c q ih =>
    simp only [vval, List.length_cons]
    rw [Int.pow_succ]
    generalize (128 : Int) ^ q.length = p at ih ⊢
    omega
theorem vval_bound_le (q : List Int) (j : Nat) (h : q.length ≤ j) : 0 ≤ vval q ∧ vval q < 128 ^ j := by
  have b := vval_bound q
  have : (128 : Int) ^ q.length ≤ 128 ^ j := pow128_le h
  omega
/-- What is written as a number tells that number. -/
theorem vval_vt (n : Nat) : vval (vt n) = n := by
  induction n using Nat.strongRecOn with
  | _ n ih =>
    rw [vt]
    split
    · rw [vval, ih (n / 128) (by omega)]; omega
    · simp only [vval]; omega
/-- All but the last go on, the last does not. -/
def Ends : List Int → Prop
  | [] => False
  | [b] => 0 ≤ b ∧ b < 128
  | b :: t => 128 ≤ b ∧ b < 256 ∧ Ends t
theorem ends_vt (n : Nat) : Ends (vt n) := by
  induction n using Nat.strongRecOn with
  | _ n ih =>
    rw [vt]
    split
    · have g := ih (n / 128) (by omega)
      generalize vt (n / 128) = l at g ⊢
      cases l with
      | nil => exact g.elim
      | cons c t => exact ⟨by omega, by omega, g⟩
    · exact ⟨by omega, by omega⟩
theorem last_vt (n : Nat) (h : 1 ≤ n) : (vt n).getLast? ≠ some 0 := by
  induction n using Nat.strongRecOn with
  | _ n ih =>
    rw [vt]
    split
    · have g := ih (n / 128) (by omega) (by omega)
      have e := ends_vt (n / 128)
      generalize vt (n / 128) = l at g e ⊢
      cases l with
      | nil => exact e.elim
      | cons c t => rw [List.getLast?_cons_cons]; exact g
    · simp; omega
theorem vval_pos (l : List Int) (h : Ends l) (hz : l.getLast? ≠ some 0) : 1 ≤ vval l := by
  induction l with
  | nil => exact h.elim
  | cons b t ih =>
    cases t with
    | nil =>
      simp [vval] at hz ⊢
      obtain ⟨h0, h1⟩ := h
      omega
    | cons c t =>
      obtain ⟨_, _, h2⟩ := h
      rw [List.getLast?_cons_cons] at hz
      have := ih h2 hz
      simp only [vval] at this ⊢
      omega
theorem vt_vval (l : List Int) (h : Ends l) (hz : 1 < l.length → l.getLast? ≠ some 0) : vt (vval l).toNat = l := by
  induction l with
  | nil => exact h.elim
  | cons b t ih =>
    cases t with
    | nil =>
      obtain ⟨h0, h1⟩ := h
      have e : vval [b] = b := by simp only [vval]; omega
      rw [e, vt, if_neg (by omega)]
      simp; omega
    | cons c t =>
      obtain ⟨h0, h1, h2⟩ := h
      have hz2 : (c :: t).getLast? ≠ some 0 := by
        have := hz (by simp)
        rw [List.getLast?_cons_cons] at this
        exact this
      have p := vval_pos (c :: t) h2 hz2
      have g := ih h2 (fun _ => hz2)
      have e : vval (b :: c :: t) = b % 128 + 128 * vval (c :: t) := rfl
      generalize hv : vval (c :: t) = v at *
      rw [vt, if_pos (by omega)]
      have e1 : (vval (b :: c :: t)).toNat / 128 = v.toNat := by omega
      rw [e1, g]
      congr 1
      omega
/-- The reference's test by writing anew, and the program's test of the last byte. -/
theorem vt_iff (l : List Int) (h : Ends l) : vt (vval l).toNat = l ↔ ¬ (1 < l.length ∧ l.getLast? = some 0) := by
  constructor
  · rintro e ⟨h1, h2⟩
    have p : 1 ≤ (vval l).toNat := by
      rcases Nat.lt_or_ge (vval l).toNat 1 with q | q
      · rw [show (vval l).toNat = 0 from by omega, vt, if_neg (by omega)] at e
        rw [← e] at h1
        simp at h1
      · exact q
    exact last_vt _ p (by rw [e]; exact h2)
  · intro q
    exact vt_vval l h (fun h1 h2 => q ⟨h1, h2⟩)
theorem ends_snoc (q : List Int) (b : Int) (hq : ∀ x ∈ q, 128 ≤ x ∧ x < 256) (h0 : 0 ≤ b) (h1 : b < 128) : Ends (q ++ [b]) := by
  induction q with
  | nil => exact ⟨h0, h1⟩
  | cons c q ih =>
    have := ih (fun x hx => hq x (List.mem_cons_of_mem _ hx))
    have hc := hq c (List.mem_cons_self ..)
    rw [List.cons_append]
    generalize q ++ [b] = l at this ⊢
    cases l with
    | nil => exact this.elim
    | cons d t => exact ⟨hc.1, hc.2, this⟩

theorem term7 (b : Int) (h0 : 0 ≤ b) (q : List Int) (hq : q.length < 5) : wrap64 (vval q + b % 128 * 128 ^ q.length) = vval (q ++ [b]) := by
  have g := vval_bound_le (q ++ [b]) 5 (by simp; omega)
  rw [vval_snoc] at g
  rw [vval_snoc]
  exact w64 (by omega) (by omega)
theorem term7a (b : Int) (h0 : 0 ≤ b) (q : List Int) (hq : q.length < 5) : wrap64 (b % 128 * 128 ^ q.length) = b % 128 * 128 ^ q.length := by
  have g := vval_bound_le (q ++ [b]) 5 (by simp; omega)
  have g2 := vval_bound q
  rw [vval_snoc] at g
  have h : 0 ≤ b % 128 * 128 ^ q.length := Int.mul_nonneg (by omega) (Int.le_of_lt (pow128_pos _))
  exact w64 (by omega) (by omega)
theorem scale7 (q : List Int) (hq : q.length < 5) : wrap64 ((128 : Int) ^ q.length * 128) = 128 ^ (q.length + 1) := by
  have h : (128 : Int) ^ q.length ≤ 128 ^ 4 := pow128_le (by omega)
  have h2 := pow128_pos q.length
  rw [w64 (by omega) (by omega), Int.pow_succ]
theorem rvRes_last (at' : Int) (q : List Int) (f : Nat) (b : Int) (t : List Int) (h : ¬ 128 ≤ b) : rvRes at' q (rvPre (f + 1) (b :: t)) = if rvFail (q ++ [b]) then (0, 0, false) else (vval (q ++ [b]), at' + ((q ++ [b]).length : Int), true) := by
  rw [rvPre, if_neg h]; rfl
theorem rvFail_iff (q : List Int) (b : Int) : rvFail (q ++ [b]) ↔ (0 < q.length ∧ b = 0) ∨ vval (q ++ [b]) > 1000000000 := by
  unfold rvFail
  simp only [List.length_append, List.length_singleton, List.getLast?_append, List.getLast?_singleton, Option.some_or, Option.some.injEq]
  constructor
  · rintro (⟨h1, h2⟩ | h)
    · exact .inl ⟨by omega, h2⟩
    · exact .inr h
  · rintro (⟨h1, h2⟩ | h)
    · exact .inl ⟨by omega, h2⟩
    · exact .inr h

theorem rvPre_len : ∀ (f : Nat) (l p : List Int), rvPre f l = some p → p.length ≤ l.length
  | 0, _, _, h => by simp [rvPre] at h
  | _ + 1, [], _, h => by simp [rvPre] at h
  | f + 1, b :: t, p, h => by
    rw [rvPre] at h
    split at h
    · obtain ⟨p', h', rfl⟩ := Option.map_eq_some_iff.1 h
      have := rvPre_len f t p' h'
      simp; omega
    · obtain rfl := Option.some.inj h
      simp
theorem readVarOf_bounds (s : ByteArray) (a n nx : Int) (h : readVarOf s a = (n, nx, true)) : 0 ≤ n ∧ n ≤ 1000000000 ∧ 0 ≤ nx ∧ nx ≤ (s.size : Int) := by
  unfold readVarOf at h
  split at h
  next ha =>
    cases hp : rvPre 5 ((bytesOf s).drop a.toNat) with
    | none => rw [hp] at h; simp [rvRes] at h
    | some p =>
      rw [hp] at h
      have hl := rvPre_len _ _ _ hp
      rw [List.length_drop, bytesOf_length] at hl
      simp only [rvRes, List.nil_append] at h
      split at h
      · simp at h
      next hf =>
        have b := vval_bound p
        unfold rvFail at hf
        simp only [Prod.mk.injEq, and_true] at h
        have : ¬ vval p > 1000000000 := fun q => hf (.inr q)
        omega
  · simp at h

theorem shl7 (x : Int) (h0 : 0 ≤ x) (h1 : x < 128) (j : Nat) (hj : j < 5) : shl .i64 x (wrap64 (7 * (j : Int))) = x * 128 ^ j := by
  rw [w64 (by omega) (by omega)]
  unfold shl
  rw [IntKind.wrap_i64, show (7 * (j : Int)).toNat = 7 * j from by omega, Nat.min_eq_left (show 7 * j ≤ IntKind.i64.bits from by show 7 * j ≤ 64; omega)]
  obtain rfl | rfl | rfl | rfl | rfl : j = 0 ∨ j = 1 ∨ j = 2 ∨ j = 3 ∨ j = 4 := by omega
  all_goals (simp only [Nat.mul_zero, Nat.reduceMul, Int.reducePow, Int.pow_zero]; omega)
set_option maxHeartbeats 1000000 in
theorem impl_ReadVar_l0 (s : ByteArray) (hs : s.size ≤ 140737488351232) (a : Nat) : ∀ (f : Nat) (q : List Int), f + q.length = 5 → a + q.length ≤ s.size →
    Ev (fun k => impl_ReadVar.l0 k s (a : Int) (vval q) (q.length : Int)) (rvRes (a : Int) q (rvPre f ((bytesOf s).drop (a + q.length)))) := by
  intro f
  induction f with
  | zero =>
    intro q hf _
    refine ev_st (ev_st ?_)
    simp only [impl_ReadVar.l0, impl_ReadVar.j1, show ¬ ((q.length : Int) < 5) from by omega, ↓reduceIte, Bool.false_eq_true]
    exact Ev.now _
  | succ f ih =>
    intro q hf ha
    refine ev_st (ev_st ?_)
    have e0 : wrap64 ((s.size : Int) - (q.length : Int)) = (s.size : Int) - (q.length : Int) := w64 (by omega) (by omega)
    have e1 : wrap64 ((a : Int) + (q.length : Int)) = ((a + q.length : Nat) : Int) := by rw [w64 (by omega) (by omega)]; omega
    by_cases hlt : a + q.length < s.size
    · have b := bt_range s ((a + q.length : Nat) : Int)
      have hd := drop_bt s (a + q.length) hlt
      have f1 : (q.length : Int) < 5 := by omega
      have f2 : (a : Int) ≥ 0 := by omega
      have f3 : (a : Int) < (s.size : Int) - (q.length : Int) := by omega
      have f4 : (0 : Int) ≤ ((a + q.length : Nat) : Int) := by omega
      have f5 : ((a + q.length : Nat) : Int) < (s.size : Int) := by omega
      have f6 : q.length < 5 := by omega
      have f7 : 0 ≤ bt s ((a + q.length : Nat) : Int) % 128 := by omega
      have f8 : bt s ((a + q.length : Nat) : Int) % 128 < 128 := by omega
      have e5 : wrap64 (((a + q.length : Nat) : Int) + 1) = ((a : Int) + (((q.length + 1 : Nat)) : Int)) := by rw [w64 (by omega) (by omega)]; omega
      have e6 : wrap64 ((q.length : Int) + 1) = ((q.length + 1 : Nat) : Int) := by rw [w64 (by omega) (by omega)]; omega
      have e7 : (0 : Int) ≤ wrap64 (7 * (q.length : Int)) := by rw [w64 (by omega) (by omega)]; omega
      have e2 : Int.tmod (bt s ((a + q.length : Nat) : Int)) 128 = bt s ((a + q.length : Nat) : Int) % 128 := Int.tmod_eq_emod_of_nonneg b.1
      have e3 := shl7 (bt s ((a + q.length : Nat) : Int) % 128) f7 f8 q.length f6
      have e4 := term7 (bt s ((a + q.length : Nat) : Int)) b.1 q f6
      simp only [impl_ReadVar.l0, impl_ReadVar.j1, f1, f2, ↓reduceIte, e0, f3, decide_true, e1, f4, f5, bt_wrap, e2, e3, e4, e5, e6, e7]
      clear e2 e3 e4 e5 e6 e7 f7 f8
      rw [hd]
      generalize bt s ((a + q.length : Nat) : Int) = c at b ⊢
      by_cases hb : 128 ≤ c
      · rw [rvRes_step _ _ _ _ _ hb]
        simp only [show c ≥ 128 from hb, ↓reduceIte]
        have g := ih (q ++ [c]) (by simp; omega) (by simp; omega)
        simp only [List.length_append, List.length_singleton] at g
        exact g
      · rw [rvRes_last _ _ _ _ _ hb]
        simp only [show ¬ (c ≥ 128) from hb, ↓reduceIte, rvFail_iff, List.length_append, List.length_singleton]
        by_cases h0 : c = 0
        · by_cases hp : 0 < q.length
          · simp only [h0, show (q.length : Int) > 0 from by omega, hp, and_self, true_or, ↓reduceIte]
            exact Ev.now _
          · simp only [h0, show ¬ ((q.length : Int) > 0) from by omega, hp, false_and, false_or, ↓reduceIte]
            split
            · exact Ev.now _
            · exact Ev.now _
        · simp only [h0, and_false, false_or, ↓reduceIte]
          split
          · exact Ev.now _
          · exact Ev.now _
    · simp only [impl_ReadVar.l0, impl_ReadVar.j1, show (q.length : Int) < 5 from by omega, show (a : Int) ≥ 0 from by omega, ↓reduceIte, e0, show ¬ ((a : Int) < (s.size : Int) - (q.length : Int)) from by omega, decide_false, Bool.false_eq_true]
      rw [show a + q.length = s.size from by omega, drop_end]
      exact Ev.now _
theorem impl_ReadVar_ev (s : ByteArray) (hs : s.size ≤ 140737488351232) (a : Int) (h0 : -9223372036854775808 ≤ a) (h1 : a ≤ 9223372036854775807) : Ev (fun k => impl_ReadVar.f k s a) (readVarOf s a) := by
  unfold readVarOf
  simp only [impl_ReadVar.f]
  by_cases h : 0 ≤ a ∧ a ≤ (s.size : Int)
  · rw [if_pos h]
    obtain ⟨m, rfl⟩ := Int.eq_ofNat_of_zero_le h.1
    exact impl_ReadVar_l0 s hs m 5 [] rfl (by simp; omega)
  · rw [if_neg h]
    refine ev_st (ev_st ?_)
    have e : wrap64 ((s.size : Int) - 0) = (s.size : Int) := by rw [w64 (by omega) (by omega)]; omega
    simp only [impl_ReadVar.l0, impl_ReadVar.j1, show (0 : Int) < 5 from by omega, ↓reduceIte, e]
    by_cases ha : a ≥ 0
    · simp only [ha, show ¬ (a < (s.size : Int)) from by omega, ↓reduceIte, decide_false, Bool.false_eq_true]
      exact Ev.now _
    · simp only [ha, ↓reduceIte, Bool.false_eq_true]
      exact Ev.now _

theorem take_bt (s : ByteArray) (a j : Nat) (h : a + j < s.size) : ((bytesOf s).drop a).take (j + 1) = ((bytesOf s).drop a).take j ++ [bt s ((a + j : Nat) : Int)] := by
  rw [List.take_succ_eq_append_getElem (by rw [List.length_drop, bytesOf_length]; omega), List.getElem_drop, bt_get s (a + j) h]
theorem bytesOf_piece (s : ByteArray) (a j : Nat) : bytesOf (s.extract a (a + j)) = ((bytesOf s).drop a).take j := by
  rw [bytesOf_extract, List.drop_take, Nat.add_sub_cancel_left]
set_option maxHeartbeats 1000000 in
theorem spec_ReadVar_l0 (s : ByteArray) (hs : s.size ≤ 140737488351232) (a : Nat) : ∀ (f : Nat) (q : List Int), f + q.length = 5 → a + q.length ≤ s.size → ((bytesOf s).drop a).take q.length = q → (∀ x ∈ q, 128 ≤ x ∧ x < 256) →
    Ev (fun k => spec_ReadVar.l0 k s (a : Int) (vval q) (128 ^ q.length) ((a + q.length : Nat) : Int)) (rvRes (a : Int) q (rvPre f ((bytesOf s).drop (a + q.length)))) := by
  intro f
  induction f with
  | zero =>
    intro q hf ha _ _
    refine ev_st (ev_st ?_)
    have e : wrap64 ((a : Int) + 5) = (a : Int) + 5 := w64 (by omega) (by omega)
    by_cases hlt : ((a + q.length : Nat) : Int) < (s.size : Int)
    · simp only [spec_ReadVar.l0, spec_ReadVar.j1, hlt, e, show ¬ (((a + q.length : Nat) : Int) < (a : Int) + 5) from by omega, ↓reduceIte, decide_false, Bool.false_eq_true]
      exact Ev.now _
    · simp only [spec_ReadVar.l0, spec_ReadVar.j1, hlt, ↓reduceIte, Bool.false_eq_true]
      exact Ev.now _
  | succ f ih =>
    intro q hf ha hq hr
    refine ev_st (ev_st ?_)
    have e : wrap64 ((a : Int) + 5) = (a : Int) + 5 := w64 (by omega) (by omega)
    by_cases hlt : a + q.length < s.size
    · have b := bt_range s ((a + q.length : Nat) : Int)
      have hd := drop_bt s (a + q.length) hlt
      have ht := take_bt s a q.length hlt
      rw [hq] at ht
      have f1 : (q.length : Nat) < 5 := by omega
      have f2 : ((a + q.length : Nat) : Int) < (s.size : Int) := by omega
      have f3 : ((a + q.length : Nat) : Int) < (a : Int) + 5 := by omega
      have f4 : (0 : Int) ≤ ((a + q.length : Nat) : Int) := by omega
      have f5 : (0 : Int) ≤ (a : Int) := by omega
      have f6 : (a : Int) ≤ ((a + (q.length + 1) : Nat) : Int) := by omega
      have f7 : ((a + (q.length + 1) : Nat) : Int) ≤ (s.size : Int) := by omega
      have e5 : wrap64 (((a + q.length : Nat) : Int) + 1) = ((a + (q.length + 1) : Nat) : Int) := by rw [w64 (by omega) (by omega)]; omega
      have e2 : Int.tmod (bt s ((a + q.length : Nat) : Int)) 128 = bt s ((a + q.length : Nat) : Int) % 128 := Int.tmod_eq_emod_of_nonneg b.1
      have e4 := term7 (bt s ((a + q.length : Nat) : Int)) b.1 q f1
      have e3 := term7a (bt s ((a + q.length : Nat) : Int)) b.1 q f1
      have e6 := scale7 q f1
      simp only [spec_ReadVar.l0, spec_ReadVar.j1, f2, ↓reduceIte, e, f3, decide_true, f4, bt_wrap, e2, e3, e4, e5, e6, f5, f6, f7, Int.toNat_natCast]
      clear e2 e3 e4 e5 e6
      rw [hd]
      have hx := bytesOf_piece s a (q.length + 1)
      rw [ht] at hx
      generalize bt s ((a + q.length : Nat) : Int) = c at b ht hx ⊢
      by_cases hb : 128 ≤ c
      · rw [rvRes_step _ _ _ _ _ hb]
        simp only [show ¬ (c < 128) from by omega, ↓reduceIte]
        have g := ih (q ++ [c]) (by simp; omega) (by simp; omega) (by rw [List.length_append, List.length_singleton]; exact ht) (by
          intro x hx
          rcases List.mem_append.1 hx with h | h
          · exact hr x h
          · obtain rfl := List.mem_singleton.1 h; omega)
        simp only [List.length_append, List.length_singleton] at g
        exact g
      · rw [rvRes_last _ _ _ _ _ hb]
        have hE := ends_snoc q c hr (by omega) (by omega)
        have hv := vval_bound (q ++ [c])
        simp only [show c < 128 from by omega, ↓reduceIte]
        unfold rvFail
        by_cases hM : vval (q ++ [c]) > 1000000000
        · simp only [hM, or_true, ↓reduceIte]
          exact Ev.now _
        · simp only [hM, or_false, ↓reduceIte]
          refine Ev.bind (spec_l01Var_ev _ hv.1 (by omega)) ?_
          have key : (varS (vval (q ++ [c]))).toList = (s.extract a (a + (q.length + 1))).toList ↔ ¬ (1 < (q ++ [c]).length ∧ (q ++ [c]).getLast? = some 0) := by
            rw [toList_inj, ← vt_iff _ hE]
            unfold varS
            constructor
            · intro h
              have h2 := congrArg bytesOf h
              rw [bytesOf_str (vt_range _), hx] at h2
              exact h2
            · intro h
              refine bytesOf_inj ?_
              rw [bytesOf_str (vt_range _), hx]
              exact h
          simp only [key, List.length_append, List.length_singleton]
          by_cases hk : 1 < q.length + 1 ∧ (q ++ [c]).getLast? = some 0
          · simp only [hk, not_true_eq_false, and_self, ↓reduceIte]
            exact Ev.now _
          · simp only [hk, not_false_eq_true, ↓reduceIte]
            rw [show ((a + (q.length + 1) : Nat) : Int) = (a : Int) + ((q.length + 1 : Nat) : Int) from by omega]
            exact Ev.now _
    · simp only [spec_ReadVar.l0, spec_ReadVar.j1, show ¬ (((a + q.length : Nat) : Int) < (s.size : Int)) from by omega, ↓reduceIte, Bool.false_eq_true]
      rw [show a + q.length = s.size from by omega, drop_end]
      exact Ev.now _
theorem spec_ReadVar_ev (s : ByteArray) (hs : s.size ≤ 140737488351232) (a : Int) : Ev (fun k => spec_ReadVar.f k s a) (readVarOf s a) := by
  unfold readVarOf
  simp only [spec_ReadVar.f, spec_l01In_eq, Option.bind_some, decide_eq_true_eq]
  by_cases h : 0 ≤ a ∧ a ≤ (s.size : Int)
  · simp only [h, and_self, ↓reduceIte]
    obtain ⟨m, rfl⟩ := Int.eq_ofNat_of_zero_le h.1
    exact spec_ReadVar_l0 s hs m 5 [] rfl (by simp; omega) rfl (by simp)
  · simp only [h, ↓reduceIte]
    exact Ev.now _

/-! the sum -/
def cstep (x : Int) : Int := if x % 2 = 1 then Go.bits .xor .u32 (x / 2) 3558460437 else x / 2
def cbits : Nat → Int → Int
  | 0, x => x
  | n + 1, x => cbits n (cstep x)
def cbyte (x b : Int) : Int := cbits 8 (Go.bits .xor .u32 x b)
def crc (x : Int) (l : List Int) : Int := l.foldl cbyte x
theorem cstep_range {x : Int} (h0 : 0 ≤ x) (h1 : x < 4294967296) : 0 ≤ cstep x ∧ cstep x < 4294967296 := by
  unfold cstep
  split
  · exact xor32_range _ _
  · omega
theorem cbits_range : ∀ (n : Nat) {x : Int}, 0 ≤ x → x < 4294967296 → 0 ≤ cbits n x ∧ cbits n x < 4294967296
  | 0, _, h0, h1 => ⟨h0, h1⟩
  | n + 1, _, h0, h1 => cbits_range n (cstep_range h0 h1).1 (cstep_range h0 h1).2
theorem cbyte_range (x b : Int) : 0 ≤ cbyte x b ∧ cbyte x b < 4294967296 := cbits_range 8 (xor32_range x b).1 (xor32_range x b).2
theorem crc_range : ∀ (l : List Int) {x : Int}, 0 ≤ x → x < 4294967296 → 0 ≤ crc x l ∧ crc x l < 4294967296
  | [], _, h0, h1 => ⟨h0, h1⟩
  | b :: l, x, _, _ => crc_range l (cbyte_range x b).1 (cbyte_range x b).2
theorem and1_u32 {x : Int} (h0 : 0 ≤ x) (h1 : x < 4294967296) : Go.bits .and .u32 x 1 = x % 2 :=
  bits_mask .u32 32 (by decide) (fun n h h' => by rw [IntKind.wrap_u32]; omega) 1 (by decide) x h0 h1


theorem spec_SumMore_l1 (s : ByteArray) (i r : Int) : ∀ j : Nat, j ≤ 8 → ∀ x : Int, 0 ≤ x → x < 4294967296 → Ev (fun k => spec_SumMore.l0 k (cbits j x) s (wrap64 (i + 1))) r →
    Ev (fun k => spec_SumMore.l1 k x s i (8 - (j : Int))) r := by
  intro j
  induction j with
  | zero =>
    intro _ x h0 h1 h
    refine ev_st ?_
    simp only [spec_SumMore.l1, show ¬ ((8 : Int) - ((0 : Nat) : Int) < 8) from by omega, ↓reduceIte]
    exact h
  | succ j ih =>
    intro hj x h0 h1 h
    refine ev_st ?_
    have e : wrap64 ((8 : Int) - ((j + 1 : Nat) : Int) + 1) = 8 - (j : Int) := by rw [w64 (by omega) (by omega)]; omega
    have t : Int.tmod x 2 = x % 2 := Int.tmod_eq_emod_of_nonneg h0
    have d : Int.tdiv x 2 % 4294967296 = x / 2 := by rw [Int.tdiv_eq_ediv_of_nonneg h0]; omega
    have c := cstep_range h0 h1
    have g := ih (by omega) (cstep x) c.1 c.2 h
    simp only [spec_SumMore.l1, show (8 : Int) - ((j + 1 : Nat) : Int) < 8 from by omega, ↓reduceIte, e, t, d]
    unfold cstep at g
    by_cases hp : x % 2 = 1
    · simp only [hp, ↓reduceIte] at g ⊢
      exact g
    · simp only [hp, ↓reduceIte] at g ⊢
      exact g
theorem spec_SumMore_l0 (s : ByteArray) (hs : s.size ≤ 140737488351232) : ∀ (d i : Nat), i + d = s.size → ∀ x : Int, 0 ≤ x → x < 4294967296 →
    Ev (fun k => spec_SumMore.l0 k x s (i : Int)) (crc x ((bytesOf s).drop i)) := by
  intro d
  induction d with
  | zero =>
    intro i hi x h0 h1
    refine ev_st ?_
    obtain rfl : i = s.size := by omega
    simp only [spec_SumMore.l0, show ¬ ((s.size : Int) < (s.size : Int)) from by omega, ↓reduceIte, drop_end]
    exact Ev.now _
  | succ d ih =>
    intro i hi x h0 h1
    refine ev_st ?_
    have b := bt_range s i
    have e : bt s i % 4294967296 = bt s i := by omega
    simp only [spec_SumMore.l0, show (i : Int) < (s.size : Int) from by omega, show (0 : Int) ≤ (i : Int) from by omega, ↓reduceIte, e]
    rw [drop_bt s i (by omega)]
    have g := spec_SumMore_l1 s i (crc x (bt s i :: (bytesOf s).drop (i + 1))) 8 (by omega) (Go.bits .xor .u32 x (bt s i)) (xor32_range _ _).1 (xor32_range _ _).2
    rw [show (8 : Int) - ((8 : Nat) : Int) = 0 from rfl] at g
    refine g ?_
    rw [w64 (by omega) (by omega), show (i : Int) + 1 = ((i + 1 : Nat) : Int) from by omega]
    exact ih (i + 1) (by omega) _ (cbyte_range _ _).1 (cbyte_range _ _).2
theorem spec_SumMore_ev (s : ByteArray) (hs : s.size ≤ 140737488351232) (x : Int) (h0 : 0 ≤ x) (h1 : x < 4294967296) : Ev (fun k => spec_SumMore.f k x s) (crc x (bytesOf s)) :=
  spec_SumMore_l0 s hs s.size 0 (by omega) x h0 h1


theorem impl_SumMore_l1 (s : ByteArray) (i r : Int) : ∀ j : Nat, j ≤ 8 → ∀ x : Int, 0 ≤ x → x < 4294967296 → Ev (fun k => impl_SumMore.l0 k (cbits j x) s (wrap64 (i + 1))) r →
    Ev (fun k => impl_SumMore.l1 k x s i (8 - (j : Int))) r := by
  intro j
  induction j with
  | zero =>
    intro _ x h0 h1 h
    refine ev_st ?_
    simp only [impl_SumMore.l1, show ¬ ((8 : Int) - ((0 : Nat) : Int) < 8) from by omega, ↓reduceIte]
    exact h
  | succ j ih =>
    intro hj x h0 h1 h
    refine ev_st ?_
    have e : wrap64 ((8 : Int) - ((j + 1 : Nat) : Int) + 1) = 8 - (j : Int) := by rw [w64 (by omega) (by omega)]; omega
    have t := and1_u32 h0 h1
    have c := cstep_range h0 h1
    have g := ih (by omega) (cstep x) c.1 c.2 h
    simp only [impl_SumMore.l1, show (8 : Int) - ((j + 1 : Nat) : Int) < 8 from by omega, ↓reduceIte, e, t]
    unfold cstep at g
    by_cases hp : x % 2 = 1
    · simp only [hp, ↓reduceIte] at g ⊢
      exact g
    · simp only [hp, ↓reduceIte] at g ⊢
      exact g
theorem impl_SumMore_l0 (s : ByteArray) (hs : s.size ≤ 140737488351232) : ∀ (d i : Nat), i + d = s.size → ∀ x : Int, 0 ≤ x → x < 4294967296 →
    Ev (fun k => impl_SumMore.l0 k x s (i : Int)) (crc x ((bytesOf s).drop i)) := by
  intro d
  induction d with
  | zero =>
    intro i hi x h0 h1
    refine ev_st ?_
    obtain rfl : i = s.size := by omega
    simp only [impl_SumMore.l0, show ¬ ((s.size : Int) < (s.size : Int)) from by omega, ↓reduceIte, drop_end]
    exact Ev.now _
  | succ d ih =>
    intro i hi x h0 h1
    refine ev_st ?_
    have b := bt_range s i
    have e : bt s i % 4294967296 = bt s i := by omega
    simp only [impl_SumMore.l0, show (i : Int) < (s.size : Int) from by omega, show (0 : Int) ≤ (i : Int) from by omega, ↓reduceIte, e]
    rw [drop_bt s i (by omega)]
    have g := impl_SumMore_l1 s i (crc x (bt s i :: (bytesOf s).drop (i + 1))) 8 (by omega) (Go.bits .xor .u32 x (bt s i)) (xor32_range _ _).1 (xor32_range _ _).2
    rw [show (8 : Int) - ((8 : Nat) : Int) = 0 from rfl] at g
    refine g ?_
    rw [w64 (by omega) (by omega), show (i : Int) + 1 = ((i + 1 : Nat) : Int) from by omega]
    exact ih (i + 1) (by omega) _ (cbyte_range _ _).1 (cbyte_range _ _).2
theorem impl_SumMore_ev (s : ByteArray) (hs : s.size ≤ 140737488351232) (x : Int) (h0 : 0 ≤ x) (h1 : x < 4294967296) : Ev (fun k => impl_SumMore.f k x s) (crc x (bytesOf s)) :=
  impl_SumMore_l0 s hs s.size 0 (by omega) x h0 h1

theorem spec_SumOf_ev (s : ByteArray) (hs : s.size ≤ 140737488351232) : Ev (fun k => spec_SumOf.f k s) (crc 4294967295 (bytesOf s)) :=
  Ev.bind (spec_SumMore_ev s hs 4294967295 (by omega) (by omega)) (Ev.now _)

theorem impl_SumOf_ev (s : ByteArray) (hs : s.size ≤ 140737488351232) : Ev (fun k => impl_SumOf.f k s) (crc 4294967295 (bytesOf s)) :=
  Ev.bind (impl_SumMore_ev s hs 4294967295 (by omega) (by omega)) (Ev.now _)

/-! a text with its sum -/
def fourOf (x : Int) : ByteArray := strOfNums [x / 16777216 % 256, x / 65536 % 256, x / 256 % 256, x % 256]
theorem fourOf_size (x : Int) : (fourOf x).size = 4 := by unfold fourOf; rw [strOfNums_size]; rfl
def sumFour (s : ByteArray) : ByteArray := fourOf (crc 4294967295 (bytesOf s))
theorem sumFour_size (s : ByteArray) : (sumFour s).size = 4 := fourOf_size _
def sealOf (s : ByteArray) : ByteArray × Bool := if (s.size : Int) > 20000 then ((⟨#[]⟩ : ByteArray), false) else (s ++ sumFour s, true)

theorem spec_Sealed_ev (s : ByteArray) (hs : s.size ≤ 140737488351232) : Ev (fun k => spec_Sealed.f k s) (sealOf s) := by
  simp only [spec_Sealed.f]
  unfold sealOf
  by_cases h : (s.size : Int) > 20000
  · simp only [h, ↓reduceIte]; exact Ev.now _
  · simp only [h, ↓reduceIte]
    refine Ev.bind (spec_SumOf_ev s hs) ?_
    have h4 := sumFour_size s
    simp only [spec_l02Four.f, Option.bind_some]
    unfold sumFour fourOf at h4 ⊢
    simp only [show s.size + (strOfNums [crc 4294967295 (bytesOf s) / 16777216 % 256, crc 4294967295 (bytesOf s) / 65536 % 256, crc 4294967295 (bytesOf s) / 256 % 256, crc 4294967295 (bytesOf s) % 256]).size ≤ 9223372036854775807 from by omega, ↓reduceIte]
    exact Ev.now _

theorem impl_Sealed_ev (s : ByteArray) (hs : s.size ≤ 140737488351232) : Ev (fun k => impl_Sealed.f k s) (sealOf s) := by
  simp only [impl_Sealed.f]
  unfold sealOf
  by_cases h : (s.size : Int) > 20000
  · simp only [h, ↓reduceIte]; exact Ev.now _
  · simp only [h, ↓reduceIte]
    refine Ev.bind (impl_SumOf_ev s hs) ?_
    have h4 := sumFour_size s
    simp only [Option.bind_some]
    unfold sumFour fourOf at h4 ⊢
    simp only [show s.size + (strOfNums [crc 4294967295 (bytesOf s) / 16777216 % 256, crc 4294967295 (bytesOf s) / 65536 % 256, crc 4294967295 (bytesOf s) / 256 % 256, crc 4294967295 (bytesOf s) % 256]).size ≤ 9223372036854775807 from by omega, ↓reduceIte]
    exact Ev.now _

/-! a text without its sum -/
def unsealOf (t : ByteArray) : ByteArray × Bool :=
  if t.size < 4 then ((⟨#[]⟩ : ByteArray), false) else if sealOf (t.extract 0 (t.size - 4)) = (t, true) then (t.extract 0 (t.size - 4), true) else ((⟨#[]⟩ : ByteArray), false)
theorem split4 (t : ByteArray) (h : 4 ≤ t.size) : t.extract 0 (t.size - 4) ++ t.extract (t.size - 4) t.size = t := by
  refine bytesOf_inj ?_
  rw [bytesOf_append, bytesOf_extract, bytesOf_extract, List.drop_zero, List.take_of_length_le (l := bytesOf t) (i := t.size) (by rw [bytesOf_length]; exact Nat.le_refl _), List.take_append_drop]

theorem spec_Unsealed_ev (t : ByteArray) (hs : t.size ≤ 140737488351232) : Ev (fun k => spec_Unsealed.f k t) (unsealOf t) := by
  simp only [spec_Unsealed.f]
  unfold unsealOf
  rw [w64 (by omega) (by omega)]
  by_cases h : t.size < 4
  · simp only [show (t.size : Int) - 4 < 0 from by omega, h, ↓reduceIte]; exact Ev.now _
  · have hz : (t.extract 0 (t.size - 4)).size = t.size - 4 := by rw [ByteArray.size_extract]; omega
    simp only [show ¬ ((t.size : Int) - 4 < 0) from by omega, h, ↓reduceIte]
    by_cases h2 : (t.size : Int) - 4 > 20000
    · have e : sealOf (t.extract 0 (t.size - 4)) ≠ (t, true) := by
        unfold sealOf
        rw [if_pos (by rw [hz]; omega)]
        intro e
        simp at e
      simp only [h2, e, ↓reduceIte]
      exact Ev.now _
    · simp only [h2, show (0 : Int) ≤ (t.size : Int) - 4 from by omega, show (t.size : Int) - 4 ≤ (t.size : Int) from by omega, ↓reduceIte, show ((t.size : Int) - 4).toNat = t.size - 4 from by omega]
      refine Ev.bind (spec_SumOf_ev _ (by rw [hz]; omega)) ?_
      simp only [spec_l02Four.f, Option.bind_some]
      have e : sealOf (t.extract 0 (t.size - 4)) = (t.extract 0 (t.size - 4) ++ sumFour (t.extract 0 (t.size - 4)), true) := by
        unfold sealOf
        rw [if_neg (by rw [hz]; omega)]
      have key : (t.extract (t.size - 4) t.size).toList = (sumFour (t.extract 0 (t.size - 4))).toList ↔ sealOf (t.extract 0 (t.size - 4)) = (t, true) := by
        rw [toList_inj, e]
        simp only [Prod.mk.injEq, and_true]
        constructor
        · intro q; rw [← q]; exact split4 t (by omega)
        · intro q
          have q2 := split4 t (by omega)
          rw [← q] at q2
          rw [← ByteArray.append_right_inj (t.extract 0 (t.size - 4))]
          rw [q, split4 t (by omega)]
      unfold sumFour fourOf at key
      simp only [key]
      split
      · exact Ev.now _
      · exact Ev.now _

theorem impl_Unsealed_ev (t : ByteArray) (hs : t.size ≤ 140737488351232) : Ev (fun k => impl_Unsealed.f k t) (unsealOf t) := by
  simp only [impl_Unsealed.f]
  unfold unsealOf
  by_cases h : t.size < 4
  · simp only [show (t.size : Int) < 4 from by omega, h, ↓reduceIte]; exact Ev.now _
  · have hz : (t.extract 0 (t.size - 4)).size = t.size - 4 := by rw [ByteArray.size_extract]; omega
    have e : wrap64 ((t.size : Int) - 4) = (t.size : Int) - 4 := w64 (by omega) (by omega)
    simp only [e, show ¬ ((t.size : Int) < 4) from by omega, h, show (0 : Int) ≤ (t.size : Int) - 4 from by omega, show (t.size : Int) - 4 ≤ (t.size : Int) from by omega, ↓reduceIte, show ((t.size : Int) - 4).toNat = t.size - 4 from by omega]
    refine Ev.bind (impl_Sealed_ev _ (by rw [hz]; omega)) ?_
    generalize sealOf (t.extract 0 (t.size - 4)) = q
    obtain ⟨a, b⟩ := q
    cases b with
    | false => simp; exact Ev.now _
    | true =>
      simp only [toList_inj, Prod.mk.injEq, and_true, ↓reduceIte]
      split
      · exact Ev.now _
      · exact Ev.now _

def pageOk (kind seq tx part count : Int) (text : ByteArray) : Bool :=
  decide ((1 ≤ seq ∧ seq ≤ 1000000000) ∧ (1 ≤ tx ∧ tx ≤ 1000000000) ∧ (1 ≤ count ∧ count ≤ 9) ∧ (0 ≤ part ∧ part ≤ count - 1) ∧ ¬ ((text.size : Int) > 90) ∧ (kind = 2 ∨ (kind = 1 ∧ count = 1)))
theorem spec_PageOk_eq (a b c d e : Int) (t : ByteArray) (hd : -9223372036854775808 ≤ d ∧ d ≤ 9223372036854775807) (he : -9223372036854775808 ≤ e ∧ e ≤ 9223372036854775807) : spec_PageOk.f a b c d e t = some (pageOk a b c d e t) := by
  unfold spec_PageOk.f pageOk
  simp only [spec_l01In_eq, Option.bind_some, decide_eq_true_eq]
  by_cases h1 : 1 ≤ b ∧ b ≤ 1000000000
  · by_cases h2 : 1 ≤ c ∧ c ≤ 1000000000
    · by_cases h3 : 1 ≤ e ∧ e ≤ 9
      · rw [w64 (n := e - 1) (by omega) (by omega)]
        by_cases h4 : 0 ≤ d ∧ d ≤ e - 1
        · by_cases h5 : (t.size : Int) > 90
          · simp [h1, h2, h3, h4, h5]
          · by_cases h6 : a = 2
            · simp [h1, h2, h3, h4, h5, h6]
            · by_cases h7 : a = 1
              · simp only [h1, h2, h3, h4, h5, h6, h7, and_self, if_true, if_false, true_and, not_false_eq_true, false_or]
                simp
                by_cases h8 : e = 1 <;> simp [h8]
              · have : ¬ (1 ≤ a ∧ a ≤ 2) := by omega
                simp [this, h6, h7]
        · simp [h1, h2, h3, h4]
      · simp [h1, h2, h3]
    · simp [h1, h2]
  · simp [h1]
theorem impl_PageOk_eq (a b c d e : Int) (t : ByteArray) (hd : -9223372036854775808 ≤ d ∧ d ≤ 9223372036854775807) (he : -9223372036854775808 ≤ e ∧ e ≤ 9223372036854775807) : impl_PageOk.f a b c d e t = some (pageOk a b c d e t) := by
  unfold impl_PageOk.f pageOk
  simp only [impl_in_eq, Option.bind_some, decide_eq_true_eq]
  by_cases h1 : 1 ≤ b ∧ b ≤ 1000000000
  · by_cases h2 : 1 ≤ c ∧ c ≤ 1000000000
    · by_cases h3 : 1 ≤ e ∧ e ≤ 9
      · rw [w64 (n := e - 1) (by omega) (by omega)]
        by_cases h4 : 0 ≤ d ∧ d ≤ e - 1
        · by_cases h5 : (t.size : Int) > 90
          · simp [h1, h2, h3, h4, h5]
          · by_cases h6 : a = 2
            · simp [h1, h2, h3, h4, h5, h6]
            · by_cases h7 : a = 1
              · simp only [h1, h2, h3, h4, h5, h6, h7, and_self, if_true, if_false, true_and, not_false_eq_true, false_or]
                simp
                by_cases h8 : e = 1 <;> simp [h8]
              · simp [h1, h2, h3, h4, h5, h6, h7]
        · simp [h1, h2, h3, h4]
      · simp [h1, h2, h3]
    · simp [h1, h2]
  · simp [h1]

def pageTextOf (kind seq tx part count : Int) (text : ByteArray) : ByteArray × Bool :=
  if pageOk kind seq tx part count text = true then sealOf (((((strOfNums [kind % 256] ++ varS seq) ++ varS tx) ++ varS part) ++ varS count) ++ text) else ((⟨#[]⟩ : ByteArray), false)
theorem page_sizes {kind seq tx part count : Int} {text : ByteArray} (h : pageOk kind seq tx part count text = true) : (1 ≤ seq ∧ seq ≤ 1000000000) ∧ (1 ≤ tx ∧ tx ≤ 1000000000) ∧ (0 ≤ part ∧ part ≤ 9) ∧ (1 ≤ count ∧ count ≤ 9) ∧ text.size ≤ 90 ∧
    (varS seq).size ≤ 5 ∧ (varS tx).size ≤ 5 ∧ (varS part).size ≤ 5 ∧ (varS count).size ≤ 5 := by
  unfold pageOk at h
  have h := of_decide_eq_true h
  obtain ⟨h1, h2, h3, h4, h5, _⟩ := h
  refine ⟨h1, h2, by omega, h3, by omega, varS_size _ (by omega) (by omega), varS_size _ (by omega) (by omega), varS_size _ (by omega) (by omega), varS_size _ (by omega) (by omega)⟩

theorem spec_PageText_ev (a b c d e : Int) (t : ByteArray) (hd : -9223372036854775808 ≤ d ∧ d ≤ 9223372036854775807) (he : -9223372036854775808 ≤ e ∧ e ≤ 9223372036854775807) : Ev (fun k => spec_PageText.f k a b c d e t) (pageTextOf a b c d e t) := by
  simp only [spec_PageText.f, spec_PageOk_eq a b c d e t hd he, Option.bind_some]
  unfold pageTextOf
  by_cases h : pageOk a b c d e t = true
  · obtain ⟨h1, h2, h3, h4, h5, z1, z2, z3, z4⟩ := page_sizes h
    have z0 : (strOfNums [a % 256]).size = 1 := by rw [strOfNums_size]; rfl
    simp only [h, ↓reduceIte, spec_l06Byte.f, Option.bind_some]
    refine Ev.bind (spec_l01Var_ev b (by omega) (by omega)) ?_
    simp only [show (strOfNums [a % 256]).size + (varS b).size ≤ 9223372036854775807 from by omega, ↓reduceIte]
    refine Ev.bind (spec_l01Var_ev c (by omega) (by omega)) ?_
    simp only [ByteArray.size_append, show (strOfNums [a % 256]).size + (varS b).size + (varS c).size ≤ 9223372036854775807 from by omega, ↓reduceIte]
    refine Ev.bind (spec_l01Var_ev d (by omega) (by omega)) ?_
    simp only [show (strOfNums [a % 256]).size + (varS b).size + (varS c).size + (varS d).size ≤ 9223372036854775807 from by omega, ↓reduceIte]
    refine Ev.bind (spec_l01Var_ev e (by omega) (by omega)) ?_
    simp only [show (strOfNums [a % 256]).size + (varS b).size + (varS c).size + (varS d).size + (varS e).size ≤ 9223372036854775807 from by omega, ↓reduceIte,
      show (strOfNums [a % 256]).size + (varS b).size + (varS c).size + (varS d).size + (varS e).size + t.size ≤ 9223372036854775807 from by omega]
    refine Ev.bind (spec_Sealed_ev _ (by simp only [ByteArray.size_append]; omega)) (Ev.now _)
  · simp only [h, ↓reduceIte, Bool.false_eq_true]
    exact Ev.now _

/-! a page is read: both ways answer alike (plain models) -/
theorem rvPre_cut : ∀ (f : Nat) (l p : List Int), (∀ b ∈ l, 0 ≤ b ∧ b < 256) → rvPre f l = some p → Ends p ∧ l = p ++ l.drop p.length
  | 0, _, _, _, h => by simp [rvPre] at h
  | _ + 1, [], _, _, h => by simp [rvPre] at h
  | f + 1, b :: t, p, hr, h => by
    have hb := hr b (List.mem_cons_self ..)
    rw [rvPre] at h
    split at h
    · next h128 =>
      obtain ⟨p', h', rfl⟩ := Option.map_eq_some_iff.1 h
      obtain ⟨e1, e2⟩ := rvPre_cut f t p' (fun c hc => hr c (List.mem_cons_of_mem _ hc)) h'
      refine ⟨?_, by rw [List.length_cons, List.drop_succ_cons, List.cons_append, ← e2]⟩
      cases p' with
      | nil => exact e1.elim
      | cons c q => exact ⟨h128, hb.2, e1⟩
    · next h128 =>
      obtain rfl := Option.some.inj h
      exact ⟨⟨hb.1, by omega⟩, rfl⟩
/-- What was read stands there just as it is written. -/
theorem read_back (s : ByteArray) (a n nx : Int) (h : readVarOf s a = (n, nx, true)) : 0 ≤ a ∧ a ≤ nx ∧ nx ≤ (s.size : Int) ∧ (0 ≤ n ∧ n ≤ 1000000000) ∧ (bytesOf s).drop a.toNat = vt n.toNat ++ (bytesOf s).drop nx.toNat := by
  have hb := readVarOf_bounds s a n nx h
  unfold readVarOf at h
  split at h
  · next ha =>
    cases hp : rvPre 5 ((bytesOf s).drop a.toNat) with
    | none => rw [hp] at h; unfold rvRes at h; simp at h
    | some p =>
      rw [hp] at h
      unfold rvRes at h
      simp only [List.nil_append] at h
      split at h
      · simp at h
      · next hf =>
        simp only [Prod.mk.injEq, and_true] at h
        obtain ⟨rfl, rfl⟩ := h
        obtain ⟨e1, e2⟩ := rvPre_cut 5 _ p (fun c hc => bytesOf_range s c (List.mem_of_mem_drop hc)) hp
        have e3 : vt (vval p).toNat = p := (vt_iff p e1).2 (fun k => hf (Or.inl k))
        refine ⟨ha.1, by omega, hb.2.2.2, ⟨hb.1, hb.2.1⟩, ?_⟩
        rw [e3, show (a + (p.length : Int)).toNat = a.toNat + p.length from by omega, ← List.drop_drop]
        exact e2
  · simp at h
/-- Four numbers, one behind the other. -/
def four (s : ByteArray) : Option (Int × Int × Int × Int × Int) :=
  if (readVarOf s 1).2.2 = true then
    (if (readVarOf s (readVarOf s 1).2.1).2.2 = true then
      (if (readVarOf s (readVarOf s (readVarOf s 1).2.1).2.1).2.2 = true then
        (if (readVarOf s (readVarOf s (readVarOf s (readVarOf s 1).2.1).2.1).2.1).2.2 = true then
          some ((readVarOf s 1).1, (readVarOf s (readVarOf s 1).2.1).1, (readVarOf s (readVarOf s (readVarOf s 1).2.1).2.1).1, (readVarOf s (readVarOf s (readVarOf s (readVarOf s 1).2.1).2.1).2.1).1, (readVarOf s (readVarOf s (readVarOf s (readVarOf s 1).2.1).2.1).2.1).2.1)
        else none) else none) else none) else none
theorem read_some (s : ByteArray) (a : Int) (h : (readVarOf s a).2.2 = true) : readVarOf s a = ((readVarOf s a).1, (readVarOf s a).2.1, true) := by rw [← h]
theorem four_back (s : ByteArray) (h1 : 1 ≤ s.size) (n1 n2 n3 n4 at' : Int) (h : four s = some (n1, n2, n3, n4, at')) :
    (0 ≤ n1 ∧ n1 ≤ 1000000000) ∧ (0 ≤ n2 ∧ n2 ≤ 1000000000) ∧ (0 ≤ n3 ∧ n3 ≤ 1000000000) ∧ (0 ≤ n4 ∧ n4 ≤ 1000000000) ∧ 0 ≤ at' ∧ at' ≤ (s.size : Int) ∧
    s = ((((strOfNums [bt s 0 % 256] ++ varS n1) ++ varS n2) ++ varS n3) ++ varS n4) ++ s.extract at'.toNat s.size := by
  unfold four at h
  split at h
  · next k1 =>
    split at h
    · next k2 =>
      split at h
      · next k3 =>
        split at h
        · next k4 =>
          simp only [Option.some.injEq, Prod.mk.injEq] at h
          obtain ⟨rfl, rfl, rfl, rfl, rfl⟩ := h
          have r1 := read_back s _ _ _ (read_some s _ k1)
          have r2 := read_back s _ _ _ (read_some s _ k2)
          have r3 := read_back s _ _ _ (read_some s _ k3)
          have r4 := read_back s _ _ _ (read_some s _ k4)
          generalize readVarOf s (readVarOf s (readVarOf s (readVarOf s 1).2.1).2.1).2.1 = q4 at r4 ⊢
          generalize readVarOf s (readVarOf s (readVarOf s 1).2.1).2.1 = q3 at r3 r4 ⊢
          generalize readVarOf s (readVarOf s 1).2.1 = q2 at r2 r3 r4 ⊢
          generalize readVarOf s 1 = q1 at r1 r2 r3 r4 ⊢
          refine ⟨r1.2.2.2.1, r2.2.2.2.1, r3.2.2.2.1, r4.2.2.2.1, by omega, r4.2.2.1, ?_⟩
          have bv : ∀ n : Int, bytesOf (varS n) = vt n.toNat := fun n => by unfold varS; exact bytesOf_str (vt_range _)
          apply bytesOf_inj
          have b0 := bt_range s 0
          have e0 : bytesOf (strOfNums [bt s 0 % 256]) = [bt s 0] := by
            rw [bytesOf_str (by simp; omega)]
            congr 1
            omega
          simp only [bytesOf_append, e0, bv, bytesOf_extract]
          rw [List.take_of_length_le (i := s.size) (by rw [bytesOf_length]; exact Nat.le_refl _)]
          simp only [List.append_assoc]
          rw [← r4.2.2.2.2, ← r3.2.2.2.2, ← r2.2.2.2.2, ← r1.2.2.2.2]
          have d0 := drop_bt s 0 (by omega)
          rw [List.drop_zero] at d0
          exact d0
        · cases h
      · cases h
    · cases h
  · cases h
def noPage : Int × Int × Int × Int × Int × ByteArray × Bool := (0, 0, 0, 0, 0, (⟨#[]⟩ : ByteArray), false)
/-- The program's way. -/
def implPage (t : ByteArray) : Int × Int × Int × Int × Int × ByteArray × Bool :=
  if (unsealOf t).2 = true ∧ (unsealOf t).1.size ≠ 0 then (match four (unsealOf t).1 with
    | some (n1, n2, n3, n4, a) => if pageOk (bt (unsealOf t).1 0) n1 n2 n3 n4 ((unsealOf t).1.extract a.toNat (unsealOf t).1.size) = true then (bt (unsealOf t).1 0, n1, n2, n3, n4, (unsealOf t).1.extract a.toNat (unsealOf t).1.size, true) else noPage
    | none => noPage) else noPage
/-- The reference's way: it writes the page anew. -/
def specPage (t : ByteArray) : Int × Int × Int × Int × Int × ByteArray × Bool :=
  if (unsealOf t).2 = true ∧ (unsealOf t).1.size ≠ 0 then (match four (unsealOf t).1 with
    | some (n1, n2, n3, n4, a) => if pageTextOf (bt (unsealOf t).1 0) n1 n2 n3 n4 ((unsealOf t).1.extract a.toNat (unsealOf t).1.size) = (t, true) then (bt (unsealOf t).1 0, n1, n2, n3, n4, (unsealOf t).1.extract a.toNat (unsealOf t).1.size, true) else noPage
    | none => noPage) else noPage
theorem unseal_ok (t : ByteArray) (h : (unsealOf t).2 = true) : sealOf (unsealOf t).1 = (t, true) := by
  unfold unsealOf at h ⊢
  split at h
  · cases h
  · next h4 =>
    rw [if_neg h4]
    split at h
    · next hs => rw [if_pos hs]; exact hs
    · cases h
theorem page_same (t : ByteArray) : specPage t = implPage t := by
  unfold specPage implPage
  split
  · next hu =>
    have hs := unseal_ok t hu.1
    generalize (unsealOf t).1 = s at hu hs ⊢
    cases hf : four s with
    | none => rfl
    | some x =>
      obtain ⟨n1, n2, n3, n4, a⟩ := x
      have b := four_back s (by omega) n1 n2 n3 n4 a hf
      have e := b.2.2.2.2.2.2
      simp only
      unfold pageTextOf
      by_cases ho : pageOk (bt s 0) n1 n2 n3 n4 (s.extract a.toNat s.size) = true
      · rw [if_pos ho, ← e, if_pos hs, if_pos ho]
      · rw [if_neg ho, if_neg ho, if_neg (fun k => by injection k with _ k; cases k)]
  · rfl

/-! the walks of ReadPage answer as the plain models -/
theorem unseal_size (t : ByteArray) (h : t.size ≤ 140737488351232) : (unsealOf t).1.size ≤ 140737488351232 := by
  unfold unsealOf
  split
  · show 0 ≤ _; omega
  · split
    · rw [ByteArray.size_extract]; omega
    · show 0 ≤ _; omega
def rdM (s : ByteArray) (a : Int) (bad : Bool) : Int × Int × Bool := (if bad = true ∨ (readVarOf s a).2.2 = false then 0 else (readVarOf s a).1, if bad = true ∨ (readVarOf s a).2.2 = false then a else (readVarOf s a).2.1, bad || !(readVarOf s a).2.2)
theorem rdM_bad (s : ByteArray) (a : Int) : rdM s a true = (0, a, true) := by simp [rdM]
theorem rdM_ok {s : ByteArray} {a : Int} (h : (readVarOf s a).2.2 = true) : rdM s a false = ((readVarOf s a).1, (readVarOf s a).2.1, false) := by simp [rdM, h]
theorem rdM_no {s : ByteArray} {a : Int} (h : ¬ (readVarOf s a).2.2 = true) : rdM s a false = (0, a, true) := by
  have h := Bool.eq_false_iff.mpr h
  simp [rdM, h]
theorem rd_ev (s : ByteArray) (hs : s.size ≤ 140737488351232) (a : Int) (bad : Bool) : Ev (fun k => spec_l06Var.rd k s a bad) (rdM s a bad) := by
  unfold spec_l06Var.rd
  refine Ev.bind (spec_ReadVar_ev s hs a) ?_
  exact Ev.now _
theorem fin_bad (t s : ByteArray) (v1 v2 v3 v4 a4 : Int) : Ev (fun k => spec_ReadPage.fin k t s v1 v2 v3 v4 a4 true) noPage := by
  simp only [spec_ReadPage.fin, ↓reduceIte]
  exact Ev.now _
theorem four_ok {s : ByteArray} (k1 : (readVarOf s 1).2.2 = true) (k2 : (readVarOf s (readVarOf s 1).2.1).2.2 = true) (k3 : (readVarOf s (readVarOf s (readVarOf s 1).2.1).2.1).2.2 = true) (k4 : (readVarOf s (readVarOf s (readVarOf s (readVarOf s 1).2.1).2.1).2.1).2.2 = true) :
    four s = some ((readVarOf s 1).1, (readVarOf s (readVarOf s 1).2.1).1, (readVarOf s (readVarOf s (readVarOf s 1).2.1).2.1).1, (readVarOf s (readVarOf s (readVarOf s (readVarOf s 1).2.1).2.1).2.1).1, (readVarOf s (readVarOf s (readVarOf s (readVarOf s 1).2.1).2.1).2.1).2.1) := by
  unfold four
  rw [if_pos k1, if_pos k2, if_pos k3, if_pos k4]
theorem spec_ReadPage_ev (t : ByteArray) (ht : t.size ≤ 140737488351232) : Ev (fun k => spec_ReadPage.f k t) (specPage t) := by
  unfold spec_ReadPage.f
  refine Ev.bind (spec_Unsealed_ev t ht) ?_
  have hs := unseal_size t ht
  unfold specPage
  generalize (unsealOf t) = u at hs ⊢
  obtain ⟨s, ok⟩ := u
  dsimp only at hs ⊢
  refine Ev.bind (rd_ev s hs 1 _) (Ev.bind (rd_ev s hs _ _) (Ev.bind (rd_ev s hs _ _) (Ev.bind (rd_ev s hs _ _) ?_)))
  by_cases hu : ok = true ∧ s.size ≠ 0
  · rw [if_pos hu]
    have hb : (!ok || decide ((s.size : Int) < 1)) = false := by
      rw [hu.1]
      have : ¬ ((s.size : Int) < 1) := by omega
      simp [this]
    rw [hb]
    by_cases k1 : (readVarOf s 1).2.2 = true
    · rw [rdM_ok k1]
      by_cases k2 : (readVarOf s (readVarOf s 1).2.1).2.2 = true
      · rw [rdM_ok k2]
        by_cases k3 : (readVarOf s (readVarOf s (readVarOf s 1).2.1).2.1).2.2 = true
        · rw [rdM_ok k3]
          by_cases k4 : (readVarOf s (readVarOf s (readVarOf s (readVarOf s 1).2.1).2.1).2.1).2.2 = true
          · rw [rdM_ok k4]
            have e := four_ok k1 k2 k3 k4
            have b := four_back s (by omega) _ _ _ _ _ e
            rw [e]
            dsimp only
            simp only [spec_ReadPage.fin, Bool.false_eq_true, ↓reduceIte]
            generalize (readVarOf s (readVarOf s (readVarOf s (readVarOf s 1).2.1).2.1).2.1) = q4 at b ⊢
            generalize (readVarOf s (readVarOf s (readVarOf s 1).2.1).2.1) = q3 at b ⊢
            generalize (readVarOf s (readVarOf s 1).2.1) = q2 at b ⊢
            generalize readVarOf s 1 = q1 at b ⊢
            have hc : 0 < s.size ∧ 0 ≤ q4.2.1 ∧ q4.2.1 ≤ (s.size : Int) := ⟨by omega, b.2.2.2.2.1, b.2.2.2.2.2.1⟩
            simp only [if_pos hc]
            refine Ev.bind (spec_PageText_ev _ _ _ _ _ _ ⟨by omega, by omega⟩ ⟨by omega, by omega⟩) ?_
            generalize pageTextOf (bt s 0) q1.1 q2.1 q3.1 q4.1 (s.extract q4.2.1.toNat s.size) = x
            obtain ⟨x1, x2⟩ := x
            by_cases hx : x2 = true ∧ x1 = t
            · rw [if_pos (show (x1, x2) = (t, true) from by rw [hx.1, hx.2])]
              simp only [if_pos hx]
              exact Ev.now _
            · rw [if_neg (show ¬ (x1, x2) = (t, true) from fun k => hx (by injection k with ka kb; exact ⟨kb, ka⟩))]
              simp only [if_neg hx]
              exact Ev.now _
          · rw [rdM_no k4]
            have e : four s = none := by unfold four; rw [if_pos k1, if_pos k2, if_pos k3, if_neg k4]
            rw [e]
            exact fin_bad ..
        · rw [rdM_no k3, rdM_bad]
          have e : four s = none := by unfold four; rw [if_pos k1, if_pos k2, if_neg k3]
          rw [e]
          exact fin_bad ..
      · rw [rdM_no k2, rdM_bad, rdM_bad]
        have e : four s = none := by unfold four; rw [if_pos k1, if_neg k2]
        rw [e]
        exact fin_bad ..
    · rw [rdM_no k1, rdM_bad, rdM_bad, rdM_bad]
      have e : four s = none := by unfold four; rw [if_neg k1]
      rw [e]
      exact fin_bad ..
  · rw [if_neg hu]
    have hb : (!ok || decide ((s.size : Int) < 1)) = true := by
      by_cases ho : ok = true
      · have : s.size = 0 := by by_cases hz : s.size = 0; exact hz; exact absurd ⟨ho, hz⟩ hu
        simp [this]
      · simp [ho]
    rw [hb, rdM_bad, rdM_bad, rdM_bad, rdM_bad]
    exact fin_bad ..
theorem lp_ok {s : ByteArray} (hs : s.size ≤ 140737488351232) {q : Nat} {l : List Int} {x : Int} (hx : 0 ≤ x ∧ x ≤ 9223372036854775807) {R : Int × Int × Int × Int × Int × ByteArray × Bool} (h : (readVarOf s x).2.2 = true) (H : Ev (fun k => impl_ReadPage.lp k s q (l.set (3 - q) (readVarOf s x).1) (readVarOf s x).2.1) R) : Ev (fun k => impl_ReadPage.lp k s (q + 1) l x) R := by
  simp only [impl_ReadPage.lp]
  refine Ev.bind (impl_ReadVar_ev s hs x (by omega) hx.2) ?_
  simp only [if_pos h]
  exact H
theorem lp_no {s : ByteArray} (hs : s.size ≤ 140737488351232) {q : Nat} {l : List Int} {x : Int} (hx : 0 ≤ x ∧ x ≤ 9223372036854775807) (h : ¬ (readVarOf s x).2.2 = true) : Ev (fun k => impl_ReadPage.lp k s (q + 1) l x) noPage := by
  simp only [impl_ReadPage.lp]
  refine Ev.bind (impl_ReadVar_ev s hs x (by omega) hx.2) ?_
  simp only [if_neg h]
  exact Ev.now _
theorem impl_ReadPage_ev (t : ByteArray) (ht : t.size ≤ 140737488351232) : Ev (fun k => impl_ReadPage.f k t) (implPage t) := by
  unfold impl_ReadPage.f
  refine Ev.bind (impl_Unsealed_ev t ht) ?_
  have hs := unseal_size t ht
  unfold implPage
  generalize (unsealOf t) = u at hs ⊢
  obtain ⟨s, ok⟩ := u
  dsimp only at hs ⊢
  by_cases hu : ok = true ∧ s.size ≠ 0
  · simp only [if_pos hu]
    have h1 : (0 : Int) ≤ 1 ∧ (1 : Int) ≤ 9223372036854775807 := by omega
    by_cases k1 : (readVarOf s 1).2.2 = true
    · have r1 := read_back s _ _ _ (read_some s _ k1)
      by_cases k2 : (readVarOf s (readVarOf s 1).2.1).2.2 = true
      · have r2 := read_back s _ _ _ (read_some s _ k2)
        by_cases k3 : (readVarOf s (readVarOf s (readVarOf s 1).2.1).2.1).2.2 = true
        · have r3 := read_back s _ _ _ (read_some s _ k3)
          by_cases k4 : (readVarOf s (readVarOf s (readVarOf s (readVarOf s 1).2.1).2.1).2.1).2.2 = true
          · have e := four_ok k1 k2 k3 k4
            have b := four_back s (by omega) _ _ _ _ _ e
            rw [e]
            refine lp_ok hs h1 k1 (lp_ok hs ⟨by omega, by omega⟩ k2 (lp_ok hs ⟨by omega, by omega⟩ k3 (lp_ok hs ⟨by omega, by omega⟩ k4 ?_)))
            clear r1 r2 r3
            dsimp only
            generalize (readVarOf s (readVarOf s (readVarOf s (readVarOf s 1).2.1).2.1).2.1) = q4 at b ⊢
            generalize (readVarOf s (readVarOf s (readVarOf s 1).2.1).2.1) = q3 at b ⊢
            generalize (readVarOf s (readVarOf s 1).2.1) = q2 at b ⊢
            generalize readVarOf s 1 = q1 at b ⊢
            show Ev (fun k => impl_ReadPage.fin s [q1.1, q2.1, q3.1, q4.1] q4.2.1) _
            unfold impl_ReadPage.fin
            have hc : 0 < s.size ∧ 0 ≤ q4.2.1 ∧ q4.2.1 ≤ (s.size : Int) := ⟨by omega, b.2.2.2.2.1, b.2.2.2.2.2.1⟩
            rw [if_pos hc]
            have e4 : rd [q1.1, q2.1, q3.1, q4.1] 0 = q1.1 ∧ rd [q1.1, q2.1, q3.1, q4.1] 1 = q2.1 ∧ rd [q1.1, q2.1, q3.1, q4.1] 2 = q3.1 ∧ rd [q1.1, q2.1, q3.1, q4.1] 3 = q4.1 := ⟨rfl, rfl, rfl, rfl⟩
            rw [e4.1, e4.2.1, e4.2.2.1, e4.2.2.2, impl_PageOk_eq _ _ _ _ _ _ ⟨by omega, by omega⟩ ⟨by omega, by omega⟩]
            simp only [Option.bind_some]
            by_cases ho : pageOk (bt s 0) q1.1 q2.1 q3.1 q4.1 (s.extract q4.2.1.toNat s.size) = true
            · rw [if_pos ho, if_pos ho]; exact Ev.now _
            · rw [if_neg ho, if_neg ho]; exact Ev.now _
          · have e : four s = none := by unfold four; rw [if_pos k1, if_pos k2, if_pos k3, if_neg k4]
            rw [e]
            exact lp_ok hs h1 k1 (lp_ok hs ⟨by omega, by omega⟩ k2 (lp_ok hs ⟨by omega, by omega⟩ k3 (lp_no hs ⟨by omega, by omega⟩ k4)))
        · have e : four s = none := by unfold four; rw [if_pos k1, if_pos k2, if_neg k3]
          rw [e]
          exact lp_ok hs h1 k1 (lp_ok hs ⟨by omega, by omega⟩ k2 (lp_no hs ⟨by omega, by omega⟩ k3))
      · have e : four s = none := by unfold four; rw [if_pos k1, if_neg k2]
        rw [e]
        exact lp_ok hs h1 k1 (lp_no hs ⟨by omega, by omega⟩ k2)
    · have e : four s = none := by unfold four; rw [if_neg k1]
      rw [e]
      exact lp_no hs h1 k1
  · simp only [if_neg hu]
    exact Ev.now _

/-! ### The scan: both ways of it keep the same list, in the flash's order -/
def foundOf (b i : Int) (t : ByteArray) : S43 := ⟨b, i, (⟨(implPage t).1, (implPage t).2.1, (implPage t).2.2.1, (implPage t).2.2.2.1, (implPage t).2.2.2.2.1, (implPage t).2.2.2.2.2.1⟩ : S41)⟩
def leafStep (b i : Int) (x : S59) (out : List S43) : List S43 := if (implPage x.f1).2.2.2.2.2.2 = true then (if x.f0 = 1 then out ++ [foundOf b i x.f1] else out) else out
def leavesM (b : Int) : List S59 → Nat → List S43 → List S43
  | [], _, out => out
  | x :: t, i, out => leavesM b t (i + 1) (leafStep b (i : Int) x out)
def blocksM : List S57 → Nat → List S43 → List S43
  | [], _, out => out
  | x :: t, b, out => blocksM t (b + 1) (leavesM (b : Int) x.f2 0 out)
theorem leafStep_len (b i : Int) (x : S59) (out : List S43) : (leafStep b i x out).length ≤ out.length + 1 := by
  unfold leafStep; split
  · split
    · simp
    · omega
  · omega
theorem leavesM_len (b : Int) : ∀ (l : List S59) (i : Nat) (out : List S43), (leavesM b l i out).length ≤ out.length + l.length
  | [], _, out => by simp [leavesM]
  | x :: t, i, out => by
    have h1 := leavesM_len b t (i + 1) (leafStep b (i : Int) x out)
    have h2 := leafStep_len b (i : Int) x out
    rw [leavesM, List.length_cons]; omega
theorem blocksM_len : ∀ (l : List S57) (b : Nat) (out : List S43), (∀ x ∈ l, x.f2.length ≤ 1048576) → (blocksM l b out).length ≤ out.length + l.length * 1048576
  | [], _, out, _ => by simp [blocksM]
  | x :: t, b, out, h => by
    have h1 := blocksM_len t (b + 1) (leavesM (b : Int) x.f2 0 out) (fun y hy => h y (List.mem_cons_of_mem _ hy))
    have h2 := leavesM_len (b : Int) x.f2 0 out
    have h3 := h x (List.mem_cons_self ..)
    rw [blocksM, List.length_cons, Nat.succ_mul]; omega
theorem impl_scan_l1 (l : List S57) (hf : SmallM l) (b : Nat) (hb : b < l.length) {R : List S43} : ∀ (d i : Nat) (out : List S43), i + d = l[b].f2.length → out.length + d ≤ 1099511627776 →
    Ev (fun k => impl_ScanAll.l0 k l (l.length : Int) ((b + 1 : Nat) : Int) (leavesM (b : Int) (l[b].f2.drop i) i out)) R →
    Ev (fun k => impl_ScanAll.l1 k (b : Int) l (l.length : Int) (b : Int) l[b].f2 (l[b].f2.length : Int) (i : Int) out) R := by
  have hl := hf.1
  intro d
  induction d with
  | zero =>
    intro i out hi ho h
    refine ev_st ?_
    simp only [impl_ScanAll.l1, show ¬ ((i : Int) < (l[b].f2.length : Int)) from by omega, ↓reduceIte, wsucc b l.length hb (by omega)]
    rw [List.drop_eq_nil_of_le (by omega)] at h
    exact h
  | succ d ih =>
    intro i out hi ho h
    have hbb := hf.2 _ (List.getElem_mem hb)
    have hlt : i < l[b].f2.length := by omega
    rw [List.drop_eq_getElem_cons hlt, leavesM] at h
    refine ev_st ?_
    simp only [impl_ScanAll.l1, show (i : Int) < (l[b].f2.length : Int) from by omega, show (0 : Int) ≤ (i : Int) from by omega, ↓reduceIte, rd_ML _ i hlt, wsucc i l[b].f2.length hlt (by omega)]
    refine Ev.bind (impl_ReadPage_ev _ (by have := hbb.2 _ (List.getElem_mem hlt); omega)) ?_
    unfold leafStep at h
    split
    · rename_i h1
      rw [if_pos h1] at h
      split
      · rename_i h2
        rw [if_pos h2] at h
        simp only [show out.length < 1954687338268 from by omega, ↓reduceIte]
        exact ih (i + 1) _ (by omega) (by simp; omega) h
      · rename_i h2
        rw [if_neg h2] at h
        exact ih (i + 1) _ (by omega) (by omega) h
    · rename_i h1
      rw [if_neg h1] at h
      exact ih (i + 1) _ (by omega) (by omega) h
theorem impl_scan_l0 (l : List S57) (hf : SmallM l) : ∀ (d b : Nat) (out : List S43), b + d = l.length → out.length + d * 1048576 ≤ 1099511627776 →
    Ev (fun k => impl_ScanAll.l0 k l (l.length : Int) (b : Int) out) (blocksM (l.drop b) b out) := by
  have hl := hf.1
  intro d
  induction d with
  | zero =>
    intro b out hi ho
    refine ev_st ?_
    simp only [impl_ScanAll.l0, show ¬ ((b : Int) < (l.length : Int)) from by omega, ↓reduceIte]
    rw [List.drop_eq_nil_of_le (by omega)]
    exact Ev.now _
  | succ d ih =>
    intro b out hi ho
    have hlt : b < l.length := by omega
    have hbb := hf.2 _ (List.getElem_mem hlt)
    rw [List.drop_eq_getElem_cons hlt, blocksM]
    refine ev_st ?_
    simp only [impl_ScanAll.l0, show (b : Int) < (l.length : Int) from by omega, show (0 : Int) ≤ (b : Int) from by omega, ↓reduceIte, rd_MB l b hlt]
    refine impl_scan_l1 l hf b hlt l[b].f2.length 0 out (by omega) (by have := hbb.1; rw [Nat.succ_mul] at ho; omega) ?_
    rw [List.drop_zero]
    have := leavesM_len (b : Int) l[b].f2 0 out
    exact ih (b + 1) _ (by omega) (by have := hbb.1; rw [Nat.succ_mul] at ho; omega)
theorem impl_scan_ev (l : List S57) (hf : SmallM l) : Ev (fun k => impl_ScanAll.g k l) (blocksM l 0 []) := by
  have h := impl_scan_l0 l hf l.length 0 [] (by omega) (by have := hf.1; simp; omega)
  simpa [impl_ScanAll.g] using h
theorem spec_page_ev (t : ByteArray) (ht : t.size ≤ 140737488351232) : Ev (fun k => spec_ReadPage.f k t) (implPage t) := page_same t ▸ spec_ReadPage_ev t ht
theorem spec_scan_l1 (l : List S57) (hf : SmallM l) (b : Nat) (hb : b < l.length) {R : List S43} : ∀ (d i : Nat) (out : List S43), i + d = l[b].f2.length → out.length + d ≤ 1099511627776 →
    Ev (fun k => spec_ScanAll.l0 k (leavesM (b : Int) (l[b].f2.drop i) i out) ((b + 1 : Nat) : Int) l) R →
    Ev (fun k => spec_ScanAll.l1 k out (b : Int) (i : Int) l) R := by
  have hl := hf.1
  intro d
  induction d with
  | zero =>
    intro i out hi ho h
    refine ev_st ?_
    simp only [spec_ScanAll.l1, show (b : Int) < (l.length : Int) from by omega, show (0 : Int) ≤ (b : Int) from by omega, rd_MB l b hb, show ¬ ((i : Int) < (l[b].f2.length : Int)) from by omega, ↓reduceIte, wsucc b l.length hb (by omega)]
    rw [List.drop_eq_nil_of_le (by omega)] at h
    exact h
  | succ d ih =>
    intro i out hi ho h
    have hbb := hf.2 _ (List.getElem_mem hb)
    have hlt : i < l[b].f2.length := by omega
    rw [List.drop_eq_getElem_cons hlt, leavesM] at h
    have hr : readLeafOf l (b : Int) (i : Int) = if l[b].f2[i].f0 = 1 then (l[b].f2[i].f1, true) else ((⟨#[]⟩ : ByteArray), false) := by
      unfold readLeafOf
      rw [if_pos (by omega), rd_MB l b hb, if_pos (by omega), rd_ML _ i hlt]
    refine ev_st ?_
    simp only [spec_ScanAll.l1, show (b : Int) < (l.length : Int) from by omega, show (0 : Int) ≤ (b : Int) from by omega, rd_MB l b hb, show (i : Int) < (l[b].f2.length : Int) from by omega, ↓reduceIte, wsucc i l[b].f2.length hlt (by omega), spec_ReadLeaf_eq l hf, Option.bind_some, hr]
    unfold leafStep at h
    by_cases h2 : l[b].f2[i].f0 = 1
    · simp only [h2, ↓reduceIte] at h ⊢
      refine Ev.bind (spec_page_ev _ (by have := hbb.2 _ (List.getElem_mem hlt); omega)) ?_
      split
      · rename_i h1
        rw [if_pos h1] at h
        simp only [show out.length < 1954687338268 from by omega, ↓reduceIte]
        exact ih (i + 1) _ (by omega) (by simp; omega) h
      · rename_i h1
        rw [if_neg h1] at h
        exact ih (i + 1) _ (by omega) (by omega) h
    · simp only [h2, ↓reduceIte, ite_self, Bool.false_eq_true] at h ⊢
      refine Ev.bind (spec_page_ev _ (by decide)) ?_
      exact ih (i + 1) _ (by omega) (by omega) h
theorem spec_scan_l0 (l : List S57) (hf : SmallM l) {R : List S43} : ∀ (d b : Nat) (out : List S43), b + d = l.length → out.length + d * 1048576 ≤ 1099511627776 →
    Ev (fun k => spec_ScanAll.l2 k (blocksM (l.drop b) b out) 1) R → Ev (fun k => spec_ScanAll.l0 k out (b : Int) l) R := by
  have hl := hf.1
  intro d
  induction d with
  | zero =>
    intro b out hi ho h
    refine ev_st ?_
    simp only [spec_ScanAll.l0, show ¬ ((b : Int) < (l.length : Int)) from by omega, ↓reduceIte]
    rw [List.drop_eq_nil_of_le (by omega)] at h
    exact h
  | succ d ih =>
    intro b out hi ho h
    have hlt : b < l.length := by omega
    have hbb := hf.2 _ (List.getElem_mem hlt)
    rw [List.drop_eq_getElem_cons hlt, blocksM] at h
    refine ev_st ?_
    simp only [spec_ScanAll.l0, show (b : Int) < (l.length : Int) from by omega, ↓reduceIte]
    have := leavesM_len (b : Int) l[b].f2 0 out
    refine spec_scan_l1 l hf b hlt l[b].f2.length 0 out (by omega) (by have := hbb.1; rw [Nat.succ_mul] at ho; omega) ?_
    rw [List.drop_zero]
    exact ih (b + 1) _ (by omega) (by have := hbb.1; rw [Nat.succ_mul] at ho; omega) h

/-! ### The sort: both ways of it give the one list that is sorted by number, then by place -/
def markF (x : S43) : Nat := x.f0.toNat * 2097152 + x.f1.toNat
def TF (x y : S43) : Prop := x.f2.f1 < y.f2.f1 ∨ (x.f2.f1 = y.f2.f1 ∧ markF x < markF y)
theorem irrF (x : S43) : ¬ TF x x := by unfold TF; omega
theorem ordF : Stab.Ord impl_ScanAll.lt TF markF where
  trans := by intro x y z h1 h2; unfold TF at *; omega
  no := by intro u v h1 h2; simp only [impl_ScanAll.lt, decide_eq_false_iff_not] at h2; unfold TF; omega
  yes := by intro u v h1 h2; simp only [impl_ScanAll.lt, decide_eq_true_eq] at h2; unfold TF; omega
def Marks (out : List S43) (m : Nat) : Prop := (∀ x ∈ out, markF x < m) ∧ out.Pairwise (fun x y => markF x < markF y)
theorem Marks.mono {out : List S43} {m m' : Nat} (h : Marks out m) (hm : m ≤ m') : Marks out m' := ⟨fun x hx => Nat.lt_of_lt_of_le (h.1 x hx) hm, h.2⟩
theorem Marks.snoc {out : List S43} {m : Nat} (h : Marks out m) (x : S43) (hx : markF x = m) : Marks (out ++ [x]) (m + 1) := by
  refine ⟨fun y hy => ?_, ?_⟩
  · rcases List.mem_append.1 hy with hy | hy
    · exact Nat.lt_succ_of_lt (h.1 y hy)
    · rw [List.mem_singleton.1 hy, hx]; exact Nat.lt_succ_self _
  · refine List.pairwise_append.2 ⟨h.2, List.pairwise_singleton _ _, fun a ha y hy => ?_⟩
    rw [List.mem_singleton.1 hy, hx]; exact h.1 a ha
theorem leafStep_marks (b i : Nat) (x : S59) (out : List S43) (h : Marks out (b * 2097152 + i)) : Marks (leafStep (b : Int) (i : Int) x out) (b * 2097152 + (i + 1)) := by
  unfold leafStep
  split
  · split
    · exact (h.snoc _ (by simp [markF, foundOf])).mono (by omega)
    · exact h.mono (by omega)
  · exact h.mono (by omega)
theorem leavesM_marks (b : Nat) : ∀ (l : List S59) (i : Nat) (out : List S43), Marks out (b * 2097152 + i) → Marks (leavesM (b : Int) l i out) (b * 2097152 + (i + l.length))
  | [], _, _, h => h
  | x :: t, i, out, h => by
    have := leavesM_marks b t (i + 1) _ (leafStep_marks b i x out h)
    rw [leavesM, List.length_cons]
    exact this.mono (by omega)
theorem blocksM_marks : ∀ (l : List S57) (b : Nat) (out : List S43), (∀ x ∈ l, x.f2.length ≤ 1048576) → Marks out (b * 2097152) → Marks (blocksM l b out) ((b + l.length) * 2097152)
  | [], _, _, _, h => h
  | x :: t, b, out, hs, h => by
    have h1 := leavesM_marks b x.f2 0 out (h.mono (by omega))
    have h2 := hs x (List.mem_cons_self ..)
    have := blocksM_marks t (b + 1) _ (fun y hy => hs y (List.mem_cons_of_mem _ hy)) (h1.mono (by omega))
    rw [blocksM, List.length_cons]
    exact this.mono (by omega)
theorem marks_at {out : List S43} {m : Nat} (h : Marks out m) : ∀ i j, i < j → j < out.length → markF out.toArray[i]! < markF out.toArray[j]! := by
  intro i j h1 h2
  have := List.pairwise_iff_getElem.1 h.2 i j (by omega) h2 h1
  rw [getElem!_pos out.toArray i (by simp; omega), getElem!_pos out.toArray j (by simpa using h2)]
  simpa using this
def sortM (o : List S43) : List S43 := (Sort.insertionSort impl_ScanAll.lt o.toArray 0 o.length).toList
theorem perm_list {d d' : Array S43} {n : Nat} (hn : n = d.size) (h : Sort.PermIn 0 n d d') : d'.toList.Perm d.toList := by
  subst hn
  have h1 : (d'.extract 0 d.size).toList = d'.toList := by rw [← h.1]; simp
  have h2 : (d.extract 0 d.size).toList = d.toList := by simp
  rw [← h1, ← h2]; exact h.2.2
theorem sorted_list {d : Array S43} {n : Nat} (hn : n = d.size) (h : Stab.SortedT TF 0 n d) : d.toList.Pairwise TF := by
  subst hn
  refine List.pairwise_iff_getElem.2 fun i j hi hj hij => ?_
  have := h i j (Nat.zero_le _) hij (by simpa using hj)
  rw [getElem!_pos d i (by simpa using hi), getElem!_pos d j (by simpa using hj)] at this
  simpa using this
theorem sortM_perm {o : List S43} {m : Nat} (h : Marks o m) : (sortM o).Perm o ∧ (sortM o).Pairwise TF := by
  have k := Stab.insertionSort_T irrF ordF 0 o.length o.toArray (by simp) (fun p q _ h2 h3 => marks_at h p q h2 h3)
  have hs : o.length = (Sort.insertionSort impl_ScanAll.lt o.toArray 0 o.length).size := by rw [k.1.1]; simp
  exact ⟨by simpa [sortM] using perm_list (by simp) k.1, sorted_list hs k.2⟩
theorem stable_sortM {o : List S43} {m : Nat} (h : Marks o m) : (Stab.stable impl_ScanAll.lt o.toArray o.length).toList = sortM o := by
  have k := Stab.stable_T irrF ordF o.toArray o.length (by simp) (fun p q h2 h3 => marks_at h p q h2 h3)
  have hs : o.length = (Stab.stable impl_ScanAll.lt o.toArray o.length).size := by rw [k.1.1]; simp
  have hp : (Stab.stable impl_ScanAll.lt o.toArray o.length).toList.Perm o := by simpa using perm_list (by simp) k.1
  exact List.Perm.eq_of_pairwise (fun a b _ _ h1 h2 => absurd h2 (Stab.T_asym irrF ordF h1)) (sorted_list hs k.2) (sortM_perm h).2 (hp.trans (sortM_perm h).1.symm)
theorem sortM_few (o : List S43) (h : o.length < 2) : sortM o = o := by
  unfold sortM Sort.insertionSort Sort.insOuter
  rw [if_neg (by omega)]
def scanM (l : List S57) : List S43 := sortM (blocksM l 0 [])
theorem scan_marks (l : List S57) (hf : SmallM l) : Marks (blocksM l 0 []) (l.length * 2097152) := by
  have := blocksM_marks l 0 [] (fun x hx => (hf.2 x hx).1) ⟨fun _ hx => (by cases hx), List.Pairwise.nil⟩
  simpa using this
theorem impl_ScanAll_ev (l : List S57) (hf : SmallM l) : Ev (fun k => impl_ScanAll.f k l) (scanM l) := by
  have hl := blocksM_len l 0 [] (fun x hx => (hf.2 x hx).1)
  have h1 := hf.1
  refine Ev.bind (impl_scan_ev l hf) (ev_some ?_)
  unfold impl_ScanAll.sorted
  split
  · rename_i h; rw [scanM, sortM_few _ h]
  · rw [if_pos (by simp at hl; omega), stable_sortM (scan_marks l hf)]; rfl

theorem wpred (j : Nat) (h : j < 9223372036854775807) : wrap64 (((j + 1 : Nat) : Int) - 1) = (j : Int) := by rw [w64 (by omega) (by omega)]; omega
theorem rd_MFa (xs : List S43) (i : Nat) (h : i < xs.length) : rd_T43 xs (i : Int) = xs[i] := by
  simp [rd_T43, List.getD_eq_getElem?_getD, h]
theorem swp_list (x : List S43) (j : Nat) (h : j + 1 < x.length) : (Sort.swp x.toArray (j + 1) j).toList = (x.set (j + 1) x[j]).set j x[j + 1] := by
  have h1 : x.toArray[j + 1]! = x[j + 1] := by rw [getElem!_pos x.toArray (j + 1) (by simpa using h)]; simp
  have h2 : x.toArray[j]! = x[j] := by rw [getElem!_pos x.toArray j (by simp; omega)]; simp
  simp [Sort.swp, h1, h2]
theorem spec_sort_l3 {R : List S43} (i : Nat) : ∀ (j : Nat) (x : List S43), j ≤ i → i < x.length → x.length ≤ 1099511627776 →
    Ev (fun k => spec_ScanAll.l2 k (Sort.insInner impl_ScanAll.lt 0 j x.toArray).toList ((i + 1 : Nat) : Int)) R → Ev (fun k => spec_ScanAll.l3 k x (i : Int) (j : Int)) R := by
  intro j
  induction j with
  | zero =>
    intro x hj hi hx h
    refine ev_st ?_
    simp only [spec_ScanAll.l3, show ¬ (((0 : Nat) : Int) > 0) from by omega, ↓reduceIte, wsucc i x.length hi (by omega)]
    simpa [Sort.insInner] using h
  | succ j ih =>
    intro x hj hi hx h
    have h1 : x.toArray[j + 1]! = x[j + 1] := by rw [getElem!_pos x.toArray (j + 1) (by simp; omega)]; simp
    have h2 : x.toArray[j]! = x[j] := by rw [getElem!_pos x.toArray j (by simp; omega)]; simp
    refine ev_st ?_
    simp only [spec_ScanAll.l3, show ((j + 1 : Nat) : Int) > 0 from by omega, ↓reduceIte, wpred j (by omega), show (0 : Int) ≤ (j : Int) from by omega, show (j : Int) < (x.length : Int) from by omega, show (0 : Int) ≤ ((j + 1 : Nat) : Int) from by omega,
      show ((j + 1 : Nat) : Int) < (x.length : Int) from by omega, rd_MFa x j (by omega), rd_MFa x (j + 1) (by omega), wsucc i x.length hi (by omega), Int.toNat_natCast]
    unfold Sort.insInner at h
    rw [h1, h2] at h
    by_cases c : x[j + 1].f2.f1 < x[j].f2.f1
    · rw [if_pos (by simp [impl_ScanAll.lt, c])] at h
      simp only [show x[j].f2.f1 > x[j + 1].f2.f1 from c, ↓reduceIte]
      have e := swp_list x j (by omega)
      have e2 : Sort.swp x.toArray (j + 1) j = ((x.set (j + 1) x[j]).set j x[j + 1]).toArray := by rw [← e]
      rw [e2] at h
      exact ih _ (by omega) (by simpa using hi) (by simpa using hx) h
    · rw [if_neg (by simp [impl_ScanAll.lt, c])] at h
      simp only [show ¬ (x[j].f2.f1 > x[j + 1].f2.f1) from c, ↓reduceIte]
      exact h
theorem insInner_size (j : Nat) : ∀ (d : Array S43), (Sort.insInner impl_ScanAll.lt 0 j d).size = d.size := fun d => insInner_n impl_ScanAll.lt 0 j d
theorem spec_sort_l2 (n : Nat) (hn : n ≤ 1099511627776) : ∀ (d i : Nat) (x : List S43), x.length = n → n ≤ i + d → Ev (fun k => spec_ScanAll.l2 k x (i : Int)) (Sort.insOuter impl_ScanAll.lt 0 n i x.toArray).toList := by
  intro d
  induction d with
  | zero =>
    intro i x hx hi
    refine ev_st ?_
    unfold Sort.insOuter
    simp only [spec_ScanAll.l2, show ¬ ((i : Int) < (x.length : Int)) from by omega, ↓reduceIte, show ¬ (i < n) from by omega]
    exact Ev.now _
  | succ d ih =>
    intro i x hx hi
    by_cases c : i < n
    · refine ev_st ?_
      unfold Sort.insOuter
      simp only [spec_ScanAll.l2, show (i : Int) < (x.length : Int) from by omega, ↓reduceIte, c]
      refine spec_sort_l3 i i x (Nat.le_refl _) (by omega) (by omega) ?_
      have := ih (i + 1) (Sort.insInner impl_ScanAll.lt 0 i x.toArray).toList (by simp [insInner_size, hx]) (by omega)
      simpa using this
    · refine ev_st ?_
      unfold Sort.insOuter
      simp only [spec_ScanAll.l2, show ¬ ((i : Int) < (x.length : Int)) from by omega, ↓reduceIte, c]
      exact Ev.now _
theorem spec_ScanAll_ev (l : List S57) (hf : SmallM l) : Ev (fun k => spec_ScanAll.f k l) (scanM l) := by
  have hl := blocksM_len l 0 [] (fun x hx => (hf.2 x hx).1)
  have h1 := hf.1
  have h2 : (blocksM l 0 []).length ≤ 1099511627776 := by simp at hl; omega
  simp only [spec_ScanAll.f]
  refine spec_scan_l0 l hf l.length 0 [] (by omega) (by simp; omega) ?_
  rw [List.drop_zero]
  exact spec_sort_l2 _ h2 (blocksM l 0 []).length 1 _ rfl (by omega)
/-! ### The last number -/
theorem page_seq (t : ByteArray) : 0 ≤ (implPage t).2.1 := by
  unfold implPage
  split
  · split
    · split
      · rename_i h
        simp only [pageOk, decide_eq_true_eq] at h
        have := h.1.1
        dsimp only
        omega
      · exact Int.le_refl _
    · exact Int.le_refl _
  · exact Int.le_refl _
theorem leaves_seq (b : Int) : ∀ (l : List S59) (i : Nat) (out : List S43), (∀ x ∈ out, 0 ≤ x.f2.f1) → ∀ x ∈ leavesM b l i out, 0 ≤ x.f2.f1
  | [], _, _, h => h
  | y :: t, i, out, h => by
    rw [leavesM]
    refine leaves_seq b t (i + 1) _ ?_
    unfold leafStep
    split
    · split
      · intro x hx
        rcases List.mem_append.1 hx with hx | hx
        · exact h x hx
        · rw [List.mem_singleton.1 hx]; exact page_seq _
      · exact h
    · exact h
theorem blocks_seq : ∀ (l : List S57) (b : Nat) (out : List S43), (∀ x ∈ out, 0 ≤ x.f2.f1) → ∀ x ∈ blocksM l b out, 0 ≤ x.f2.f1
  | [], _, _, h => h
  | y :: t, b, out, h => by rw [blocksM]; exact blocks_seq t (b + 1) _ (leaves_seq (b : Int) y.f2 0 out h)
theorem scan_facts (l : List S57) (hf : SmallM l) : (scanM l).Pairwise TF ∧ (∀ x ∈ scanM l, 0 ≤ x.f2.f1) ∧ (scanM l).length ≤ 1099511627776 := by
  have hl := blocksM_len l 0 [] (fun x hx => (hf.2 x hx).1)
  have h1 := hf.1
  have k := sortM_perm (scan_marks l hf)
  refine ⟨k.2, fun x hx => blocks_seq l 0 [] (fun _ h => by cases h) x ((k.1.mem_iff).1 hx), ?_⟩
  have := k.1.length_eq
  unfold scanM; rw [this]; simp at hl; omega

/-! the marks -/
def mt (n : Nat) (acc : ByteArray) : ByteArray := if 0 < n then mt (n / 10) (strOfNums [((48 + n % 10 : Nat) : Int)] ++ acc) else (⟨#[109]⟩ : ByteArray) ++ acc
termination_by n
decreasing_by omega
def markOf (k : Int) : ByteArray := if k ≤ 0 then (⟨#[109, 48]⟩ : ByteArray) else mt k.toNat (⟨#[]⟩ : ByteArray)
theorem markText_l0 (n : Nat) : n ≤ 10000000000000 → ∀ acc : ByteArray, acc.size + n ≤ 10000000000001 → Ev (fun k => laws_markText.l0 k (n : Int) acc) (mt n acc) := by
  induction n using Nat.strongRecOn with
  | _ n ih =>
    intro hn acc ha
    refine ev_st ?_
    rw [mt]
    by_cases h : 0 < n
    · have e1 : wrap64 (Int.tdiv (n : Int) 10) = ((n / 10 : Nat) : Int) := by rw [Int.tdiv_eq_ediv_of_nonneg (by omega), w64 (by omega) (by omega)]; omega
      have e2 : wrap64 (48 + Int.tmod (n : Int) 10) % 256 = ((48 + n % 10 : Nat) : Int) := by rw [Int.tmod_eq_emod_of_nonneg (by omega), w64 (by omega) (by omega)]; omega
      have z : (strOfNums [((48 + n % 10 : Nat) : Int)]).size = 1 := by rw [strOfNums_size]; rfl
      simp only [laws_markText.l0, show (n : Int) > 0 from by omega, h, ↓reduceIte, e1, e2, Option.bind_some, show (strOfNums [((48 + n % 10 : Nat) : Int)]).size + acc.size ≤ 9223372036854775807 from by omega]
      exact ih (n / 10) (by omega) (by omega) _ (by rw [ByteArray.size_append]; omega)
    · simp only [laws_markText.l0, show ¬ ((n : Int) > 0) from by omega, h, ↓reduceIte, show 1 + acc.size ≤ 9223372036854775807 from by omega]
      exact Ev.now _
theorem markText_ev (n : Int) (h : n ≤ 10000000000000) : Ev (fun k => laws_markText.f k n) (markOf n) := by
  simp only [laws_markText.f]
  unfold markOf
  by_cases h0 : n ≤ 0
  · simp only [h0, ↓reduceIte]; exact Ev.now _
  · simp only [h0, ↓reduceIte]
    obtain ⟨m, rfl⟩ := Int.eq_ofNat_of_zero_le (show 0 ≤ n by omega)
    exact markText_l0 m (by omega) _ (by show 0 + m ≤ _; omega)

/-! a flash is marked, and holds its marks -/
def mL : List S59 → Int → List S59
  | [], _ => []
  | _ :: t, k => ⟨k, markOf (k + 1)⟩ :: mL t (k + 2)
theorem mL_len : ∀ (l : List S59) (k : Int), (mL l k).length = l.length
  | [], _ => rfl
  | _ :: t, k => by simp [mL, mL_len t (k + 2)]
theorem rd_setL (l : List S59) (i : Nat) (h : i < l.length) (v : S59) : rd_T59 (l.set i v) (i : Int) = v := by
  rw [rd_ML _ i (by rw [List.length_set]; exact h), List.getElem_set_self]
theorem markLeafS_l0 : ∀ (d i : Nat) (l : List S59), i + d = l.length → l.length ≤ 1048576 → ∀ k0 : Int, 0 ≤ k0 → k0 + 2 * d ≤ 9000000000000 →
    Ev (fun k => laws_markLeafS.l0 k l k0 (i : Int)) (k0 + 2 * d, l.take i ++ mL (l.drop i) k0) := by
  intro d
  induction d with
  | zero =>
    intro i l hi hl k0 h0 h1
    obtain rfl : i = l.length := by omega
    refine ev_st ?_
    simp only [laws_markLeafS.l0, show ¬ ((l.length : Int) < (l.length : Int)) from by omega, ↓reduceIte, List.take_length, drop_len, mL, List.append_nil]
    rw [show k0 + 2 * ((0 : Nat) : Int) = k0 from by omega]
    exact Ev.now _
  | succ d ih =>
    intro i l hi hl k0 h0 h1
    have hlt : i < l.length := by omega
    have e1 : wrap64 (k0 + 1) = k0 + 1 := w64 (by omega) (by omega)
    have e2 : wrap64 (k0 + 1 + 1) = k0 + 2 := by rw [w64 (by omega) (by omega)]; omega
    have e4 : wrap64 ((i : Int) + 1) = ((i + 1 : Nat) : Int) := by rw [w64 (by omega) (by omega)]; omega
    refine ev_st ?_
    simp only [laws_markLeafS.l0, show (i : Int) < (l.length : Int) from by omega, show (0 : Int) ≤ (i : Int) from by omega, ↓reduceIte, Option.bind_some, Int.toNat_natCast, e1, e2, e4, List.set_set, rd_setL l i hlt]
    refine Ev.bind (markText_ev (k0 + 1) (by omega)) ?_
    have g := ih (i + 1) (l.set i ⟨k0, markOf (k0 + 1)⟩) (by rw [List.length_set]; omega) (by rw [List.length_set]; exact hl) (k0 + 2) (by omega) (by omega)
    have q1 : (l.set i ⟨k0, markOf (k0 + 1)⟩).take (i + 1) = l.take i ++ [⟨k0, markOf (k0 + 1)⟩] := by
      rw [List.take_succ_eq_append_getElem (by rw [List.length_set]; exact hlt), List.getElem_set_self, List.take_set_of_le (Nat.le_refl _)]
    have q2 : (l.set i ⟨k0, markOf (k0 + 1)⟩).drop (i + 1) = l.drop (i + 1) := by rw [List.drop_set_of_lt (by omega)]
    rw [q1, q2] at g
    rw [List.drop_eq_getElem_cons hlt, mL]
    rw [List.append_assoc] at g
    rw [show k0 + 2 * ((d + 1 : Nat) : Int) = k0 + 2 + 2 * (d : Int) from by omega]
    exact g
theorem markLeafS_ev (l : List S59) (hl : l.length ≤ 1048576) (k0 : Int) (h0 : 0 ≤ k0) (h1 : k0 ≤ 8000000000000) : Ev (fun k => laws_markLeafS.f k l k0) (k0 + 2 * (l.length : Int), mL l k0) :=
  markLeafS_l0 l.length 0 l (by omega) hl k0 h0 (by omega)
def mB : List S57 → Int → List S57
  | [], _ => []
  | b :: t, k => ⟨decide (Int.tmod k 3 = 0), k + 1, mL b.f2 (k + 2)⟩ :: mB t (k + 2 + 2 * (b.f2.length : Int))
def kB : List S57 → Int → Int
  | [], k => k
  | b :: t, k => kB t (k + 2 + 2 * (b.f2.length : Int))
theorem mB_len : ∀ (l : List S57) (k : Int), (mB l k).length = l.length
  | [], _ => rfl
  | b :: t, k => by simp [mB, mB_len t]
theorem kB_ge : ∀ (l : List S57) (k : Int), k ≤ kB l k
  | [], _ => Int.le_refl _
  | b :: t, k => by
    have := kB_ge t (k + 2 + 2 * (b.f2.length : Int))
    simp only [kB]
    omega
def Few (l : List S57) : Prop := ∀ b ∈ l, b.f2.length ≤ 1048576
theorem markBlockS_l0_ : ∀ (d i : Nat) (l : List S57), i + d = l.length → l.length ≤ 1048576 → Few (l.drop i) → ∀ k0 : Int, 0 ≤ k0 → k0 + 2097154 * d ≤ 7000000000000 →
    Ev (fun k => laws_markBlockS.l0 k l k0 (i : Int)) (kB (l.drop i) k0, l.take i ++ mB (l.drop i) k0) := by
  intro d
  induction d with
  | zero =>
    intro i l hi hl _ k0 h0 h1
    obtain rfl : i = l.length := by omega
    refine ev_st ?_
    simp only [laws_markBlockS.l0, show ¬ ((l.length : Int) < (l.length : Int)) from by omega, ↓reduceIte, List.take_length, drop_len, mB, kB, List.append_nil]
    exact Ev.now _
  | succ d ih =>
    intro i l hi hl hf k0 h0 h1
    have hlt : i < l.length := by omega
    have e1 : wrap64 (k0 + 1) = k0 + 1 := w64 (by omega) (by omega)
    have e2 : wrap64 (k0 + 1 + 1) = k0 + 2 := by rw [w64 (by omega) (by omega)]; omega
    have e4 : wrap64 ((i : Int) + 1) = ((i + 1 : Nat) : Int) := by rw [w64 (by omega) (by omega)]; omega
    rw [List.drop_eq_getElem_cons hlt] at hf ⊢
    have hb : l[i].f2.length ≤ 1048576 := hf _ (List.mem_cons_self ..)
    refine ev_st ?_
    simp only [laws_markBlockS.l0, show (i : Int) < (l.length : Int) from by omega, show (0 : Int) ≤ (i : Int) from by omega, ↓reduceIte, Int.toNat_natCast, e1, e2, e4, rd_MB l i hlt]
    refine Ev.bind (markLeafS_ev l[i].f2 hb (k0 + 2) (by omega) (by omega)) ?_
    have g := ih (i + 1) (l.set i ⟨decide (Int.tmod k0 3 = 0), k0 + 1, mL l[i].f2 (k0 + 2)⟩) (by rw [List.length_set]; omega) (by rw [List.length_set]; exact hl) (by rw [List.drop_set_of_lt (by omega)]; exact fun b hb => hf b (List.mem_cons_of_mem _ hb)) (k0 + 2 + 2 * (l[i].f2.length : Int)) (by omega) (by omega)
    have q1 : (l.set i (⟨decide (Int.tmod k0 3 = 0), k0 + 1, mL l[i].f2 (k0 + 2)⟩ : S57)).take (i + 1) = l.take i ++ [⟨decide (Int.tmod k0 3 = 0), k0 + 1, mL l[i].f2 (k0 + 2)⟩] := by
      rw [List.take_succ_eq_append_getElem (by rw [List.length_set]; exact hlt), List.getElem_set_self, List.take_set_of_le (Nat.le_refl _)]
    have q2 : (l.set i (⟨decide (Int.tmod k0 3 = 0), k0 + 1, mL l[i].f2 (k0 + 2)⟩ : S57)).drop (i + 1) = l.drop (i + 1) := by rw [List.drop_set_of_lt (by omega)]
    rw [q1, q2, List.append_assoc] at g
    simp only [mB, kB]
    exact g
theorem markFlash_ev (l : List S57) (hl : l.length ≤ 1048576) (hf : Few l) : Ev (fun k => laws_markFlash.f k l 1) (kB l 1, mB l 1) :=
  markBlockS_l0_ l.length 0 l (by omega) hl (by rw [List.drop_zero]; exact hf) 1 (by omega) (by omega)

/-! ### Found pages: a row is one with itself; it is marked, and holds its marks -/
theorem eqFound_self (a b c d e f g : Int) (t : ByteArray) : laws_eqFound.f a b c d e f g t a b c d e f g t = some true := by
  simp [laws_eqFound.f, laws_eqPage.f]
theorem eqFoundS_l0 (l : List S43) (hl : l.length ≤ 1099511627776) : ∀ (d i : Nat), i + d = l.length → Ev (fun k => laws_eqFoundS.l0 k l l (i : Int)) true := by
  intro d
  induction d with
  | zero =>
    intro i hi
    refine ev_st ?_
    simp only [laws_eqFoundS.l0, show ¬ ((i : Int) < (l.length : Int)) from by omega, ↓reduceIte]
    exact Ev.now _
  | succ d ih =>
    intro i hi
    refine ev_st ?_
    simp only [laws_eqFoundS.l0, show (i : Int) < (l.length : Int) from by omega, show (0 : Int) ≤ (i : Int) from by omega, ↓reduceIte, eqFound_self, Option.bind_some, wsucc i l.length (by omega) (by omega)]
    exact ih (i + 1) (by omega)
theorem eqFoundS_ev (l : List S43) (hl : l.length ≤ 1099511627776) : Ev (fun k => laws_eqFoundS.f k l l) true := by
  simp only [laws_eqFoundS.f, ↓reduceIte]
  exact eqFoundS_l0 l hl l.length 0 (by omega)
def oneF (k : Int) : S43 := ⟨k, k + 1, (⟨k + 2, k + 3, k + 4, k + 5, k + 6, markOf (k + 7)⟩ : S41)⟩
def mF : List S43 → Int → List S43
  | [], _ => []
  | _ :: t, k => oneF k :: mF t (k + 8)
theorem mF_len : ∀ (l : List S43) (k : Int), (mF l k).length = l.length
  | [], _ => rfl
  | _ :: t, k => by simp [mF, mF_len t (k + 8)]
theorem w8 (k0 : Int) (h0 : 0 ≤ k0) (h1 : k0 ≤ 9000000000000) : wrap64 (k0 + 1) = k0 + 1 ∧ wrap64 (k0 + 1 + 1) = k0 + 2 ∧ wrap64 (k0 + 2 + 1) = k0 + 3 ∧ wrap64 (k0 + 3 + 1) = k0 + 4 ∧ wrap64 (k0 + 4 + 1) = k0 + 5 ∧ wrap64 (k0 + 5 + 1) = k0 + 6 ∧ wrap64 (k0 + 6 + 1) = k0 + 7 ∧ wrap64 (k0 + 7 + 1) = k0 + 8 := by
  refine ⟨?_, ?_, ?_, ?_, ?_, ?_, ?_, ?_⟩ <;> rw [w64 (by omega) (by omega)] <;> omega
theorem markFoundS_l0 : ∀ (d i : Nat) (l : List S43), i + d = l.length → l.length ≤ 1099511627776 → ∀ k0 : Int, 0 ≤ k0 → k0 + 8 * d ≤ 9000000000000 →
    Ev (fun k => laws_markFoundS.l0 k l k0 (i : Int)) (k0 + 8 * d, l.take i ++ mF (l.drop i) k0) := by
  intro d
  induction d with
  | zero =>
    intro i l hi hl k0 h0 h1
    obtain rfl : i = l.length := by omega
    refine ev_st ?_
    simp only [laws_markFoundS.l0, show ¬ ((l.length : Int) < (l.length : Int)) from by omega, ↓reduceIte, List.take_length, drop_len, mF, List.append_nil]
    rw [show k0 + 8 * ((0 : Nat) : Int) = k0 from by omega]
    exact Ev.now _
  | succ d ih =>
    intro i l hi hl k0 h0 h1
    have hlt : i < l.length := by omega
    obtain ⟨e1, e2, e3, e4, e5, e6, e7, e8⟩ := w8 k0 h0 (by omega)
    refine ev_st ?_
    simp only [laws_markFoundS.l0, show (i : Int) < (l.length : Int) from by omega, show (0 : Int) ≤ (i : Int) from by omega, ↓reduceIte, Int.toNat_natCast, e1, e2, e3, e4, e5, e6, e7, e8, wsucc i l.length hlt (by omega)]
    refine Ev.bind (markText_ev (k0 + 7) (by omega)) ?_
    have g := ih (i + 1) (l.set i (oneF k0)) (by rw [List.length_set]; omega) (by rw [List.length_set]; exact hl) (k0 + 8) (by omega) (by omega)
    have q1 : (l.set i (oneF k0)).take (i + 1) = l.take i ++ [oneF k0] := by
      rw [List.take_succ_eq_append_getElem (by rw [List.length_set]; exact hlt), List.getElem_set_self, List.take_set_of_le (Nat.le_refl _)]
    have q2 : (l.set i (oneF k0)).drop (i + 1) = l.drop (i + 1) := by rw [List.drop_set_of_lt (by omega)]
    rw [q1, q2] at g
    rw [List.drop_eq_getElem_cons hlt, mF]
    rw [List.append_assoc] at g
    rw [show k0 + 8 * ((d + 1 : Nat) : Int) = k0 + 8 + 8 * (d : Int) from by omega]
    exact g
theorem markFoundS_ev (l : List S43) (hl : l.length ≤ 1099511627776) : Ev (fun k => laws_markFoundS.f k l 1) (1 + 8 * (l.length : Int), mF l 1) :=
  markFoundS_l0 l.length 0 l (by omega) hl 1 (by omega) (by omega)
theorem heldFoundS_l0 (l : List S43) (hl : l.length ≤ 1099511627776) : ∀ (d i : Nat), i + d = l.length → ∀ (m : List S43) (k0 : Int), l.drop i = mF m k0 → 0 ≤ k0 → k0 + 8 * d ≤ 9000000000000 →
    Ev (fun k => laws_heldFoundS.l0 k l k0 (i : Int)) (k0 + 8 * d) := by
  intro d
  induction d with
  | zero =>
    intro i hi m k0 hm h0 h1
    obtain rfl : i = l.length := by omega
    refine ev_st ?_
    simp only [laws_heldFoundS.l0, show ¬ ((l.length : Int) < (l.length : Int)) from by omega, ↓reduceIte]
    rw [show k0 + 8 * ((0 : Nat) : Int) = k0 from by omega]
    exact Ev.now _
  | succ d ih =>
    intro i hi m k0 hm h0 h1
    have hlt : i < l.length := by omega
    obtain ⟨e1, e2, e3, e4, e5, e6, e7, e8⟩ := w8 k0 h0 (by omega)
    rw [List.drop_eq_getElem_cons hlt] at hm
    cases m with
    | nil => simp [mF] at hm; omega
    | cons x t =>
      rw [mF, List.cons.injEq] at hm
      have hx := rd_MFa l i hlt
      rw [hm.1] at hx
      refine ev_st ?_
      simp only [laws_heldFoundS.l0, show (i : Int) < (l.length : Int) from by omega, show (0 : Int) ≤ (i : Int) from by omega, ↓reduceIte, e1, e2, e3, e4, e5, e6, e7, e8, wsucc i l.length hlt (by omega), hx, oneF]
      refine Ev.bind (markText_ev (k0 + 7) (by omega)) ?_
      simp only [↓reduceIte]
      rw [show k0 + 8 * ((d + 1 : Nat) : Int) = k0 + 8 + 8 * (d : Int) from by omega]
      exact ih (i + 1) (by omega) t (k0 + 8) hm.2 (by omega) (by omega)
theorem heldFoundS_ev (l : List S43) (hl : l.length ≤ 1099511627776) : Ev (fun k => laws_heldFoundS.f k (mF l 1) 1) (1 + 8 * (l.length : Int)) := by
  have g := heldFoundS_l0 (mF l 1) (by rw [mF_len]; exact hl) (mF l 1).length 0 (by omega) l 1 rfl (by omega) (by rw [mF_len]; omega)
  rw [mF_len] at g
  exact g

theorem FnExactScanAll : Plain := by
  intro l hl
  refine Ev.rounds ?_
  simp only [laws_FnExactScanAll.f]
  obtain ⟨r, hr, hall⟩ := szFlash_ev l (fitsF l hl)
  refine Ev.bind hr ?_
  by_cases hn : r < 0
  · simp only [hn, ↓reduceIte]; exact Ev.now _
  · have hs := hall (by omega)
    have hm := small_toB hs
    have hg := (scan_facts _ hm).2.2
    simp only [hn, ↓reduceIte]
    refine Ev.bind (toFlash_ev l hs) (Ev.bind (spec_ScanAll_ev _ hm) (Ev.bind (impl_ScanAll_ev _ hm) (Ev.bind (eqFoundS_ev _ hg) (Ev.bind (eqFlash_ev _ hm) (Ev.bind (markFlash_ev _ hm.1 (fun b hb => (hm.2 b hb).1)) (Ev.bind (markFoundS_ev _ hg) (Ev.bind (heldFoundS_ev _ hg) ?_)))))))
    have k1 := kB_ge (l.map toB) 1
    rw [if_pos ⟨rfl, rfl, by omega, rfl, by omega⟩]
    exact Ev.now _

end Go.Proofs.Ythbdijeikfgjeaa.Pure
