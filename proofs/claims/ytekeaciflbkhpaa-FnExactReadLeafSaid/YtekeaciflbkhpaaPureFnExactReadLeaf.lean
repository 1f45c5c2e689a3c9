/- What is proved here: the law FnExactReadLeaf, told as a plain function over numbers and lists, answers true at all arguments. Conditions: those of the row alone, none of ours. -/
import Derived.Test.YtekeaciflbkhpaaGFnExactReadLeaf
import Derived.Test.YtekeaciflbkhpaaKit
namespace Go.Proofs.Ytekeaciflbkhpaa.Pure
open Go.RowKit Go.Proofs.Ytekeaciflbkhpaa.QFnExactReadLeaf Go.Proofs.Ytekeaciflbkhpaa.GFnExactReadLeaf Go.Proofs.YtekeaciflbkhpaaW.PrintWords Go.Proofs.YtekeaciflbkhpaaW.PrintLast Go.Proofs.Ytekeaciflbkhpaa.Kit Go.Proofs.YtekeaciflbkhpaaW.PrintMore
set_option linter.unusedSimpArgs false
set_option linter.unusedVariables false

theorem spec_l01In_eq (a b c : Int) : spec_l01In.f a b c = some (decide (b ≤ a ∧ a ≤ c)) := by
  unfold spec_l01In.f
  by_cases h : b ≤ a <;> simp [h, GE.ge]

theorem impl_in_eq (a b c : Int) : impl_in.f a b c = some (decide (b ≤ a ∧ a ≤ c)) := by
  unfold impl_in.f
  by_cases h : b ≤ a <;> simp [h, GE.ge]

/-! leaves: read, measured, copied, held against each other -/
theorem rd_LL (xs : List S119) (i : Nat) (h : i < xs.length) : rd_T119 xs (i : Int) = xs[i] := by
  unfold rd_T119; rw [Int.toNat_natCast, List.getD_eq_getElem?_getD, List.getElem?_eq_getElem h]; rfl
theorem rd_ML (xs : List S96) (i : Nat) (h : i < xs.length) : rd_T96 xs (i : Int) = xs[i] := by
  unfold rd_T96; rw [Int.toNat_natCast, List.getD_eq_getElem?_getD, List.getElem?_eq_getElem h]; rfl
theorem drop_at {α : Type} (xs : List α) (i : Nat) (h : i < xs.length) : xs.drop i = xs[i] :: xs.drop (i + 1) := List.drop_eq_getElem_cons h
theorem drop_len {α : Type} (xs : List α) : xs.drop xs.length = [] := List.drop_eq_nil_of_le (Nat.le_refl _)
theorem wsucc (i n : Nat) (h : i < n) (hn : n ≤ 9223372036854775807) : wrap64 ((i : Int) + 1) = ((i + 1 : Nat) : Int) := by rw [w64 (by omega) (by omega)]; omega
theorem szLeaf_eq (a : Int) (b : ByteArray) (left : Int) (hb : b.size ≤ 9223372036854775807) (h0 : 0 ≤ left) (h1 : left ≤ 1048576) :
    laws_szLeaf.f a b left = some (if left - (b.size : Int) < 0 then -1 else left - (b.size : Int)) := by
  unfold laws_szLeaf.f
  rw [w64 (by omega) (by omega)]
  split <;> rfl
theorem szLeafS_l0 (l : List S119) (hl : l.length ≤ 9223372036854775807) (hs : ∀ x ∈ l, x.f1.size ≤ 9223372036854775807) : ∀ (d i : Nat), i + d = l.length → ∀ left : Int, 0 ≤ left → left ≤ 1048576 →
    ∃ r : Int, Ev (fun k => laws_szLeafS.l0 k l left (i : Int)) r ∧ r ≤ left ∧ (0 ≤ r → ∀ x ∈ l.drop i, (x.f1.size : Int) ≤ left) := by
  intro d
  induction d with
  | zero =>
    intro i hi left h0 h1
    obtain rfl : i = l.length := by omega
    refine ⟨left, ev_st ?_, Int.le_refl _, fun _ => by rw [drop_len]; simp⟩
    simp only [laws_szLeafS.l0, show ¬ ((l.length : Int) < (l.length : Int)) from by omega, ↓reduceIte]
    exact Ev.now _
  | succ d ih =>
    intro i hi left h0 h1
    have hlt : i < l.length := by omega
    have hx := hs l[i] (List.getElem_mem hlt)
    have e := szLeaf_eq l[i].f0 l[i].f1 left hx h0 h1
    by_cases hneg : left - (l[i].f1.size : Int) < 0
    · refine ⟨-1, ev_st ?_, by omega, fun h => by omega⟩
      simp only [laws_szLeafS.l0, show (i : Int) < (l.length : Int) from by omega, show (0 : Int) ≤ (i : Int) from by omega, ↓reduceIte, rd_LL l i hlt, e, hneg, Option.bind_some, show (-1 : Int) < 0 from by omega]
      exact Ev.now _
    · obtain ⟨r, hr, hle, hall⟩ := ih (i + 1) (by omega) (left - (l[i].f1.size : Int)) (by omega) (by omega)
      refine ⟨r, ev_st ?_, by omega, fun h => ?_⟩
      · simp only [laws_szLeafS.l0, show (i : Int) < (l.length : Int) from by omega, show (0 : Int) ≤ (i : Int) from by omega, ↓reduceIte, rd_LL l i hlt, e, hneg, Option.bind_some, wsucc i l.length hlt hl]
        exact hr
      · rw [drop_at l i hlt]
        intro x hx
        rcases List.mem_cons.1 hx with rfl | hx
        · omega
        · have := hall h x hx; omega
theorem szLeafS_ev (l : List S119) (hl : l.length ≤ 9223372036854775807) (hs : ∀ x ∈ l, x.f1.size ≤ 9223372036854775807) (left : Int) (h0 : 0 ≤ left) (h1 : left ≤ 1048576) :
    ∃ r : Int, Ev (fun k => laws_szLeafS.f k l left) r ∧ r ≤ left ∧ (0 ≤ r → (l.length : Int) ≤ left ∧ ∀ x ∈ l, (x.f1.size : Int) ≤ left) := by
  have e : wrap64 (left - (l.length : Int)) = left - (l.length : Int) := w64 (by omega) (by omega)
  by_cases hneg : left - (l.length : Int) < 0
  · refine ⟨-1, ?_, by omega, fun h => by omega⟩
    simp only [laws_szLeafS.f, e, hneg, ↓reduceIte]
    exact Ev.now _
  · obtain ⟨r, hr, hle, hall⟩ := szLeafS_l0 l hl hs l.length 0 (by omega) (left - (l.length : Int)) (by omega) (by omega)
    refine ⟨r, ?_, by omega, fun h => ⟨by omega, fun x hx => by have := hall h x (by simpa using hx); omega⟩⟩
    simp only [laws_szLeafS.f, e, hneg, ↓reduceIte]
    exact hr
def toL (x : S119) : S96 := ⟨x.f0, x.f1⟩
theorem set_mid {α : Type} (p r : List α) (z v : α) (i : Nat) (h : p.length = i) : (p ++ z :: r).set i v = (p ++ [v]) ++ r := by
  subst h
  simp
theorem toLeafS_l0 (l : List S119) (hl : l.length ≤ 1048576) : ∀ (d i : Nat), i + d = l.length →
    Ev (fun k => laws_toLeafS.l0 k l ((l.take i).map toL ++ List.replicate d z96) (i : Int)) (l.map toL) := by
  intro d
  induction d with
  | zero =>
    intro i hi
    obtain rfl : i = l.length := by omega
    refine ev_st ?_
    simp only [laws_toLeafS.l0, show ¬ ((l.length : Int) < (l.length : Int)) from by omega, ↓reduceIte, List.take_length, List.replicate_zero, List.append_nil]
    exact Ev.now _
  | succ d ih =>
    intro i hi
    have hlt : i < l.length := by omega
    have hlen : ((l.take i).map toL ++ List.replicate (d + 1) z96).length = l.length := by simp; omega
    have hset : ((l.take i).map toL ++ List.replicate (d + 1) z96).set i (⟨l[i].f0, l[i].f1⟩ : S96) = (l.take (i + 1)).map toL ++ List.replicate d z96 := by
      rw [List.replicate_succ, set_mid _ _ _ _ _ (by simp; omega), List.take_succ_eq_append_getElem hlt, List.map_append]
      rfl
    refine ev_st ?_
    simp only [laws_toLeafS.l0, show (i : Int) < (l.length : Int) from by omega, show (0 : Int) ≤ (i : Int) from by omega, ↓reduceIte, rd_LL l i hlt, laws_toLeaf.f, Option.bind_some, hlen, Int.toNat_natCast, hset, wsucc i l.length hlt (by omega)]
    exact ih (i + 1) (by omega)
theorem toLeafS_ev (l : List S119) (hl : l.length ≤ 1048576) : Ev (fun k => laws_toLeafS.f k l) (l.map toL) := by
  have h := toLeafS_l0 l hl l.length 0 (by omega)
  simp only [laws_toLeafS.f, show (0 : Int) ≤ (l.length : Int) from by omega, Int.toNat_natCast, ↓reduceIte]
  split
  · exact h
  · omega
theorem eqLeafS_l0 (l : List S96) (hl : l.length ≤ 1048576) : ∀ (d i : Nat), i + d = l.length → Ev (fun k => laws_eqLeafS.l0 k l l (i : Int)) true := by
  intro d
  induction d with
  | zero =>
    intro i hi
    obtain rfl : i = l.length := by omega
    refine ev_st ?_
    simp only [laws_eqLeafS.l0, show ¬ ((l.length : Int) < (l.length : Int)) from by omega, ↓reduceIte]
    exact Ev.now _
  | succ d ih =>
    intro i hi
    have hlt : i < l.length := by omega
    refine ev_st ?_
    simp only [laws_eqLeafS.l0, show (i : Int) < (l.length : Int) from by omega, show (0 : Int) ≤ (i : Int) from by omega, ↓reduceIte, laws_eqLeaf.f, Option.bind_some, wsucc i l.length hlt (by omega)]
    exact ih (i + 1) (by omega)
theorem eqLeafS_ev (l : List S96) (hl : l.length ≤ 1048576) : Ev (fun k => laws_eqLeafS.f k l l) true := by
  simp only [laws_eqLeafS.f, ↓reduceIte]
  exact eqLeafS_l0 l hl l.length 0 (by omega)
theorem szBlock_ev (a : Bool) (b : Int) (l : List S119) (hl : l.length ≤ 9223372036854775807) (hs : ∀ x ∈ l, x.f1.size ≤ 9223372036854775807) (left : Int) (h0 : 0 ≤ left) (h1 : left ≤ 1048576) :
    ∃ r : Int, Ev (fun k => laws_szBlock.f k a b l left) r ∧ r ≤ left ∧ (0 ≤ r → (l.length : Int) ≤ left ∧ ∀ x ∈ l, (x.f1.size : Int) ≤ left) := by
  obtain ⟨r, hr, hle, hall⟩ := szLeafS_ev l hl hs left h0 h1
  by_cases hn : r < 0
  · refine ⟨-1, ?_, by omega, fun h => by omega⟩
    refine Ev.bind hr ?_
    simp only [hn, ↓reduceIte]
    exact Ev.now _
  · refine ⟨r, ?_, hle, hall⟩
    refine Ev.bind hr ?_
    simp only [hn, ↓reduceIte]
    exact Ev.now _
theorem toBlock_ev (a : Bool) (b : Int) (l : List S119) (hl : l.length ≤ 1048576) : Ev (fun k => laws_toBlock.f k a b l) (a, b, l.map toL) := Ev.bind (toLeafS_ev l hl) (Ev.now _)
theorem eqBlock_ev (a : Bool) (b : Int) (l : List S96) (hl : l.length ≤ 1048576) : Ev (fun k => laws_eqBlock.f k a b l a b l) true := by
  simp only [laws_eqBlock.f, bne_self_eq_false, Bool.false_eq_true, ↓reduceIte]
  refine Ev.bind (eqLeafS_ev l hl) ?_
  simp only [↓reduceIte]
  exact Ev.now _

/-! a flash: read, measured, copied, held against another -/
theorem rd_LB (xs : List S40) (i : Nat) (h : i < xs.length) : rd_T40 xs (i : Int) = xs[i] := by
  unfold rd_T40; rw [Int.toNat_natCast, List.getD_eq_getElem?_getD, List.getElem?_eq_getElem h]; rfl
theorem rd_MB (xs : List S45) (i : Nat) (h : i < xs.length) : rd_T45 xs (i : Int) = xs[i] := by
  unfold rd_T45; rw [Int.toNat_natCast, List.getD_eq_getElem?_getD, List.getElem?_eq_getElem h]; rfl
/-- No part of it takes more than the law looks at. -/
def SmallF (l : List S40) : Prop := l.length ≤ 1048576 ∧ ∀ b ∈ l, b.f2.length ≤ 1048576 ∧ ∀ x ∈ b.f2, x.f1.size ≤ 1048576
def FitsF (l : List S40) : Prop := l.length ≤ 9223372036854775807 ∧ ∀ b ∈ l, b.f2.length ≤ 9223372036854775807 ∧ ∀ x ∈ b.f2, x.f1.size ≤ 9223372036854775807
theorem szBlockS_l0 (l : List S40) (hf : FitsF l) : ∀ (d i : Nat), i + d = l.length → ∀ left : Int, 0 ≤ left → left ≤ 1048576 →
    ∃ r : Int, Ev (fun k => laws_szBlockS.l0 k l left (i : Int)) r ∧ r ≤ left ∧ (0 ≤ r → ∀ b ∈ l.drop i, b.f2.length ≤ 1048576 ∧ ∀ x ∈ b.f2, x.f1.size ≤ 1048576) := by
  obtain ⟨hl, hs⟩ := hf
  intro d
  induction d with
  | zero =>
    intro i hi left h0 h1
    obtain rfl : i = l.length := by omega
    refine ⟨left, ev_st ?_, Int.le_refl _, fun _ => by rw [drop_len]; simp⟩
    simp only [laws_szBlockS.l0, show ¬ ((l.length : Int) < (l.length : Int)) from by omega, ↓reduceIte]
    exact Ev.now _
  | succ d ih =>
    intro i hi left h0 h1
    have hlt : i < l.length := by omega
    have hx := hs l[i] (List.getElem_mem hlt)
    obtain ⟨t, ht, htle, htall⟩ := szBlock_ev l[i].f0 l[i].f1 l[i].f2 hx.1 hx.2 left h0 h1
    by_cases hneg : t < 0
    · refine ⟨-1, ev_st ?_, by omega, fun h => by omega⟩
      simp only [laws_szBlockS.l0, show (i : Int) < (l.length : Int) from by omega, show (0 : Int) ≤ (i : Int) from by omega, ↓reduceIte, rd_LB l i hlt]
      refine Ev.bind ht ?_
      simp only [hneg, ↓reduceIte]
      exact Ev.now _
    · obtain ⟨r, hr, hle, hall⟩ := ih (i + 1) (by omega) t (by omega) (by omega)
      refine ⟨r, ev_st ?_, by omega, fun h => ?_⟩
      · simp only [laws_szBlockS.l0, show (i : Int) < (l.length : Int) from by omega, show (0 : Int) ≤ (i : Int) from by omega, ↓reduceIte, rd_LB l i hlt, wsucc i l.length hlt hl]
        refine Ev.bind ht ?_
        simp only [hneg, ↓reduceIte]
        exact hr
      · rw [drop_at l i hlt]
        intro b hb
        rcases List.mem_cons.1 hb with rfl | hb
        · have q := htall (by omega)
          exact ⟨by omega, fun x hx => by have := q.2 x hx; omega⟩
        · exact hall h b hb
theorem szFlash_ev (l : List S40) (hf : FitsF l) : ∃ r : Int, Ev (fun k => laws_szFlash.f k l 1048576) r ∧ (0 ≤ r → SmallF l) := by
  have hl := hf.1
  have e : wrap64 (1048576 - (l.length : Int)) = 1048576 - (l.length : Int) := w64 (by omega) (by omega)
  by_cases hneg : 1048576 - (l.length : Int) < 0
  · refine ⟨-1, ?_, fun h => by omega⟩
    simp only [laws_szFlash.f]
    refine Ev.bind (a := -1) ?_ ?_
    · simp only [laws_szBlockS.f, e, hneg, ↓reduceIte]
      exact Ev.now _
    · simp only [show (-1 : Int) < 0 from by omega, ↓reduceIte]
      exact Ev.now _
  · obtain ⟨r, hr, hle, hall⟩ := szBlockS_l0 l hf l.length 0 (by omega) (1048576 - (l.length : Int)) (by omega) (by omega)
    by_cases hn : r < 0
    · refine ⟨-1, ?_, fun h => by omega⟩
      simp only [laws_szFlash.f]
      refine Ev.bind (a := r) ?_ ?_
      · simp only [laws_szBlockS.f, e, hneg, ↓reduceIte]
        exact hr
      · simp only [hn, ↓reduceIte]
        exact Ev.now _
    · refine ⟨r, ?_, fun h => ⟨by omega, fun b hb => hall h b (by simpa using hb)⟩⟩
      simp only [laws_szFlash.f]
      refine Ev.bind (a := r) ?_ ?_
      · simp only [laws_szBlockS.f, e, hneg, ↓reduceIte]
        exact hr
      · simp only [hn, ↓reduceIte]
        exact Ev.now _
def toB (x : S40) : S45 := ⟨x.f0, x.f1, x.f2.map toL⟩
theorem toBlockS_l0 (l : List S40) (hf : SmallF l) : ∀ (d i : Nat), i + d = l.length →
    Ev (fun k => laws_toBlockS.l0 k l ((l.take i).map toB ++ List.replicate d z45) (i : Int)) (l.map toB) := by
  obtain ⟨hl, hs⟩ := hf
  intro d
  induction d with
  | zero =>
    intro i hi
    obtain rfl : i = l.length := by omega
    refine ev_st ?_
    simp only [laws_toBlockS.l0, show ¬ ((l.length : Int) < (l.length : Int)) from by omega, ↓reduceIte, List.take_length, List.replicate_zero, List.append_nil]
    exact Ev.now _
  | succ d ih =>
    intro i hi
    have hlt : i < l.length := by omega
    have hlen : ((l.take i).map toB ++ List.replicate (d + 1) z45).length = l.length := by simp; omega
    have hset : ((l.take i).map toB ++ List.replicate (d + 1) z45).set i (⟨l[i].f0, l[i].f1, l[i].f2.map toL⟩ : S45) = (l.take (i + 1)).map toB ++ List.replicate d z45 := by
      rw [List.replicate_succ, set_mid _ _ _ _ _ (by simp; omega), List.take_succ_eq_append_getElem hlt, List.map_append]
      rfl
    refine ev_st ?_
    simp only [laws_toBlockS.l0, show (i : Int) < (l.length : Int) from by omega, show (0 : Int) ≤ (i : Int) from by omega, ↓reduceIte, rd_LB l i hlt, hlen, Int.toNat_natCast, wsucc i l.length hlt (by omega)]
    refine Ev.bind (toBlock_ev l[i].f0 l[i].f1 l[i].f2 (hs l[i] (List.getElem_mem hlt)).1) ?_
    simp only [hset]
    exact ih (i + 1) (by omega)
theorem toFlash_ev (l : List S40) (hf : SmallF l) : Ev (fun k => laws_toFlash.f k l) (l.map toB) := by
  have h := toBlockS_l0 l hf l.length 0 (by omega)
  refine Ev.bind ?_ (Ev.now _)
  simp only [laws_toBlockS.f, show (0 : Int) ≤ (l.length : Int) from by omega, Int.toNat_natCast, ↓reduceIte]
  split
  · exact h
  · have := hf.1; omega
def SmallM (l : List S45) : Prop := l.length ≤ 1048576 ∧ ∀ b ∈ l, b.f2.length ≤ 1048576 ∧ ∀ x ∈ b.f2, x.f1.size ≤ 1048576
theorem small_toB {l : List S40} (h : SmallF l) : SmallM (l.map toB) := by
  refine ⟨by rw [List.length_map]; exact h.1, fun b hb => ?_⟩
  obtain ⟨c, hc, rfl⟩ := List.mem_map.1 hb
  refine ⟨by simp only [toB, List.length_map]; exact (h.2 c hc).1, fun x hx => ?_⟩
  obtain ⟨y, hy, rfl⟩ := List.mem_map.1 hx
  exact (h.2 c hc).2 y hy
theorem eqBlockS_l0 (l : List S45) (hf : SmallM l) : ∀ (d i : Nat), i + d = l.length → Ev (fun k => laws_eqBlockS.l0 k l l (i : Int)) true := by
  obtain ⟨hl, hs⟩ := hf
  intro d
  induction d with
  | zero =>
    intro i hi
    obtain rfl : i = l.length := by omega
    refine ev_st ?_
    simp only [laws_eqBlockS.l0, show ¬ ((l.length : Int) < (l.length : Int)) from by omega, ↓reduceIte]
    exact Ev.now _
  | succ d ih =>
    intro i hi
    have hlt : i < l.length := by omega
    refine ev_st ?_
    simp only [laws_eqBlockS.l0, show (i : Int) < (l.length : Int) from by omega, show (0 : Int) ≤ (i : Int) from by omega, ↓reduceIte, rd_MB l i hlt, wsucc i l.length hlt (by omega)]
    refine Ev.bind (eqBlock_ev _ _ _ (hs l[i] (List.getElem_mem hlt)).1) ?_
    simp only [↓reduceIte]
    exact ih (i + 1) (by omega)
theorem eqFlash_ev (l : List S45) (hf : SmallM l) : Ev (fun k => laws_eqFlash.f k l l) true := by
  refine Ev.bind (a := true) ?_ ?_
  · simp only [laws_eqBlockS.f, ↓reduceIte]
    exact eqBlockS_l0 l hf l.length 0 (by omega)
  · simp only [↓reduceIte]
    exact Ev.now _

theorem fitsF (l : List S40) (h : l.length ≤ 9223372036854775807 ∧ ∀ y ∈ l, G40 y) : FitsF l := ⟨h.1, fun b hb => ⟨(h.2 b hb).2.2.1, fun x hx => ((h.2 b hb).2.2.2 x hx).2⟩⟩

def readLeafOf (l : List S45) (a b : Int) : ByteArray × Bool :=
  if 0 ≤ a ∧ a ≤ (l.length : Int) - 1 then (if 0 ≤ b ∧ b ≤ ((rd_T45 l a).f2.length : Int) - 1 then (if (rd_T96 (rd_T45 l a).f2 b).f0 = 1 then ((rd_T96 (rd_T45 l a).f2 b).f1, true) else ((⟨#[]⟩ : ByteArray), false)) else ((⟨#[]⟩ : ByteArray), false)) else ((⟨#[]⟩ : ByteArray), false)
theorem spec_ReadLeaf_eq (l : List S45) (hf : SmallM l) (a b : Int) : spec_ReadLeaf.f l a b = some (readLeafOf l a b) := by
  have hl := hf.1
  unfold spec_ReadLeaf.f readLeafOf
  rw [w64 (n := (l.length : Int) - 1) (by omega) (by omega)]
  simp only [spec_l01In_eq, Option.bind_some, decide_eq_true_eq]
  by_cases h1 : 0 ≤ a ∧ a ≤ (l.length : Int) - 1
  · have hm : (rd_T45 l a).f2.length ≤ 1048576 := by
      obtain ⟨i, rfl⟩ := Int.eq_ofNat_of_zero_le h1.1
      rw [rd_MB l i (by omega)]
      exact (hf.2 _ (List.getElem_mem (show i < l.length by omega))).1
    rw [if_pos h1, if_pos h1, if_pos h1.1, if_pos (by omega), w64 (n := ((rd_T45 l a).f2.length : Int) - 1) (by omega) (by omega)]
    by_cases h2 : 0 ≤ b ∧ b ≤ ((rd_T45 l a).f2.length : Int) - 1
    · rw [if_pos h2, if_pos h2, if_pos h2.1, if_pos (by omega)]
      split <;> rfl
    · rw [if_neg h2, if_neg h2]
  · rw [if_neg h1, if_neg h1]
theorem impl_ReadLeaf_eq (l : List S45) (hf : SmallM l) (a b : Int) : impl_ReadLeaf.f l a b = some (readLeafOf l a b) := by
  have hl := hf.1
  unfold impl_ReadLeaf.f readLeafOf
  rw [w64 (n := (l.length : Int) - 1) (by omega) (by omega)]
  simp only [impl_in_eq, Option.bind_some, decide_eq_true_eq]
  by_cases h1 : 0 ≤ a ∧ a ≤ (l.length : Int) - 1
  · have hm : (rd_T45 l a).f2.length ≤ 1048576 := by
      obtain ⟨i, rfl⟩ := Int.eq_ofNat_of_zero_le h1.1
      rw [rd_MB l i (by omega)]
      exact (hf.2 _ (List.getElem_mem (show i < l.length by omega))).1
    rw [if_pos h1, if_pos h1, if_pos h1.1, if_pos (by omega), w64 (n := ((rd_T45 l a).f2.length : Int) - 1) (by omega) (by omega)]
    by_cases h2 : 0 ≤ b ∧ b ≤ ((rd_T45 l a).f2.length : Int) - 1
    · rw [if_pos h2, if_pos h2, if_pos h2.1, if_pos (by omega)]
      split <;> rfl
    · rw [if_neg h2, if_neg h2]
  · rw [if_neg h1, if_neg h1]

theorem FnExactReadLeaf : Plain := by
  intro l a b hl ha hb
  refine Ev.rounds ?_
  simp only [laws_FnExactReadLeaf.f]
  obtain ⟨r, hr, hall⟩ := szFlash_ev l (fitsF l hl)
  refine Ev.bind hr ?_
  by_cases hn : r < 0
  · simp only [hn, ↓reduceIte]; exact Ev.now _
  · have hs := hall (by omega)
    have hm := small_toB hs
    simp only [hn, ↓reduceIte]
    refine Ev.bind (toFlash_ev l hs) (Ev.bind (ev_some (spec_ReadLeaf_eq _ hm a b)) (Ev.bind (toFlash_ev l hs) (Ev.bind (ev_some (impl_ReadLeaf_eq _ hm a b)) ?_)))
    simp only [↓reduceIte, bne_self_eq_false]
    refine ev_st ?_
    simp only [laws_FnExactReadLeaf.j0, Bool.false_eq_true, ↓reduceIte]
    refine Ev.bind (toFlash_ev l hs) (Ev.bind (eqFlash_ev _ hm) ?_)
    simp only [↓reduceIte]
    exact Ev.now _

end Go.Proofs.Ytekeaciflbkhpaa.Pure
