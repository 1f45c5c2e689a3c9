/- What is proved here: the law FnExactOpenBlock, told as a plain function over numbers and lists, answers true at all arguments. Conditions: those of the row alone, none of ours. -/
import Derived.Test.YtekeaciflbkhpaaGFnExactOpenBlock
import Derived.Test.YtekeaciflbkhpaaKit
namespace Go.Proofs.Ytekeaciflbkhpaa.Pure
open Go.RowKit Go.Proofs.Ytekeaciflbkhpaa.QFnExactOpenBlock Go.Proofs.Ytekeaciflbkhpaa.GFnExactOpenBlock Go.Proofs.YtekeaciflbkhpaaW.PrintWords Go.Proofs.YtekeaciflbkhpaaW.PrintLast Go.Proofs.Ytekeaciflbkhpaa.Kit Go.Proofs.YtekeaciflbkhpaaW.PrintMore
set_option linter.unusedSimpArgs false
set_option linter.unusedVariables false

/-! leaves: read, measured, copied, held against each other -/
theorem rd_LL (xs : List S119) (i : Nat) (h : i < xs.length) : rd_T119 xs (i : Int) = xs[i] := by
  unfold rd_T119; rw [Int.toNat_natCast, List.getD_eq_getElem?_getD, List.getElem?_eq_getElem h]; rfl
theorem rd_ML (xs : List S96) (i : Nat) (h : i < xs.length) : rd_T96 xs (i : Int) = xs[i] := by
  unfold rd_T96; rw [Int.toNat_natCast, List.getD_eq_getElem?_getD, List.getElem?_eq_getElem h]; rfl
theorem drop_at {α : Type} (xs : List α) (i : Nat) (h : i < xs.length) : xs.drop i = xs[i] :: xs.drop (i + 1) := List.drop_eq_getElem_cons h
theorem drop_len {α : Type} (xs : List α) : xs.drop xs.length = [] := List.drop_eq_nil_of_le (Nat.le_refl _)
theorem wsucc (i n : Nat) (h : i < n) (hn : n ≤ 9223372036854775807) : wrap64 ((i : Int) + 1) = ((i + 1 : Nat) : Int) := by rw [w64 (by omega) (by omega)]; omega
theorem szLeaf_eq (a : Int) (b : ByteArray) (left : Int) (hb : b.size ≤ 9223372036854775807) (h0 : 0 ≤ left) (h1 : left ≤ 1048576) :
    laws_szLeaf.f a b left = some (if left - (b.size : Int) < 0 then -1 else left - (b.size : Int)) := by
  unfold laws_szLeaf.f
  rw [w64 (by omega) (by omega)]
  split <;> rfl
theorem szLeafS_l0 (l : List S119) (hl : l.length ≤ 9223372036854775807) (hs : ∀ x ∈ l, x.f1.size ≤ 9223372036854775807) : ∀ (d i : Nat), i + d = l.length → ∀ left : Int, 0 ≤ left → left ≤ 1048576 →
    ∃ r : Int, Ev (fun k => laws_szLeafS.l0 k l left (i : Int)) r ∧ r ≤ left ∧ (0 ≤ r → ∀ x ∈ l.drop i, (x.f1.size : Int) ≤ left) := by
  intro d
  induction d with
  | zero =>
    intro i hi left h0 h1
    obtain rfl : i = l.length := by omega
    refine ⟨left, ev_st ?_, Int.le_refl _, fun _ => by rw [drop_len]; simp⟩
    simp only [laws_szLeafS.l0, show ¬ ((l.length : Int) < (l.length : Int)) from by omega, ↓reduceIte]
    exact Ev.now _
  | succ d ih =>
    intro i hi left h0 h1
    have hlt : i < l.length := by omega
    have hx := hs l[i] (List.getElem_mem hlt)
    have e := szLeaf_eq l[i].f0 l[i].f1 left hx h0 h1
    by_cases hneg : left - (l[i].f1.size : Int) < 0
    · refine ⟨-1, ev_st ?_, by omega, fun h => by omega⟩
      simp only [laws_szLeafS.l0, show (i : Int) < (l.length : Int) from by omega, show (0 : Int) ≤ (i : Int) from by omega, ↓reduceIte, rd_LL l i hlt, e, hneg, Option.bind_some, show (-1 : Int) < 0 from by omega]
      exact Ev.now _
    · obtain ⟨r, hr, hle, hall⟩ := ih (i + 1) (by omega) (left - (l[i].f1.size : Int)) (by omega) (by omega)
      refine ⟨r, ev_st ?_, by omega, fun h => ?_⟩
      · simp only [laws_szLeafS.l0, show (i : Int) < (l.length : Int) from by omega, show (0 : Int) ≤ (i : Int) from by omega, ↓reduceIte, rd_LL l i hlt, e, hneg, Option.bind_some, wsucc i l.length hlt hl]
        exact hr
      · rw [drop_at l i hlt]
        intro x hx
        rcases List.mem_cons.1 hx with rfl | hx
        · omega
        · have := hall h x hx; omega
theorem szLeafS_ev (l : List S119) (hl : l.length ≤ 9223372036854775807) (hs : ∀ x ∈ l, x.f1.size ≤ 9223372036854775807) (left : Int) (h0 : 0 ≤ left) (h1 : left ≤ 1048576) :
    ∃ r : Int, Ev (fun k => laws_szLeafS.f k l left) r ∧ r ≤ left ∧ (0 ≤ r → (l.length : Int) ≤ left ∧ ∀ x ∈ l, (x.f1.size : Int) ≤ left) := by
  have e : wrap64 (left - (l.length : Int)) = left - (l.length : Int) := w64 (by omega) (by omega)
  by_cases hneg : left - (l.length : Int) < 0
  · refine ⟨-1, ?_, by omega, fun h => by omega⟩
    simp only [laws_szLeafS.f, e, hneg, ↓reduceIte]
    exact Ev.now _
  · obtain ⟨r, hr, hle, hall⟩ := szLeafS_l0 l hl hs l.length 0 (by omega) (left - (l.length : Int)) (by omega) (by omega)
    refine ⟨r, ?_, by omega, fun h => ⟨by omega, fun x hx => by have := hall h x (by simpa using hx); omega⟩⟩
    simp only [laws_szLeafS.f, e, hneg, ↓reduceIte]
    exact hr
def toL (x : S119) : S96 := ⟨x.f0, x.f1⟩
theorem set_mid {α : Type} (p r : List α) (z v : α) (i : Nat) (h : p.length = i) : (p ++ z :: r).set i v = (p ++ [v]) ++ r := by
  subst h
  simp
theorem toLeafS_l0 (l : List S119) (hl : l.length ≤ 1048576) : ∀ (d i : Nat), i + d = l.length →
    Ev (fun k => laws_toLeafS.l0 k l ((l.take i).map toL ++ List.replicate d z96) (i : Int)) (l.map toL) := by
  intro d
  induction d with
  | zero =>
    intro i hi
    obtain rfl : i = l.length := by omega
    refine ev_st ?_
    simp only [laws_toLeafS.l0, show ¬ ((l.length : Int) < (l.length : Int)) from by omega, ↓reduceIte, List.take_length, List.replicate_zero, List.append_nil]
    exact Ev.now _
  | succ d ih =>
    intro i hi
    have hlt : i < l.length := by omega
    have hlen : ((l.take i).map toL ++ List.replicate (d + 1) z96).length = l.length := by simp; omega
    have hset : ((l.take i).map toL ++ List.replicate (d + 1) z96).set i (⟨l[i].f0, l[i].f1⟩ : S96) = (l.take (i + 1)).map toL ++ List.replicate d z96 := by
      rw [List.replicate_succ, set_mid _ _ _ _ _ (by simp; omega), List.take_succ_eq_append_getElem hlt, List.map_append]
      rfl
    refine ev_st ?_
    simp only [laws_toLeafS.l0, show (i : Int) < (l.length : Int) from by omega, show (0 : Int) ≤ (i : Int) from by omega, ↓reduceIte, rd_LL l i hlt, laws_toLeaf.f, Option.bind_some, hlen, Int.toNat_natCast, hset, wsucc i l.length hlt (by omega)]
    exact ih (i + 1) (by omega)
theorem toLeafS_ev (l : List S119) (hl : l.length ≤ 1048576) : Ev (fun k => laws_toLeafS.f k l) (l.map toL) := by
  have h := toLeafS_l0 l hl l.length 0 (by omega)
  simp only [laws_toLeafS.f, show (0 : Int) ≤ (l.length : Int) from by omega, Int.toNat_natCast, ↓reduceIte]
  split
  · exact h
  · omega
theorem eqLeafS_l0 (l : List S96) (hl : l.length ≤ 1048576) : ∀ (d i : Nat), i + d = l.length → Ev (fun k => laws_eqLeafS.l0 k l l (i : Int)) true := by
  intro d
  induction d with
  | zero =>
    intro i hi
    obtain rfl : i = l.length := by omega
    refine ev_st ?_
    simp only [laws_eqLeafS.l0, show ¬ ((l.length : Int) < (l.length : Int)) from by omega, ↓reduceIte]
    exact Ev.now _
  | succ d ih =>
    intro i hi
    have hlt : i < l.length := by omega
    refine ev_st ?_
    simp only [laws_eqLeafS.l0, show (i : Int) < (l.length : Int) from by omega, show (0 : Int) ≤ (i : Int) from by omega, ↓reduceIte, laws_eqLeaf.f, Option.bind_some, wsucc i l.length hlt (by omega)]
    exact ih (i + 1) (by omega)
theorem eqLeafS_ev (l : List S96) (hl : l.length ≤ 1048576) : Ev (fun k => laws_eqLeafS.f k l l) true := by
  simp only [laws_eqLeafS.f, ↓reduceIte]
  exact eqLeafS_l0 l hl l.length 0 (by omega)
theorem szBlock_ev (a : Bool) (b : Int) (l : List S119) (hl : l.length ≤ 9223372036854775807) (hs : ∀ x ∈ l, x.f1.size ≤ 9223372036854775807) (left : Int) (h0 : 0 ≤ left) (h1 : left ≤ 1048576) :
    ∃ r : Int, Ev (fun k => laws_szBlock.f k a b l left) r ∧ r ≤ left ∧ (0 ≤ r → (l.length : Int) ≤ left ∧ ∀ x ∈ l, (x.f1.size : Int) ≤ left) := by
  obtain ⟨r, hr, hle, hall⟩ := szLeafS_ev l hl hs left h0 h1
  by_cases hn : r < 0
  · refine ⟨-1, ?_, by omega, fun h => by omega⟩
    refine Ev.bind hr ?_
    simp only [hn, ↓reduceIte]
    exact Ev.now _
  · refine ⟨r, ?_, hle, hall⟩
    refine Ev.bind hr ?_
    simp only [hn, ↓reduceIte]
    exact Ev.now _
theorem toBlock_ev (a : Bool) (b : Int) (l : List S119) (hl : l.length ≤ 1048576) : Ev (fun k => laws_toBlock.f k a b l) (a, b, l.map toL) := Ev.bind (toLeafS_ev l hl) (Ev.now _)
theorem eqBlock_ev (a : Bool) (b : Int) (l : List S96) (hl : l.length ≤ 1048576) : Ev (fun k => laws_eqBlock.f k a b l a b l) true := by
  simp only [laws_eqBlock.f, bne_self_eq_false, Bool.false_eq_true, ↓reduceIte]
  refine Ev.bind (eqLeafS_ev l hl) ?_
  simp only [↓reduceIte]
  exact Ev.now _

/-! a flash: read, measured, copied, held against another -/
theorem rd_LB (xs : List S40) (i : Nat) (h : i < xs.length) : rd_T40 xs (i : Int) = xs[i] := by
  unfold rd_T40; rw [Int.toNat_natCast, List.getD_eq_getElem?_getD, List.getElem?_eq_getElem h]; rfl
theorem rd_MB (xs : List S45) (i : Nat) (h : i < xs.length) : rd_T45 xs (i : Int) = xs[i] := by
  unfold rd_T45; rw [Int.toNat_natCast, List.getD_eq_getElem?_getD, List.getElem?_eq_getElem h]; rfl
/-- No part of it takes more than the law looks at. -/
def SmallF (l : List S40) : Prop := l.length ≤ 1048576 ∧ ∀ b ∈ l, b.f2.length ≤ 1048576 ∧ ∀ x ∈ b.f2, x.f1.size ≤ 1048576
def FitsF (l : List S40) : Prop := l.length ≤ 9223372036854775807 ∧ ∀ b ∈ l, b.f2.length ≤ 9223372036854775807 ∧ ∀ x ∈ b.f2, x.f1.size ≤ 9223372036854775807
theorem szBlockS_l0 (l : List S40) (hf : FitsF l) : ∀ (d i : Nat), i + d = l.length → ∀ left : Int, 0 ≤ left → left ≤ 1048576 →
    ∃ r : Int, Ev (fun k => laws_szBlockS.l0 k l left (i : Int)) r ∧ r ≤ left ∧ (0 ≤ r → ∀ b ∈ l.drop i, b.f2.length ≤ 1048576 ∧ ∀ x ∈ b.f2, x.f1.size ≤ 1048576) := by
  obtain ⟨hl, hs⟩ := hf
  intro d
  induction d with
  | zero =>
    intro i hi left h0 h1
    obtain rfl : i = l.length := by omega
    refine ⟨left, ev_st ?_, Int.le_refl _, fun _ => by rw [drop_len]; simp⟩
    simp only [laws_szBlockS.l0, show ¬ ((l.length : Int) < (l.length : Int)) from by omega, ↓reduceIte]
    exact Ev.now _
  | succ d ih =>
    intro i hi left h0 h1
    have hlt : i < l.length := by omega
    have hx := hs l[i] (List.getElem_mem hlt)
    obtain ⟨t, ht, htle, htall⟩ := szBlock_ev l[i].f0 l[i].f1 l[i].f2 hx.1 hx.2 left h0 h1
    by_cases hneg : t < 0
    · refine ⟨-1, ev_st ?_, by omega, fun h => by omega⟩
      simp only [laws_szBlockS.l0, show (i : Int) < (l.length : Int) from by omega, show (0 : Int) ≤ (i : Int) from by omega, ↓reduceIte, rd_LB l i hlt]
      refine Ev.bind ht ?_
      simp only [hneg, ↓reduceIte]
      exact Ev.now _
    · obtain ⟨r, hr, hle, hall⟩ := ih (i + 1) (by omega) t (by omega) (by omega)
      refine ⟨r, ev_st ?_, by omega, fun h => ?_⟩
      · simp only [laws_szBlockS.l0, show (i : Int) < (l.length : Int) from by omega, show (0 : Int) ≤ (i : Int) from by omega, ↓reduceIte, rd_LB l i hlt, wsucc i l.length hlt hl]
        refine Ev.bind ht ?_
        simp only [hneg, ↓reduceIte]
        exact hr
      · rw [drop_at l i hlt]
        intro b hb
        rcases List.mem_cons.1 hb with rfl | hb
        · have q := htall (by omega)
          exact ⟨by omega, fun x hx => by have := q.2 x hx; omega⟩
        · exact hall h b hb
theorem szFlash_ev (l : List S40) (hf : FitsF l) : ∃ r : Int, Ev (fun k => laws_szFlash.f k l 1048576) r ∧ (0 ≤ r → SmallF l) := by
  have hl := hf.1
  have e : wrap64 (1048576 - (l.length : Int)) = 1048576 - (l.length : Int) := w64 (by omega) (by omega)
  by_cases hneg : 1048576 - (l.length : Int) < 0
  · refine ⟨-1, ?_, fun h => by omega⟩
    simp only [laws_szFlash.f]
    refine Ev.bind (a := -1) ?_ ?_
    · simp only [laws_szBlockS.f, e, hneg, ↓reduceIte]
      exact Ev.now _
    · simp only [show (-1 : Int) < 0 from by omega, ↓reduceIte]
      exact Ev.now _
  · obtain ⟨r, hr, hle, hall⟩ := szBlockS_l0 l hf l.length 0 (by omega) (1048576 - (l.length : Int)) (by omega) (by omega)
    by_cases hn : r < 0
    · refine ⟨-1, ?_, fun h => by omega⟩
      simp only [laws_szFlash.f]
      refine Ev.bind (a := r) ?_ ?_
      · simp only [laws_szBlockS.f, e, hneg, ↓reduceIte]
        exact hr
      · simp only [hn, ↓reduceIte]
        exact Ev.now _
    · refine ⟨r, ?_, fun h => ⟨by omega, fun b hb => hall h b (by simpa using hb)⟩⟩
      simp only [laws_szFlash.f]
      refine Ev.bind (a := r) ?_ ?_
      · simp only [laws_szBlockS.f, e, hneg, ↓reduceIte]
        exact hr
      · simp only [hn, ↓reduceIte]
        exact Ev.now _
def toB (x : S40) : S45 := ⟨x.f0, x.f1, x.f2.map toL⟩
theorem toBlockS_l0 (l : List S40) (hf : SmallF l) : ∀ (d i : Nat), i + d = l.length →
    Ev (fun k => laws_toBlockS.l0 k l ((l.take i).map toB ++ List.replicate d z45) (i : Int)) (l.map toB) := by
  obtain ⟨hl, hs⟩ := hf
  intro d
  induction d with
  | zero =>
    intro i hi
    obtain rfl : i = l.length := by omega
    refine ev_st ?_
    simp only [laws_toBlockS.l0, show ¬ ((l.length : Int) < (l.length : Int)) from by omega, ↓reduceIte, List.take_length, List.replicate_zero, List.append_nil]
    exact Ev.now _
  | succ d ih =>
    intro i hi
    have hlt : i < l.length := by omega
    have hlen : ((l.take i).map toB ++ List.replicate (d + 1) z45).length = l.length := by simp; omega
    have hset : ((l.take i).map toB ++ List.replicate (d + 1) z45).set i (⟨l[i].f0, l[i].f1, l[i].f2.map toL⟩ : S45) = (l.take (i + 1)).map toB ++ List.replicate d z45 := by
      rw [List.replicate_succ, set_mid _ _ _ _ _ (by simp; omega), List.take_succ_eq_append_getElem hlt, List.map_append]
      rfl
    refine ev_st ?_
    simp only [laws_toBlockS.l0, show (i : Int) < (l.length : Int) from by omega, show (0 : Int) ≤ (i : Int) from by omega, ↓reduceIte, rd_LB l i hlt, hlen, Int.toNat_natCast, wsucc i l.length hlt (by omega)]
    refine Ev.bind (toBlock_ev l[i].f0 l[i].f1 l[i].f2 (hs l[i] (List.getElem_mem hlt)).1) ?_
    simp only [hset]
    exact ih (i + 1) (by omega)
theorem toFlash_ev (l : List S40) (hf : SmallF l) : Ev (fun k => laws_toFlash.f k l) (l.map toB) := by
  have h := toBlockS_l0 l hf l.length 0 (by omega)
  refine Ev.bind ?_ (Ev.now _)
  simp only [laws_toBlockS.f, show (0 : Int) ≤ (l.length : Int) from by omega, Int.toNat_natCast, ↓reduceIte]
  split
  · exact h
  · have := hf.1; omega
def SmallM (l : List S45) : Prop := l.length ≤ 1048576 ∧ ∀ b ∈ l, b.f2.length ≤ 1048576 ∧ ∀ x ∈ b.f2, x.f1.size ≤ 1048576
theorem small_toB {l : List S40} (h : SmallF l) : SmallM (l.map toB) := by
  refine ⟨by rw [List.length_map]; exact h.1, fun b hb => ?_⟩
  obtain ⟨c, hc, rfl⟩ := List.mem_map.1 hb
  refine ⟨by simp only [toB, List.length_map]; exact (h.2 c hc).1, fun x hx => ?_⟩
  obtain ⟨y, hy, rfl⟩ := List.mem_map.1 hx
  exact (h.2 c hc).2 y hy
theorem eqBlockS_l0 (l : List S45) (hf : SmallM l) : ∀ (d i : Nat), i + d = l.length → Ev (fun k => laws_eqBlockS.l0 k l l (i : Int)) true := by
  obtain ⟨hl, hs⟩ := hf
  intro d
  induction d with
  | zero =>
    intro i hi
    obtain rfl : i = l.length := by omega
    refine ev_st ?_
    simp only [laws_eqBlockS.l0, show ¬ ((l.length : Int) < (l.length : Int)) from by omega, ↓reduceIte]
    exact Ev.now _
  | succ d ih =>
    intro i hi
    have hlt : i < l.length := by omega
    refine ev_st ?_
    simp only [laws_eqBlockS.l0, show (i : Int) < (l.length : Int) from by omega, show (0 : Int) ≤ (i : Int) from by omega, ↓reduceIte, rd_MB l i hlt, wsucc i l.length hlt (by omega)]
    refine Ev.bind (eqBlock_ev _ _ _ (hs l[i] (List.getElem_mem hlt)).1) ?_
    simp only [↓reduceIte]
    exact ih (i + 1) (by omega)
theorem eqFlash_ev (l : List S45) (hf : SmallM l) : Ev (fun k => laws_eqFlash.f k l l) true := by
  refine Ev.bind (a := true) ?_ ?_
  · simp only [laws_eqBlockS.f, ↓reduceIte]
    exact eqBlockS_l0 l hf l.length 0 (by omega)
  · simp only [↓reduceIte]
    exact Ev.now _

theorem fitsF (l : List S40) (h : l.length ≤ 9223372036854775807 ∧ ∀ y ∈ l, G40 y) : FitsF l := ⟨h.1, fun b hb => ⟨(h.2 b hb).2.2.1, fun x hx => ((h.2 b hb).2.2.2 x hx).2⟩⟩

/-- How many leaves are blank. -/
def nblank : List S96 → Int
  | [] => 0
  | x :: t => (if x.f0 = 0 then 1 else 0) + nblank t
theorem nblank_range : ∀ l : List S96, 0 ≤ nblank l ∧ nblank l ≤ l.length
  | [] => by simp [nblank]
  | x :: t => by
    have := nblank_range t
    simp only [nblank, List.length_cons]
    split <;> omega
theorem impl_blanks_l0 (l : List S96) (hl : l.length ≤ 1048576) : ∀ (d i : Nat), i + d = l.length → ∀ n : Int, 0 ≤ n → n ≤ i → Ev (fun k => impl_blanks.l0 k n l (l.length : Int) (i : Int)) (n + nblank (l.drop i)) := by
  intro d
  induction d with
  | zero =>
    intro i hi n h0 h1
    obtain rfl : i = l.length := by omega
    refine ev_st ?_
    simp only [impl_blanks.l0, show ¬ ((l.length : Int) < (l.length : Int)) from by omega, ↓reduceIte, drop_len, nblank, Int.add_zero]
    exact Ev.now _
  | succ d ih =>
    intro i hi n h0 h1
    have hlt : i < l.length := by omega
    have e : wrap64 (n + 1) = n + 1 := w64 (by omega) (by omega)
    refine ev_st ?_
    simp only [impl_blanks.l0, show (i : Int) < (l.length : Int) from by omega, show (0 : Int) ≤ (i : Int) from by omega, ↓reduceIte, rd_ML l i hlt, wsucc i l.length hlt (by omega), e]
    rw [drop_at l i hlt, nblank]
    by_cases h : l[i].f0 = 0
    · simp only [h, ↓reduceIte]
      have g := ih (i + 1) (by omega) (n + 1) (by omega) (by omega)
      rw [Int.add_assoc] at g
      exact g
    · simp only [h, ↓reduceIte, Int.zero_add]
      exact ih (i + 1) (by omega) n h0 (by omega)
theorem impl_blanks_ev (a : Bool) (b : Int) (l : List S96) (hl : l.length ≤ 1048576) : Ev (fun k => impl_blanks.f k a b l) (nblank l) := by
  have g := impl_blanks_l0 l hl l.length 0 (by omega) 0 (by omega) (by omega)
  rw [List.drop_zero, Int.zero_add] at g
  exact g

def openB : List S45 → Nat → Int
  | [], _ => -1
  | b :: t, i => if b.f0 = true then openB t (i + 1) else if nblank b.f2 > 0 ∧ nblank b.f2 < (b.f2.length : Int) then (i : Int) else openB t (i + 1)

theorem impl_OpenBlock_l0 (l : List S45) (hf : SmallM l) : ∀ (d i : Nat), i + d = l.length → Ev (fun k => impl_OpenBlock.l0 k l (l.length : Int) (i : Int)) (openB (l.drop i) i) := by
  obtain ⟨hl, hs⟩ := hf
  intro d
  induction d with
  | zero =>
    intro i hi
    obtain rfl : i = l.length := by omega
    refine ev_st ?_
    simp only [impl_OpenBlock.l0, show ¬ ((l.length : Int) < (l.length : Int)) from by omega, ↓reduceIte, drop_len, openB]
    exact Ev.now _
  | succ d ih =>
    intro i hi
    have hlt : i < l.length := by omega
    have hb := (hs l[i] (List.getElem_mem hlt)).1
    refine ev_st ?_
    simp only [impl_OpenBlock.l0, show (i : Int) < (l.length : Int) from by omega, show (0 : Int) ≤ (i : Int) from by omega, ↓reduceIte, rd_MB l i hlt, wsucc i l.length hlt (by omega)]
    rw [drop_at l i hlt, openB]
    refine Ev.bind (impl_blanks_ev _ _ _ hb) ?_
    by_cases h : l[i].f0 = true
    · simp only [h, ↓reduceIte]
      exact ih (i + 1) (by omega)
    · by_cases h1 : nblank l[i].f2 > 0
      · by_cases h2 : nblank l[i].f2 < (l[i].f2.length : Int)
        · simp only [h, h1, h2, ↓reduceIte, Bool.false_eq_true, and_self]
          exact Ev.now _
        · simp only [h, h1, h2, ↓reduceIte, Bool.false_eq_true, and_false]
          exact ih (i + 1) (by omega)
      · simp only [h, h1, ↓reduceIte, Bool.false_eq_true, false_and]
        exact ih (i + 1) (by omega)
theorem impl_OpenBlock_ev (l : List S45) (hf : SmallM l) : Ev (fun k => impl_OpenBlock.f k l) (openB l 0) := impl_OpenBlock_l0 l hf l.length 0 (by omega)

theorem spec_OpenBlock_l1 (l : List S45) (hl : l.length ≤ 1048576) (i : Nat) (hi : i < l.length) (hb : l[i].f2.length ≤ 1048576) (r : Int) : ∀ (d j : Nat), j + d = l[i].f2.length → ∀ n m : Int, 0 ≤ n → 0 ≤ m → n + m = j →
    Ev (fun k => if l[i].f0 = true then spec_OpenBlock.l0 k ((i + 1 : Nat) : Int) l else if n + nblank (l[i].f2.drop j) > 0 ∧ n + nblank (l[i].f2.drop j) < (l[i].f2.length : Int) then some (i : Int) else spec_OpenBlock.l0 k ((i + 1 : Nat) : Int) l) r →
    Ev (fun k => spec_OpenBlock.l1 k (i : Int) n m (j : Int) l) r := by
  intro d
  induction d with
  | zero =>
    intro j hj n m h0 h1 hnm h
    obtain rfl : j = l[i].f2.length := by omega
    refine ev_st ?_
    rw [drop_len, nblank] at h
    simp only [spec_OpenBlock.l1, show (i : Int) < (l.length : Int) from by omega, show (0 : Int) ≤ (i : Int) from by omega, ↓reduceIte, rd_MB l i hi, show ¬ ((l[i].f2.length : Int) < (l[i].f2.length : Int)) from by omega, wsucc i l.length hi (by omega)]
    by_cases hbad : l[i].f0 = true
    · simp only [hbad, ↓reduceIte] at h ⊢
      exact h
    · by_cases ha : n > 0
      · by_cases hc : m > 0
        · simp only [hbad, ha, hc, ↓reduceIte, Bool.false_eq_true, show n + 0 > 0 from by omega, show n + 0 < (l[i].f2.length : Int) from by omega, and_self] at h ⊢
          exact h
        · simp only [hbad, ha, hc, ↓reduceIte, Bool.false_eq_true, show ¬ (n + 0 < (l[i].f2.length : Int)) from by omega, and_false] at h ⊢
          exact h
      · simp only [hbad, ha, ↓reduceIte, Bool.false_eq_true, show ¬ (n + 0 > 0) from by omega, false_and] at h ⊢
        exact h
  | succ d ih =>
    intro j hj n m h0 h1 hnm h
    have hlt : j < l[i].f2.length := by omega
    have e : wrap64 (n + 1) = n + 1 := w64 (by omega) (by omega)
    have e' : wrap64 (m + 1) = m + 1 := w64 (by omega) (by omega)
    refine ev_st ?_
    simp only [spec_OpenBlock.l1, show (i : Int) < (l.length : Int) from by omega, show (0 : Int) ≤ (i : Int) from by omega, ↓reduceIte, rd_MB l i hi, show (j : Int) < (l[i].f2.length : Int) from by omega, show (0 : Int) ≤ (j : Int) from by omega, rd_ML l[i].f2 j hlt, wsucc j l[i].f2.length hlt (by omega), e, e']
    rw [drop_at _ j hlt, nblank] at h
    by_cases hz : l[i].f2[j].f0 = 0
    · simp only [hz, ↓reduceIte] at h ⊢
      rw [← Int.add_assoc] at h
      exact ih (j + 1) (by omega) (n + 1) m (by omega) h1 (by omega) h
    · simp only [hz, ↓reduceIte, Int.zero_add] at h ⊢
      exact ih (j + 1) (by omega) n (m + 1) h0 (by omega) (by omega) h
theorem spec_OpenBlock_l0 (l : List S45) (hf : SmallM l) : ∀ (d i : Nat), i + d = l.length → Ev (fun k => spec_OpenBlock.l0 k (i : Int) l) (openB (l.drop i) i) := by
  obtain ⟨hl, hs⟩ := hf
  intro d
  induction d with
  | zero =>
    intro i hi
    obtain rfl : i = l.length := by omega
    refine ev_st ?_
    simp only [spec_OpenBlock.l0, show ¬ ((l.length : Int) < (l.length : Int)) from by omega, ↓reduceIte, drop_len, openB]
    exact Ev.now _
  | succ d ih =>
    intro i hi
    have hlt : i < l.length := by omega
    have hb := (hs l[i] (List.getElem_mem hlt)).1
    refine ev_st ?_
    simp only [spec_OpenBlock.l0, show (i : Int) < (l.length : Int) from by omega, ↓reduceIte]
    refine spec_OpenBlock_l1 l hl i hlt hb _ l[i].f2.length 0 (by omega) 0 0 (by omega) (by omega) (by omega) ?_
    rw [List.drop_zero, drop_at l i hlt, openB, Int.zero_add]
    by_cases h : l[i].f0 = true
    · simp only [h, ↓reduceIte]
      exact ih (i + 1) (by omega)
    · simp only [h, ↓reduceIte, Bool.false_eq_true]
      split
      · exact Ev.now _
      · exact ih (i + 1) (by omega)
theorem spec_OpenBlock_ev (l : List S45) (hf : SmallM l) : Ev (fun k => spec_OpenBlock.f k l) (openB l 0) := spec_OpenBlock_l0 l hf l.length 0 (by omega)

theorem FnExactOpenBlock : Plain := by
  intro l hl
  refine Ev.rounds ?_
  simp only [laws_FnExactOpenBlock.f]
  obtain ⟨r, hr, hall⟩ := szFlash_ev l (fitsF l hl)
  refine Ev.bind hr ?_
  by_cases hn : r < 0
  · simp only [hn, ↓reduceIte]; exact Ev.now _
  · have hs := hall (by omega)
    have hm := small_toB hs
    simp only [hn, ↓reduceIte]
    refine Ev.bind (toFlash_ev l hs) (Ev.bind (spec_OpenBlock_ev _ hm) (Ev.bind (toFlash_ev l hs) (Ev.bind (impl_OpenBlock_ev _ hm) ?_)))
    simp only [↓reduceIte]
    refine Ev.bind (toFlash_ev l hs) (Ev.bind (eqFlash_ev _ hm) ?_)
    simp only [↓reduceIte]
    exact Ev.now _

end Go.Proofs.Ytekeaciflbkhpaa.Pure
