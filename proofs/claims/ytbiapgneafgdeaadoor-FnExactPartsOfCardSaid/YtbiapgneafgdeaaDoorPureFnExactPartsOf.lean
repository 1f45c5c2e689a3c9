/- What is proved here: the law FnExactPartsOf, told as a plain function over numbers and lists, answers true at all arguments. Conditions: those of the row alone, none of ours. -/
import Derived.Test.YtbiapgneafgdeaaDoorQFnExactPartsOfx3
import Derived.Test.YtbiapgneafgdeaaDoorKit
namespace Go.Proofs.YtbiapgneafgdeaaDoor.Pure
open Go.RowKit Go.Proofs.YtbiapgneafgdeaaDoor.QFnExactPartsOf Go.Proofs.YtbiapgneafgdeaaDoorW.PrintWords Go.Proofs.YtbiapgneafgdeaaDoorW.PrintLast Go.Proofs.YtbiapgneafgdeaaDoor.Kit Go.Proofs.YtbiapgneafgdeaaDoorW.PrintMore
set_option linter.unusedSimpArgs false
set_option linter.unusedVariables false

/-! the marks -/
def mt (n : Nat) (acc : ByteArray) : ByteArray := if 0 < n then mt (n / 10) (strOfNums [((48 + n % 10 : Nat) : Int)] ++ acc) else (⟨#[109]⟩ : ByteArray) ++ acc
termination_by n
decreasing_by omega
def markOf (k : Int) : ByteArray := if k ≤ 0 then (⟨#[109, 48]⟩ : ByteArray) else mt k.toNat (⟨#[]⟩ : ByteArray)
theorem markText_l0 (n : Nat) : n ≤ 1000000000000 → ∀ acc : ByteArray, acc.size + n ≤ 1000000000001 → Ev (fun k => laws_markText.l0 k (n : Int) acc) (mt n acc) := by
  induction n using Nat.strongRecOn with
  | _ n ih =>
    intro hn acc ha
    refine ev_st ?_
    rw [mt]
    by_cases h : 0 < n
    · have e1 : wrap64 (Int.tdiv (n : Int) 10) = ((n / 10 : Nat) : Int) := by rw [Int.tdiv_eq_ediv_of_nonneg (by omega), w64 (by omega) (by omega)]; omega
      have e2 : wrap64 (48 + Int.tmod (n : Int) 10) % 256 = ((48 + n % 10 : Nat) : Int) := by rw [Int.tmod_eq_emod_of_nonneg (by omega), w64 (by omega) (by omega)]; omega
      have z : (strOfNums [((48 + n % 10 : Nat) : Int)]).size = 1 := by rw [strOfNums_size]; rfl
      simp only [laws_markText.l0, show (n : Int) > 0 from by omega, h, ↓reduceIte, e1, e2, Option.bind_some, show (strOfNums [((48 + n % 10 : Nat) : Int)]).size + acc.size ≤ 9223372036854775807 from by omega]
      exact ih (n / 10) (by omega) (by omega) _ (by rw [ByteArray.size_append]; omega)
    · simp only [laws_markText.l0, show ¬ ((n : Int) > 0) from by omega, h, ↓reduceIte, show 1 + acc.size ≤ 9223372036854775807 from by omega]
      exact Ev.now _
theorem markText_ev (n : Int) (h : n ≤ 1000000000000) : Ev (fun k => laws_markText.f k n) (markOf n) := by
  simp only [laws_markText.f]
  unfold markOf
  by_cases h0 : n ≤ 0
  · simp only [h0, ↓reduceIte]; exact Ev.now _
  · simp only [h0, ↓reduceIte]
    obtain ⟨m, rfl⟩ := Int.eq_ofNat_of_zero_le (show 0 ≤ n by omega)
    exact markText_l0 m (by omega) _ (by show 0 + m ≤ _; omega)

/-! pieces between blanks -/
def glue (a : List UInt8) : List (List UInt8) → List (List UInt8)
  | [] => [a]
  | h :: r => (a ++ h) :: r
def seg : List UInt8 → List (List UInt8)
  | [] => [[]]
  | c :: t => if c = 32 then [] :: seg t else glue [c] (seg t)
theorem glue_ne (a : List UInt8) (l : List (List UInt8)) : ∃ h r, glue a l = h :: r := by
  cases l with
  | nil => exact ⟨_, _, rfl⟩
  | cons h r => exact ⟨_, _, rfl⟩
theorem seg_ne : ∀ l : List UInt8, ∃ h r, seg l = h :: r
  | [] => ⟨_, _, rfl⟩
  | c :: t => by
    rw [seg]
    split
    · exact ⟨_, _, rfl⟩
    · exact glue_ne _ _
theorem glue_nil (l : List UInt8) : glue [] (seg l) = seg l := by
  obtain ⟨h, r, e⟩ := seg_ne l
  rw [e]; rfl
theorem glue_glue (a b : List UInt8) (l : List (List UInt8)) : glue a (glue b l) = glue (a ++ b) l := by
  cases l with
  | nil => rfl
  | cons h r => simp only [glue, List.append_assoc]
theorem seg_split : ∀ l : List UInt8, Go.Lib.splitK [32] 0 (Go.Lib.count l [32]) l = seg l
  | [] => by
    rw [Go.Lib.count_miss (by simp [Go.Lib.index])]
    rfl
  | b :: t => by
    have ih := seg_split t
    rw [seg]
    by_cases h : b = 32
    · subst h
      have hix : Go.Lib.index (32 :: t) [32] = 0 := by rw [Go.Lib.index]; simp [List.isPrefixOf]
      rw [if_pos rfl, Go.Lib.count_cons_eq, Nat.add_comm, Go.Lib.splitK, hix, if_neg (by decide)]
      simpa using ih
    · have hix : Go.Lib.index (b :: t) [32] = if Go.Lib.index t [32] == -1 then -1 else Go.Lib.index t [32] + 1 := by
        have hp : ([32] : List UInt8).isPrefixOf (b :: t) = false := by simp [List.isPrefixOf, Ne.symm h]
        rw [Go.Lib.index, hp]; simp
      rw [if_neg h, Go.Lib.count_cons_ne b 32 t h]
      by_cases hm : Go.Lib.index t [32] = -1
      · rw [Go.Lib.count_miss hm] at ih ⊢
        rw [← ih]
        rfl
      · have hge := Go.Lib.index_ge t [32]
        obtain ⟨j, hj⟩ : ∃ j : Nat, Go.Lib.index t [32] = j := ⟨(Go.Lib.index t [32]).toNat, by omega⟩
        have hix' : Go.Lib.index (b :: t) [32] = ((j + 1 : Nat) : Int) := by rw [hix, if_neg (fun e => hm (beq_iff_eq.1 e)), hj]; omega
        have hc : Go.Lib.count t [32] = Go.Lib.count (t.drop (j + 1)) [32] + 1 := by
          rw [Go.Lib.count_hit (by simp) hj]
          show 1 + Go.Lib.count (t.drop (j + 1)) [32] = _
          omega
        rw [hc] at ih ⊢
        rw [Go.Lib.splitK, hj, if_neg (fun e => by have := beq_iff_eq.1 e; omega)] at ih
        rw [Go.Lib.splitK, hix', if_neg (fun e => by have := beq_iff_eq.1 e; omega), ← ih]
        simp [glue]
/-! what the reference collects -/
def sp (s : ByteArray) : Nat → Nat → Nat → List ByteArray
  | 0, b, i => if b < i then [s.extract b i] else []
  | d + 1, b, i => if bt s (i : Int) = 32 then (if b < i then s.extract b i :: sp s d (i + 1) (i + 1) else sp s d (i + 1) (i + 1)) else sp s d b (i + 1)
theorem bt_data (s : ByteArray) (i : Nat) (h : i < s.size) : ∃ c, s.data.toList.drop i = c :: s.data.toList.drop (i + 1) ∧ bt s (i : Int) = (c.toNat : Int) := by
  have hl : i < s.data.toList.length := by rw [Array.length_toList]; exact h
  refine ⟨s.data.toList[i], List.drop_eq_getElem_cons hl, ?_⟩
  rw [bt_get s i h]
  simp only [bytesOf, List.getElem_map]
theorem ext_list (s : ByteArray) (b i : Nat) : (s.extract b i).data.toList = (s.data.toList.take i).drop b := by
  simp [ByteArray.data_extract, List.extract, List.drop_take]
theorem ext_ne (s : ByteArray) (b i : Nat) (h : i ≤ s.size) : (s.data.toList.take i).drop b = [] ↔ ¬ b < i := by
  rw [List.drop_eq_nil_iff, List.length_take, Array.length_toList]
  have : s.data.size = s.size := rfl
  omega
def keepB (p : List UInt8) : Bool := decide (p ≠ [])
theorem sp_seg (s : ByteArray) : ∀ (d b i : Nat), i + d = s.size → b ≤ i → (sp s d b i).map (·.data.toList) = (glue ((s.data.toList.take i).drop b) (seg (s.data.toList.drop i))).filter keepB := by
  intro d
  induction d with
  | zero =>
    intro b i hi hb
    obtain rfl : i = s.size := by omega
    have e : s.data.toList.drop s.size = [] := List.drop_eq_nil_of_le (by rw [Array.length_toList]; exact Nat.le_refl _)
    have q := ext_ne s b s.size (Nat.le_refl _)
    rw [e, sp]
    simp only [seg, glue, List.append_nil, List.filter_cons, List.filter_nil]
    by_cases h : b < s.size
    · rw [if_pos h, if_pos (show keepB _ = true from decide_eq_true (fun k => q.1 k h)), List.map_cons, List.map_nil, ext_list]
    · rw [if_neg h, if_neg (by simp only [keepB, q.2 h, ne_eq, not_true_eq_false, decide_false, Bool.false_eq_true, not_false_iff])]
      rfl
  | succ d ih =>
    intro b i hi hb
    have hlt : i < s.size := by omega
    obtain ⟨c, hc, hb32⟩ := bt_data s i hlt
    have q := ext_ne s b i (by omega)
    rw [hc, sp, seg]
    by_cases h : c = 32
    · subst h
      rw [if_pos (by rw [hb32]; rfl), if_pos rfl]
      have g := ih (i + 1) (i + 1) (by omega) (Nat.le_refl _)
      have z : (s.data.toList.take (i + 1)).drop (i + 1) = [] := List.drop_eq_nil_of_le (by rw [List.length_take]; omega)
      rw [z, glue_nil] at g
      simp only [glue, List.append_nil, List.filter_cons]
      by_cases hbi : b < i
      · rw [if_pos hbi, if_pos (show keepB _ = true from decide_eq_true (fun k => q.1 k hbi)), List.map_cons, ext_list, g]
      · rw [if_neg hbi, if_neg (by simp only [keepB, q.2 hbi, ne_eq, not_true_eq_false, decide_false, Bool.false_eq_true, not_false_iff])]
        exact g
    · have hn : ¬ bt s (i : Int) = 32 := by
        rw [hb32]
        intro e
        exact h (UInt8.toNat_inj.1 (by have : c.toNat = 32 := by omega
                                       rw [this]; rfl))
      rw [if_neg hn, if_neg h, glue_glue, ih b (i + 1) (by omega) (by omega)]
      have hl : i < s.data.toList.length := by rw [Array.length_toList]; exact hlt
      have e : (s.data.toList.take (i + 1)).drop b = (s.data.toList.take i).drop b ++ [c] := by
        have hci : s.data.toList[i] = c := by
          rw [List.drop_eq_getElem_cons hl] at hc
          exact (List.cons.inj hc).1
        rw [List.take_succ_eq_append_getElem hl, hci, List.drop_append_of_le_length (by rw [List.length_take]; omega)]
      rw [e]
def blankB : ByteArray := ⟨#[32]⟩
def keepP (p : ByteArray) : Bool := keepB p.data.toList
/-- Both collect the same. -/
theorem parts_eq (s : ByteArray) : sp s s.size 0 0 = (Go.Lib.splitB blankB 0 (Go.Lib.countB s blankB) s).filter keepP := by
  have e : (sp s s.size 0 0).map (·.data.toList) = ((Go.Lib.splitB blankB 0 (Go.Lib.countB s blankB) s).filter keepP).map (·.data.toList) := by
    rw [sp_seg s s.size 0 0 (by omega) (Nat.le_refl _)]
    have k : (Go.Lib.splitB blankB 0 (Go.Lib.countB s blankB) s).map (·.data.toList) = seg s.data.toList := by
      rw [Go.Lib.splitB_data]
      exact seg_split s.data.toList
    have f : ((Go.Lib.splitB blankB 0 (Go.Lib.countB s blankB) s).filter keepP).map (·.data.toList) = ((Go.Lib.splitB blankB 0 (Go.Lib.countB s blankB) s).map (·.data.toList)).filter keepB := by
      rw [List.filter_map]; rfl
    rw [f, k]
    simp only [List.take_zero, List.drop_nil, List.drop_zero, glue_nil]
  exact (List.map_inj_right (fun (x y : ByteArray) (h : x.data.toList = y.data.toList) => by cases x; cases y; simp only [ByteArray.mk.injEq]; exact Array.toList_inj.1 h)).1 e
theorem sp_len (s : ByteArray) : ∀ (d b i : Nat), (sp s d b i).length ≤ d + 1
  | 0, b, i => by rw [sp]; split <;> simp
  | d + 1, b, i => by
    have h1 := sp_len s d (i + 1) (i + 1)
    have h2 := sp_len s d b (i + 1)
    rw [sp]
    split
    · split
      · simp only [List.length_cons]; omega
      · omega
    · omega
def finP (l : List ByteArray) : List ByteArray × Bool := if (l.length : Int) > 10 then ([], false) else (l, true)
def okC (c : Int) : Bool := decide (32 ≤ c ∧ c ≤ 126)
def partsM (s : ByteArray) : List ByteArray × Bool := if (s.size : Int) > 600 then ([], false) else if (bytesOf s).all okC = true then finP (sp s s.size 0 0) else ([], false)
theorem finP_len (l : List ByteArray) : (finP l).1.length ≤ 10 := by
  unfold finP
  split
  · simp
  · next h => show l.length ≤ 10; omega
theorem partsM_len (s : ByteArray) : (partsM s).1.length ≤ 10 := by
  unfold partsM
  split
  · simp
  · split
    · exact finP_len _
    · simp

theorem spec_l0 (s : ByteArray) (hs : s.size ≤ 600) : ∀ (d i : Nat), i + d = s.size → ∀ (out : List ByteArray) (b : Nat), b ≤ i → out.length ≤ i →
    Ev (fun k => spec_PartsOf.l0 k s out (b : Int) (i : Int)) (if ((bytesOf s).drop i).all okC = true then finP (out ++ sp s d b i) else ([], false)) := by
  intro d
  induction d with
  | zero =>
    intro i hi out b hb ho
    obtain rfl : i = s.size := by omega
    have e1 : wrap64 ((s.size : Int) + 1) = ((s.size + 1 : Nat) : Int) := by rw [w64 (by omega) (by omega)]; omega
    rw [drop_end, List.all_nil, if_pos rfl]
    refine ev_st ?_
    simp only [spec_PartsOf.l0, Int.le_refl, Int.lt_irrefl, ↓reduceIte]
    refine ev_st ?_
    simp only [spec_PartsOf.j1, Int.lt_irrefl, Bool.false_eq_true, ↓reduceIte]
    refine ev_st ?_
    simp only [spec_PartsOf.j2, Bool.false_eq_true, ↓reduceIte, e1, Int.toNat_natCast]
    have last : ∀ l : List ByteArray, Ev (fun k => spec_PartsOf.l0 k s l ((s.size + 1 : Nat) : Int) ((s.size + 1 : Nat) : Int)) (finP l) := by
      intro l
      refine ev_st ?_
      simp only [spec_PartsOf.l0, show ¬ (((s.size + 1 : Nat) : Int) ≤ (s.size : Int)) from by omega, ↓reduceIte]
      unfold finP
      split
      · exact Ev.now _
      · exact Ev.now _
    rw [sp]
    by_cases h : b < s.size
    · simp only [show (b : Int) < (s.size : Int) from by omega, show (0 : Int) ≤ (b : Int) from by omega, show (b : Int) ≤ (s.size : Int) from by omega, Int.le_refl, ↓reduceIte, if_pos (show out.length < 8796093022208 from by omega), if_pos h]
      exact last _
    · simp only [show ¬ ((b : Int) < (s.size : Int)) from by omega, ↓reduceIte, if_neg h, List.append_nil]
      exact last _
  | succ d ih =>
    intro i hi out b hb ho
    have hlt : i < s.size := by omega
    have e1 : wrap64 ((i : Int) + 1) = ((i + 1 : Nat) : Int) := by rw [w64 (by omega) (by omega)]; omega
    have r := bt_range s (i : Int)
    rw [drop_bt s i hlt, List.all_cons]
    refine ev_st ?_
    simp only [spec_PartsOf.l0, show (i : Int) ≤ (s.size : Int) from by omega, show (i : Int) < (s.size : Int) from by omega, show (0 : Int) ≤ (i : Int) from by omega, ↓reduceIte]
    by_cases h1 : bt s (i : Int) < 32
    · simp only [h1, ↓reduceIte]
      rw [show okC (bt s (i : Int)) = false from decide_eq_false (by omega), Bool.false_and, if_neg (by decide)]
      refine ev_st ?_
      simp only [spec_PartsOf.j1, ↓reduceIte]
      exact Ev.now _
    · simp only [h1, ↓reduceIte]
      by_cases h2 : bt s (i : Int) > 126
      · rw [show okC (bt s (i : Int)) = false from decide_eq_false (by omega), Bool.false_and, if_neg (by decide), decide_eq_true h2]
        refine ev_st ?_
        simp only [spec_PartsOf.j1, ↓reduceIte]
        exact Ev.now _
      · rw [show okC (bt s (i : Int)) = true from decide_eq_true (by omega), Bool.true_and, decide_eq_false h2]
        refine ev_st ?_
        simp only [spec_PartsOf.j1, Bool.false_eq_true, show (i : Int) < (s.size : Int) from by omega, show (0 : Int) ≤ (i : Int) from by omega, ↓reduceIte]
        refine ev_st ?_
        rw [sp]
        by_cases h3 : bt s (i : Int) = 32
        · simp only [spec_PartsOf.j2, h3, bne_self_eq_false, Bool.false_eq_true, ↓reduceIte, e1, Int.toNat_natCast]
          by_cases h : b < i
          · simp only [show (b : Int) < (i : Int) from by omega, show (0 : Int) ≤ (b : Int) from by omega, show (b : Int) ≤ (i : Int) from by omega, show (i : Int) ≤ (s.size : Int) from by omega, ↓reduceIte, if_pos (show out.length < 8796093022208 from by omega), if_pos h]
            have g := ih (i + 1) (by omega) (out ++ [s.extract b i]) (i + 1) (Nat.le_refl _) (by rw [List.length_append, List.length_singleton]; omega)
            rw [List.append_assoc] at g
            exact g
          · simp only [show ¬ ((b : Int) < (i : Int)) from by omega, ↓reduceIte, if_neg h]
            exact ih (i + 1) (by omega) out (i + 1) (Nat.le_refl _) (by omega)
        · simp only [spec_PartsOf.j2, show (bt s (i : Int) != 32) = true from bne_iff_ne.mpr h3, ↓reduceIte, e1, if_neg h3]
          exact ih (i + 1) (by omega) out b (by omega) (by omega)
theorem spec_PartsOf_ev (s : ByteArray) : Ev (fun k => spec_PartsOf.f k s) (partsM s) := by
  simp only [spec_PartsOf.f, Option.bind_some]
  unfold partsM
  by_cases h : (s.size : Int) > 600
  · simp only [h, ↓reduceIte]; exact Ev.now _
  · simp only [h, ↓reduceIte]
    have g := spec_l0 s (by omega) s.size 0 (by omega) [] 0 (Nat.le_refl _) (Nat.le_refl _)
    simpa using g
theorem rdOf_get (l : List ByteArray) (i : Nat) (h : i < l.length) : rdOf ByteArray.empty l (i : Int) = l[i] := by
  unfold rdOf
  rw [Int.toNat_natCast, List.getD_eq_getElem?_getD, List.getElem?_eq_getElem h]; rfl
theorem impl_l1 (P : List ByteArray) (hP : P.length ≤ 1000) : ∀ (d i : Nat), i + d = P.length → ∀ out : List ByteArray, out.length ≤ i →
    Ev (fun k => impl_PartsOf.l1 k out P (P.length : Int) (i : Int)) (finP (out ++ (P.drop i).filter keepP)) := by
  intro d
  induction d with
  | zero =>
    intro i hi out ho
    obtain rfl : i = P.length := by omega
    refine ev_st ?_
    simp only [impl_PartsOf.l1, Int.lt_irrefl, ↓reduceIte, List.drop_length, List.filter_nil, List.append_nil]
    unfold finP
    split
    · exact Ev.now _
    · exact Ev.now _
  | succ d ih =>
    intro i hi out ho
    have hlt : i < P.length := by omega
    have e1 : wrap64 ((i : Int) + 1) = ((i + 1 : Nat) : Int) := by rw [w64 (by omega) (by omega)]; omega
    rw [List.drop_eq_getElem_cons hlt, List.filter_cons]
    refine ev_st ?_
    simp only [impl_PartsOf.l1, show (i : Int) < (P.length : Int) from by omega, show (0 : Int) ≤ (i : Int) from by omega, ↓reduceIte, rdOf_get P i hlt, e1]
    by_cases h : P[i].toList = []
    · have k : keepP P[i] = false := by
        unfold keepP keepB
        rw [ByteArray.toList_eq] at h
        rw [h]; rfl
      simp only [h, ↓reduceIte, k, Bool.false_eq_true]
      exact ih (i + 1) (by omega) out (by omega)
    · have k : keepP P[i] = true := by
        unfold keepP keepB
        rw [ByteArray.toList_eq] at h
        exact decide_eq_true h
      simp only [h, ↓reduceIte, k, if_pos (show out.length < 8796093022208 from by omega)]
      have g := ih (i + 1) (by omega) (out ++ [P[i]]) (by rw [List.length_append, List.length_singleton]; omega)
      rw [List.append_assoc] at g
      exact g
theorem impl_l0 (s : ByteArray) (hs : s.size ≤ 600) : ∀ (d i : Nat), i + d = s.size → Ev (fun k => impl_PartsOf.l0 k s (i : Int)) (if ((bytesOf s).drop i).all okC = true then finP (sp s s.size 0 0) else ([], false)) := by
  intro d
  induction d with
  | zero =>
    intro i hi
    obtain rfl : i = s.size := by omega
    rw [drop_end, List.all_nil, if_pos rfl]
    refine ev_st ?_
    have hl : (Go.Lib.splitB blankB 0 (Go.Lib.countB s blankB) s).length = Go.Lib.countB s blankB + 1 := Go.Lib.splitB_all blankB (by decide) 0 _ s rfl
    have hb := Go.Lib.countB_le blankB (by decide) s.size s (Nat.le_refl _)
    have e : strings_Split.f s (⟨#[32]⟩ : ByteArray) = some (Go.Lib.splitB blankB 0 (Go.Lib.countB s blankB) s) := by
      unfold strings_Split.f
      exact if_pos ⟨by omega, by decide⟩
    simp only [impl_PartsOf.l0, Int.lt_irrefl, ↓reduceIte, e, Option.bind_some]
    have g := impl_l1 (Go.Lib.splitB blankB 0 (Go.Lib.countB s blankB) s) (by omega) (Go.Lib.splitB blankB 0 (Go.Lib.countB s blankB) s).length 0 (by omega) [] (Nat.le_refl _)
    rw [List.drop_zero, List.nil_append, ← parts_eq] at g
    exact g
  | succ d ih =>
    intro i hi
    have hlt : i < s.size := by omega
    have e1 : wrap64 ((i : Int) + 1) = ((i + 1 : Nat) : Int) := by rw [w64 (by omega) (by omega)]; omega
    rw [drop_bt s i hlt, List.all_cons]
    refine ev_st ?_
    simp only [impl_PartsOf.l0, show (i : Int) < (s.size : Int) from by omega, show (0 : Int) ≤ (i : Int) from by omega, ↓reduceIte, e1]
    by_cases h1 : bt s (i : Int) < 32
    · simp only [h1, ↓reduceIte]
      rw [show okC (bt s (i : Int)) = false from decide_eq_false (by omega), Bool.false_and, if_neg (by decide)]
      exact Ev.now _
    · simp only [h1, ↓reduceIte]
      by_cases h2 : bt s (i : Int) > 126
      · simp only [h2, ↓reduceIte]
        rw [show okC (bt s (i : Int)) = false from decide_eq_false (by omega), Bool.false_and, if_neg (by decide)]
        exact Ev.now _
      · simp only [h2, ↓reduceIte]
        rw [show okC (bt s (i : Int)) = true from decide_eq_true (by omega), Bool.true_and]
        exact ih (i + 1) (by omega)
theorem impl_PartsOf_ev (s : ByteArray) : Ev (fun k => impl_PartsOf.f k s) (partsM s) := by
  simp only [impl_PartsOf.f]
  unfold partsM
  by_cases h : (s.size : Int) > 600
  · simp only [h, ↓reduceIte]; exact Ev.now _
  · simp only [h, ↓reduceIte]
    exact impl_l0 s (by omega) s.size 0 (by omega)
theorem eqStringS_l0 (l : List ByteArray) (hl : l.length ≤ 1048576) : ∀ (d i : Nat), i + d = l.length → Ev (fun k => laws_eqStringS.l0 k l l (i : Int)) true := by
  intro d
  induction d with
  | zero =>
    intro i hi
    obtain rfl : i = l.length := by omega
    refine ev_st ?_
    simp only [laws_eqStringS.l0, Int.lt_irrefl, ↓reduceIte]
    exact Ev.now _
  | succ d ih =>
    intro i hi
    have e4 : wrap64 ((i : Int) + 1) = ((i + 1 : Nat) : Int) := by rw [w64 (by omega) (by omega)]; omega
    refine ev_st ?_
    simp only [laws_eqStringS.l0, show (i : Int) < (l.length : Int) from by omega, show (0 : Int) ≤ (i : Int) from by omega, ↓reduceIte, e4]
    exact ih (i + 1) (by omega)
theorem eqStringS_ev (l : List ByteArray) (hl : l.length ≤ 1048576) : Ev (fun k => laws_eqStringS.f k l l) true := by
  simp only [laws_eqStringS.f, ↓reduceIte]
  exact eqStringS_l0 l hl l.length 0 (by omega)
def marks : List ByteArray → Int → List ByteArray
  | [], _ => []
  | _ :: t, k => markOf k :: marks t (k + 1)
theorem marks_len : ∀ (l : List ByteArray) (k : Int), (marks l k).length = l.length
  | [], _ => rfl
  | _ :: t, k => by simp [marks, marks_len t (k + 1)]
theorem markStringS_l0 : ∀ (d i : Nat) (l : List ByteArray), i + d = l.length → l.length ≤ 1000000 → ∀ k0 : Int, 0 ≤ k0 → k0 + d ≤ 100000000000 →
    Ev (fun k => laws_markStringS.l0 k l k0 (i : Int)) (k0 + d, l.take i ++ marks (l.drop i) k0) := by
  intro d
  induction d with
  | zero =>
    intro i l hi hl k0 h0 h1
    obtain rfl : i = l.length := by omega
    refine ev_st ?_
    simp only [laws_markStringS.l0, Int.lt_irrefl, ↓reduceIte, List.take_length, List.drop_length, marks, List.append_nil]
    rw [show k0 + ((0 : Nat) : Int) = k0 from by omega]
    exact Ev.now _
  | succ d ih =>
    intro i l hi hl k0 h0 h1
    have hlt : i < l.length := by omega
    have e1 : wrap64 (k0 + 1) = k0 + 1 := w64 (by omega) (by omega)
    have e4 : wrap64 ((i : Int) + 1) = ((i + 1 : Nat) : Int) := by rw [w64 (by omega) (by omega)]; omega
    refine ev_st ?_
    simp only [laws_markStringS.l0, show (i : Int) < (l.length : Int) from by omega, show (0 : Int) ≤ (i : Int) from by omega, ↓reduceIte, Int.toNat_natCast, e1, e4]
    refine Ev.bind (markText_ev k0 (by omega)) ?_
    have g := ih (i + 1) (l.set i (markOf k0)) (by rw [List.length_set]; omega) (by rw [List.length_set]; exact hl) (k0 + 1) (by omega) (by omega)
    have q1 : (l.set i (markOf k0)).take (i + 1) = l.take i ++ [markOf k0] := by
      rw [List.take_succ_eq_append_getElem (by rw [List.length_set]; exact hlt), List.getElem_set_self, List.take_set_of_le (Nat.le_refl _)]
    have q2 : (l.set i (markOf k0)).drop (i + 1) = l.drop (i + 1) := by rw [List.drop_set_of_lt (by omega)]
    rw [q1, q2, List.append_assoc] at g
    rw [List.drop_eq_getElem_cons hlt, marks, show k0 + ((d + 1 : Nat) : Int) = k0 + 1 + (d : Int) from by omega]
    exact g
theorem markStringS_ev (l : List ByteArray) (hl : l.length ≤ 1000000) : Ev (fun k => laws_markStringS.f k l 1) (1 + (l.length : Int), marks l 1) :=
  markStringS_l0 l.length 0 l (by omega) hl 1 (by omega) (by omega)
theorem heldStringS_l0 (l : List ByteArray) (hl : l.length ≤ 1000000) : ∀ (d i : Nat), i + d = l.length → ∀ (m : List ByteArray) (k0 : Int), l.drop i = marks m k0 → 0 ≤ k0 → k0 + d ≤ 100000000000 →
    Ev (fun k => laws_heldStringS.l0 k l k0 (i : Int)) (k0 + d) := by
  intro d
  induction d with
  | zero =>
    intro i hi m k0 hm h0 h1
    obtain rfl : i = l.length := by omega
    refine ev_st ?_
    simp only [laws_heldStringS.l0, Int.lt_irrefl, ↓reduceIte]
    rw [show k0 + ((0 : Nat) : Int) = k0 from by omega]
    exact Ev.now _
  | succ d ih =>
    intro i hi m k0 hm h0 h1
    have hlt : i < l.length := by omega
    have e1 : wrap64 (k0 + 1) = k0 + 1 := w64 (by omega) (by omega)
    have e4 : wrap64 ((i : Int) + 1) = ((i + 1 : Nat) : Int) := by rw [w64 (by omega) (by omega)]; omega
    rw [List.drop_eq_getElem_cons hlt] at hm
    cases m with
    | nil => simp [marks] at hm; omega
    | cons x t =>
      rw [marks, List.cons.injEq] at hm
      refine ev_st ?_
      simp only [laws_heldStringS.l0, show (i : Int) < (l.length : Int) from by omega, show (0 : Int) ≤ (i : Int) from by omega, ↓reduceIte, e1, e4, rdOf_get l i hlt, hm.1]
      refine Ev.bind (markText_ev k0 (by omega)) ?_
      simp only [↓reduceIte]
      rw [show k0 + ((d + 1 : Nat) : Int) = k0 + 1 + (d : Int) from by omega]
      exact ih (i + 1) (by omega) t (k0 + 1) hm.2 (by omega) (by omega)
theorem heldStringS_ev (l : List ByteArray) (hl : l.length ≤ 1000000) : Ev (fun k => laws_heldStringS.f k (marks l 1) 1) (1 + (l.length : Int)) := by
  have g := heldStringS_l0 (marks l 1) (by rw [marks_len]; exact hl) (marks l 1).length 0 (by omega) l 1 rfl (by omega) (by rw [marks_len]; omega)
  rw [marks_len] at g
  exact g
theorem FnExactPartsOf : laws_FnExactPartsOf.Pure := by
  intro s _
  refine Ev.rounds ?_
  simp only [laws_FnExactPartsOf.f]
  by_cases hb : (s.size : Int) > 1048576
  · simp only [hb, ↓reduceIte]; exact Ev.now _
  · simp only [hb, ↓reduceIte]
    have hl := partsM_len s
    refine Ev.bind (spec_PartsOf_ev s) (Ev.bind (impl_PartsOf_ev s) (Ev.bind (eqStringS_ev _ (by omega)) ?_))
    simp only [↓reduceIte, bne_self_eq_false]
    refine ev_st ?_
    simp only [laws_FnExactPartsOf.j0, Bool.false_eq_true, ↓reduceIte]
    refine Ev.bind (markStringS_ev _ (by omega)) (Ev.bind (heldStringS_ev _ (by omega)) ?_)
    simp only [show ¬ (1 + ((partsM s).1.length : Int) < 0) from by omega, ↓reduceIte]
    refine Ev.bind (impl_PartsOf_ev s) (Ev.bind (eqStringS_ev _ (by omega)) ?_)
    simp only [↓reduceIte, bne_self_eq_false]
    refine ev_st ?_
    simp only [laws_FnExactPartsOf.j1, Bool.false_eq_true, ↓reduceIte]
    refine Ev.bind (heldStringS_ev _ (by omega)) ?_
    simp only [show ¬ (1 + ((partsM s).1.length : Int) < 0) from by omega, ↓reduceIte]
    exact Ev.now _

end Go.Proofs.YtbiapgneafgdeaaDoor.Pure
