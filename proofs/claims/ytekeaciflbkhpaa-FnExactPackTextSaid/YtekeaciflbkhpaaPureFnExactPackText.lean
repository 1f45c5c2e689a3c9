/- What is proved here: the law FnExactPackText, told as a plain function over numbers and lists, answers true at all arguments. Conditions: those of the row alone, none of ours. -/
import Derived.Test.YtekeaciflbkhpaaQFnExactPackTextx4
import Derived.Test.YtekeaciflbkhpaaKit
namespace Go.Proofs.Ytekeaciflbkhpaa.Pure
open Go.RowKit Go.Proofs.Ytekeaciflbkhpaa.QFnExactPackText Go.Proofs.YtekeaciflbkhpaaW.PrintWords Go.Proofs.YtekeaciflbkhpaaW.PrintLast Go.Proofs.Ytekeaciflbkhpaa.Kit Go.Proofs.YtekeaciflbkhpaaW.PrintMore
set_option linter.unusedSimpArgs false
set_option linter.unusedVariables false

/-! how much is the same; the longest of it -/
theorem rd_MT (xs : List S102) (i : Nat) (h : i < xs.length) : rd_T102 xs (i : Int) = xs[i] := by
  unfold rd_T102; rw [Int.toNat_natCast, List.getD_eq_getElem?_getD, List.getElem?_eq_getElem h]; rfl
def mlen (s : ByteArray) (j p : Nat) : Nat → Nat → Nat
  | 0, n => n
  | f + 1, n => if p + n < s.size ∧ bt s ((j + n : Nat) : Int) = bt s ((p + n : Nat) : Int) then mlen s j p f (n + 1) else n
def best (s : ByteArray) (p : Nat) : Nat → Int × Int → Int × Int
  | 0, r => r
  | j + 1, r => if 4 ≤ mlen s j p 31 0 ∧ r.1 < (mlen s j p 31 0 : Int) then best s p j ((mlen s j p 31 0 : Int), (p : Int) - (j : Int)) else best s p j r
theorem mlen_le (s : ByteArray) (j p : Nat) : ∀ (f n : Nat), n ≤ mlen s j p f n ∧ mlen s j p f n ≤ n + f ∧ (p + n ≤ s.size → p + mlen s j p f n ≤ s.size) ∧ ∀ i, n ≤ i → i < mlen s j p f n → bt s ((j + i : Nat) : Int) = bt s ((p + i : Nat) : Int) := by
  intro f
  induction f with
  | zero => intro n; exact ⟨Nat.le_refl _, Nat.le_refl _, (fun h => h : p + n ≤ s.size → p + n ≤ s.size), fun i h1 h2 => by simp only [mlen] at h2; omega⟩
  | succ f ih =>
    intro n
    rw [mlen]
    split
    next h =>
      obtain ⟨a, b, c, d⟩ := ih (n + 1)
      refine ⟨by omega, by omega, fun _ => c (by omega), fun i h1 h2 => ?_⟩
      rcases Nat.lt_or_ge n i with q | q
      · exact d i q h2
      · obtain rfl : i = n := by omega
        exact h.2
    next h => exact ⟨Nat.le_refl _, by omega, fun h => h, fun i h1 h2 => by omega⟩
/-- What a longest match is: none, or one of 4 to 31 bytes that lie in the text and are the same further ahead. -/
def Match (s : ByteArray) (p : Nat) (r : Int × Int) : Prop :=
  r = (0, 0) ∨ (4 ≤ r.1 ∧ r.1 ≤ 31 ∧ 1 ≤ r.2 ∧ r.2 ≤ (p : Int) ∧ (p : Int) + r.1 ≤ (s.size : Int) ∧ ∀ i : Nat, (i : Int) < r.1 → bt s ((p : Int) - r.2 + (i : Int)) = bt s ((p : Int) + (i : Int)))
theorem best_match (s : ByteArray) (p : Nat) (hp : p ≤ s.size) : ∀ (j : Nat), j ≤ p → ∀ r, Match s p r → Match s p (best s p j r) := by
  intro j
  induction j with
  | zero => intro _ r h; exact h
  | succ j ih =>
    intro hj r h
    rw [best]
    split
    next hc =>
      refine ih (by omega) _ (Or.inr ?_)
      obtain ⟨a, b, c, d⟩ := mlen_le s j p 31 0
      refine ⟨by simp only; omega, by simp only; omega, by simp only; omega, by simp only; omega, by simp only; have := c (by omega); omega, fun i hi => ?_⟩
      simp only at hi ⊢
      rw [show (p : Int) - ((p : Int) - (j : Int)) + (i : Int) = ((j + i : Nat) : Int) from by omega, show (p : Int) + (i : Int) = ((p + i : Nat) : Int) from by omega]
      exact d i (by omega) (by omega)
    next => exact ih (by omega) r h
theorem mlen_zero (s : ByteArray) (j p n : Nat) : mlen s j p 0 n = n := rfl
theorem mlen_succ (s : ByteArray) (j p f n : Nat) : mlen s j p (f + 1) n = if p + n < s.size ∧ bt s ((j + n : Nat) : Int) = bt s ((p + n : Nat) : Int) then mlen s j p f (n + 1) else n := rfl
theorem best_zero (s : ByteArray) (p : Nat) (r : Int × Int) : best s p 0 r = r := rfl
theorem best_succ (s : ByteArray) (p j : Nat) (r : Int × Int) : best s p (j + 1) r = if 4 ≤ mlen s j p 31 0 ∧ r.1 < (mlen s j p 31 0 : Int) then best s p j ((mlen s j p 31 0 : Int), (p : Int) - (j : Int)) else best s p j r := rfl
attribute [local irreducible] mlen best
theorem pred_facts (n : Nat) (h0 : n ≠ 0) (h : n ≤ 64) : wrap64 ((n : Int) - 1) = ((n - 1 : Nat) : Int) ∧ wrap64 (((n - 1 : Nat) : Int) + 1) = (n : Int) ∧ ¬ (((n - 1 : Nat) : Int) < 0) ∧ (0 : Int) ≤ ((n - 1 : Nat) : Int) ∧ ((n - 1 : Nat) : Int) < (n : Int) ∧ 0 < n := by
  refine ⟨?_, ?_, by omega, by omega, by omega, by omega⟩
  · rw [w64 (by omega) (by omega)]; omega
  · rw [w64 (by omega) (by omega)]; omega
theorem zero_facts (n : Nat) (h0 : n = 0) : wrap64 ((n : Int) - 1) = -1 ∧ wrap64 ((-1 : Int) + 1) = (n : Int) ∧ (-1 : Int) < 0 ∧ ¬ ((-1 : Int) ≥ 0) := by
  refine ⟨?_, ?_, by omega, by omega⟩
  · rw [w64 (by omega) (by omega)]; omega
  · rw [w64 (by omega) (by omega)]; omega
theorem match_facts (p j n f z : Nat) (hz : z ≤ 64) (hj : j < p) (hp : p ≤ z) (hn : n + (f + 1) = 31) (hpn : p + n ≤ z) : wrap64 ((p : Int) + (n : Int)) = ((p + n : Nat) : Int) ∧ wrap64 ((j : Int) + (n : Int)) = ((j + n : Nat) : Int) ∧ wrap64 ((n : Int) + 1) = ((n + 1 : Nat) : Int) ∧ (n : Int) < 31 ∧ (0 : Int) ≤ ((j + n : Nat) : Int) ∧ (0 : Int) ≤ ((p + n : Nat) : Int) ∧ n + 1 + f = 31 ∧ (p + n < z → ((p + n : Nat) : Int) < (z : Int) ∧ ((j + n : Nat) : Int) < (z : Int) ∧ p + (n + 1) ≤ z) ∧ (¬ p + n < z → ¬ (((p + n : Nat) : Int) < (z : Int))) := by
  refine ⟨?_, ?_, ?_, by omega, by omega, by omega, by omega, fun h => ⟨by omega, by omega, by omega⟩, fun h => by omega⟩
  · rw [w64 (by omega) (by omega)]; omega
  · rw [w64 (by omega) (by omega)]; omega
  · rw [w64 (by omega) (by omega)]; omega
theorem place_facts (p d z f : Nat) (hz : z ≤ 64) (h : p + d = z) (hlt : p < z) (hf : d ≤ f + 1) : wrap64 ((p : Int) + 1) = ((p + 1 : Nat) : Int) ∧ (p : Int) < (z : Int) ∧ (0 : Int) ≤ (p : Int) ∧ (p : Int) ≤ ((p + 1 : Nat) : Int) ∧ ((p + 1 : Nat) : Int) ≤ (z : Int) ∧ z - (p + 1) < d ∧ p + 1 + (z - (p + 1)) = z ∧ z - (p + 1) ≤ f := by
  refine ⟨?_, by omega, by omega, by omega, by omega, by omega, by omega, by omega⟩
  rw [w64 (by omega) (by omega)]; omega
def bestOf (s : ByteArray) (p : Nat) : Int × Int := best s p p (0, 0)
theorem bestOf_match (s : ByteArray) (p : Nat) (hp : p ≤ s.size) : Match s p (bestOf s p) := best_match s p hp p (Nat.le_refl _) _ (Or.inl rfl)
attribute [local irreducible] bestOf
/-! the tokens -/
def lastT (out : List S102) : S102 := out.getD (out.length - 1) z102
def addLit (out : List S102) (c : ByteArray) : List S102 :=
  if 0 < out.length ∧ (lastT out).f0 = 0 ∧ (lastT out).f2.size < 31 then out.set (out.length - 1) ⟨(lastT out).f0, (lastT out).f1, (lastT out).f2 ++ c⟩ else out ++ [⟨0, 0, c⟩]
def toks (s : ByteArray) : Nat → List S102 → Nat → List S102
  | 0, out, _ => out
  | f + 1, out, p => if p < s.size then (if (bestOf s p).1 > 0 then toks s f (out ++ [⟨(bestOf s p).2, (bestOf s p).1, (⟨#[]⟩ : ByteArray)⟩]) (p + (bestOf s p).1.toNat) else toks s f (addLit out (s.extract p (p + 1))) (p + 1)) else out
def toksOf (s : ByteArray) : List S102 := if s.size ≤ 64 then toks s s.size [] 0 else []
theorem small_cap {n : Nat} (h : n ≤ 64) : n < 4398046511104 := by omega
theorem small_sum {a b : Nat} (h : a ≤ 64) (hb : b = 1) : a + b ≤ 9223372036854775807 := by omega
theorem addLit_len (out : List S102) (c : ByteArray) : (addLit out c).length ≤ out.length + 1 := by
  unfold addLit
  split
  · rw [List.length_set]; omega
  · simp
theorem last_mem (out : List S102) (h : 0 < out.length) : lastT out ∈ out := by
  unfold lastT
  rw [List.getD_eq_getElem?_getD, List.getElem?_eq_getElem (by omega)]
  exact List.getElem_mem _
theorem rd_last (out : List S102) (h : 0 < out.length) : rd_T102 out ((out.length - 1 : Nat) : Int) = lastT out := by
  unfold rd_T102 lastT; rw [Int.toNat_natCast]
theorem one_byte (s : ByteArray) (p : Nat) (h : p < s.size) : (s.extract p (p + 1)).size = 1 := by rw [ByteArray.size_extract]; omega
/-- No token leads ahead of its place, and no text is long. -/
def Nice (out : List S102) : Prop := ∀ t ∈ out, 0 ≤ t.f0 ∧ t.f2.size ≤ 64
theorem nice_addLit (out : List S102) (h : Nice out) (c : ByteArray) (hc : c.size = 1) : Nice (addLit out c) := by
  unfold addLit
  split
  next hq =>
    intro t ht
    rcases List.mem_or_eq_of_mem_set ht with ht | rfl
    · exact h t ht
    · refine ⟨(h _ (last_mem out hq.1)).1, ?_⟩
      simp only [ByteArray.size_append]
      omega
  next =>
    intro t ht
    rcases List.mem_append.1 ht with ht | ht
    · exact h t ht
    · obtain rfl := List.mem_singleton.1 ht
      exact ⟨Int.le_refl _, by simp only; omega⟩
theorem nice_snoc (out : List S102) (h : Nice out) (a b : Int) (ha : 0 ≤ a) : Nice (out ++ [⟨a, b, (⟨#[]⟩ : ByteArray)⟩]) := by
  intro t ht
  rcases List.mem_append.1 ht with ht | ht
  · exact h t ht
  · obtain rfl := List.mem_singleton.1 ht
    exact ⟨ha, by show 0 ≤ 64; omega⟩

theorem impl_matchAt_l1 (s : ByteArray) (hs : s.size ≤ 64) (p j : Nat) (hj : j < p) (hp : p ≤ s.size) (sz bk r1 r2 : Int) (r : Int × Int)
    (h : ∀ n : Nat, n = mlen s j p 31 0 → Ev (fun k => if 4 ≤ n ∧ sz < (n : Int) then impl_matchAt.l0 k s (p : Int) (n : Int) ((p : Int) - (j : Int)) ((j : Int) - 1) else impl_matchAt.l0 k s (p : Int) sz bk ((j : Int) - 1)) r) :
    ∀ (f n : Nat), n + f = 31 → p + n ≤ s.size → mlen s j p f n = mlen s j p 31 0 → Ev (fun k => impl_matchAt.l1 k s (p : Int) sz bk (j : Int) (n : Int)) r := by
  have e1 : wrap64 ((p : Int) - (j : Int)) = (p : Int) - (j : Int) := w64 (by omega) (by omega)
  have e2 : wrap64 ((j : Int) - 1) = (j : Int) - 1 := w64 (by omega) (by omega)
  have done_ : ∀ n : Nat, n = mlen s j p 31 0 → Ev (fun k => if (n : Int) ≥ 4 then (if (n : Int) > sz then impl_matchAt.l0 k s (p : Int) (n : Int) ((p : Int) - (j : Int)) ((j : Int) - 1) else impl_matchAt.l0 k s (p : Int) sz bk ((j : Int) - 1)) else impl_matchAt.l0 k s (p : Int) sz bk ((j : Int) - 1)) r := by
    intro n hn
    have g := h n hn
    by_cases a : (n : Int) ≥ 4
    · by_cases b : (n : Int) > sz
      · simp only [a, b, show 4 ≤ n from by omega, show sz < (n : Int) from b, and_self, ↓reduceIte] at g ⊢
        exact g
      · simp only [a, b, show ¬ (sz < (n : Int)) from b, and_false, ↓reduceIte] at g ⊢
        exact g
    · simp only [a, show ¬ (4 ≤ n) from by omega, false_and, ↓reduceIte] at g ⊢
      exact g
  intro f
  induction f with
  | zero =>
    intro n hn hpn
    obtain rfl : n = 31 := by omega
    have f1 : ¬ (((31 : Nat) : Int) < 31) := by omega
    intro hm
    rw [mlen_zero] at hm
    have g := done_ 31 hm
    refine ev_st ?_
    simp only [impl_matchAt.l1, f1, ↓reduceIte, e1, e2]
    exact g
  | succ f ih =>
    intro n hn hpn
    obtain ⟨e3, e4, e5, f1, f2, f3, f4, fy, fn⟩ := match_facts p j n f s.size hs hj hp hn hpn
    intro hm
    rw [mlen_succ] at hm
    refine ev_st ?_
    by_cases ha : p + n < s.size
    · obtain ⟨f5, f6, f7⟩ := fy ha
      by_cases hb : bt s ((j + n : Nat) : Int) = bt s ((p + n : Nat) : Int)
      · rw [if_pos ⟨ha, hb⟩] at hm
        simp only [impl_matchAt.l1, f1, ↓reduceIte, e1, e2, e3, e4, e5, f5, f2, f6, f3, hb]
        exact ih (n + 1) f4 f7 hm
      · rw [if_neg (fun q => hb q.2)] at hm
        have g := done_ n hm
        simp only [impl_matchAt.l1, f1, ↓reduceIte, e1, e2, e3, e4, e5, f5, f2, f6, f3, hb]
        exact g
    · have f5 := fn ha
      rw [if_neg (fun q => ha q.1)] at hm
      have g := done_ n hm
      simp only [impl_matchAt.l1, f1, ↓reduceIte, e1, e2, e3, f5]
      exact g
theorem impl_matchAt_l0 (s : ByteArray) (hs : s.size ≤ 64) (p : Nat) (hp : p ≤ s.size) : ∀ (j : Nat), j ≤ p → ∀ sz bk : Int, Ev (fun k => impl_matchAt.l0 k s (p : Int) sz bk ((j : Int) - 1)) (best s p j (sz, bk)) := by
  intro j
  induction j with
  | zero =>
    intro _ sz bk
    refine ev_st ?_
    simp only [impl_matchAt.l0, show ¬ (((0 : Nat) : Int) - 1 ≥ 0) from by omega, ↓reduceIte, best_zero]
    exact Ev.now _
  | succ j ih =>
    intro hj sz bk
    refine ev_st ?_
    have e : ((j + 1 : Nat) : Int) - 1 = (j : Int) := by omega
    rw [e]
    simp only [impl_matchAt.l0, show (j : Int) ≥ 0 from by omega, ↓reduceIte]
    rw [best_succ]
    refine impl_matchAt_l1 s hs p j (by omega) hp sz bk 0 0 _ ?_ 31 0 (by omega) (by omega) rfl
    intro n hn
    subst hn
    by_cases hc : 4 ≤ mlen s j p 31 0 ∧ sz < (mlen s j p 31 0 : Int)
    · simp only [hc, and_self, ↓reduceIte]
      exact ih (by omega) _ _
    · simp only [hc, ↓reduceIte]
      exact ih (by omega) _ _
theorem impl_matchAt_ev (s : ByteArray) (hs : s.size ≤ 64) (p : Nat) (hp : p ≤ s.size) : Ev (fun k => impl_matchAt.f k s (p : Int)) (bestOf s p) := by
  simp only [impl_matchAt.f]
  rw [w64 (by omega) (by omega)]
  unfold bestOf
  exact impl_matchAt_l0 s hs p hp p (Nat.le_refl _) 0 0
set_option maxHeartbeats 1000000 in
theorem impl_TokensOf_l0 (s : ByteArray) (hs : s.size ≤ 64) : ∀ (d p : Nat), p + d = s.size → ∀ (f : Nat) (out : List S102), d ≤ f → Nice out → out.length ≤ p → Ev (fun k => impl_TokensOf.l0 k s out (p : Int)) (toks s f out p) := by
  intro d
  induction d using Nat.strongRecOn with
  | _ d ih =>
    intro p hp f out hf hN hl
    by_cases hlt : p < s.size
    · obtain ⟨f, rfl⟩ : ∃ g, f = g + 1 := ⟨f - 1, by omega⟩
      have hB := bestOf_match s p (by omega)
      obtain ⟨e0, f1, f2, f3, f4, f6, f7, f8⟩ := place_facts p d s.size f hs hp hlt hf
      have f5 : (0 : Int) ≤ (out.length : Int) := by omega
      have hlen : out.length ≤ 64 := by omega
      have hcap := small_cap hlen
      have hc := one_byte s p hlt
      have hL := addLit_len out (s.extract p (p + 1))
      have next := ih (s.size - (p + 1)) f6 (p + 1) f7 f (addLit out (s.extract p (p + 1))) f8 (nice_addLit out hN _ hc) (Nat.le_trans hL (Nat.succ_le_succ hl))
      have grow : ∀ r : Int × Int, Match s p r → r.1 > 0 → Ev (fun k => impl_TokensOf.l0 k s (out ++ [⟨r.2, r.1, (⟨#[]⟩ : ByteArray)⟩]) (wrap64 ((p : Int) + r.1))) (toks s f (out ++ [⟨r.2, r.1, (⟨#[]⟩ : ByteArray)⟩]) (p + r.1.toNat)) := by
        intro r hB hg
        rcases hB with hB | ⟨b1, b2, b3, b4, b5, _⟩
        · rw [hB] at hg; simp at hg
        · have e1 : wrap64 ((p : Int) + r.1) = ((p + r.1.toNat : Nat) : Int) := by rw [w64 (by omega) (by omega)]; omega
          rw [e1]
          exact ih (s.size - (p + r.1.toNat)) (by omega) _ (by omega) f _ (by omega) (nice_snoc out hN _ _ (by omega)) (by simp; omega)
      have fresh : addLit out (s.extract p (p + 1)) = out ++ [⟨0, 0, s.extract p (p + 1)⟩] → ∀ y, y = out ++ [⟨0, 0, (⟨#[]⟩ : ByteArray)⟩] →
          Ev (fun k => if 0 ≤ (out.length : Int) then (if (out.length : Int) < (y.length : Int) then (if ((rd_T102 y (out.length : Int)).f2).size + (s.extract p (p + 1)).size ≤ 9223372036854775807 then impl_TokensOf.l0 k s (y.set out.length ⟨(rd_T102 y (out.length : Int)).f0, (rd_T102 y (out.length : Int)).f1, ((rd_T102 y (out.length : Int)).f2) ++ (s.extract p (p + 1))⟩) ((p + 1 : Nat) : Int) else none) else none) else none) (toks s f (addLit out (s.extract p (p + 1))) (p + 1)) := by
        intro ha y hy
        have hy1 : rd_T102 y (out.length : Int) = ⟨0, 0, (⟨#[]⟩ : ByteArray)⟩ := by
          rw [rd_MT y out.length (by rw [hy]; simp)]
          simp only [hy]
          simp
        have hy2 : (out.length : Int) < (y.length : Int) := by rw [hy, List.length_append]; simp only [List.length_singleton]; omega
        have hz : (⟨#[]⟩ : ByteArray) ++ s.extract p (p + 1) = s.extract p (p + 1) := ByteArray.empty_append
        have hy3 : y.set out.length ⟨0, 0, s.extract p (p + 1)⟩ = addLit out (s.extract p (p + 1)) := by rw [ha, hy]; simp
        have hs1 : (⟨#[]⟩ : ByteArray).size + (s.extract p (p + 1)).size ≤ 9223372036854775807 := small_sum (Nat.zero_le _) hc
        simp only [f5, hy2, ↓reduceIte, hy1, hz, hy3, hs1]
        exact next
      clear ih
      refine ev_st ?_
      rw [toks, if_pos hlt]
      simp only [impl_TokensOf.l0, f1, ↓reduceIte]
      refine Ev.bind (impl_matchAt_ev s hs p (by omega)) ?_
      have hB := grow (bestOf s p) (bestOf_match s p (by omega))
      generalize bestOf s p = r at hB ⊢
      by_cases hg : r.1 > 0
      · simp only [hg, hcap, ↓reduceIte]
        exact hB hg
      · clear hB grow
        simp only [hg, ↓reduceIte, e0, f2, f3, f4, Int.toNat_natCast]
        by_cases hk : out.length = 0
        · obtain ⟨e2, e3, e4, _⟩ := zero_facts out.length hk
          have ha : addLit out (s.extract p (p + 1)) = out ++ [⟨0, 0, s.extract p (p + 1)⟩] := by unfold addLit; rw [if_neg (fun q => absurd hk (Nat.ne_of_gt q.1))]
          simp only [e2, e3, e4, hcap, ↓reduceIte, Option.bind_some, Int.toNat_natCast]
          exact fresh ha _ rfl
        · obtain ⟨e2, e3, e4, e5, e6, hpos⟩ := pred_facts out.length hk hlen
          have hlast := hN _ (last_mem out hpos)
          have e7 := small_sum hlast.2 hc
          have e8 := rd_last out hpos
          simp only [e2, e3, e4, e5, e6, hcap, ↓reduceIte, Option.bind_some, Int.toNat_natCast, e8]
          have hq : ∀ q : Prop, ¬ q → (q → False) := fun _ h => h
          by_cases hb : (lastT out).f0 > 0
          · have ha : addLit out (s.extract p (p + 1)) = out ++ [⟨0, 0, s.extract p (p + 1)⟩] := by unfold addLit; rw [if_neg (fun q => by have := q.2.1; omega)]
            simp only [hb, ↓reduceIte]
            exact fresh ha _ rfl
          · by_cases ht : ((lastT out).f2.size : Int) ≥ 31
            · have ha : addLit out (s.extract p (p + 1)) = out ++ [⟨0, 0, s.extract p (p + 1)⟩] := by unfold addLit; rw [if_neg (fun q => by have := q.2.2; omega)]
              simp only [hb, ht, ↓reduceIte]
              exact fresh ha _ rfl
            · have hf0 : (lastT out).f0 = 0 := by omega
              have hf2 : (lastT out).f2.size < 31 := by omega
              have ha : addLit out (s.extract p (p + 1)) = out.set (out.length - 1) ⟨(lastT out).f0, (lastT out).f1, (lastT out).f2 ++ s.extract p (p + 1)⟩ := by unfold addLit; rw [if_pos ⟨hpos, hf0, hf2⟩]
              simp only [hb, ht, ↓reduceIte, e7]
              rw [ha] at next ⊢
              exact next
    · obtain rfl : p = s.size := by omega
      have e : toks s f out s.size = out := by
        cases f with
        | zero => rfl
        | succ f => rw [toks, if_neg (by omega)]
      rw [e]
      refine ev_st ?_
      simp only [impl_TokensOf.l0, show ¬ ((s.size : Int) < (s.size : Int)) from by omega, ↓reduceIte]
      exact Ev.now _
theorem impl_TokensOf_ev (s : ByteArray) : Ev (fun k => impl_TokensOf.f k s) (toksOf s) := by
  simp only [impl_TokensOf.f]
  unfold toksOf
  by_cases h : s.size ≤ 64
  · simp only [h, show ¬ ((s.size : Int) > 64) from by omega, ↓reduceIte]
    exact impl_TokensOf_l0 s h s.size 0 (by omega) s.size [] (by omega) (fun t ht => by cases ht) (by simp)
  · simp only [h, show (s.size : Int) > 64 from by omega, ↓reduceIte]
    exact Ev.now _

theorem spec_l04Match_l0 (s : ByteArray) (hs : s.size ≤ 64) (p j : Nat) (hj : j < p) (hp : p ≤ s.size) : ∀ (f n : Nat), n + f = 31 → p + n ≤ s.size → Ev (fun k => spec_l04Match.l0 k s (j : Int) (p : Int) (n : Int)) ((mlen s j p f n : Nat) : Int) := by
  intro f
  induction f with
  | zero =>
    intro n hn hpn
    obtain rfl : n = 31 := by omega
    refine ev_st ?_
    simp only [spec_l04Match.l0, show ¬ (((31 : Nat) : Int) < 31) from by omega, ↓reduceIte, mlen_zero]
    exact Ev.now _
  | succ f ih =>
    intro n hn hpn
    obtain ⟨e3, e4, e5, f1, f2, f3, f4, fy, fn⟩ := match_facts p j n f s.size hs hj hp hn hpn
    refine ev_st ?_
    rw [mlen_succ]
    by_cases ha : p + n < s.size
    · obtain ⟨f5, f6, f7⟩ := fy ha
      by_cases hb : bt s ((j + n : Nat) : Int) = bt s ((p + n : Nat) : Int)
      · rw [if_pos ⟨ha, hb⟩]
        simp only [spec_l04Match.l0, f1, ↓reduceIte, e3, e4, e5, f5, f2, f6, f3, hb]
        exact ih (n + 1) f4 f7
      · rw [if_neg (fun q => hb q.2)]
        simp only [spec_l04Match.l0, f1, ↓reduceIte, e3, e4, e5, f5, f2, f6, f3, hb]
        exact Ev.now _
    · have f5 := fn ha
      rw [if_neg (fun q => ha q.1)]
      simp only [spec_l04Match.l0, f1, ↓reduceIte, e3, f5]
      exact Ev.now _
/-- What follows when the longest match is known. -/
def afterBest (s : ByteArray) (k : Nat) (out : List S102) (p : Nat) (r : Int × Int) : Option (List S102) :=
  if r.1 > 0 then spec_TokensOf.l0 k s (out ++ [⟨r.2, r.1, (⟨#[]⟩ : ByteArray)⟩]) ((p : Int) + r.1) else spec_TokensOf.l0 k s (addLit out (s.extract p (p + 1))) ((p + 1 : Nat) : Int)
set_option maxHeartbeats 1000000 in
theorem spec_TokensOf_l1 (s : ByteArray) (hs : s.size ≤ 64) (p : Nat) (hp : p < s.size) (out : List S102) (hN : Nice out) (hl : out.length ≤ p) (r : List S102) :
    ∀ (j : Nat), j ≤ p → ∀ sz bk : Int, Match s p (sz, bk) → Ev (fun k => afterBest s k out p (best s p j (sz, bk))) r → Ev (fun k => spec_TokensOf.l1 k s out (p : Int) sz bk ((j : Int) - 1)) r := by
  intro j
  induction j with
  | zero =>
    intro _ sz bk hm h
    refine ev_st ?_
    obtain ⟨e0, f1, f2, f3, f4, f6, f7, f8⟩ := place_facts p (s.size - p) s.size s.size hs (by omega) hp (by omega)
    have hlen : out.length ≤ 64 := by omega
    have hcap := small_cap hlen
    have hc := one_byte s p hp
    have e9 : ¬ (((0 : Nat) : Int) - 1 ≥ 0) := by omega
    have e1 : wrap64 ((p : Int) + sz) = (p : Int) + sz := by
      rcases hm with hm | hm
      · have q : sz = 0 := congrArg Prod.fst hm
        subst q
        exact w64 (by omega) (by omega)
      · have q1 := hm.2.1
        have q2 := hm.1
        simp only at q1 q2
        exact w64 (by omega) (by omega)
    rw [best_zero] at h
    unfold afterBest at h
    simp only [spec_TokensOf.l1, e9, ↓reduceIte, e0, e1, hcap, f2, f3, f4, Int.toNat_natCast]
    by_cases hg : sz > 0
    · simp only [hg, ↓reduceIte] at h ⊢
      exact h
    · simp only [hg, ↓reduceIte] at h ⊢
      by_cases hk : out.length = 0
      · obtain ⟨e2, _, _, e4⟩ := zero_facts out.length hk
        have ha : addLit out (s.extract p (p + 1)) = out ++ [⟨0, 0, s.extract p (p + 1)⟩] := by unfold addLit; rw [if_neg (fun q => absurd hk (Nat.ne_of_gt q.1))]
        rw [ha] at h
        simp only [e2, e4, ↓reduceIte]
        exact h
      · obtain ⟨e2, e3, e4, e5, e6, hpos⟩ := pred_facts out.length hk hlen
        have e7 : ((out.length - 1 : Nat) : Int) ≥ 0 := e5
        have hlast := hN _ (last_mem out hpos)
        have e8 := rd_last out hpos
        have e10 := small_sum hlast.2 hc
        simp only [e2, e7, e5, e6, ↓reduceIte, Int.toNat_natCast, e8]
        by_cases hb : (lastT out).f0 = 0
        · by_cases ht : ((lastT out).f2.size : Int) < 31
          · have hf2 : (lastT out).f2.size < 31 := by omega
            have ha : addLit out (s.extract p (p + 1)) = out.set (out.length - 1) ⟨(lastT out).f0, (lastT out).f1, (lastT out).f2 ++ s.extract p (p + 1)⟩ := by unfold addLit; rw [if_pos ⟨hpos, hb, hf2⟩]
            rw [ha, hb] at h
            simp only [hb, ht, ↓reduceIte, e10]
            exact h
          · have ha : addLit out (s.extract p (p + 1)) = out ++ [⟨0, 0, s.extract p (p + 1)⟩] := by unfold addLit; rw [if_neg (fun q => by have := q.2.2; omega)]
            rw [ha] at h
            simp only [hb, ht, ↓reduceIte]
            exact h
        · have ha : addLit out (s.extract p (p + 1)) = out ++ [⟨0, 0, s.extract p (p + 1)⟩] := by unfold addLit; rw [if_neg (fun q => hb q.2.1)]
          rw [ha] at h
          simp only [hb, ↓reduceIte]
          exact h
  | succ j ih =>
    intro hj sz bk hm h
    refine ev_st ?_
    have e : ((j + 1 : Nat) : Int) - 1 = (j : Int) := by omega
    have e1 : wrap64 ((p : Int) - (j : Int)) = (p : Int) - (j : Int) := w64 (by omega) (by omega)
    have e2 : wrap64 ((j : Int) - 1) = (j : Int) - 1 := w64 (by omega) (by omega)
    rw [e]
    simp only [spec_TokensOf.l1, show (j : Int) ≥ 0 from by omega, ↓reduceIte, e1, e2]
    refine Ev.bind (spec_l04Match_l0 s hs p j (by omega) (by omega) 31 0 (by omega) (by omega)) ?_
    rw [best_succ] at h
    by_cases ha : ((mlen s j p 31 0 : Nat) : Int) ≥ 4
    · by_cases hb : ((mlen s j p 31 0 : Nat) : Int) > sz
      · simp only [ha, hb, ↓reduceIte]
        rw [if_pos ⟨by omega, hb⟩] at h
        refine ih (by omega) _ _ ?_ h
        obtain ⟨a1, b1, c1, d1⟩ := mlen_le s j p 31 0
        refine Or.inr ⟨by simp only; omega, by simp only; omega, by simp only; omega, by simp only; omega, by simp only; have := c1 (by omega); omega, fun i hi => ?_⟩
        simp only at hi ⊢
        rw [show (p : Int) - ((p : Int) - (j : Int)) + (i : Int) = ((j + i : Nat) : Int) from by omega, show (p : Int) + (i : Int) = ((p + i : Nat) : Int) from by omega]
        exact d1 i (by omega) (by omega)
      · simp only [ha, hb, ↓reduceIte]
        rw [if_neg (fun q => hb q.2)] at h
        exact ih (by omega) _ _ hm h
    · simp only [ha, ↓reduceIte]
      rw [if_neg (fun q => ha (by omega))] at h
      exact ih (by omega) _ _ hm h
theorem spec_TokensOf_l0 (s : ByteArray) (hs : s.size ≤ 64) : ∀ (d p : Nat), p + d = s.size → ∀ (f : Nat) (out : List S102), d ≤ f → Nice out → out.length ≤ p → Ev (fun k => spec_TokensOf.l0 k s out (p : Int)) (toks s f out p) := by
  intro d
  induction d using Nat.strongRecOn with
  | _ d ih =>
    intro p hp f out hf hN hl
    by_cases hlt : p < s.size
    · obtain ⟨f, rfl⟩ : ∃ g, f = g + 1 := ⟨f - 1, by omega⟩
      have hB := bestOf_match s p (by omega)
      have hc := one_byte s p hlt
      refine ev_st ?_
      rw [toks, if_pos hlt]
      simp only [spec_TokensOf.l0, show (p : Int) < (s.size : Int) from by omega, ↓reduceIte]
      rw [w64 (n := (p : Int) - 1) (by omega) (by omega)]
      refine spec_TokensOf_l1 s hs p hlt out hN hl _ p (Nat.le_refl _) 0 0 (Or.inl rfl) ?_
      have hBB : best s p p (0, 0) = bestOf s p := by unfold bestOf; rfl
      rw [hBB]
      unfold afterBest
      by_cases hg : (bestOf s p).1 > 0
      · rcases hB with hB | ⟨b1, b2, b3, b4, b5, _⟩
        · rw [hB] at hg; simp at hg
        · simp only [hg, ↓reduceIte]
          rw [show (p : Int) + (bestOf s p).1 = ((p + (bestOf s p).1.toNat : Nat) : Int) from by omega]
          exact ih (s.size - (p + (bestOf s p).1.toNat)) (by omega) _ (by omega) f _ (by omega) (nice_snoc out hN _ _ (by omega)) (by simp; omega)
      · simp only [hg, ↓reduceIte]
        exact ih (s.size - (p + 1)) (by omega) (p + 1) (by omega) f (addLit out (s.extract p (p + 1))) (by omega) (nice_addLit out hN _ hc) (by have := addLit_len out (s.extract p (p + 1)); omega)
    · obtain rfl : p = s.size := by omega
      have e : toks s f out s.size = out := by
        cases f with
        | zero => rfl
        | succ f => rw [toks, if_neg (by omega)]
      rw [e]
      refine ev_st ?_
      simp only [spec_TokensOf.l0, show ¬ ((s.size : Int) < (s.size : Int)) from by omega, ↓reduceIte]
      exact Ev.now _
theorem spec_TokensOf_ev (s : ByteArray) : Ev (fun k => spec_TokensOf.f k s) (toksOf s) := by
  simp only [spec_TokensOf.f, Option.bind_some]
  unfold toksOf
  by_cases h : s.size ≤ 64
  · simp only [h, show ¬ ((s.size : Int) > 64) from by omega, ↓reduceIte]
    exact spec_TokensOf_l0 s h s.size 0 (by omega) s.size [] (by omega) (fun t ht => by cases ht) (by simp)
  · simp only [h, show (s.size : Int) > 64 from by omega, ↓reduceIte]
    exact Ev.now _
theorem toks_len (s : ByteArray) : ∀ (f : Nat) (out : List S102) (p : Nat), (toks s f out p).length ≤ out.length + f := by
  intro f
  induction f with
  | zero => intro out p; exact Nat.le_refl _
  | succ f ih =>
    intro out p
    rw [toks]
    split
    · split
      · have := ih (out ++ [⟨(bestOf s p).2, (bestOf s p).1, (⟨#[]⟩ : ByteArray)⟩]) (p + (bestOf s p).1.toNat)
        simp at this; omega
      · have := ih (addLit out (s.extract p (p + 1))) (p + 1)
        have := addLit_len out (s.extract p (p + 1))
        omega
    · omega
theorem toksOf_len (s : ByteArray) : (toksOf s).length ≤ 64 := by
  unfold toksOf
  split
  · have := toks_len s s.size [] 0
    simp at this; omega
  · simp

/-! a text that is packed -/
theorem nice_toks (s : ByteArray) (hs : s.size ≤ 64) : ∀ (f : Nat) (out : List S102) (p : Nat), Nice out → Nice (toks s f out p) := by
  intro f
  induction f with
  | zero => intro out p h; exact h
  | succ f ih =>
    intro out p h
    rw [toks]
    split
    next hp =>
      split
      next hb =>
        refine ih _ _ (nice_snoc out h _ _ ?_)
        rcases bestOf_match s p (by omega) with e | ⟨_, _, h1, _⟩
        · rw [e]; exact Int.le_refl _
        · omega
      next => exact ih _ _ (nice_addLit out h _ (one_byte s p hp))
    next => exact h
theorem nice_toksOf (s : ByteArray) : Nice (toksOf s) := by
  unfold toksOf
  split
  next h => exact nice_toks s h _ _ _ (fun t ht => by cases ht)
  next => exact fun t ht => by cases ht
def packB (t : S102) : List Int := if t.f0 > 0 then [(wrap64 (128 + t.f1)) % 256, t.f0 % 256] else ((t.f2.size : Int) % 256) :: bytesOf t.f2
def packL (l : List S102) : List Int := l.flatMap packB
theorem packB_len (t : S102) (h : t.f2.size ≤ 64) : (packB t).length ≤ 65 := by
  unfold packB
  split
  · simp
  · rw [List.length_cons, bytesOf_length]; omega
theorem packL_cons (t : S102) (l : List S102) : packL (t :: l) = packB t ++ packL l := by simp [packL]
theorem packL_len : ∀ (l : List S102), Nice l → (packL l).length ≤ 65 * l.length := by
  intro l
  induction l with
  | nil => intro _; simp [packL]
  | cons t l ih =>
    intro h
    have h1 := ih (fun t ht => h t (List.mem_cons_of_mem _ ht))
    have h2 := packB_len t (h t List.mem_cons_self).2
    rw [packL_cons, List.length_append, List.length_cons]; omega
def packFin (s : ByteArray) (acc : List Int) : ByteArray × Bool := if (s.size : Int) + 1 ≤ (acc.length : Int) then ((⟨#[114]⟩ : ByteArray) ++ s, true) else (strOfNums acc, true)
def packOf (s : ByteArray) : ByteArray × Bool := if (s.size : Int) > 64 then ((⟨#[]⟩ : ByteArray), false) else packFin s ([122] ++ packL (toksOf s))
theorem cap_pack {a b d : Nat} (h : a + 65 * (d + 1) ≤ 100000) (hb : b ≤ 65) : a + b < 140737488355328 ∧ a < 140737488355328 ∧ (a + b) + 65 * d ≤ 100000 ∧ a + b ≤ 9223372036854775807 := by omega
theorem idx_facts (i n d : Nat) (h : i + (d + 1) = n) (hn : n ≤ 64) : (i : Int) < (n : Int) ∧ (0 : Int) ≤ (i : Int) ∧ wrap64 ((i : Int) + 1) = ((i + 1 : Nat) : Int) ∧ i + 1 + d = n ∧ i < n := by
  refine ⟨by omega, by omega, ?_, by omega, by omega⟩
  rw [w64 (by omega) (by omega)]; omega
theorem fin_facts (s : ByteArray) (h : s.size ≤ 64) : wrap64 ((s.size : Int) + 1) = (s.size : Int) + 1 ∧ 1 + s.size ≤ 9223372036854775807 := ⟨w64 (by omega) (by omega), by omega⟩

theorem impl_PackText_l0 (s : ByteArray) (hs : s.size ≤ 64) (l : List S102) (hl : l.length ≤ 64) (hn : Nice l) : ∀ (d i : Nat), i + d = l.length → ∀ acc : List Int, acc.length + 65 * d ≤ 100000 →
    Ev (fun k => impl_PackText.l0 k s acc l (l.length : Int) (i : Int)) (packFin s (acc ++ packL (l.drop i))) := by
  obtain ⟨e0, e1⟩ := fin_facts s hs
  intro d
  induction d with
  | zero =>
    intro i hi acc _
    obtain rfl : i = l.length := by omega
    refine ev_st ?_
    simp only [impl_PackText.l0, Int.lt_irrefl, ↓reduceIte, e0, e1, packFin, List.drop_length, packL, List.flatMap_nil, List.append_nil]
    split
    · exact Ev.now _
    · exact Ev.now _
  | succ d ih =>
    intro i hi acc hc
    obtain ⟨f1, f2, f3, f4, f5⟩ := idx_facts i l.length d hi hl
    have hg := rd_MT l i f5
    have hb := hn l[i] (List.getElem_mem _)
    have hp := packB_len l[i] hb.2
    obtain ⟨c1, c2, c3, _⟩ := cap_pack hc hp
    refine ev_st ?_
    have hx := ih (i + 1) f4 (acc ++ packB l[i]) (by rw [List.length_append]; exact c3)
    rw [List.drop_eq_getElem_cons f5, packL_cons, ← List.append_assoc]
    unfold packB at hx hp ⊢ c1
    simp only [impl_PackText.l0, f1, f2, ↓reduceIte, hg, f3]
    by_cases h0 : l[i].f0 > 0
    · simp only [h0, ↓reduceIte, Option.bind_some] at hx c1 ⊢
      simp only [c1, ↓reduceIte]
      exact hx
    · simp only [h0, ↓reduceIte, Option.bind_some, c2] at hx c1 ⊢
      have c5 : (acc ++ [((l[i].f2.size : Int)) % 256]).length + l[i].f2.size < 140737488355328 := by
        rw [List.length_cons, bytesOf_length] at c1
        rw [List.length_append, List.length_singleton]; omega
      simp only [c5, ↓reduceIte]
      rw [List.append_assoc, List.singleton_append]
      exact hx
theorem impl_PackText_ev (s : ByteArray) : Ev (fun k => impl_PackText.f k s) (packOf s) := by
  simp only [impl_PackText.f]
  unfold packOf
  by_cases h : (s.size : Int) > 64
  · simp only [h, ↓reduceIte]; exact Ev.now _
  · simp only [h, ↓reduceIte]
    have hl := toksOf_len s
    refine Ev.bind (impl_TokensOf_ev s) ?_
    have := impl_PackText_l0 s (by omega) (toksOf s) hl (nice_toksOf s) (toksOf s).length 0 (by omega) [122] (by simp only [List.length_singleton]; omega)
    simpa using this

theorem spec_PackText_l0 (s : ByteArray) (hs : s.size ≤ 64) (l : List S102) (hl : l.length ≤ 64) (hn : Nice l) : ∀ (d i : Nat), i + d = l.length → ∀ acc : List Int, acc.length + 65 * d ≤ 100000 →
    Ev (fun k => spec_PackText.l0 k s l (strOfNums acc) (i : Int)) (packFin s (acc ++ packL (l.drop i))) := by
  obtain ⟨e0, e1⟩ := fin_facts s hs
  intro d
  induction d with
  | zero =>
    intro i hi acc _
    obtain rfl : i = l.length := by omega
    refine ev_st ?_
    simp only [spec_PackText.l0, Int.lt_irrefl, ↓reduceIte, e0, e1, packFin, List.drop_length, packL, List.flatMap_nil, List.append_nil, strOfNums_size]
    split
    · exact Ev.now _
    · exact Ev.now _
  | succ d ih =>
    intro i hi acc hc
    obtain ⟨f1, f2, f3, f4, f5⟩ := idx_facts i l.length d hi hl
    have hg := rd_MT l i f5
    have hb := hn l[i] (List.getElem_mem _)
    have hp := packB_len l[i] hb.2
    obtain ⟨_, _, c3, c1⟩ := cap_pack hc hp
    refine ev_st ?_
    have hx := ih (i + 1) f4 (acc ++ packB l[i]) (by rw [List.length_append]; exact c3)
    rw [List.drop_eq_getElem_cons f5, packL_cons, ← List.append_assoc]
    rw [str_append] at hx
    unfold packB at hx hp ⊢ c1
    simp only [spec_PackText.l0, f1, f2, ↓reduceIte, hg, f3]
    by_cases h0 : l[i].f0 > 0
    · have h1 : ¬ l[i].f0 = 0 := by omega
      simp only [h0, h1, ↓reduceIte, Option.bind_some] at hx c1 ⊢
      simp only [strOfNums_size, c1, ↓reduceIte]
      exact hx
    · have h1 : l[i].f0 = 0 := by omega
      simp only [h1, Int.lt_irrefl, gt_iff_lt, ↓reduceIte, Option.bind_some] at hx c1 ⊢
      have c5 : acc.length + ([((l[i].f2.size : Int)) % 256] : List Int).length ≤ 9223372036854775807 := by
        rw [List.length_cons, bytesOf_length] at c1
        simp only [List.length_singleton]; omega
      have c6 : acc.length + ([((l[i].f2.size : Int)) % 256] : List Int).length + l[i].f2.size ≤ 9223372036854775807 := by
        rw [List.length_cons, bytesOf_length] at c1
        simp only [List.length_singleton]; omega
      simp only [strOfNums_size, ByteArray.size_append, c5, c6, ↓reduceIte]
      have hy : strOfNums (((l[i].f2.size : Int) % 256) :: bytesOf l[i].f2) = strOfNums [((l[i].f2.size : Int)) % 256] ++ l[i].f2 := by
        rw [← List.singleton_append, str_append, str_bytesOf]
      rw [hy, ← ByteArray.append_assoc] at hx
      exact hx
theorem spec_PackText_ev (s : ByteArray) : Ev (fun k => spec_PackText.f k s) (packOf s) := by
  simp only [spec_PackText.f]
  unfold packOf
  by_cases h : (s.size : Int) > 64
  · simp only [h, ↓reduceIte]; exact Ev.now _
  · simp only [h, ↓reduceIte]
    have hl := toksOf_len s
    refine Ev.bind (spec_TokensOf_ev s) ?_
    have := spec_PackText_l0 s (by omega) (toksOf s) hl (nice_toksOf s) (toksOf s).length 0 (by omega) [122] (by simp only [List.length_singleton]; omega)
    have hz : strOfNums [122] = (⟨#[122]⟩ : ByteArray) := by apply toList_inj.1; rfl
    rw [hz] at this
    simpa using this

theorem FnExactPackText : laws_FnExactPackText.Pure := by
  intro s _
  refine Ev.rounds ?_
  simp only [laws_FnExactPackText.f]
  by_cases hb : (s.size : Int) > 1048576
  · simp only [hb, ↓reduceIte]; exact Ev.now _
  · simp only [hb, ↓reduceIte]
    refine Ev.bind (spec_PackText_ev s) (Ev.bind (impl_PackText_ev s) ?_)
    simp only [↓reduceIte, bne_self_eq_false, Bool.false_eq_true]
    exact Ev.now _

end Go.Proofs.Ytekeaciflbkhpaa.Pure
