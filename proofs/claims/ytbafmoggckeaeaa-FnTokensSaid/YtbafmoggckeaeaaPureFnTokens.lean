/- What is proved here: the law FnTokens, told as a plain function over numbers and lists, answers true at all arguments. Conditions: those of the row alone, none of ours. -/
import Derived.Test.YtbafmoggckeaeaaQFnTokensx8
import Derived.Test.YtbafmoggckeaeaaKit
namespace Go.Proofs.Ytbafmoggckeaeaa.Pure
open Go.RowKit Go.Proofs.Ytbafmoggckeaeaa.QFnTokens Go.Proofs.YtbafmoggckeaeaaW.PrintWords Go.Proofs.YtbafmoggckeaeaaW.PrintLast Go.Proofs.Ytbafmoggckeaeaa.Kit Go.Proofs.YtbafmoggckeaeaaW.PrintMore
set_option linter.unusedSimpArgs false
set_option linter.unusedVariables false

theorem rd_MT (xs : List S56) (i : Nat) (h : i < xs.length) : rd_T56 xs (i : Int) = xs[i] := by
  unfold rd_T56; rw [Int.toNat_natCast, List.getD_eq_getElem?_getD, List.getElem?_eq_getElem h]; rfl

/-! how much is the same; the longest of it -/
def mlen (s : ByteArray) (j p : Nat) : Nat → Nat → Nat
  | 0, n => n
  | f + 1, n => if p + n < s.size ∧ bt s ((j + n : Nat) : Int) = bt s ((p + n : Nat) : Int) then mlen s j p f (n + 1) else n
def best (s : ByteArray) (p : Nat) : Nat → Int × Int → Int × Int
  | 0, r => r
  | j + 1, r => if 4 ≤ mlen s j p 31 0 ∧ r.1 < (mlen s j p 31 0 : Int) then best s p j ((mlen s j p 31 0 : Int), (p : Int) - (j : Int)) else best s p j r
theorem mlen_le (s : ByteArray) (j p : Nat) : ∀ (f n : Nat), n ≤ mlen s j p f n ∧ mlen s j p f n ≤ n + f ∧ (p + n ≤ s.size → p + mlen s j p f n ≤ s.size) ∧ ∀ i, n ≤ i → i < mlen s j p f n → bt s ((j + i : Nat) : Int) = bt s ((p + i : Nat) : Int) := by
  intro f
  induction f with
  | zero => intro n; exact ⟨Nat.le_refl _, Nat.le_refl _, (fun h => h : p + n ≤ s.size → p + n ≤ s.size), fun i h1 h2 => by simp only [mlen] at h2; omega⟩
  | succ f ih =>
    intro n
    rw [mlen]
    split
    next h =>
      obtain ⟨a, b, c, d⟩ := ih (n + 1)
      refine ⟨by omega, by omega, fun _ => c (by omega), fun i h1 h2 => ?_⟩
      rcases Nat.lt_or_ge n i with q | q
      · exact d i q h2
      · obtain rfl : i = n := by omega
        exact h.2
    next h => exact ⟨Nat.le_refl _, by omega, fun h => h, fun i h1 h2 => by omega⟩
/-- What a longest match is: none, or one of 4 to 31 bytes that lie in the text and are the same further ahead. -/
def Match (s : ByteArray) (p : Nat) (r : Int × Int) : Prop :=
  r = (0, 0) ∨ (4 ≤ r.1 ∧ r.1 ≤ 31 ∧ 1 ≤ r.2 ∧ r.2 ≤ (p : Int) ∧ (p : Int) + r.1 ≤ (s.size : Int) ∧ ∀ i : Nat, (i : Int) < r.1 → bt s ((p : Int) - r.2 + (i : Int)) = bt s ((p : Int) + (i : Int)))
theorem best_match (s : ByteArray) (p : Nat) (hp : p ≤ s.size) : ∀ (j : Nat), j ≤ p → ∀ r, Match s p r → Match s p (best s p j r) := by
  intro j
  induction j with
  | zero => intro _ r h; exact h
  | succ j ih =>
    intro hj r h
    rw [best]
    split
    next hc =>
      refine ih (by omega) _ (Or.inr ?_)
      obtain ⟨a, b, c, d⟩ := mlen_le s j p 31 0
      refine ⟨by simp only; omega, by simp only; omega, by simp only; omega, by simp only; omega, by simp only; have := c (by omega); omega, fun i hi => ?_⟩
      simp only at hi ⊢
      rw [show (p : Int) - ((p : Int) - (j : Int)) + (i : Int) = ((j + i : Nat) : Int) from by omega, show (p : Int) + (i : Int) = ((p + i : Nat) : Int) from by omega]
      exact d i (by omega) (by omega)
    next => exact ih (by omega) r h
theorem mlen_zero (s : ByteArray) (j p n : Nat) : mlen s j p 0 n = n := rfl
theorem mlen_succ (s : ByteArray) (j p f n : Nat) : mlen s j p (f + 1) n = if p + n < s.size ∧ bt s ((j + n : Nat) : Int) = bt s ((p + n : Nat) : Int) then mlen s j p f (n + 1) else n := rfl
theorem best_zero (s : ByteArray) (p : Nat) (r : Int × Int) : best s p 0 r = r := rfl
theorem best_succ (s : ByteArray) (p j : Nat) (r : Int × Int) : best s p (j + 1) r = if 4 ≤ mlen s j p 31 0 ∧ r.1 < (mlen s j p 31 0 : Int) then best s p j ((mlen s j p 31 0 : Int), (p : Int) - (j : Int)) else best s p j r := rfl
attribute [local irreducible] mlen best
theorem pred_facts (n : Nat) (h0 : n ≠ 0) (h : n ≤ 64) : wrap64 ((n : Int) - 1) = ((n - 1 : Nat) : Int) ∧ wrap64 (((n - 1 : Nat) : Int) + 1) = (n : Int) ∧ ¬ (((n - 1 : Nat) : Int) < 0) ∧ (0 : Int) ≤ ((n - 1 : Nat) : Int) ∧ ((n - 1 : Nat) : Int) < (n : Int) ∧ 0 < n := by
  refine ⟨?_, ?_, by omega, by omega, by omega, by omega⟩
  · rw [w64 (by omega) (by omega)]; omega
  · rw [w64 (by omega) (by omega)]; omega
theorem zero_facts (n : Nat) (h0 : n = 0) : wrap64 ((n : Int) - 1) = -1 ∧ wrap64 ((-1 : Int) + 1) = (n : Int) ∧ (-1 : Int) < 0 ∧ ¬ ((-1 : Int) ≥ 0) := by
  refine ⟨?_, ?_, by omega, by omega⟩
  · rw [w64 (by omega) (by omega)]; omega
  · rw [w64 (by omega) (by omega)]; omega
theorem match_facts (p j n f z : Nat) (hz : z ≤ 64) (hj : j < p) (hp : p ≤ z) (hn : n + (f + 1) = 31) (hpn : p + n ≤ z) : wrap64 ((p : Int) + (n : Int)) = ((p + n : Nat) : Int) ∧ wrap64 ((j : Int) + (n : Int)) = ((j + n : Nat) : Int) ∧ wrap64 ((n : Int) + 1) = ((n + 1 : Nat) : Int) ∧ (n : Int) < 31 ∧ (0 : Int) ≤ ((j + n : Nat) : Int) ∧ (0 : Int) ≤ ((p + n : Nat) : Int) ∧ n + 1 + f = 31 ∧ (p + n < z → ((p + n : Nat) : Int) < (z : Int) ∧ ((j + n : Nat) : Int) < (z : Int) ∧ p + (n + 1) ≤ z) ∧ (¬ p + n < z → ¬ (((p + n : Nat) : Int) < (z : Int))) := by
  refine ⟨?_, ?_, ?_, by omega, by omega, by omega, by omega, fun h => ⟨by omega, by omega, by omega⟩, fun h => by omega⟩
  · rw [w64 (by omega) (by omega)]; omega
  · rw [w64 (by omega) (by omega)]; omega
  · rw [w64 (by omega) (by omega)]; omega
theorem place_facts (p d z f : Nat) (hz : z ≤ 64) (h : p + d = z) (hlt : p < z) (hf : d ≤ f + 1) : wrap64 ((p : Int) + 1) = ((p + 1 : Nat) : Int) ∧ (p : Int) < (z : Int) ∧ (0 : Int) ≤ (p : Int) ∧ (p : Int) ≤ ((p + 1 : Nat) : Int) ∧ ((p + 1 : Nat) : Int) ≤ (z : Int) ∧ z - (p + 1) < d ∧ p + 1 + (z - (p + 1)) = z ∧ z - (p + 1) ≤ f := by
  refine ⟨?_, by omega, by omega, by omega, by omega, by omega, by omega, by omega⟩
  rw [w64 (by omega) (by omega)]; omega
def bestOf (s : ByteArray) (p : Nat) : Int × Int := best s p p (0, 0)
theorem bestOf_match (s : ByteArray) (p : Nat) (hp : p ≤ s.size) : Match s p (bestOf s p) := best_match s p hp p (Nat.le_refl _) _ (Or.inl rfl)
attribute [local irreducible] bestOf
/-! the tokens -/
def lastT (out : List S56) : S56 := out.getD (out.length - 1) z56
def addLit (out : List S56) (c : ByteArray) : List S56 :=
  if 0 < out.length ∧ (lastT out).f0 = 0 ∧ (lastT out).f2.size < 31 then out.set (out.length - 1) ⟨(lastT out).f0, (lastT out).f1, (lastT out).f2 ++ c⟩ else out ++ [⟨0, 0, c⟩]
def toks (s : ByteArray) : Nat → List S56 → Nat → List S56
  | 0, out, _ => out
  | f + 1, out, p => if p < s.size then (if (bestOf s p).1 > 0 then toks s f (out ++ [⟨(bestOf s p).2, (bestOf s p).1, (⟨#[]⟩ : ByteArray)⟩]) (p + (bestOf s p).1.toNat) else toks s f (addLit out (s.extract p (p + 1))) (p + 1)) else out
def toksOf (s : ByteArray) : List S56 := if s.size ≤ 64 then toks s s.size [] 0 else []
theorem small_cap {n : Nat} (h : n ≤ 64) : n < 4398046511104 := by omega
theorem small_sum {a b : Nat} (h : a ≤ 64) (hb : b = 1) : a + b ≤ 9223372036854775807 := by omega
theorem addLit_len (out : List S56) (c : ByteArray) : (addLit out c).length ≤ out.length + 1 := by
  unfold addLit
  split
  · rw [List.length_set]; omega
  · simp
theorem last_mem (out : List S56) (h : 0 < out.length) : lastT out ∈ out := by
  unfold lastT
  rw [List.getD_eq_getElem?_getD, List.getElem?_eq_getElem (by omega)]
  exact List.getElem_mem _
theorem rd_last (out : List S56) (h : 0 < out.length) : rd_T56 out ((out.length - 1 : Nat) : Int) = lastT out := by
  unfold rd_T56 lastT; rw [Int.toNat_natCast]
theorem one_byte (s : ByteArray) (p : Nat) (h : p < s.size) : (s.extract p (p + 1)).size = 1 := by rw [ByteArray.size_extract]; omega
/-- No token leads ahead of its place, and no text is long. -/
def Nice (out : List S56) : Prop := ∀ t ∈ out, 0 ≤ t.f0 ∧ t.f2.size ≤ 64
theorem nice_addLit (out : List S56) (h : Nice out) (c : ByteArray) (hc : c.size = 1) : Nice (addLit out c) := by
  unfold addLit
  split
  next hq =>
    intro t ht
    rcases List.mem_or_eq_of_mem_set ht with ht | rfl
    · exact h t ht
    · refine ⟨(h _ (last_mem out hq.1)).1, ?_⟩
      simp only [ByteArray.size_append]
      omega
  next =>
    intro t ht
    rcases List.mem_append.1 ht with ht | ht
    · exact h t ht
    · obtain rfl := List.mem_singleton.1 ht
      exact ⟨Int.le_refl _, by simp only; omega⟩
theorem nice_snoc (out : List S56) (h : Nice out) (a b : Int) (ha : 0 ≤ a) : Nice (out ++ [⟨a, b, (⟨#[]⟩ : ByteArray)⟩]) := by
  intro t ht
  rcases List.mem_append.1 ht with ht | ht
  · exact h t ht
  · obtain rfl := List.mem_singleton.1 ht
    exact ⟨ha, by show 0 ≤ 64; omega⟩

theorem impl_matchAt_l1 (s : ByteArray) (hs : s.size ≤ 64) (p j : Nat) (hj : j < p) (hp : p ≤ s.size) (sz bk r1 r2 : Int) (r : Int × Int)
    (h : ∀ n : Nat, n = mlen s j p 31 0 → Ev (fun k => if 4 ≤ n ∧ sz < (n : Int) then impl_matchAt.l0 k s (p : Int) (n : Int) ((p : Int) - (j : Int)) ((j : Int) - 1) else impl_matchAt.l0 k s (p : Int) sz bk ((j : Int) - 1)) r) :
    ∀ (f n : Nat), n + f = 31 → p + n ≤ s.size → mlen s j p f n = mlen s j p 31 0 → Ev (fun k => impl_matchAt.l1 k s (p : Int) sz bk (j : Int) (n : Int)) r := by
  have e1 : wrap64 ((p : Int) - (j : Int)) = (p : Int) - (j : Int) := w64 (by omega) (by omega)
  have e2 : wrap64 ((j : Int) - 1) = (j : Int) - 1 := w64 (by omega) (by omega)
  have done_ : ∀ n : Nat, n = mlen s j p 31 0 → Ev (fun k => if (n : Int) ≥ 4 then (if (n : Int) > sz then impl_matchAt.l0 k s (p : Int) (n : Int) ((p : Int) - (j : Int)) ((j : Int) - 1) else impl_matchAt.l0 k s (p : Int) sz bk ((j : Int) - 1)) else impl_matchAt.l0 k s (p : Int) sz bk ((j : Int) - 1)) r := by
    intro n hn
    have g := h n hn
    by_cases a : (n : Int) ≥ 4
    · by_cases b : (n : Int) > sz
      · simp only [a, b, show 4 ≤ n from by omega, show sz < (n : Int) from b, and_self, ↓reduceIte] at g ⊢
        exact g
      · simp only [a, b, show ¬ (sz < (n : Int)) from b, and_false, ↓reduceIte] at g ⊢
        exact g
    · simp only [a, show ¬ (4 ≤ n) from by omega, false_and, ↓reduceIte] at g ⊢
      exact g
  intro f
  induction f with
  | zero =>
    intro n hn hpn
    obtain rfl : n = 31 := by omega
    have f1 : ¬ (((31 : Nat) : Int) < 31) := by omega
    intro hm
    rw [mlen_zero] at hm
    have g := done_ 31 hm
    refine ev_st ?_
    simp only [impl_matchAt.l1, f1, ↓reduceIte, e1, e2]
    exact g
  | succ f ih =>
    intro n hn hpn
    obtain ⟨e3, e4, e5, f1, f2, f3, f4, fy, fn⟩ := match_facts p j n f s.size hs hj hp hn hpn
    intro hm
    rw [mlen_succ] at hm
    refine ev_st ?_
    by_cases ha : p + n < s.size
    · obtain ⟨f5, f6, f7⟩ := fy ha
      by_cases hb : bt s ((j + n : Nat) : Int) = bt s ((p + n : Nat) : Int)
      · rw [if_pos ⟨ha, hb⟩] at hm
        simp only [impl_matchAt.l1, f1, ↓reduceIte, e1, e2, e3, e4, e5, f5, f2, f6, f3, hb]
        exact ih (n + 1) f4 f7 hm
      · rw [if_neg (fun q => hb q.2)] at hm
        have g := done_ n hm
        simp only [impl_matchAt.l1, f1, ↓reduceIte, e1, e2, e3, e4, e5, f5, f2, f6, f3, hb]
        exact g
    · have f5 := fn ha
      rw [if_neg (fun q => ha q.1)] at hm
      have g := done_ n hm
      simp only [impl_matchAt.l1, f1, ↓reduceIte, e1, e2, e3, f5]
      exact g
theorem impl_matchAt_l0 (s : ByteArray) (hs : s.size ≤ 64) (p : Nat) (hp : p ≤ s.size) : ∀ (j : Nat), j ≤ p → ∀ sz bk : Int, Ev (fun k => impl_matchAt.l0 k s (p : Int) sz bk ((j : Int) - 1)) (best s p j (sz, bk)) := by
  intro j
  induction j with
  | zero =>
    intro _ sz bk
    refine ev_st ?_
    simp only [impl_matchAt.l0, show ¬ (((0 : Nat) : Int) - 1 ≥ 0) from by omega, ↓reduceIte, best_zero]
    exact Ev.now _
  | succ j ih =>
    intro hj sz bk
    refine ev_st ?_
    have e : ((j + 1 : Nat) : Int) - 1 = (j : Int) := by omega
    rw [e]
    simp only [impl_matchAt.l0, show (j : Int) ≥ 0 from by omega, ↓reduceIte]
    rw [best_succ]
    refine impl_matchAt_l1 s hs p j (by omega) hp sz bk 0 0 _ ?_ 31 0 (by omega) (by omega) rfl
    intro n hn
    subst hn
    by_cases hc : 4 ≤ mlen s j p 31 0 ∧ sz < (mlen s j p 31 0 : Int)
    · simp only [hc, and_self, ↓reduceIte]
      exact ih (by omega) _ _
    · simp only [hc, ↓reduceIte]
      exact ih (by omega) _ _
theorem impl_matchAt_ev (s : ByteArray) (hs : s.size ≤ 64) (p : Nat) (hp : p ≤ s.size) : Ev (fun k => impl_matchAt.f k s (p : Int)) (bestOf s p) := by
  simp only [impl_matchAt.f]
  rw [w64 (by omega) (by omega)]
  unfold bestOf
  exact impl_matchAt_l0 s hs p hp p (Nat.le_refl _) 0 0
set_option maxHeartbeats 1000000 in
theorem impl_TokensOf_l0 (s : ByteArray) (hs : s.size ≤ 64) : ∀ (d p : Nat), p + d = s.size → ∀ (f : Nat) (out : List S56), d ≤ f → Nice out → out.length ≤ p → Ev (fun k => impl_TokensOf.l0 k s out (p : Int)) (toks s f out p) := by
  intro d
  induction d using Nat.strongRecOn with
  | _ d ih =>
    intro p hp f out hf hN hl
    by_cases hlt : p < s.size
    · obtain ⟨f, rfl⟩ : ∃ g, f = g + 1 := ⟨f - 1, by omega⟩
      have hB := bestOf_match s p (by omega)
      obtain ⟨e0, f1, f2, f3, f4, f6, f7, f8⟩ := place_facts p d s.size f hs hp hlt hf
      have f5 : (0 : Int) ≤ (out.length : Int) := by omega
      have hlen : out.length ≤ 64 := by omega
      have hcap := small_cap hlen
      have hc := one_byte s p hlt
      have hL := addLit_len out (s.extract p (p + 1))
      have next := ih (s.size - (p + 1)) f6 (p + 1) f7 f (addLit out (s.extract p (p + 1))) f8 (nice_addLit out hN _ hc) (Nat.le_trans hL (Nat.succ_le_succ hl))
      have grow : ∀ r : Int × Int, Match s p r → r.1 > 0 → Ev (fun k => impl_TokensOf.l0 k s (out ++ [⟨r.2, r.1, (⟨#[]⟩ : ByteArray)⟩]) (wrap64 ((p : Int) + r.1))) (toks s f (out ++ [⟨r.2, r.1, (⟨#[]⟩ : ByteArray)⟩]) (p + r.1.toNat)) := by
        intro r hB hg
        rcases hB with hB | ⟨b1, b2, b3, b4, b5, _⟩
        · rw [hB] at hg; simp at hg
        · have e1 : wrap64 ((p : Int) + r.1) = ((p + r.1.toNat : Nat) : Int) := by rw [w64 (by omega) (by omega)]; omega
          rw [e1]
          exact ih (s.size - (p + r.1.toNat)) (by omega) _ (by omega) f _ (by omega) (nice_snoc out hN _ _ (by omega)) (by simp; omega)
      have fresh : addLit out (s.extract p (p + 1)) = out ++ [⟨0, 0, s.extract p (p + 1)⟩] → ∀ y, y = out ++ [⟨0, 0, (⟨#[]⟩ : ByteArray)⟩] →
          Ev (fun k => if 0 ≤ (out.length : Int) then (if (out.length : Int) < (y.length : Int) then (if ((rd_T56 y (out.length : Int)).f2).size + (s.extract p (p + 1)).size ≤ 9223372036854775807 then impl_TokensOf.l0 k s (y.set out.length ⟨(rd_T56 y (out.length : Int)).f0, (rd_T56 y (out.length : Int)).f1, ((rd_T56 y (out.length : Int)).f2) ++ (s.extract p (p + 1))⟩) ((p + 1 : Nat) : Int) else none) else none) else none) (toks s f (addLit out (s.extract p (p + 1))) (p + 1)) := by
        intro ha y hy
        have hy1 : rd_T56 y (out.length : Int) = ⟨0, 0, (⟨#[]⟩ : ByteArray)⟩ := by
          rw [rd_MT y out.length (by rw [hy]; simp)]
          simp only [hy]
          simp
        have hy2 : (out.length : Int) < (y.length : Int) := by rw [hy, List.length_append]; simp only [List.length_singleton]; omega
        have hz : (⟨#[]⟩ : ByteArray) ++ s.extract p (p + 1) = s.extract p (p + 1) := ByteArray.empty_append
        have hy3 : y.set out.length ⟨0, 0, s.extract p (p + 1)⟩ = addLit out (s.extract p (p + 1)) := by rw [ha, hy]; simp
        have hs1 : (⟨#[]⟩ : ByteArray).size + (s.extract p (p + 1)).size ≤ 9223372036854775807 := small_sum (Nat.zero_le _) hc
        simp only [f5, hy2, ↓reduceIte, hy1, hz, hy3, hs1]
        exact next
      clear ih
      refine ev_st ?_
      rw [toks, if_pos hlt]
      simp only [impl_TokensOf.l0, f1, ↓reduceIte]
      refine Ev.bind (impl_matchAt_ev s hs p (by omega)) ?_
      have hB := grow (bestOf s p) (bestOf_match s p (by omega))
      generalize bestOf s p = r at hB ⊢
      by_cases hg : r.1 > 0
      · simp only [hg, hcap, ↓reduceIte]
        exact hB hg
      · clear hB grow
        simp only [hg, ↓reduceIte, e0, f2, f3, f4, Int.toNat_natCast]
        by_cases hk : out.length = 0
        · obtain ⟨e2, e3, e4, _⟩ := zero_facts out.length hk
          have ha : addLit out (s.extract p (p + 1)) = out ++ [⟨0, 0, s.extract p (p + 1)⟩] := by unfold addLit; rw [if_neg (fun q => absurd hk (Nat.ne_of_gt q.1))]
          simp only [e2, e3, e4, hcap, ↓reduceIte, Option.bind_some, Int.toNat_natCast]
          exact fresh ha _ rfl
        · obtain ⟨e2, e3, e4, e5, e6, hpos⟩ := pred_facts out.length hk hlen
          have hlast := hN _ (last_mem out hpos)
          have e7 := small_sum hlast.2 hc
          have e8 := rd_last out hpos
          simp only [e2, e3, e4, e5, e6, hcap, ↓reduceIte, Option.bind_some, Int.toNat_natCast, e8]
          have hq : ∀ q : Prop, ¬ q → (q → False) := fun _ h => h
          by_cases hb : (lastT out).f0 > 0
          · have ha : addLit out (s.extract p (p + 1)) = out ++ [⟨0, 0, s.extract p (p + 1)⟩] := by unfold addLit; rw [if_neg (fun q => by have := q.2.1; omega)]
            simp only [hb, ↓reduceIte]
            exact fresh ha _ rfl
          · by_cases ht : ((lastT out).f2.size : Int) ≥ 31
            · have ha : addLit out (s.extract p (p + 1)) = out ++ [⟨0, 0, s.extract p (p + 1)⟩] := by unfold addLit; rw [if_neg (fun q => by have := q.2.2; omega)]
              simp only [hb, ht, ↓reduceIte]
              exact fresh ha _ rfl
            · have hf0 : (lastT out).f0 = 0 := by omega
              have hf2 : (lastT out).f2.size < 31 := by omega
              have ha : addLit out (s.extract p (p + 1)) = out.set (out.length - 1) ⟨(lastT out).f0, (lastT out).f1, (lastT out).f2 ++ s.extract p (p + 1)⟩ := by unfold addLit; rw [if_pos ⟨hpos, hf0, hf2⟩]
              simp only [hb, ht, ↓reduceIte, e7]
              rw [ha] at next ⊢
              exact next
    · obtain rfl : p = s.size := by omega
      have e : toks s f out s.size = out := by
        cases f with
        | zero => rfl
        | succ f => rw [toks, if_neg (by omega)]
      rw [e]
      refine ev_st ?_
      simp only [impl_TokensOf.l0, show ¬ ((s.size : Int) < (s.size : Int)) from by omega, ↓reduceIte]
      exact Ev.now _
theorem impl_TokensOf_ev (s : ByteArray) : Ev (fun k => impl_TokensOf.f k s) (toksOf s) := by
  simp only [impl_TokensOf.f]
  unfold toksOf
  by_cases h : s.size ≤ 64
  · simp only [h, show ¬ ((s.size : Int) > 64) from by omega, ↓reduceIte]
    exact impl_TokensOf_l0 s h s.size 0 (by omega) s.size [] (by omega) (fun t ht => by cases ht) (by simp)
  · simp only [h, show (s.size : Int) > 64 from by omega, ↓reduceIte]
    exact Ev.now _

theorem spec_l04Match_l0 (s : ByteArray) (hs : s.size ≤ 64) (p j : Nat) (hj : j < p) (hp : p ≤ s.size) : ∀ (f n : Nat), n + f = 31 → p + n ≤ s.size → Ev (fun k => spec_l04Match.l0 k s (j : Int) (p : Int) (n : Int)) ((mlen s j p f n : Nat) : Int) := by
  intro f
  induction f with
  | zero =>
    intro n hn hpn
    obtain rfl : n = 31 := by omega
    refine ev_st ?_
    simp only [spec_l04Match.l0, show ¬ (((31 : Nat) : Int) < 31) from by omega, ↓reduceIte, mlen_zero]
    exact Ev.now _
  | succ f ih =>
    intro n hn hpn
    obtain ⟨e3, e4, e5, f1, f2, f3, f4, fy, fn⟩ := match_facts p j n f s.size hs hj hp hn hpn
    refine ev_st ?_
    rw [mlen_succ]
    by_cases ha : p + n < s.size
    · obtain ⟨f5, f6, f7⟩ := fy ha
      by_cases hb : bt s ((j + n : Nat) : Int) = bt s ((p + n : Nat) : Int)
      · rw [if_pos ⟨ha, hb⟩]
        simp only [spec_l04Match.l0, f1, ↓reduceIte, e3, e4, e5, f5, f2, f6, f3, hb]
        exact ih (n + 1) f4 f7
      · rw [if_neg (fun q => hb q.2)]
        simp only [spec_l04Match.l0, f1, ↓reduceIte, e3, e4, e5, f5, f2, f6, f3, hb]
        exact Ev.now _
    · have f5 := fn ha
      rw [if_neg (fun q => ha q.1)]
      simp only [spec_l04Match.l0, f1, ↓reduceIte, e3, f5]
      exact Ev.now _
/-- What follows when the longest match is known. -/
def afterBest (s : ByteArray) (k : Nat) (out : List S56) (p : Nat) (r : Int × Int) : Option (List S56) :=
  if r.1 > 0 then spec_TokensOf.l0 k s (out ++ [⟨r.2, r.1, (⟨#[]⟩ : ByteArray)⟩]) ((p : Int) + r.1) else spec_TokensOf.l0 k s (addLit out (s.extract p (p + 1))) ((p + 1 : Nat) : Int)
set_option maxHeartbeats 1000000 in
theorem spec_TokensOf_l1 (s : ByteArray) (hs : s.size ≤ 64) (p : Nat) (hp : p < s.size) (out : List S56) (hN : Nice out) (hl : out.length ≤ p) (r : List S56) :
    ∀ (j : Nat), j ≤ p → ∀ sz bk : Int, Match s p (sz, bk) → Ev (fun k => afterBest s k out p (best s p j (sz, bk))) r → Ev (fun k => spec_TokensOf.l1 k s out (p : Int) sz bk ((j : Int) - 1)) r := by
  intro j
  induction j with
  | zero =>
    intro _ sz bk hm h
    refine ev_st ?_
    obtain ⟨e0, f1, f2, f3, f4, f6, f7, f8⟩ := place_facts p (s.size - p) s.size s.size hs (by omega) hp (by omega)
    have hlen : out.length ≤ 64 := by omega
    have hcap := small_cap hlen
    have hc := one_byte s p hp
    have e9 : ¬ (((0 : Nat) : Int) - 1 ≥ 0) := by omega
    have e1 : wrap64 ((p : Int) + sz) = (p : Int) + sz := by
      rcases hm with hm | hm
      · have q : sz = 0 := congrArg Prod.fst hm
        subst q
        exact w64 (by omega) (by omega)
      · have q1 := hm.2.1
        have q2 := hm.1
        simp only at q1 q2
        exact w64 (by omega) (by omega)
    rw [best_zero] at h
    unfold afterBest at h
    simp only [spec_TokensOf.l1, e9, ↓reduceIte, e0, e1, hcap, f2, f3, f4, Int.toNat_natCast]
    by_cases hg : sz > 0
    · simp only [hg, ↓reduceIte] at h ⊢
      exact h
    · simp only [hg, ↓reduceIte] at h ⊢
      by_cases hk : out.length = 0
      · obtain ⟨e2, _, _, e4⟩ := zero_facts out.length hk
        have ha : addLit out (s.extract p (p + 1)) = out ++ [⟨0, 0, s.extract p (p + 1)⟩] := by unfold addLit; rw [if_neg (fun q => absurd hk (Nat.ne_of_gt q.1))]
        rw [ha] at h
        simp only [e2, e4, ↓reduceIte]
        exact h
      · obtain ⟨e2, e3, e4, e5, e6, hpos⟩ := pred_facts out.length hk hlen
        have e7 : ((out.length - 1 : Nat) : Int) ≥ 0 := e5
        have hlast := hN _ (last_mem out hpos)
        have e8 := rd_last out hpos
        have e10 := small_sum hlast.2 hc
        simp only [e2, e7, e5, e6, ↓reduceIte, Int.toNat_natCast, e8]
        by_cases hb : (lastT out).f0 = 0
        · by_cases ht : ((lastT out).f2.size : Int) < 31
          · have hf2 : (lastT out).f2.size < 31 := by omega
            have ha : addLit out (s.extract p (p + 1)) = out.set (out.length - 1) ⟨(lastT out).f0, (lastT out).f1, (lastT out).f2 ++ s.extract p (p + 1)⟩ := by unfold addLit; rw [if_pos ⟨hpos, hb, hf2⟩]
            rw [ha, hb] at h
            simp only [hb, ht, ↓reduceIte, e10]
            exact h
          · have ha : addLit out (s.extract p (p + 1)) = out ++ [⟨0, 0, s.extract p (p + 1)⟩] := by unfold addLit; rw [if_neg (fun q => by have := q.2.2; omega)]
            rw [ha] at h
            simp only [hb, ht, ↓reduceIte]
            exact h
        · have ha : addLit out (s.extract p (p + 1)) = out ++ [⟨0, 0, s.extract p (p + 1)⟩] := by unfold addLit; rw [if_neg (fun q => hb q.2.1)]
          rw [ha] at h
          simp only [hb, ↓reduceIte]
          exact h
  | succ j ih =>
    intro hj sz bk hm h
    refine ev_st ?_
    have e : ((j + 1 : Nat) : Int) - 1 = (j : Int) := by omega
    have e1 : wrap64 ((p : Int) - (j : Int)) = (p : Int) - (j : Int) := w64 (by omega) (by omega)
    have e2 : wrap64 ((j : Int) - 1) = (j : Int) - 1 := w64 (by omega) (by omega)
    rw [e]
    simp only [spec_TokensOf.l1, show (j : Int) ≥ 0 from by omega, ↓reduceIte, e1, e2]
    refine Ev.bind (spec_l04Match_l0 s hs p j (by omega) (by omega) 31 0 (by omega) (by omega)) ?_
    rw [best_succ] at h
    by_cases ha : ((mlen s j p 31 0 : Nat) : Int) ≥ 4
    · by_cases hb : ((mlen s j p 31 0 : Nat) : Int) > sz
      · simp only [ha, hb, ↓reduceIte]
        rw [if_pos ⟨by omega, hb⟩] at h
        refine ih (by omega) _ _ ?_ h
        obtain ⟨a1, b1, c1, d1⟩ := mlen_le s j p 31 0
        refine Or.inr ⟨by simp only; omega, by simp only; omega, by simp only; omega, by simp only; omega, by simp only; have := c1 (by omega); omega, fun i hi => ?_⟩
        simp only at hi ⊢
        rw [show (p : Int) - ((p : Int) - (j : Int)) + (i : Int) = ((j + i : Nat) : Int) from by omega, show (p : Int) + (i : Int) = ((p + i : Nat) : Int) from by omega]
        exact d1 i (by omega) (by omega)
      · simp only [ha, hb, ↓reduceIte]
        rw [if_neg (fun q => hb q.2)] at h
        exact ih (by omega) _ _ hm h
    · simp only [ha, ↓reduceIte]
      rw [if_neg (fun q => ha (by omega))] at h
      exact ih (by omega) _ _ hm h
theorem spec_TokensOf_l0 (s : ByteArray) (hs : s.size ≤ 64) : ∀ (d p : Nat), p + d = s.size → ∀ (f : Nat) (out : List S56), d ≤ f → Nice out → out.length ≤ p → Ev (fun k => spec_TokensOf.l0 k s out (p : Int)) (toks s f out p) := by
  intro d
  induction d using Nat.strongRecOn with
  | _ d ih =>
    intro p hp f out hf hN hl
    by_cases hlt : p < s.size
    · obtain ⟨f, rfl⟩ : ∃ g, f = g + 1 := ⟨f - 1, by omega⟩
      have hB := bestOf_match s p (by omega)
      have hc := one_byte s p hlt
      refine ev_st ?_
      rw [toks, if_pos hlt]
      simp only [spec_TokensOf.l0, show (p : Int) < (s.size : Int) from by omega, ↓reduceIte]
      rw [w64 (n := (p : Int) - 1) (by omega) (by omega)]
      refine spec_TokensOf_l1 s hs p hlt out hN hl _ p (Nat.le_refl _) 0 0 (Or.inl rfl) ?_
      have hBB : best s p p (0, 0) = bestOf s p := by unfold bestOf; rfl
      rw [hBB]
      unfold afterBest
      by_cases hg : (bestOf s p).1 > 0
      · rcases hB with hB | ⟨b1, b2, b3, b4, b5, _⟩
        · rw [hB] at hg; simp at hg
        · simp only [hg, ↓reduceIte]
          rw [show (p : Int) + (bestOf s p).1 = ((p + (bestOf s p).1.toNat : Nat) : Int) from by omega]
          exact ih (s.size - (p + (bestOf s p).1.toNat)) (by omega) _ (by omega) f _ (by omega) (nice_snoc out hN _ _ (by omega)) (by simp; omega)
      · simp only [hg, ↓reduceIte]
        exact ih (s.size - (p + 1)) (by omega) (p + 1) (by omega) f (addLit out (s.extract p (p + 1))) (by omega) (nice_addLit out hN _ hc) (by have := addLit_len out (s.extract p (p + 1)); omega)
    · obtain rfl : p = s.size := by omega
      have e : toks s f out s.size = out := by
        cases f with
        | zero => rfl
        | succ f => rw [toks, if_neg (by omega)]
      rw [e]
      refine ev_st ?_
      simp only [spec_TokensOf.l0, show ¬ ((s.size : Int) < (s.size : Int)) from by omega, ↓reduceIte]
      exact Ev.now _
theorem spec_TokensOf_ev (s : ByteArray) : Ev (fun k => spec_TokensOf.f k s) (toksOf s) := by
  simp only [spec_TokensOf.f, Option.bind_some]
  unfold toksOf
  by_cases h : s.size ≤ 64
  · simp only [h, show ¬ ((s.size : Int) > 64) from by omega, ↓reduceIte]
    exact spec_TokensOf_l0 s h s.size 0 (by omega) s.size [] (by omega) (fun t ht => by cases ht) (by simp)
  · simp only [h, show (s.size : Int) > 64 from by omega, ↓reduceIte]
    exact Ev.now _
theorem toks_len (s : ByteArray) : ∀ (f : Nat) (out : List S56) (p : Nat), (toks s f out p).length ≤ out.length + f := by
  intro f
  induction f with
  | zero => intro out p; exact Nat.le_refl _
  | succ f ih =>
    intro out p
    rw [toks]
    split
    · split
      · have := ih (out ++ [⟨(bestOf s p).2, (bestOf s p).1, (⟨#[]⟩ : ByteArray)⟩]) (p + (bestOf s p).1.toNat)
        simp at this; omega
      · have := ih (addLit out (s.extract p (p + 1))) (p + 1)
        have := addLit_len out (s.extract p (p + 1))
        omega
    · omega
theorem toksOf_len (s : ByteArray) : (toksOf s).length ≤ 64 := by
  unfold toksOf
  split
  · have := toks_len s s.size [] 0
    simp at this; omega
  · simp

theorem spec_l01In_eq (a b c : Int) : spec_l01In.f a b c = some (decide (b ≤ a ∧ a ≤ c)) := by
  unfold spec_l01In.f
  by_cases h : b ≤ a <;> simp [h, GE.ge]

theorem impl_in_eq (a b c : Int) : impl_in.f a b c = some (decide (b ≤ a ∧ a ≤ c)) := by
  unfold impl_in.f
  by_cases h : b ≤ a <;> simp [h, GE.ge]

/-! what tokens tell -/
def copyM (back : Int) : Nat → List Int → List Int
  | 0, acc => acc
  | n + 1, acc => copyM back n (acc ++ [rd acc ((acc.length : Int) - back)])
theorem copyM_len (back : Int) : ∀ (n : Nat) (acc : List Int), (copyM back n acc).length = acc.length + n
  | 0, _ => rfl
  | n + 1, acc => by rw [copyM, copyM_len back n, List.length_append, List.length_singleton]; omega
def plainM : List S56 → List Int → ByteArray × Bool
  | [], acc => (strOfNums acc, true)
  | t :: l, acc =>
    if t.f0 = 0 then (if (1 ≤ (t.f2.size : Int) ∧ (t.f2.size : Int) ≤ 31) ∧ t.f1 = 0 then (if ((acc ++ bytesOf t.f2).length : Int) > 64 then ((⟨#[]⟩ : ByteArray), false) else plainM l (acc ++ bytesOf t.f2)) else ((⟨#[]⟩ : ByteArray), false))
    else (if ((1 ≤ t.f0 ∧ t.f0 ≤ (acc.length : Int)) ∧ (1 ≤ t.f1 ∧ t.f1 ≤ 31)) ∧ t.f2.toList = [] then (if ((copyM t.f0 t.f1.toNat acc).length : Int) > 64 then ((⟨#[]⟩ : ByteArray), false) else plainM l (copyM t.f0 t.f1.toNat acc)) else ((⟨#[]⟩ : ByteArray), false))
theorem back_facts (a : Nat) (b : Int) (h1 : 1 ≤ b) (h2 : b ≤ (a : Int)) (ha : a ≤ 1000) : wrap64 ((a : Int) - b) = (a : Int) - b ∧ 0 ≤ (a : Int) - b ∧ (a : Int) - b < (a : Int) ∧ a < 140737488355328 := by
  refine ⟨w64 (by omega) (by omega), by omega, by omega, by omega⟩
theorem step_facts (j s : Int) (n : Nat) (h : j + ((n + 1 : Nat) : Int) = s) (h0 : 0 ≤ j) (hs : s ≤ 31) : j < s ∧ wrap64 (j + 1) = j + 1 ∧ j + 1 + (n : Int) = s := by
  refine ⟨by omega, w64 (by omega) (by omega), by omega⟩
theorem lit_facts (a z : Nat) (ha : a ≤ 64) (hz : z ≤ 31) : z < 140737488355328 ∧ a + z < 140737488355328 := by omega
theorem long_facts (n : Nat) (h : ¬ ((n : Int) > 64)) : n ≤ 64 := by omega
theorem toNat_facts (s : Int) (h : 1 ≤ s) : (0 : Int) + (s.toNat : Int) = s := by omega
theorem pidx_facts (i n d : Nat) (h : i + (d + 1) = n) (hn : n ≤ 1048576) : (i : Int) < (n : Int) ∧ (0 : Int) ≤ (i : Int) ∧ wrap64 ((i : Int) + 1) = ((i + 1 : Nat) : Int) ∧ i + 1 + d = n ∧ i < n := by
  refine ⟨by omega, by omega, ?_, by omega, by omega⟩
  rw [w64 (by omega) (by omega)]; omega

theorem spec_PlainOf_l1 (l : List S56) (x5 : Int) (f0 f1 : Int) (f2 : ByteArray) (hb : 1 ≤ f0) (hs : f1 ≤ 31) (r : ByteArray × Bool) : ∀ (n : Nat) (j : Int) (acc : List Int), 0 ≤ j → j + (n : Int) = f1 → f0 ≤ (acc.length : Int) → acc.length + n ≤ 1000 →
    Ev (fun k => if ((copyM f0 n acc).length : Int) > 64 then some ((⟨#[]⟩ : ByteArray), false) else spec_PlainOf.l0 k l (copyM f0 n acc) (wrap64 (x5 + 1))) r →
    Ev (fun k => spec_PlainOf.l1 k l acc x5 j f0 f1 f2) r := by
  intro n
  induction n with
  | zero =>
    intro j acc h0 hj _ _ h
    refine ev_st ?_
    simp only [spec_PlainOf.l1, show ¬ (j < f1) from by omega, ↓reduceIte]
    exact h
  | succ n ih =>
    intro j acc h0 hj hb2 ha h
    obtain ⟨f3, e1, f4⟩ := step_facts j f1 n hj h0 hs
    obtain ⟨e2, f5, f6, f7⟩ := back_facts acc.length f0 hb hb2 (by omega)
    refine ev_st ?_
    simp only [spec_PlainOf.l1, f3, ↓reduceIte, e2, f5, f6, f7, e1]
    exact ih (j + 1) _ (by omega) f4 (by rw [List.length_append, List.length_singleton]; omega) (by rw [List.length_append, List.length_singleton]; omega) h
theorem spec_PlainOf_l0 (l : List S56) (hl : l.length ≤ 1048576) : ∀ (d i : Nat), i + d = l.length → ∀ acc : List Int, acc.length ≤ 64 → Ev (fun k => spec_PlainOf.l0 k l acc (i : Int)) (plainM (l.drop i) acc) := by
  intro d
  induction d with
  | zero =>
    intro i hi acc _
    obtain rfl : i = l.length := by omega
    refine ev_st ?_
    simp only [spec_PlainOf.l0, Int.lt_irrefl, ↓reduceIte, List.drop_length, plainM]
    exact Ev.now _
  | succ d ih =>
    intro i hi acc ha
    obtain ⟨f1, f2, f3, f4, f5⟩ := pidx_facts i l.length d hi hl
    have hg := rd_MT l i f5
    rw [List.drop_eq_getElem_cons f5, plainM]
    refine ev_st ?_
    simp only [spec_PlainOf.l0, f1, f2, ↓reduceIte, hg, spec_l01In_eq, Option.bind_some]
    generalize l[i] = t
    by_cases h0 : t.f0 = 0
    · simp only [h0, ↓reduceIte]
      by_cases h1 : 1 ≤ (t.f2.size : Int) ∧ (t.f2.size : Int) ≤ 31
      · simp only [h1, and_self, decide_true, ↓reduceIte, true_and]
        refine ev_st ?_
        simp only [spec_PlainOf.j1, bne_iff_ne, ne_eq]
        by_cases h2 : t.f1 = 0
        · obtain ⟨g1, g2⟩ := lit_facts acc.length t.f2.size ha (by omega)
          simp only [h2, not_true_eq_false, ↓reduceIte, g1, g2, bytesOf_length, Option.bind_some, f3]
          by_cases h3 : ((acc ++ bytesOf t.f2).length : Int) > 64
          · simp only [h3, ↓reduceIte]; exact Ev.now _
          · simp only [h3, ↓reduceIte]; exact ih (i + 1) f4 _ (long_facts _ h3)
        · simp only [h2, not_false_eq_true, ↓reduceIte]; exact Ev.now _
      · simp only [h1, decide_false, Bool.false_eq_true, ↓reduceIte, false_and]
        refine ev_st ?_
        simp only [spec_PlainOf.j1, ↓reduceIte]
        exact Ev.now _
    · simp only [h0, ↓reduceIte]
      by_cases h1 : 1 ≤ t.f0 ∧ t.f0 ≤ (acc.length : Int)
      · by_cases h2 : 1 ≤ t.f1 ∧ t.f1 ≤ 31
        · simp only [h1, h2, and_self, decide_true, ↓reduceIte, true_and]
          refine ev_st ?_
          simp only [spec_PlainOf.j2, bne_iff_ne, ne_eq]
          by_cases h3 : t.f2.toList = []
          · simp only [h3, not_true_eq_false, ↓reduceIte]
            refine spec_PlainOf_l1 l (i : Int) t.f0 t.f1 t.f2 h1.1 h2.2 _ t.f1.toNat 0 acc (by omega) (toNat_facts _ h2.1) h1.2 (by omega) ?_
            simp only [f3]
            by_cases h4 : ((copyM t.f0 t.f1.toNat acc).length : Int) > 64
            · simp only [h4, ↓reduceIte]; exact Ev.now _
            · simp only [h4, ↓reduceIte]; exact ih (i + 1) f4 _ (long_facts _ h4)
          · simp only [h3, not_false_eq_true, ↓reduceIte]; exact Ev.now _
        · simp only [h1, h2, and_self, and_false, false_and, decide_true, decide_false, Bool.false_eq_true, ↓reduceIte]
          refine ev_st ?_
          simp only [spec_PlainOf.j2, ↓reduceIte]
          exact Ev.now _
      · simp only [h1, false_and, decide_false, Bool.false_eq_true, ↓reduceIte]
        refine ev_st ?_
        simp only [spec_PlainOf.j2, ↓reduceIte]
        exact Ev.now _
theorem spec_PlainOf_ev (l : List S56) (hl : l.length ≤ 1048576) : Ev (fun k => spec_PlainOf.f k l) (plainM l []) := by
  have := spec_PlainOf_l0 l hl l.length 0 (by omega) [] (by simp)
  simpa [spec_PlainOf.f] using this

theorem impl_PlainOf_l1 (l : List S56) (z x5 : Int) (f0 f1 : Int) (f2 : ByteArray) (hb : 1 ≤ f0) (hs : f1 ≤ 31) (r : ByteArray × Bool) : ∀ (n : Nat) (j : Int) (acc : List Int), 0 ≤ j → j + (n : Int) = f1 → f0 ≤ (acc.length : Int) → acc.length + n ≤ 1000 →
    Ev (fun k => if ((copyM f0 n acc).length : Int) > 64 then some ((⟨#[]⟩ : ByteArray), false) else impl_PlainOf.l0 k (copyM f0 n acc) l z (wrap64 (x5 + 1))) r →
    Ev (fun k => impl_PlainOf.l1 k acc l z x5 f1 j f0 f1 f2) r := by
  intro n
  induction n with
  | zero =>
    intro j acc h0 hj _ _ h
    refine ev_st ?_
    simp only [impl_PlainOf.l1, show ¬ (j < f1) from by omega, ↓reduceIte]
    exact h
  | succ n ih =>
    intro j acc h0 hj hb2 ha h
    obtain ⟨f3, e1, f4⟩ := step_facts j f1 n hj h0 hs
    obtain ⟨e2, f5, f6, f7⟩ := back_facts acc.length f0 hb hb2 (by omega)
    refine ev_st ?_
    simp only [impl_PlainOf.l1, f3, ↓reduceIte, e2, f5, f6, f7, e1]
    exact ih (j + 1) _ (by omega) f4 (by rw [List.length_append, List.length_singleton]; omega) (by rw [List.length_append, List.length_singleton]; omega) h
theorem impl_PlainOf_l0 (l : List S56) (hl : l.length ≤ 1048576) : ∀ (d i : Nat), i + d = l.length → ∀ acc : List Int, acc.length ≤ 64 → Ev (fun k => impl_PlainOf.l0 k acc l (l.length : Int) (i : Int)) (plainM (l.drop i) acc) := by
  intro d
  induction d with
  | zero =>
    intro i hi acc _
    obtain rfl : i = l.length := by omega
    refine ev_st ?_
    simp only [impl_PlainOf.l0, Int.lt_irrefl, ↓reduceIte, List.drop_length, plainM]
    exact Ev.now _
  | succ d ih =>
    intro i hi acc ha
    obtain ⟨f1, f2, f3, f4, f5⟩ := pidx_facts i l.length d hi hl
    have hg := rd_MT l i f5
    rw [List.drop_eq_getElem_cons f5, plainM]
    refine ev_st ?_
    simp only [impl_PlainOf.l0, f1, f2, ↓reduceIte, hg, impl_in_eq, Option.bind_some]
    generalize l[i] = t
    by_cases h0 : t.f0 = 0
    · simp only [h0, ↓reduceIte]
      by_cases h2 : t.f1 = 0
      · simp only [h2, ↓reduceIte, and_true]
        refine ev_st ?_
        simp only [impl_PlainOf.j1, Bool.not_eq_true', decide_eq_false_iff_not]
        by_cases h1 : 1 ≤ (t.f2.size : Int) ∧ (t.f2.size : Int) ≤ 31
        · obtain ⟨g1, g2⟩ := lit_facts acc.length t.f2.size ha (by omega)
          simp only [h1, and_self, not_true_eq_false, ↓reduceIte, g1, g2, bytesOf_length, Option.bind_some, f3]
          by_cases h3 : ((acc ++ bytesOf t.f2).length : Int) > 64
          · simp only [h3, ↓reduceIte]; exact Ev.now _
          · simp only [h3, ↓reduceIte]; exact ih (i + 1) f4 _ (long_facts _ h3)
        · simp only [h1, not_false_eq_true, ↓reduceIte]; exact Ev.now _
      · simp only [h2, and_false, ↓reduceIte]
        refine ev_st ?_
        simp only [impl_PlainOf.j1, ↓reduceIte]
        exact Ev.now _
    · simp only [h0, ↓reduceIte]
      by_cases h1 : 1 ≤ t.f0 ∧ t.f0 ≤ (acc.length : Int)
      · by_cases h2 : 1 ≤ t.f1 ∧ t.f1 ≤ 31
        · simp only [h1, h2, and_self, decide_true, ↓reduceIte, true_and]
          refine ev_st ?_
          simp only [impl_PlainOf.j2, bne_iff_ne, ne_eq]
          by_cases h3 : t.f2.toList = []
          · simp only [h3, not_true_eq_false, ↓reduceIte]
            refine impl_PlainOf_l1 l _ (i : Int) t.f0 t.f1 t.f2 h1.1 h2.2 _ t.f1.toNat 0 acc (by omega) (toNat_facts _ h2.1) h1.2 (by omega) ?_
            simp only [f3]
            by_cases h4 : ((copyM t.f0 t.f1.toNat acc).length : Int) > 64
            · simp only [h4, ↓reduceIte]; exact Ev.now _
            · simp only [h4, ↓reduceIte]; exact ih (i + 1) f4 _ (long_facts _ h4)
          · simp only [h3, not_false_eq_true, ↓reduceIte]; exact Ev.now _
        · simp only [h1, h2, and_self, and_false, false_and, decide_true, decide_false, Bool.false_eq_true, ↓reduceIte]
          refine ev_st ?_
          simp only [impl_PlainOf.j2, ↓reduceIte]
          exact Ev.now _
      · simp only [h1, false_and, decide_false, Bool.false_eq_true, ↓reduceIte]
        refine ev_st ?_
        simp only [impl_PlainOf.j2, ↓reduceIte]
        exact Ev.now _
theorem impl_PlainOf_ev (l : List S56) (hl : l.length ≤ 1048576) : Ev (fun k => impl_PlainOf.f k l) (plainM l []) := by
  have := impl_PlainOf_l0 l hl l.length 0 (by omega) [] (by simp)
  simpa [impl_PlainOf.f] using this

theorem toList_nil (a : ByteArray) : a.toList = [] ↔ a.size = 0 := by
  rw [ByteArray.toList_eq, ← List.length_eq_zero_iff, data_length]

/-! tokens tell their text -/
def okT (t : S56) (acc : List Int) : Prop := (t.f0 = 0 ∧ (1 ≤ t.f2.size ∧ t.f2.size ≤ 31) ∧ t.f1 = 0) ∨ (t.f0 ≠ 0 ∧ (1 ≤ t.f0 ∧ t.f0 ≤ (acc.length : Int)) ∧ (4 ≤ t.f1 ∧ t.f1 ≤ 31) ∧ t.f2.size = 0)
def tellT (t : S56) (acc : List Int) : List Int := if t.f0 = 0 then acc ++ bytesOf t.f2 else copyM t.f0 t.f1.toNat acc
/-- From acc on the tokens tell a. -/
def Tells : List S56 → List Int → List Int → Prop
  | [], acc, a => acc = a
  | t :: l, acc, a => okT t acc ∧ Tells l (tellT t acc) a
theorem tells_append : ∀ (l m : List S56) (acc a b : List Int), Tells l acc a → Tells m a b → Tells (l ++ m) acc b
  | [], m, acc, a, b, h, h2 => by rw [show acc = a from h]; exact h2
  | t :: l, m, acc, a, b, h, h2 => ⟨h.1, tells_append l m _ a b h.2 h2⟩
theorem tells_split : ∀ (l m : List S56) (acc b : List Int), Tells (l ++ m) acc b → ∃ a, Tells l acc a ∧ Tells m a b
  | [], m, acc, b, h => ⟨acc, rfl, h⟩
  | t :: l, m, acc, b, h => by
    obtain ⟨a, h1, h2⟩ := tells_split l m _ b h.2
    exact ⟨a, ⟨h.1, h1⟩, h2⟩
theorem tellT_len (t : S56) (acc : List Int) : acc.length ≤ (tellT t acc).length := by
  unfold tellT
  split
  · rw [List.length_append]; omega
  · rw [copyM_len]; omega
theorem tells_len : ∀ (l : List S56) (acc a : List Int), Tells l acc a → acc.length ≤ a.length
  | [], acc, a, h => by rw [show acc = a from h]; exact Nat.le_refl _
  | t :: l, acc, a, h => Nat.le_trans (tellT_len t acc) (tells_len l _ a h.2)
theorem plainM_tells : ∀ (l : List S56) (acc a : List Int), Tells l acc a → a.length ≤ 64 → plainM l acc = (strOfNums a, true)
  | [], acc, a, h, _ => by rw [show acc = a from h]; rfl
  | t :: l, acc, a, h, ha => by
    have h1 := tells_len l _ a h.2
    have hr := plainM_tells l _ a h.2 ha
    rw [plainM]
    unfold tellT at h1 hr
    rcases h.1 with ⟨g0, g1, g2⟩ | ⟨g0, g1, g2, g3⟩
    · have g4 : 1 ≤ (t.f2.size : Int) ∧ (t.f2.size : Int) ≤ 31 := by omega
      simp only [g0, ↓reduceIte] at h1 hr ⊢
      have g5 : ¬ ((acc ++ bytesOf t.f2).length : Int) > 64 := by omega
      simp only [g4, g2, and_self, ↓reduceIte, g5]
      exact hr
    · have g4 : 1 ≤ t.f1 ∧ t.f1 ≤ 31 := by omega
      have g6 : t.f2.toList = [] := (toList_nil _).2 g3
      simp only [g0, ↓reduceIte] at h1 hr ⊢
      have g5 : ¬ ((copyM t.f0 t.f1.toNat acc).length : Int) > 64 := by omega
      simp only [g1, g4, g6, and_self, ↓reduceIte, g5]
      exact hr
theorem copy_match (s : ByteArray) (back : Int) : ∀ (n p : Nat), p + n ≤ s.size → 1 ≤ back → back ≤ (p : Int) → (∀ i : Nat, i < n → bt s ((p : Int) - back + (i : Int)) = bt s ((p : Int) + (i : Int))) → copyM back n ((bytesOf s).take p) = (bytesOf s).take (p + n) := by
  intro n
  induction n with
  | zero => intro p _ _ _ _; rfl
  | succ n ih =>
    intro p hp hb hb2 hm
    have hlen : ((bytesOf s).take p).length = p := by rw [List.length_take, bytesOf_length]; omega
    have hq : ((p : Int) - back) = (((p : Int) - back).toNat : Int) := by omega
    have h0 := hm 0 (by omega)
    rw [copyM, hlen]
    have hrd : rd ((bytesOf s).take p) ((p : Int) - back) = bt s (p : Int) := by
      have e1 : bt s ((p : Int) - back) = bt s (p : Int) := by simpa using h0
      rw [← e1, ← rd_bytesOf, hq]
      unfold rd
      rw [Int.toNat_natCast, List.getD_eq_getElem?_getD, List.getD_eq_getElem?_getD, List.getElem?_take_of_lt (by omega)]
    rw [hrd]
    have hsn : (bytesOf s).take p ++ [bt s (p : Int)] = (bytesOf s).take (p + 1) := by
      rw [List.take_succ_eq_append_getElem (by rw [bytesOf_length]; omega), bt_get s p (by omega)]
    rw [hsn]
    have := ih (p + 1) (by omega) hb (by omega) (fun i hi => by
      have := hm (i + 1) (by omega)
      rw [show (((p + 1 : Nat) : Int) - back + (i : Int)) = (p : Int) - back + ((i + 1 : Nat) : Int) from by omega, show (((p + 1 : Nat) : Int) + (i : Int)) = (p : Int) + ((i + 1 : Nat) : Int) from by omega]
      exact this)
    rw [this, show p + 1 + n = p + (n + 1) from by omega]
theorem tells_addLit (s : ByteArray) (out : List S56) (p : Nat) (hp : p < s.size) (h : Tells out [] ((bytesOf s).take p)) : Tells (addLit out (s.extract p (p + 1))) [] ((bytesOf s).take (p + 1)) := by
  have h1 := one_byte s p hp
  have hb : bytesOf (s.extract p (p + 1)) = [bt s (p : Int)] := by
    rw [bytesOf_extract, List.drop_take, Nat.add_sub_cancel_left, drop_bt s p hp]
    rfl
  have hsn : (bytesOf s).take p ++ [bt s (p : Int)] = (bytesOf s).take (p + 1) := by
    rw [List.take_succ_eq_append_getElem (by rw [bytesOf_length]; omega), bt_get s p (by omega)]
  unfold addLit
  split
  next hq =>
    obtain ⟨q0, q1, q2⟩ := hq
    rcases List.eq_nil_or_concat out with rfl | ⟨l, t, rfl⟩
    · simp at q0
    · have e : lastT (l ++ [t]) = t := by simp [lastT]
      rw [List.concat_eq_append] at *
      rw [e] at q1 q2 ⊢
      obtain ⟨a, ha, hb2⟩ := tells_split l [t] [] _ h
      obtain ⟨ho, he⟩ := hb2
      have he : tellT t a = (bytesOf s).take p := he
      unfold tellT at he
      rw [if_pos q1] at he
      have hset : (l ++ [t]).set ((l ++ [t]).length - 1) ⟨t.f0, t.f1, t.f2 ++ s.extract p (p + 1)⟩ = l ++ [⟨t.f0, t.f1, t.f2 ++ s.extract p (p + 1)⟩] := by
        simp
      rw [hset]
      refine tells_append l _ [] a _ ha ⟨?_, ?_⟩
      · rcases ho with ⟨_, g1, g2⟩ | ⟨g0, _⟩
        · refine Or.inl ⟨q1, ?_, g2⟩
          simp only [ByteArray.size_append]; omega
        · exact absurd q1 g0
      · show tellT _ a = _
        unfold tellT
        rw [if_pos q1, bytesOf_append, hb, ← List.append_assoc, he, hsn]
  next =>
    refine tells_append out _ [] _ _ h ⟨Or.inl ⟨rfl, by simp only; omega, rfl⟩, ?_⟩
    show tellT _ _ = _
    unfold tellT
    rw [if_pos rfl, hb, hsn]
theorem tells_toks (s : ByteArray) (hs : s.size ≤ 64) : ∀ (f : Nat) (out : List S56) (p : Nat), s.size - p ≤ f → p ≤ s.size → Tells out [] ((bytesOf s).take p) → Tells (toks s f out p) [] (bytesOf s) := by
  intro f
  induction f with
  | zero =>
    intro out p hf hp h
    obtain rfl : p = s.size := by omega
    rw [List.take_of_length_le (by rw [bytesOf_length]; exact Nat.le_refl _)] at h
    exact h
  | succ f ih =>
    intro out p hf hp h
    rw [toks]
    split
    next hlt =>
      split
      next hb =>
        rcases bestOf_match s p hp with e | ⟨m1, m2, m3, m4, m5, m6⟩
        · rw [e] at hb; exact absurd hb (by decide)
        · have hc := copy_match s (bestOf s p).2 (bestOf s p).1.toNat p (by omega) m3 m4 (fun i hi => m6 i (by omega))
          refine ih _ _ (by omega) (by omega) (tells_append out _ [] _ _ h ⟨Or.inr ⟨by simp only; omega, ⟨m3, ?_⟩, ⟨m1, m2⟩, rfl⟩, ?_⟩)
          · rw [List.length_take, bytesOf_length]; simp only; omega
          · show tellT _ _ = _
            unfold tellT
            rw [if_neg (by simp only; omega)]
            exact hc
      next => exact ih _ _ (by omega) (by omega) (tells_addLit s out p hlt h)
    next hge =>
      obtain rfl : p = s.size := by omega
      rw [List.take_of_length_le (by rw [bytesOf_length]; exact Nat.le_refl _)] at h
      exact h
theorem tells_toksOf (s : ByteArray) (hs : s.size ≤ 64) : Tells (toksOf s) [] (bytesOf s) := by
  unfold toksOf
  rw [if_pos hs]
  exact tells_toks s hs s.size [] 0 (by omega) (by omega) rfl
theorem plainM_toksOf (s : ByteArray) (hs : s.size ≤ 64) : plainM (toksOf s) [] = (s, true) := by
  rw [plainM_tells _ _ _ (tells_toksOf s hs) (by rw [bytesOf_length]; exact hs), str_bytesOf]

/-! what is drawn -/
theorem bits_and255 (x : Int) : 0 ≤ Go.bits .and .i64 x 255 ∧ Go.bits .and .i64 x 255 ≤ 255 := by
  have h : (BitVec.ofInt IntKind.i64.bits x &&& BitVec.ofInt IntKind.i64.bits 255).toNat ≤ 255 := by
    rw [BitVec.toNat_and]
    exact Nat.le_trans Nat.and_le_right (by decide)
  simp only [Go.bits, IntKind.wrap_i64]
  omega
theorem l01Byte_is (l : List Int) (i s : Int) (hl : l.length ≤ 1048576) (hi : 0 ≤ i) : ∃ b j t, spec_l01Byte.f l i s = some (b, j, t) ∧ 0 ≤ b ∧ b ≤ 255 ∧ 0 ≤ j := by
  unfold spec_l01Byte.f
  by_cases h : i < (l.length : Int)
  · simp only [h, hi, ↓reduceIte]
    have e : wrap64 (i + 1) = i + 1 := w64 (by omega) (by omega)
    exact ⟨_, _, _, rfl, (bits_and255 _).1, (bits_and255 _).2, by omega⟩
  · simp only [h, ↓reduceIte]
    exact ⟨_, _, _, rfl, (bits_and255 _).1, (bits_and255 _).2, hi⟩
theorem tmod_range (a n : Int) (ha : 0 ≤ a) (hn : 1 ≤ n) : 0 ≤ Int.tmod a n ∧ Int.tmod a n < n := by
  rw [Int.tmod_eq_emod_of_nonneg ha]
  exact ⟨Int.emod_nonneg _ (by omega), Int.emod_lt_of_pos _ (by omega)⟩
theorem l01Below_is (l : List Int) (i s n : Int) (hl : l.length ≤ 1048576) (hi : 0 ≤ i) : ∃ b j t, spec_l01Below.f l i s n = some (b, j, t) ∧ 0 ≤ b ∧ (1 ≤ n → b < n) ∧ 0 ≤ j := by
  unfold spec_l01Below.f
  by_cases h : n ≤ 0
  · simp only [h, ↓reduceIte]
    exact ⟨_, _, _, rfl, by omega, fun h => by omega, hi⟩
  · simp only [h, show ¬ n = 0 from by omega, ↓reduceIte]
    obtain ⟨b1, j1, t1, e1, g1, g2, g3⟩ := l01Byte_is l i s hl hi
    by_cases h2 : n ≤ 256
    · have q := tmod_range b1 n g1 (by omega)
      simp only [h2, ↓reduceIte, e1, Option.bind_some]
      exact ⟨_, _, _, rfl, q.1, fun _ => q.2, g3⟩
    · obtain ⟨b2, j2, t2, e2, k1, k2, k3⟩ := l01Byte_is l j1 t1 hl g3
      obtain ⟨b3, j3, t3, e3, m1, m2, m3⟩ := l01Byte_is l j2 t2 hl k3
      obtain ⟨b4, j4, t4, e4, n1, n2, n3⟩ := l01Byte_is l j3 t3 hl m3
      simp only [h2, ↓reduceIte, e1, e2, e3, e4, Option.bind_some]
      have q := tmod_range (wrap64 ((wrap64 ((wrap64 ((wrap64 (b1 * 16777216)) + (wrap64 (b2 * 65536)))) + (wrap64 (b3 * 256)))) + b4)) n (by
        rw [w64 (n := b1 * 16777216) (by omega) (by omega), w64 (n := b2 * 65536) (by omega) (by omega), w64 (n := b3 * 256) (by omega) (by omega), w64 (n := b1 * 16777216 + b2 * 65536) (by omega) (by omega), w64 (n := b1 * 16777216 + b2 * 65536 + b3 * 256) (by omega) (by omega), w64 (by omega) (by omega)]
        omega) (by omega)
      exact ⟨_, _, _, rfl, q.1, fun _ => q.2, n3⟩
theorem l01New_l0 (l : List Int) (hl : l.length ≤ 1048576) : ∀ (d i : Nat), i + d = l.length → ∀ x : Int, ∃ y, Ev (fun k => spec_l01New.l0 k l x (i : Int)) (l, 0, y) := by
  intro d
  induction d with
  | zero =>
    intro i hi x
    obtain rfl : i = l.length := by omega
    refine ⟨x, ev_st ?_⟩
    simp only [spec_l01New.l0, Int.lt_irrefl, ↓reduceIte]
    exact Ev.now _
  | succ d ih =>
    intro i hi x
    have h1 : (i : Int) < (l.length : Int) := by omega
    have h2 : (0 : Int) ≤ (i : Int) := by omega
    have e : wrap64 ((i : Int) + 1) = ((i + 1 : Nat) : Int) := by rw [w64 (by omega) (by omega)]; omega
    by_cases h3 : (i : Int) < 4000
    · obtain ⟨y, hy⟩ := ih (i + 1) (by omega) (Go.bits .and .i64 (wrap64 ((wrap64 ((wrap64 (x * 131)) + (wrap64 (rd l (i : Int))))) + 7)) 1073741823)
      refine ⟨y, ev_st ?_⟩
      simp only [spec_l01New.l0, h1, h2, h3, ↓reduceIte, e]
      exact hy
    · refine ⟨x, ev_st ?_⟩
      simp only [spec_l01New.l0, h1, h3, ↓reduceIte]
      exact Ev.now _
theorem l01New_ev (l : List Int) (hl : l.length ≤ 1048576) : ∃ y, Ev (fun k => spec_l01New.f k l) (l, 0, y) := by
  obtain ⟨y, hy⟩ := l01New_l0 l hl l.length 0 (by omega) (wrap64 (36501 + (l.length : Int)))
  exact ⟨y, by simpa [spec_l01New.f] using hy⟩

/-! a text that is drawn; tokens that are drawn -/
theorem l01Pick_is (l : List Int) (i s : Int) (m : List ByteArray) (hl : l.length ≤ 1048576) (hi : 0 ≤ i) (hm : 1 ≤ m.length) (B : Nat) (hB : ∀ x ∈ m, x.size ≤ B) : ∃ b j t, spec_l01Pick.f l i s m = some (b, j, t) ∧ b.size ≤ B ∧ 0 ≤ j := by
  obtain ⟨b, j, t, e, h1, h2, h3⟩ := l01Below_is l i s (m.length : Int) hl hi
  have h4 := h2 (by omega)
  unfold spec_l01Pick.f
  simp only [e, Option.bind_some, h1, h4, ↓reduceIte]
  refine ⟨_, _, _, rfl, ?_, h3⟩
  unfold rdOf
  rw [List.getD_eq_getElem?_getD, List.getElem?_eq_getElem (by omega)]
  exact hB _ (List.getElem_mem _)
theorem l04Plain_l0 (l : List Int) (hl : l.length ≤ 1048576) : ∀ (d n : Nat), n + d = 8 → ∀ (x : ByteArray) (i s : Int), 0 ≤ i → x.size ≤ 8 * n → ∃ r j t, Ev (fun k => spec_l04Plain.l0 k x (n : Int) l i s) (r, j, t) ∧ r.size ≤ 64 ∧ 0 ≤ j := by
  intro d
  induction d with
  | zero =>
    intro n hn x i s hi hx
    obtain ⟨b, j, t, e, h1, h2, h3⟩ := l01Below_is l i s 8 hl hi
    have h4 := h2 (by omega)
    have h5 : ¬ ((n : Int) < b) := by omega
    have h6 : ¬ ((x.size : Int) > 64) := by omega
    refine ⟨x, j, t, ev_st ?_, by omega, h3⟩
    simp only [spec_l04Plain.l0, e, Option.bind_some, h5, h6, ↓reduceIte]
    exact Ev.now _
  | succ d ih =>
    intro n hn x i s hi hx
    obtain ⟨b, j, t, e, h1, h2, h3⟩ := l01Below_is l i s 8 hl hi
    by_cases h5 : (n : Int) < b
    · obtain ⟨c, j2, t2, e2, k1, k2⟩ := l01Pick_is l j t [(⟨#[97, 98, 99, 100]⟩ : ByteArray), (⟨#[97, 98]⟩ : ByteArray), (⟨#[97, 98, 99, 100, 101, 102, 103, 104]⟩ : ByteArray), (⟨#[120, 120, 120, 120, 120, 120, 120, 120]⟩ : ByteArray), (⟨#[113]⟩ : ByteArray), (⟨#[119, 114, 111, 116, 101]⟩ : ByteArray), (⟨#[122, 122]⟩ : ByteArray)] hl h3 (by decide) 8 (by decide)
      have e4 : wrap64 ((n : Int) + 1) = ((n + 1 : Nat) : Int) := by rw [w64 (by omega) (by omega)]; omega
      obtain ⟨r, j3, t3, q, q1, q2⟩ := ih (n + 1) (by omega) (x ++ c) j2 t2 k2 (by rw [ByteArray.size_append]; omega)
      refine ⟨r, j3, t3, ev_st ?_, q1, q2⟩
      simp only [spec_l04Plain.l0, e, Option.bind_some, h5, ↓reduceIte, e2, show x.size + c.size ≤ 9223372036854775807 from by omega, e4]
      exact q
    · have h6 : ¬ ((x.size : Int) > 64) := by omega
      refine ⟨x, j, t, ev_st ?_, by omega, h3⟩
      simp only [spec_l04Plain.l0, e, Option.bind_some, h5, h6, ↓reduceIte]
      exact Ev.now _
theorem l04Plain_ev (l : List Int) (hl : l.length ≤ 1048576) (i s : Int) (hi : 0 ≤ i) : ∃ r j t, Ev (fun k => spec_l04Plain.f k l i s) (r, j, t) ∧ r.size ≤ 64 ∧ 0 ≤ j :=
  l04Plain_l0 l hl 8 0 (by omega) (⟨#[]⟩ : ByteArray) i s hi (Nat.le_refl _)
theorem l01Long_l0 (n x1 : Int) : ∀ (d i : Nat) (xs : List Int), i + d = xs.length → (xs.length : Int) = n → xs.length ≤ 1000 → ∃ r, Ev (fun k => spec_l01Long.l0 k n x1 xs (i : Int)) r ∧ r.size = xs.length := by
  intro d
  induction d with
  | zero =>
    intro i xs hi hn hx
    refine ⟨strOfNums xs, ev_st ?_, strOfNums_size xs⟩
    simp only [spec_l01Long.l0, show ¬ ((i : Int) < n) from by omega, ↓reduceIte]
    exact Ev.now _
  | succ d ih =>
    intro i xs hi hn hx
    obtain ⟨r, h1, h2⟩ := ih (i + 1) (xs.set i x1) (by rw [List.length_set]; omega) (by rw [List.length_set]; exact hn) (by rw [List.length_set]; exact hx)
    have e4 : wrap64 ((i : Int) + 1) = ((i + 1 : Nat) : Int) := by rw [w64 (by omega) (by omega)]; omega
    refine ⟨r, ev_st ?_, by rw [h2, List.length_set]⟩
    simp only [spec_l01Long.l0, show (i : Int) < n from by omega, show (0 : Int) ≤ (i : Int) from by omega, show (i : Int) < (xs.length : Int) from by omega, ↓reduceIte, Int.toNat_natCast, e4]
    exact h1
theorem l01Long_ev (n : Nat) (hn : n ≤ 1000) (x1 : Int) : ∃ r, Ev (fun k => spec_l01Long.f k (n : Int) x1) r ∧ r.size = n := by
  obtain ⟨r, h1, h2⟩ := l01Long_l0 (n : Int) x1 n 0 (List.replicate n 0) (by simp) (by simp) (by simpa using hn)
  refine ⟨r, ?_, by simpa using h2⟩
  simp only [spec_l01Long.f, show (0 : Int) ≤ (n : Int) from by omega, ↓reduceIte, Int.toNat_natCast, show n ≤ 281474976710656 from by omega]
  exact h1
theorem l04Any_ev (l : List Int) (hl : l.length ≤ 1048576) (i s : Int) (hi : 0 ≤ i) : ∃ r j t, Ev (fun k => spec_l04Any.f k l i s) (r, j, t) ∧ r.size ≤ 65 ∧ 0 ≤ j := by
  obtain ⟨b, j, t, e, h1, h2, h3⟩ := l01Below_is l i s 12 hl hi
  simp only [spec_l04Any.f, spec_l01Once.f, e, Option.bind_some]
  by_cases h : b = 0
  · obtain ⟨b2, j2, t2, e2, k1, k2, k3⟩ := l01Below_is l j t 2 hl h3
    have k4 := k2 (by omega)
    obtain ⟨r, q1, q2⟩ := l01Long_ev (64 + b2.toNat) (by omega) 65
    have e4 : wrap64 (64 + b2) = ((64 + b2.toNat : Nat) : Int) := by rw [w64 (by omega) (by omega)]; omega
    refine ⟨r, j2, t2, ?_, by omega, k3⟩
    simp only [h, beq_self_eq_true, ↓reduceIte, e2, Option.bind_some, e4]
    exact Ev.bind q1 (Ev.now _)
  · obtain ⟨r, j2, t2, q1, q2, q3⟩ := l04Plain_ev l hl j t h3
    refine ⟨r, j2, t2, ?_, by omega, q3⟩
    simp only [beq_iff_eq, h, ↓reduceIte]
    exact Ev.bind q1 (Ev.now _)
theorem DrawPackText_ev (l : List Int) (hl : l.length ≤ 1048576) : ∃ r, Ev (fun k => spec_DrawPackText.f k l) r ∧ r.size ≤ 65 := by
  obtain ⟨y, hy⟩ := l01New_ev l hl
  obtain ⟨r, j, t, h1, h2, _⟩ := l04Any_ev l hl 0 y (by omega)
  refine ⟨r, ?_, h2⟩
  simp only [spec_DrawPackText.f]
  exact Ev.bind hy (Ev.bind h1 (Ev.now _))

theorem l01PickInt_is (l : List Int) (i s : Int) (m : List Int) (hl : l.length ≤ 1048576) (hi : 0 ≤ i) (hm : 1 ≤ m.length) : ∃ b j t, spec_l01PickInt.f l i s m = some (b, j, t) ∧ b ∈ m ∧ 0 ≤ j := by
  obtain ⟨b, j, t, e, h1, h2, h3⟩ := l01Below_is l i s (m.length : Int) hl hi
  have h4 := h2 (by omega)
  unfold spec_l01PickInt.f
  simp only [e, Option.bind_some, h1, h4, ↓reduceIte]
  refine ⟨_, _, _, rfl, ?_, h3⟩
  unfold rd
  rw [List.getD_eq_getElem?_getD, List.getElem?_eq_getElem (by omega)]
  exact List.getElem_mem _
theorem DrawPlainOf_ev (l : List Int) (hl : l.length ≤ 1048576) : ∃ r, Ev (fun k => spec_DrawPlainOf.f k l) r ∧ r.length ≤ 128 := by
  obtain ⟨y, hy⟩ := l01New_ev l hl
  obtain ⟨x, j, t, h1, h2, h3⟩ := l04Plain_ev l hl 0 y (by omega)
  have hz := toksOf_len x
  have hb : ∀ {r : List S56}, Ev (fun k => if ((toksOf x).length : Int) > 0 then ((spec_l01Below.f l j t ((toksOf x).length : Int)).bind fun bt227 => ((spec_l01Below.f l bt227.2.1 bt227.2.2 8).bind fun bt230 => (if bt230.1 = 0 then ((spec_l01PickInt.f l bt230.2.1 bt230.2.2 (([(-1), 0, 1, 9] : List Int))).bind fun bt236 => (if 0 ≤ bt227.1 then (if bt227.1 < ((toksOf x).length : Int) then (some ((toksOf x).set (bt227.1 : Int).toNat (⟨bt236.1, (rd_T56 (toksOf x) bt227.1).f1, (rd_T56 (toksOf x) bt227.1).f2⟩ : S56))) else (none)) else (none))) else (if bt230.1 = 1 then ((spec_l01PickInt.f l bt230.2.1 bt230.2.2 (([0, 1, 31, 32] : List Int))).bind fun bt243 => (if 0 ≤ bt227.1 then (if bt227.1 < ((toksOf x).length : Int) then (some ((toksOf x).set (bt227.1 : Int).toNat (⟨(rd_T56 (toksOf x) bt227.1).f0, bt243.1, (rd_T56 (toksOf x) bt227.1).f2⟩ : S56))) else (none)) else (none))) else (if bt230.1 = 2 then ((spec_l01PickInt.f l bt230.2.1 bt230.2.2 (([0, 31, 32] : List Int))).bind fun bt250 => ((spec_l01Long.f k bt250.1 66).bind fun t253 => (if 0 ≤ bt227.1 then (if bt227.1 < ((toksOf x).length : Int) then (some ((toksOf x).set (bt227.1 : Int).toNat (⟨(rd_T56 (toksOf x) bt227.1).f0, (rd_T56 (toksOf x) bt227.1).f1, t253⟩ : S56))) else (none)) else (none)))) else (if bt230.1 = 3 then (if (toksOf x).length + (toksOf x).length < 4398046511104 then (some ((toksOf x) ++ (toksOf x))) else (none)) else (some (toksOf x)))))))) else (some (toksOf x))) r → Ev (fun k => spec_DrawPlainOf.f k l) r := by
    intro r h
    simp only [spec_DrawPlainOf.f]
    exact Ev.bind hy (Ev.bind h1 (Ev.bind (spec_TokensOf_ev x) h))
  by_cases h0 : ((toksOf x).length : Int) > 0
  · obtain ⟨b, j2, t2, e2, k1, k2, k3⟩ := l01Below_is l j t ((toksOf x).length : Int) hl h3
    have k4 := k2 (by omega)
    obtain ⟨c, j3, t3, e3, m1, m2, m3⟩ := l01Below_is l j2 t2 8 hl k3
    have hset : ∀ v, ((toksOf x).set b.toNat v).length ≤ 128 := fun v => by rw [List.length_set]; omega
    by_cases c0 : c = 0
    · obtain ⟨d, j4, t4, e4, n1, n2⟩ := l01PickInt_is l j3 t3 [(-1), 0, 1, 9] hl m3 (by decide)
      refine ⟨(toksOf x).set b.toNat ⟨d, (rd_T56 (toksOf x) b).f1, (rd_T56 (toksOf x) b).f2⟩, hb ?_, hset _⟩
      simp only [h0, ↓reduceIte, e2, e3, Option.bind_some, c0, e4, k1, k4]
      exact Ev.now _
    · by_cases c1 : c = 1
      · obtain ⟨d, j4, t4, e4, n1, n2⟩ := l01PickInt_is l j3 t3 [0, 1, 31, 32] hl m3 (by decide)
        refine ⟨(toksOf x).set b.toNat ⟨(rd_T56 (toksOf x) b).f0, d, (rd_T56 (toksOf x) b).f2⟩, hb ?_, hset _⟩
        simp only [h0, ↓reduceIte, e2, e3, Option.bind_some, c1, e4, k1, k4, show ¬ ((1 : Int) = 0) from by omega]
        exact Ev.now _
      · by_cases c2 : c = 2
        · obtain ⟨d, j4, t4, e4, n1, n2⟩ := l01PickInt_is l j3 t3 [0, 31, 32] hl m3 (by decide)
          have hd : 0 ≤ d ∧ d ≤ 32 := by
            simp only [List.mem_cons, List.not_mem_nil, or_false] at n1
            omega
          obtain ⟨r, q1, _⟩ := l01Long_ev d.toNat (by omega) 66
          rw [show ((d.toNat : Nat) : Int) = d from by omega] at q1
          refine ⟨(toksOf x).set b.toNat ⟨(rd_T56 (toksOf x) b).f0, (rd_T56 (toksOf x) b).f1, r⟩, hb ?_, hset _⟩
          simp only [h0, ↓reduceIte, e2, e3, Option.bind_some, c2, e4, k1, k4, show ¬ ((2 : Int) = 0) from by omega, show ¬ ((2 : Int) = 1) from by omega]
          exact Ev.bind q1 (Ev.now _)
        · by_cases c3 : c = 3
          · refine ⟨toksOf x ++ toksOf x, hb ?_, by rw [List.length_append]; omega⟩
            simp only [h0, ↓reduceIte, e2, e3, Option.bind_some, c3, show ¬ ((3 : Int) = 0) from by omega, show ¬ ((3 : Int) = 1) from by omega, show ¬ ((3 : Int) = 2) from by omega, show (toksOf x).length + (toksOf x).length < 4398046511104 from by omega]
            exact Ev.now _
          · refine ⟨toksOf x, hb ?_, by omega⟩
            simp only [h0, ↓reduceIte, e2, e3, Option.bind_some, c0, c1, c2, c3]
            exact Ev.now _
  · refine ⟨toksOf x, hb ?_, by omega⟩
    simp only [h0, ↓reduceIte]
    exact Ev.now _

theorem laws_FnTokens_l0 (c : List Int) (hc : c.length ≤ 1048576) (s : ByteArray) (hs : s.size ≤ 64) (l : List S56) (hl : l.length ≤ 1048576) : ∀ (d i : Nat), i + d = l.length → ∀ acc : List Int, Tells (l.drop i) acc (bytesOf s) → Ev (fun k => laws_FnTokens.l0 k c s l s true (acc.length : Int) (i : Int)) true := by
  intro d
  induction d with
  | zero =>
    intro i hi acc h
    obtain rfl : i = l.length := by omega
    rw [List.drop_length] at h
    have h : acc = bytesOf s := h
    subst h
    obtain ⟨r, q1, q2⟩ := DrawPlainOf_ev c hc
    refine ev_st ?_
    simp only [laws_FnTokens.l0, Int.lt_irrefl, ↓reduceIte]
    refine Ev.bind q1 (Ev.bind (impl_PlainOf_ev r (by omega)) (Ev.bind (spec_PlainOf_ev r (by omega)) ?_))
    simp only [bytesOf_length, beq_self_eq_true, ↓reduceIte]
    exact Ev.now _
  | succ d ih =>
    intro i hi acc h
    obtain ⟨f1, f2, f3, f4, f5⟩ := pidx_facts i l.length d hi hl
    rw [List.drop_eq_getElem_cons f5] at h
    obtain ⟨h1, h2⟩ := h
    have h3 := tells_len _ _ _ h2
    rw [bytesOf_length] at h3
    have hr := ih (i + 1) f4 _ h2
    refine ev_st ?_
    simp only [laws_FnTokens.l0, f1, f2, ↓reduceIte, rd_MT l i f5, f3]
    revert h3 hr h1
    generalize l[i] = t
    intro h1 h3 hr
    unfold tellT at h3 hr
    rcases h1 with ⟨g0, g1, g2⟩ | ⟨g0, g1, g2, g3⟩
    · simp only [g0, ↓reduceIte] at h3 hr
      rw [List.length_append, bytesOf_length] at h3 hr
      have e : wrap64 (wrap64 ((acc.length : Int) + t.f1) + (t.f2.size : Int)) = ((acc.length + t.f2.size : Nat) : Int) := by
        rw [g2, w64 (n := (acc.length : Int) + 0) (by omega) (by omega), w64 (by omega) (by omega)]; omega
      simp only [g0, Int.lt_irrefl, gt_iff_lt, ↓reduceIte, e]
      exact hr
    · simp only [g0, ↓reduceIte] at h3 hr
      rw [copyM_len] at h3 hr
      have e : wrap64 (wrap64 ((acc.length : Int) + t.f1) + (t.f2.size : Int)) = ((acc.length + t.f1.toNat : Nat) : Int) := by
        rw [g3, w64 (n := (acc.length : Int) + t.f1) (by omega) (by omega), w64 (by omega) (by omega)]; omega
      have k1 : t.f0 > 0 := by omega
      have k2 : ¬ t.f0 > (acc.length : Int) := by omega
      have k3 : ¬ t.f1 < 4 := by omega
      have k4 : ¬ t.f1 > 31 := by omega
      have k5 : t.f2.toList = [] := (toList_nil _).2 g3
      simp only [k1, k2, k3, k4, k5, ↓reduceIte, e]
      exact hr
theorem FnTokens : laws_FnTokens.Pure := by
  intro c _ _ _
  refine Ev.rounds ?_
  simp only [laws_FnTokens.f, laws_big.f, Option.bind_some]
  by_cases hb : (c.length : Int) > 1048576
  · simp only [hb, decide_true, ↓reduceIte]; exact Ev.now _
  · simp only [hb, decide_false, Bool.false_eq_true, ↓reduceIte]
    have hc : c.length ≤ 1048576 := by omega
    obtain ⟨s, h1, h2⟩ := DrawPackText_ev c hc
    refine Ev.bind h1 ?_
    have hz := toksOf_len s
    by_cases h3 : (s.size : Int) > 64
    · simp only [h3, ↓reduceIte]
      refine Ev.bind (impl_TokensOf_ev s) ?_
      have : toksOf s = [] := by unfold toksOf; rw [if_neg (by omega)]
      rw [this]
      exact Ev.now _
    · simp only [h3, ↓reduceIte]
      have hs : s.size ≤ 64 := by omega
      refine Ev.bind (impl_TokensOf_ev s) (Ev.bind (impl_PlainOf_ev _ (by omega)) ?_)
      rw [plainM_toksOf s hs]
      exact laws_FnTokens_l0 c hc s hs (toksOf s) (by omega) (toksOf s).length 0 (by omega) [] (tells_toksOf s hs)

end Go.Proofs.Ytbafmoggckeaeaa.Pure
