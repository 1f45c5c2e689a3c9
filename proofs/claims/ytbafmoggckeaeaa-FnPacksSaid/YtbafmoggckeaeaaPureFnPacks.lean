/- What is proved here: the law FnPacks, told as a plain function over numbers and lists, answers true at all arguments. Conditions: those of the row alone, none of ours. -/
import Derived.Test.YtbafmoggckeaeaaQFnPacksx10
import Derived.Test.YtbafmoggckeaeaaKit
namespace Go.Proofs.Ytbafmoggckeaeaa.Pure
open Go.RowKit Go.Proofs.Ytbafmoggckeaeaa.QFnPacks Go.Proofs.YtbafmoggckeaeaaW.PrintWords Go.Proofs.YtbafmoggckeaeaaW.PrintLast Go.Proofs.Ytbafmoggckeaeaa.Kit Go.Proofs.YtbafmoggckeaeaaW.PrintMore
set_option linter.unusedSimpArgs false
set_option linter.unusedVariables false

theorem rd_MT (xs : List S56) (i : Nat) (h : i < xs.length) : rd_T56 xs (i : Int) = xs[i] := by
  unfold rd_T56; rw [Int.toNat_natCast, List.getD_eq_getElem?_getD, List.getElem?_eq_getElem h]; rfl

/-! how much is the same; the longest of it -/
def mlen (s : ByteArray) (j p : Nat) : Nat → Nat → Nat
  | 0, n => n
  | f + 1, n => if p + n < s.size ∧ bt s ((j + n : Nat) : Int) = bt s ((p + n : Nat) : Int) then mlen s j p f (n + 1) else n
def best (s : ByteArray) (p : Nat) : Nat → Int × Int → Int × Int
  | 0, r => r
  | j + 1, r => if 4 ≤ mlen s j p 31 0 ∧ r.1 < (mlen s j p 31 0 : Int) then best s p j ((mlen s j p 31 0 : Int), (p : Int) - (j : Int)) else best s p j r
theorem mlen_le (s : ByteArray) (j p : Nat) : ∀ (f n : Nat), n ≤ mlen s j p f n ∧ mlen s j p f n ≤ n + f ∧ (p + n ≤ s.size → p + mlen s j p f n ≤ s.size) ∧ ∀ i, n ≤ i → i < mlen s j p f n → bt s ((j + i : Nat) : Int) = bt s ((p + i : Nat) : Int) := by
  intro f
  induction f with
  | zero => intro n; exact ⟨Nat.le_refl _, Nat.le_refl _, (fun h => h : p + n ≤ s.size → p + n ≤ s.size), fun i h1 h2 => by simp only [mlen] at h2; omega⟩
  | succ f ih =>
    intro n
    rw [mlen]
    split
    next h =>
      obtain ⟨a, b, c, d⟩ := ih (n + 1)
      refine ⟨by omega, by omega, fun _ => c (by omega), fun i h1 h2 => ?_⟩
      rcases Nat.lt_or_ge n i with q | q
      · exact d i q h2
      · obtain rfl : i = n := by omega
        exact h.2
    next h => exact ⟨Nat.le_refl _, by omega, fun h => h, fun i h1 h2 => by omega⟩
/-- What a longest match is: none, or one of 4 to 31 bytes that lie in the text and are the same further ahead. -/
def Match (s : ByteArray) (p : Nat) (r : Int × Int) : Prop :=
  r = (0, 0) ∨ (4 ≤ r.1 ∧ r.1 ≤ 31 ∧ 1 ≤ r.2 ∧ r.2 ≤ (p : Int) ∧ (p : Int) + r.1 ≤ (s.size : Int) ∧ ∀ i : Nat, (i : Int) < r.1 → bt s ((p : Int) - r.2 + (i : Int)) = bt s ((p : Int) + (i : Int)))
theorem best_match (s : ByteArray) (p : Nat) (hp : p ≤ s.size) : ∀ (j : Nat), j ≤ p → ∀ r, Match s p r → Match s p (best s p j r) := by
  intro j
  induction j with
  | zero => intro _ r h; exact h
  | succ j ih =>
    intro hj r h
    rw [best]
    split
    next hc =>
      refine ih (by omega) _ (Or.inr ?_)
      obtain ⟨a, b, c, d⟩ := mlen_le s j p 31 0
      refine ⟨by simp only; omega, by simp only; omega, by simp only; omega, by simp only; omega, by simp only; have := c (by omega); omega, fun i hi => ?_⟩
      simp only at hi ⊢
      rw [show (p : Int) - ((p : Int) - (j : Int)) + (i : Int) = ((j + i : Nat) : Int) from by omega, show (p : Int) + (i : Int) = ((p + i : Nat) : Int) from by omega]
      exact d i (by omega) (by omega)
    next => exact ih (by omega) r h
theorem mlen_zero (s : ByteArray) (j p n : Nat) : mlen s j p 0 n = n := rfl
theorem mlen_succ (s : ByteArray) (j p f n : Nat) : mlen s j p (f + 1) n = if p + n < s.size ∧ bt s ((j + n : Nat) : Int) = bt s ((p + n : Nat) : Int) then mlen s j p f (n + 1) else n := rfl
theorem best_zero (s : ByteArray) (p : Nat) (r : Int × Int) : best s p 0 r = r := rfl
theorem best_succ (s : ByteArray) (p j : Nat) (r : Int × Int) : best s p (j + 1) r = if 4 ≤ mlen s j p 31 0 ∧ r.1 < (mlen s j p 31 0 : Int) then best s p j ((mlen s j p 31 0 : Int), (p : Int) - (j : Int)) else best s p j r := rfl
attribute [local irreducible] mlen best
theorem pred_facts (n : Nat) (h0 : n ≠ 0) (h : n ≤ 64) : wrap64 ((n : Int) - 1) = ((n - 1 : Nat) : Int) ∧ wrap64 (((n - 1 : Nat) : Int) + 1) = (n : Int) ∧ ¬ (((n - 1 : Nat) : Int) < 0) ∧ (0 : Int) ≤ ((n - 1 : Nat) : Int) ∧ ((n - 1 : Nat) : Int) < (n : Int) ∧ 0 < n := by
  refine ⟨?_, ?_, by omega, by omega, by omega, by omega⟩
  · rw [w64 (by omega) (by omega)]; omega
  · rw [w64 (by omega) (by omega)]; omega
theorem zero_facts (n : Nat) (h0 : n = 0) : wrap64 ((n : Int) - 1) = -1 ∧ wrap64 ((-1 : Int) + 1) = (n : Int) ∧ (-1 : Int) < 0 ∧ ¬ ((-1 : Int) ≥ 0) := by
  refine ⟨?_, ?_, by omega, by omega⟩
  · rw [w64 (by omega) (by omega)]; omega
  · rw [w64 (by omega) (by omega)]; omega
theorem match_facts (p j n f z : Nat) (hz : z ≤ 64) (hj : j < p) (hp : p ≤ z) (hn : n + (f + 1) = 31) (hpn : p + n ≤ z) : wrap64 ((p : Int) + (n : Int)) = ((p + n : Nat) : Int) ∧ wrap64 ((j : Int) + (n : Int)) = ((j + n : Nat) : Int) ∧ wrap64 ((n : Int) + 1) = ((n + 1 : Nat) : Int) ∧ (n : Int) < 31 ∧ (0 : Int) ≤ ((j + n : Nat) : Int) ∧ (0 : Int) ≤ ((p + n : Nat) : Int) ∧ n + 1 + f = 31 ∧ (p + n < z → ((p + n : Nat) : Int) < (z : Int) ∧ ((j + n : Nat) : Int) < (z : Int) ∧ p + (n + 1) ≤ z) ∧ (¬ p + n < z → ¬ (((p + n : Nat) : Int) < (z : Int))) := by
  refine ⟨?_, ?_, ?_, by omega, by omega, by omega, by omega, fun h => ⟨by omega, by omega, by omega⟩, fun h => by omega⟩
  · rw [w64 (by omega) (by omega)]; omega
  · rw [w64 (by omega) (by omega)]; omega
  · rw [w64 (by omega) (by omega)]; omega
theorem place_facts (p d z f : Nat) (hz : z ≤ 64) (h : p + d = z) (hlt : p < z) (hf : d ≤ f + 1) : wrap64 ((p : Int) + 1) = ((p + 1 : Nat) : Int) ∧ (p : Int) < (z : Int) ∧ (0 : Int) ≤ (p : Int) ∧ (p : Int) ≤ ((p + 1 : Nat) : Int) ∧ ((p + 1 : Nat) : Int) ≤ (z : Int) ∧ z - (p + 1) < d ∧ p + 1 + (z - (p + 1)) = z ∧ z - (p + 1) ≤ f := by
  refine ⟨?_, by omega, by omega, by omega, by omega, by omega, by omega, by omega⟩
  rw [w64 (by omega) (by omega)]; omega
def bestOf (s : ByteArray) (p : Nat) : Int × Int := best s p p (0, 0)
theorem bestOf_match (s : ByteArray) (p : Nat) (hp : p ≤ s.size) : Match s p (bestOf s p) := best_match s p hp p (Nat.le_refl _) _ (Or.inl rfl)
attribute [local irreducible] bestOf
/-! the tokens -/
def lastT (out : List S56) : S56 := out.getD (out.length - 1) z56
def addLit (out : List S56) (c : ByteArray) : List S56 :=
  if 0 < out.length ∧ (lastT out).f0 = 0 ∧ (lastT out).f2.size < 31 then out.set (out.length - 1) ⟨(lastT out).f0, (lastT out).f1, (lastT out).f2 ++ c⟩ else out ++ [⟨0, 0, c⟩]
def toks (s : ByteArray) : Nat → List S56 → Nat → List S56
  | 0, out, _ => out
  | f + 1, out, p => if p < s.size then (if (bestOf s p).1 > 0 then toks s f (out ++ [⟨(bestOf s p).2, (bestOf s p).1, (⟨#[]⟩ : ByteArray)⟩]) (p + (bestOf s p).1.toNat) else toks s f (addLit out (s.extract p (p + 1))) (p + 1)) else out
def toksOf (s : ByteArray) : List S56 := if s.size ≤ 64 then toks s s.size [] 0 else []
theorem small_cap {n : Nat} (h : n ≤ 64) : n < 4398046511104 := by omega
theorem small_sum {a b : Nat} (h : a ≤ 64) (hb : b = 1) : a + b ≤ 9223372036854775807 := by omega
theorem addLit_len (out : List S56) (c : ByteArray) : (addLit out c).length ≤ out.length + 1 := by
  unfold addLit
  split
  · rw [List.length_set]; omega
  · simp
theorem last_mem (out : List S56) (h : 0 < out.length) : lastT out ∈ out := by
  unfold lastT
  rw [List.getD_eq_getElem?_getD, List.getElem?_eq_getElem (by omega)]
  exact List.getElem_mem _
theorem rd_last (out : List S56) (h : 0 < out.length) : rd_T56 out ((out.length - 1 : Nat) : Int) = lastT out := by
  unfold rd_T56 lastT; rw [Int.toNat_natCast]
theorem one_byte (s : ByteArray) (p : Nat) (h : p < s.size) : (s.extract p (p + 1)).size = 1 := by rw [ByteArray.size_extract]; omega
/-- No token leads ahead of its place, and no text is long. -/
def Nice (out : List S56) : Prop := ∀ t ∈ out, 0 ≤ t.f0 ∧ t.f2.size ≤ 64
theorem nice_addLit (out : List S56) (h : Nice out) (c : ByteArray) (hc : c.size = 1) : Nice (addLit out c) := by
  unfold addLit
  split
  next hq =>
    intro t ht
    rcases List.mem_or_eq_of_mem_set ht with ht | rfl
    · exact h t ht
    · refine ⟨(h _ (last_mem out hq.1)).1, ?_⟩
      simp only [ByteArray.size_append]
      omega
  next =>
    intro t ht
    rcases List.mem_append.1 ht with ht | ht
    · exact h t ht
    · obtain rfl := List.mem_singleton.1 ht
      exact ⟨Int.le_refl _, by simp only; omega⟩
theorem nice_snoc (out : List S56) (h : Nice out) (a b : Int) (ha : 0 ≤ a) : Nice (out ++ [⟨a, b, (⟨#[]⟩ : ByteArray)⟩]) := by
  intro t ht
  rcases List.mem_append.1 ht with ht | ht
  · exact h t ht
  · obtain rfl := List.mem_singleton.1 ht
    exact ⟨ha, by show 0 ≤ 64; omega⟩

theorem impl_matchAt_l1 (s : ByteArray) (hs : s.size ≤ 64) (p j : Nat) (hj : j < p) (hp : p ≤ s.size) (sz bk r1 r2 : Int) (r : Int × Int)
    (h : ∀ n : Nat, n = mlen s j p 31 0 → Ev (fun k => if 4 ≤ n ∧ sz < (n : Int) then impl_matchAt.l0 k s (p : Int) (n : Int) ((p : Int) - (j : Int)) ((j : Int) - 1) else impl_matchAt.l0 k s (p : Int) sz bk ((j : Int) - 1)) r) :
    ∀ (f n : Nat), n + f = 31 → p + n ≤ s.size → mlen s j p f n = mlen s j p 31 0 → Ev (fun k => impl_matchAt.l1 k s (p : Int) sz bk (j : Int) (n : Int)) r := by
  have e1 : wrap64 ((p : Int) - (j : Int)) = (p : Int) - (j : Int) := w64 (by omega) (by omega)
  have e2 : wrap64 ((j : Int) - 1) = (j : Int) - 1 := w64 (by omega) (by omega)
  have done_ : ∀ n : Nat, n = mlen s j p 31 0 → Ev (fun k => if (n : Int) ≥ 4 then (if (n : Int) > sz then impl_matchAt.l0 k s (p : Int) (n : Int) ((p : Int) - (j : Int)) ((j : Int) - 1) else impl_matchAt.l0 k s (p : Int) sz bk ((j : Int) - 1)) else impl_matchAt.l0 k s (p : Int) sz bk ((j : Int) - 1)) r := by
    intro n hn
    have g := h n hn
    by_cases a : (n : Int) ≥ 4
    · by_cases b : (n : Int) > sz
      · simp only [a, b, show 4 ≤ n from by omega, show sz < (n : Int) from b, and_self, ↓reduceIte] at g ⊢
        exact g
      · simp only [a, b, show ¬ (sz < (n : Int)) from b, and_false, ↓reduceIte] at g ⊢
        exact g
    · simp only [a, show ¬ (4 ≤ n) from by omega, false_and, ↓reduceIte] at g ⊢
      exact g
  intro f
  induction f with
  | zero =>
    intro n hn hpn
    obtain rfl : n = 31 := by omega
    have f1 : ¬ (((31 : Nat) : Int) < 31) := by omega
    intro hm
    rw [mlen_zero] at hm
    have g := done_ 31 hm
    refine ev_st ?_
    simp only [impl_matchAt.l1, f1, ↓reduceIte, e1, e2]
    exact g
  | succ f ih =>
    intro n hn hpn
    obtain ⟨e3, e4, e5, f1, f2, f3, f4, fy, fn⟩ := match_facts p j n f s.size hs hj hp hn hpn
    intro hm
    rw [mlen_succ] at hm
    refine ev_st ?_
    by_cases ha : p + n < s.size
    · obtain ⟨f5, f6, f7⟩ := fy ha
      by_cases hb : bt s ((j + n : Nat) : Int) = bt s ((p + n : Nat) : Int)
      · rw [if_pos ⟨ha, hb⟩] at hm
        simp only [impl_matchAt.l1, f1, ↓reduceIte, e1, e2, e3, e4, e5, f5, f2, f6, f3, hb]
        exact ih (n + 1) f4 f7 hm
      · rw [if_neg (fun q => hb q.2)] at hm
        have g := done_ n hm
        simp only [impl_matchAt.l1, f1, ↓reduceIte, e1, e2, e3, e4, e5, f5, f2, f6, f3, hb]
        exact g
    · have f5 := fn ha
      rw [if_neg (fun q => ha q.1)] at hm
      have g := done_ n hm
      simp only [impl_matchAt.l1, f1, ↓reduceIte, e1, e2, e3, f5]
      exact g
theorem impl_matchAt_l0 (s : ByteArray) (hs : s.size ≤ 64) (p : Nat) (hp : p ≤ s.size) : ∀ (j : Nat), j ≤ p → ∀ sz bk : Int, Ev (fun k => impl_matchAt.l0 k s (p : Int) sz bk ((j : Int) - 1)) (best s p j (sz, bk)) := by
  intro j
  induction j with
  | zero =>
    intro _ sz bk
    refine ev_st ?_
    simp only [impl_matchAt.l0, show ¬ (((0 : Nat) : Int) - 1 ≥ 0) from by omega, ↓reduceIte, best_zero]
    exact Ev.now _
  | succ j ih =>
    intro hj sz bk
    refine ev_st ?_
    have e : ((j + 1 : Nat) : Int) - 1 = (j : Int) := by omega
    rw [e]
    simp only [impl_matchAt.l0, show (j : Int) ≥ 0 from by omega, ↓reduceIte]
    rw [best_succ]
    refine impl_matchAt_l1 s hs p j (by omega) hp sz bk 0 0 _ ?_ 31 0 (by omega) (by omega) rfl
    intro n hn
    subst hn
    by_cases hc : 4 ≤ mlen s j p 31 0 ∧ sz < (mlen s j p 31 0 : Int)
    · simp only [hc, and_self, ↓reduceIte]
      exact ih (by omega) _ _
    · simp only [hc, ↓reduceIte]
      exact ih (by omega) _ _
theorem impl_matchAt_ev (s : ByteArray) (hs : s.size ≤ 64) (p : Nat) (hp : p ≤ s.size) : Ev (fun k => impl_matchAt.f k s (p : Int)) (bestOf s p) := by
  simp only [impl_matchAt.f]
  rw [w64 (by omega) (by omega)]
  unfold bestOf
  exact impl_matchAt_l0 s hs p hp p (Nat.le_refl _) 0 0
set_option maxHeartbeats 1000000 in
theorem impl_TokensOf_l0 (s : ByteArray) (hs : s.size ≤ 64) : ∀ (d p : Nat), p + d = s.size → ∀ (f : Nat) (out : List S56), d ≤ f → Nice out → out.length ≤ p → Ev (fun k => impl_TokensOf.l0 k s out (p : Int)) (toks s f out p) := by
  intro d
  induction d using Nat.strongRecOn with
  | _ d ih =>
    intro p hp f out hf hN hl
    by_cases hlt : p < s.size
    · obtain ⟨f, rfl⟩ : ∃ g, f = g + 1 := ⟨f - 1, by omega⟩
      have hB := bestOf_match s p (by omega)
      obtain ⟨e0, f1, f2, f3, f4, f6, f7, f8⟩ := place_facts p d s.size f hs hp hlt hf
      have f5 : (0 : Int) ≤ (out.length : Int) := by omega
      have hlen : out.length ≤ 64 := by omega
      have hcap := small_cap hlen
      have hc := one_byte s p hlt
      have hL := addLit_len out (s.extract p (p + 1))
      have next := ih (s.size - (p + 1)) f6 (p + 1) f7 f (addLit out (s.extract p (p + 1))) f8 (nice_addLit out hN _ hc) (Nat.le_trans hL (Nat.succ_le_succ hl))
      have grow : ∀ r : Int × Int, Match s p r → r.1 > 0 → Ev (fun k => impl_TokensOf.l0 k s (out ++ [⟨r.2, r.1, (⟨#[]⟩ : ByteArray)⟩]) (wrap64 ((p : Int) + r.1))) (toks s f (out ++ [⟨r.2, r.1, (⟨#[]⟩ : ByteArray)⟩]) (p + r.1.toNat)) := by
        intro r hB hg
        rcases hB with hB | ⟨b1, b2, b3, b4, b5, _⟩
        · rw [hB] at hg; simp at hg
        · have e1 : wrap64 ((p : Int) + r.1) = ((p + r.1.toNat : Nat) : Int) := by rw [w64 (by omega) (by omega)]; omega
          rw [e1]
          exact ih (s.size - (p + r.1.toNat)) (by omega) _ (by omega) f _ (by omega) (nice_snoc out hN _ _ (by omega)) (by simp; omega)
      have fresh : addLit out (s.extract p (p + 1)) = out ++ [⟨0, 0, s.extract p (p + 1)⟩] → ∀ y, y = out ++ [⟨0, 0, (⟨#[]⟩ : ByteArray)⟩] →
          Ev (fun k => if 0 ≤ (out.length : Int) then (if (out.length : Int) < (y.length : Int) then (if ((rd_T56 y (out.length : Int)).f2).size + (s.extract p (p + 1)).size ≤ 9223372036854775807 then impl_TokensOf.l0 k s (y.set out.length ⟨(rd_T56 y (out.length : Int)).f0, (rd_T56 y (out.length : Int)).f1, ((rd_T56 y (out.length : Int)).f2) ++ (s.extract p (p + 1))⟩) ((p + 1 : Nat) : Int) else none) else none) else none) (toks s f (addLit out (s.extract p (p + 1))) (p + 1)) := by
        intro ha y hy
        have hy1 : rd_T56 y (out.length : Int) = ⟨0, 0, (⟨#[]⟩ : ByteArray)⟩ := by
          rw [rd_MT y out.length (by rw [hy]; simp)]
          simp only [hy]
          simp
        have hy2 : (out.length : Int) < (y.length : Int) := by rw [hy, List.length_append]; simp only [List.length_singleton]; omega
        have hz : (⟨#[]⟩ : ByteArray) ++ s.extract p (p + 1) = s.extract p (p + 1) := ByteArray.empty_append
        have hy3 : y.set out.length ⟨0, 0, s.extract p (p + 1)⟩ = addLit out (s.extract p (p + 1)) := by rw [ha, hy]; simp
        have hs1 : (⟨#[]⟩ : ByteArray).size + (s.extract p (p + 1)).size ≤ 9223372036854775807 := small_sum (Nat.zero_le _) hc
        simp only [f5, hy2, ↓reduceIte, hy1, hz, hy3, hs1]
        exact next
      clear ih
      refine ev_st ?_
      rw [toks, if_pos hlt]
      simp only [impl_TokensOf.l0, f1, ↓reduceIte]
      refine Ev.bind (impl_matchAt_ev s hs p (by omega)) ?_
      have hB := grow (bestOf s p) (bestOf_match s p (by omega))
      generalize bestOf s p = r at hB ⊢
      by_cases hg : r.1 > 0
      · simp only [hg, hcap, ↓reduceIte]
        exact hB hg
      · clear hB grow
        simp only [hg, ↓reduceIte, e0, f2, f3, f4, Int.toNat_natCast]
        by_cases hk : out.length = 0
        · obtain ⟨e2, e3, e4, _⟩ := zero_facts out.length hk
          have ha : addLit out (s.extract p (p + 1)) = out ++ [⟨0, 0, s.extract p (p + 1)⟩] := by unfold addLit; rw [if_neg (fun q => absurd hk (Nat.ne_of_gt q.1))]
          simp only [e2, e3, e4, hcap, ↓reduceIte, Option.bind_some, Int.toNat_natCast]
          exact fresh ha _ rfl
        · obtain ⟨e2, e3, e4, e5, e6, hpos⟩ := pred_facts out.length hk hlen
          have hlast := hN _ (last_mem out hpos)
          have e7 := small_sum hlast.2 hc
          have e8 := rd_last out hpos
          simp only [e2, e3, e4, e5, e6, hcap, ↓reduceIte, Option.bind_some, Int.toNat_natCast, e8]
          have hq : ∀ q : Prop, ¬ q → (q → False) := fun _ h => h
          by_cases hb : (lastT out).f0 > 0
          · have ha : addLit out (s.extract p (p + 1)) = out ++ [⟨0, 0, s.extract p (p + 1)⟩] := by unfold addLit; rw [if_neg (fun q => by have := q.2.1; omega)]
            simp only [hb, ↓reduceIte]
            exact fresh ha _ rfl
          · by_cases ht : ((lastT out).f2.size : Int) ≥ 31
            · have ha : addLit out (s.extract p (p + 1)) = out ++ [⟨0, 0, s.extract p (p + 1)⟩] := by unfold addLit; rw [if_neg (fun q => by have := q.2.2; omega)]
              simp only [hb, ht, ↓reduceIte]
              exact fresh ha _ rfl
            · have hf0 : (lastT out).f0 = 0 := by omega
              have hf2 : (lastT out).f2.size < 31 := by omega
              have ha : addLit out (s.extract p (p + 1)) = out.set (out.length - 1) ⟨(lastT out).f0, (lastT out).f1, (lastT out).f2 ++ s.extract p (p + 1)⟩ := by unfold addLit; rw [if_pos ⟨hpos, hf0, hf2⟩]
              simp only [hb, ht, ↓reduceIte, e7]
              rw [ha] at next ⊢
              exact next
    · obtain rfl : p = s.size := by omega
      have e : toks s f out s.size = out := by
        cases f with
        | zero => rfl
        | succ f => rw [toks, if_neg (by omega)]
      rw [e]
      refine ev_st ?_
      simp only [impl_TokensOf.l0, show ¬ ((s.size : Int) < (s.size : Int)) from by omega, ↓reduceIte]
      exact Ev.now _
theorem impl_TokensOf_ev (s : ByteArray) : Ev (fun k => impl_TokensOf.f k s) (toksOf s) := by
  simp only [impl_TokensOf.f]
  unfold toksOf
  by_cases h : s.size ≤ 64
  · simp only [h, show ¬ ((s.size : Int) > 64) from by omega, ↓reduceIte]
    exact impl_TokensOf_l0 s h s.size 0 (by omega) s.size [] (by omega) (fun t ht => by cases ht) (by simp)
  · simp only [h, show (s.size : Int) > 64 from by omega, ↓reduceIte]
    exact Ev.now _

theorem spec_l04Match_l0 (s : ByteArray) (hs : s.size ≤ 64) (p j : Nat) (hj : j < p) (hp : p ≤ s.size) : ∀ (f n : Nat), n + f = 31 → p + n ≤ s.size → Ev (fun k => spec_l04Match.l0 k s (j : Int) (p : Int) (n : Int)) ((mlen s j p f n : Nat) : Int) := by
  intro f
  induction f with
  | zero =>
    intro n hn hpn
    obtain rfl : n = 31 := by omega
    refine ev_st ?_
    simp only [spec_l04Match.l0, show ¬ (((31 : Nat) : Int) < 31) from by omega, ↓reduceIte, mlen_zero]
    exact Ev.now _
  | succ f ih =>
    intro n hn hpn
    obtain ⟨e3, e4, e5, f1, f2, f3, f4, fy, fn⟩ := match_facts p j n f s.size hs hj hp hn hpn
    refine ev_st ?_
    rw [mlen_succ]
    by_cases ha : p + n < s.size
    · obtain ⟨f5, f6, f7⟩ := fy ha
      by_cases hb : bt s ((j + n : Nat) : Int) = bt s ((p + n : Nat) : Int)
      · rw [if_pos ⟨ha, hb⟩]
        simp only [spec_l04Match.l0, f1, ↓reduceIte, e3, e4, e5, f5, f2, f6, f3, hb]
        exact ih (n + 1) f4 f7
      · rw [if_neg (fun q => hb q.2)]
        simp only [spec_l04Match.l0, f1, ↓reduceIte, e3, e4, e5, f5, f2, f6, f3, hb]
        exact Ev.now _
    · have f5 := fn ha
      rw [if_neg (fun q => ha q.1)]
      simp only [spec_l04Match.l0, f1, ↓reduceIte, e3, f5]
      exact Ev.now _
/-- What follows when the longest match is known. -/
def afterBest (s : ByteArray) (k : Nat) (out : List S56) (p : Nat) (r : Int × Int) : Option (List S56) :=
  if r.1 > 0 then spec_TokensOf.l0 k s (out ++ [⟨r.2, r.1, (⟨#[]⟩ : ByteArray)⟩]) ((p : Int) + r.1) else spec_TokensOf.l0 k s (addLit out (s.extract p (p + 1))) ((p + 1 : Nat) : Int)
set_option maxHeartbeats 1000000 in
theorem spec_TokensOf_l1 (s : ByteArray) (hs : s.size ≤ 64) (p : Nat) (hp : p < s.size) (out : List S56) (hN : Nice out) (hl : out.length ≤ p) (r : List S56) :
    ∀ (j : Nat), j ≤ p → ∀ sz bk : Int, Match s p (sz, bk) → Ev (fun k => afterBest s k out p (best s p j (sz, bk))) r → Ev (fun k => spec_TokensOf.l1 k s out (p : Int) sz bk ((j : Int) - 1)) r := by
  intro j
  induction j with
  | zero =>
    intro _ sz bk hm h
    refine ev_st ?_
    obtain ⟨e0, f1, f2, f3, f4, f6, f7, f8⟩ := place_facts p (s.size - p) s.size s.size hs (by omega) hp (by omega)
    have hlen : out.length ≤ 64 := by omega
    have hcap := small_cap hlen
    have hc := one_byte s p hp
    have e9 : ¬ (((0 : Nat) : Int) - 1 ≥ 0) := by omega
    have e1 : wrap64 ((p : Int) + sz) = (p : Int) + sz := by
      rcases hm with hm | hm
      · have q : sz = 0 := congrArg Prod.fst hm
        subst q
        exact w64 (by omega) (by omega)
      · have q1 := hm.2.1
        have q2 := hm.1
        simp only at q1 q2
        exact w64 (by omega) (by omega)
    rw [best_zero] at h
    unfold afterBest at h
    simp only [spec_TokensOf.l1, e9, ↓reduceIte, e0, e1, hcap, f2, f3, f4, Int.toNat_natCast]
    by_cases hg : sz > 0
    · simp only [hg, ↓reduceIte] at h ⊢
      exact h
    · simp only [hg, ↓reduceIte] at h ⊢
      by_cases hk : out.length = 0
      · obtain ⟨e2, _, _, e4⟩ := zero_facts out.length hk
        have ha : addLit out (s.extract p (p + 1)) = out ++ [⟨0, 0, s.extract p (p + 1)⟩] := by unfold addLit; rw [if_neg (fun q => absurd hk (Nat.ne_of_gt q.1))]
        rw [ha] at h
        simp only [e2, e4, ↓reduceIte]
        exact h
      · obtain ⟨e2, e3, e4, e5, e6, hpos⟩ := pred_facts out.length hk hlen
        have e7 : ((out.length - 1 : Nat) : Int) ≥ 0 := e5
        have hlast := hN _ (last_mem out hpos)
        have e8 := rd_last out hpos
        have e10 := small_sum hlast.2 hc
        simp only [e2, e7, e5, e6, ↓reduceIte, Int.toNat_natCast, e8]
        by_cases hb : (lastT out).f0 = 0
        · by_cases ht : ((lastT out).f2.size : Int) < 31
          · have hf2 : (lastT out).f2.size < 31 := by omega
            have ha : addLit out (s.extract p (p + 1)) = out.set (out.length - 1) ⟨(lastT out).f0, (lastT out).f1, (lastT out).f2 ++ s.extract p (p + 1)⟩ := by unfold addLit; rw [if_pos ⟨hpos, hb, hf2⟩]
            rw [ha, hb] at h
            simp only [hb, ht, ↓reduceIte, e10]
            exact h
          · have ha : addLit out (s.extract p (p + 1)) = out ++ [⟨0, 0, s.extract p (p + 1)⟩] := by unfold addLit; rw [if_neg (fun q => by have := q.2.2; omega)]
            rw [ha] at h
            simp only [hb, ht, ↓reduceIte]
            exact h
        · have ha : addLit out (s.extract p (p + 1)) = out ++ [⟨0, 0, s.extract p (p + 1)⟩] := by unfold addLit; rw [if_neg (fun q => hb q.2.1)]
          rw [ha] at h
          simp only [hb, ↓reduceIte]
          exact h
  | succ j ih =>
    intro hj sz bk hm h
    refine ev_st ?_
    have e : ((j + 1 : Nat) : Int) - 1 = (j : Int) := by omega
    have e1 : wrap64 ((p : Int) - (j : Int)) = (p : Int) - (j : Int) := w64 (by omega) (by omega)
    have e2 : wrap64 ((j : Int) - 1) = (j : Int) - 1 := w64 (by omega) (by omega)
    rw [e]
    simp only [spec_TokensOf.l1, show (j : Int) ≥ 0 from by omega, ↓reduceIte, e1, e2]
    refine Ev.bind (spec_l04Match_l0 s hs p j (by omega) (by omega) 31 0 (by omega) (by omega)) ?_
    rw [best_succ] at h
    by_cases ha : ((mlen s j p 31 0 : Nat) : Int) ≥ 4
    · by_cases hb : ((mlen s j p 31 0 : Nat) : Int) > sz
      · simp only [ha, hb, ↓reduceIte]
        rw [if_pos ⟨by omega, hb⟩] at h
        refine ih (by omega) _ _ ?_ h
        obtain ⟨a1, b1, c1, d1⟩ := mlen_le s j p 31 0
        refine Or.inr ⟨by simp only; omega, by simp only; omega, by simp only; omega, by simp only; omega, by simp only; have := c1 (by omega); omega, fun i hi => ?_⟩
        simp only at hi ⊢
        rw [show (p : Int) - ((p : Int) - (j : Int)) + (i : Int) = ((j + i : Nat) : Int) from by omega, show (p : Int) + (i : Int) = ((p + i : Nat) : Int) from by omega]
        exact d1 i (by omega) (by omega)
      · simp only [ha, hb, ↓reduceIte]
        rw [if_neg (fun q => hb q.2)] at h
        exact ih (by omega) _ _ hm h
    · simp only [ha, ↓reduceIte]
      rw [if_neg (fun q => ha (by omega))] at h
      exact ih (by omega) _ _ hm h
theorem spec_TokensOf_l0 (s : ByteArray) (hs : s.size ≤ 64) : ∀ (d p : Nat), p + d = s.size → ∀ (f : Nat) (out : List S56), d ≤ f → Nice out → out.length ≤ p → Ev (fun k => spec_TokensOf.l0 k s out (p : Int)) (toks s f out p) := by
  intro d
  induction d using Nat.strongRecOn with
  | _ d ih =>
    intro p hp f out hf hN hl
    by_cases hlt : p < s.size
    · obtain ⟨f, rfl⟩ : ∃ g, f = g + 1 := ⟨f - 1, by omega⟩
      have hB := bestOf_match s p (by omega)
      have hc := one_byte s p hlt
      refine ev_st ?_
      rw [toks, if_pos hlt]
      simp only [spec_TokensOf.l0, show (p : Int) < (s.size : Int) from by omega, ↓reduceIte]
      rw [w64 (n := (p : Int) - 1) (by omega) (by omega)]
      refine spec_TokensOf_l1 s hs p hlt out hN hl _ p (Nat.le_refl _) 0 0 (Or.inl rfl) ?_
      have hBB : best s p p (0, 0) = bestOf s p := by unfold bestOf; rfl
      rw [hBB]
      unfold afterBest
      by_cases hg : (bestOf s p).1 > 0
      · rcases hB with hB | ⟨b1, b2, b3, b4, b5, _⟩
        · rw [hB] at hg; simp at hg
        · simp only [hg, ↓reduceIte]
          rw [show (p : Int) + (bestOf s p).1 = ((p + (bestOf s p).1.toNat : Nat) : Int) from by omega]
          exact ih (s.size - (p + (bestOf s p).1.toNat)) (by omega) _ (by omega) f _ (by omega) (nice_snoc out hN _ _ (by omega)) (by simp; omega)
      · simp only [hg, ↓reduceIte]
        exact ih (s.size - (p + 1)) (by omega) (p + 1) (by omega) f (addLit out (s.extract p (p + 1))) (by omega) (nice_addLit out hN _ hc) (by have := addLit_len out (s.extract p (p + 1)); omega)
    · obtain rfl : p = s.size := by omega
      have e : toks s f out s.size = out := by
        cases f with
        | zero => rfl
        | succ f => rw [toks, if_neg (by omega)]
      rw [e]
      refine ev_st ?_
      simp only [spec_TokensOf.l0, show ¬ ((s.size : Int) < (s.size : Int)) from by omega, ↓reduceIte]
      exact Ev.now _
theorem spec_TokensOf_ev (s : ByteArray) : Ev (fun k => spec_TokensOf.f k s) (toksOf s) := by
  simp only [spec_TokensOf.f, Option.bind_some]
  unfold toksOf
  by_cases h : s.size ≤ 64
  · simp only [h, show ¬ ((s.size : Int) > 64) from by omega, ↓reduceIte]
    exact spec_TokensOf_l0 s h s.size 0 (by omega) s.size [] (by omega) (fun t ht => by cases ht) (by simp)
  · simp only [h, show (s.size : Int) > 64 from by omega, ↓reduceIte]
    exact Ev.now _

theorem toks_len (s : ByteArray) : ∀ (f : Nat) (out : List S56) (p : Nat), (toks s f out p).length ≤ out.length + f := by
  intro f
  induction f with
  | zero => intro out p; exact Nat.le_refl _
  | succ f ih =>
    intro out p
    rw [toks]
    split
    · split
      · have := ih (out ++ [⟨(bestOf s p).2, (bestOf s p).1, (⟨#[]⟩ : ByteArray)⟩]) (p + (bestOf s p).1.toNat)
        simp at this; omega
      · have := ih (addLit out (s.extract p (p + 1))) (p + 1)
        have := addLit_len out (s.extract p (p + 1))
        omega
    · omega
theorem toksOf_len (s : ByteArray) : (toksOf s).length ≤ 64 := by
  unfold toksOf
  split
  · have := toks_len s s.size [] 0
    simp at this; omega
  · simp

/-! a text that is packed -/
theorem nice_toks (s : ByteArray) (hs : s.size ≤ 64) : ∀ (f : Nat) (out : List S56) (p : Nat), Nice out → Nice (toks s f out p) := by
  intro f
  induction f with
  | zero => intro out p h; exact h
  | succ f ih =>
    intro out p h
    rw [toks]
    split
    next hp =>
      split
      next hb =>
        refine ih _ _ (nice_snoc out h _ _ ?_)
        rcases bestOf_match s p (by omega) with e | ⟨_, _, h1, _⟩
        · rw [e]; exact Int.le_refl _
        · omega
      next => exact ih _ _ (nice_addLit out h _ (one_byte s p hp))
    next => exact h
theorem nice_toksOf (s : ByteArray) : Nice (toksOf s) := by
  unfold toksOf
  split
  next h => exact nice_toks s h _ _ _ (fun t ht => by cases ht)
  next => exact fun t ht => by cases ht
def packB (t : S56) : List Int := if t.f0 > 0 then [(wrap64 (128 + t.f1)) % 256, t.f0 % 256] else ((t.f2.size : Int) % 256) :: bytesOf t.f2
def packL (l : List S56) : List Int := l.flatMap packB
theorem packB_len (t : S56) (h : t.f2.size ≤ 64) : (packB t).length ≤ 65 := by
  unfold packB
  split
  · simp
  · rw [List.length_cons, bytesOf_length]; omega
theorem packL_cons (t : S56) (l : List S56) : packL (t :: l) = packB t ++ packL l := by simp [packL]
theorem packL_len : ∀ (l : List S56), Nice l → (packL l).length ≤ 65 * l.length := by
  intro l
  induction l with
  | nil => intro _; simp [packL]
  | cons t l ih =>
    intro h
    have h1 := ih (fun t ht => h t (List.mem_cons_of_mem _ ht))
    have h2 := packB_len t (h t List.mem_cons_self).2
    rw [packL_cons, List.length_append, List.length_cons]; omega
def packFin (s : ByteArray) (acc : List Int) : ByteArray × Bool := if (s.size : Int) + 1 ≤ (acc.length : Int) then ((⟨#[114]⟩ : ByteArray) ++ s, true) else (strOfNums acc, true)
def packOf (s : ByteArray) : ByteArray × Bool := if (s.size : Int) > 64 then ((⟨#[]⟩ : ByteArray), false) else packFin s ([122] ++ packL (toksOf s))
theorem cap_pack {a b d : Nat} (h : a + 65 * (d + 1) ≤ 100000) (hb : b ≤ 65) : a + b < 140737488355328 ∧ a < 140737488355328 ∧ (a + b) + 65 * d ≤ 100000 ∧ a + b ≤ 9223372036854775807 := by omega
theorem idx_facts (i n d : Nat) (h : i + (d + 1) = n) (hn : n ≤ 64) : (i : Int) < (n : Int) ∧ (0 : Int) ≤ (i : Int) ∧ wrap64 ((i : Int) + 1) = ((i + 1 : Nat) : Int) ∧ i + 1 + d = n ∧ i < n := by
  refine ⟨by omega, by omega, ?_, by omega, by omega⟩
  rw [w64 (by omega) (by omega)]; omega
theorem fin_facts (s : ByteArray) (h : s.size ≤ 64) : wrap64 ((s.size : Int) + 1) = (s.size : Int) + 1 ∧ 1 + s.size ≤ 9223372036854775807 := ⟨w64 (by omega) (by omega), by omega⟩

theorem impl_PackText_l0 (s : ByteArray) (hs : s.size ≤ 64) (l : List S56) (hl : l.length ≤ 64) (hn : Nice l) : ∀ (d i : Nat), i + d = l.length → ∀ acc : List Int, acc.length + 65 * d ≤ 100000 →
    Ev (fun k => impl_PackText.l0 k s acc l (l.length : Int) (i : Int)) (packFin s (acc ++ packL (l.drop i))) := by
  obtain ⟨e0, e1⟩ := fin_facts s hs
  intro d
  induction d with
  | zero =>
    intro i hi acc _
    obtain rfl : i = l.length := by omega
    refine ev_st ?_
    simp only [impl_PackText.l0, Int.lt_irrefl, ↓reduceIte, e0, e1, packFin, List.drop_length, packL, List.flatMap_nil, List.append_nil]
    split
    · exact Ev.now _
    · exact Ev.now _
  | succ d ih =>
    intro i hi acc hc
    obtain ⟨f1, f2, f3, f4, f5⟩ := idx_facts i l.length d hi hl
    have hg := rd_MT l i f5
    have hb := hn l[i] (List.getElem_mem _)
    have hp := packB_len l[i] hb.2
    obtain ⟨c1, c2, c3, _⟩ := cap_pack hc hp
    refine ev_st ?_
    have hx := ih (i + 1) f4 (acc ++ packB l[i]) (by rw [List.length_append]; exact c3)
    rw [List.drop_eq_getElem_cons f5, packL_cons, ← List.append_assoc]
    unfold packB at hx hp ⊢ c1
    simp only [impl_PackText.l0, f1, f2, ↓reduceIte, hg, f3]
    by_cases h0 : l[i].f0 > 0
    · simp only [h0, ↓reduceIte, Option.bind_some] at hx c1 ⊢
      simp only [c1, ↓reduceIte]
      exact hx
    · simp only [h0, ↓reduceIte, Option.bind_some, c2] at hx c1 ⊢
      have c5 : (acc ++ [((l[i].f2.size : Int)) % 256]).length + l[i].f2.size < 140737488355328 := by
        rw [List.length_cons, bytesOf_length] at c1
        rw [List.length_append, List.length_singleton]; omega
      simp only [c5, ↓reduceIte]
      rw [List.append_assoc, List.singleton_append]
      exact hx
theorem impl_PackText_ev (s : ByteArray) : Ev (fun k => impl_PackText.f k s) (packOf s) := by
  simp only [impl_PackText.f]
  unfold packOf
  by_cases h : (s.size : Int) > 64
  · simp only [h, ↓reduceIte]; exact Ev.now _
  · simp only [h, ↓reduceIte]
    have hl := toksOf_len s
    refine Ev.bind (impl_TokensOf_ev s) ?_
    have := impl_PackText_l0 s (by omega) (toksOf s) hl (nice_toksOf s) (toksOf s).length 0 (by omega) [122] (by simp only [List.length_singleton]; omega)
    simpa using this

theorem spec_PackText_l0 (s : ByteArray) (hs : s.size ≤ 64) (l : List S56) (hl : l.length ≤ 64) (hn : Nice l) : ∀ (d i : Nat), i + d = l.length → ∀ acc : List Int, acc.length + 65 * d ≤ 100000 →
    Ev (fun k => spec_PackText.l0 k s l (strOfNums acc) (i : Int)) (packFin s (acc ++ packL (l.drop i))) := by
  obtain ⟨e0, e1⟩ := fin_facts s hs
  intro d
  induction d with
  | zero =>
    intro i hi acc _
    obtain rfl : i = l.length := by omega
    refine ev_st ?_
    simp only [spec_PackText.l0, Int.lt_irrefl, ↓reduceIte, e0, e1, packFin, List.drop_length, packL, List.flatMap_nil, List.append_nil, strOfNums_size]
    split
    · exact Ev.now _
    · exact Ev.now _
  | succ d ih =>
    intro i hi acc hc
    obtain ⟨f1, f2, f3, f4, f5⟩ := idx_facts i l.length d hi hl
    have hg := rd_MT l i f5
    have hb := hn l[i] (List.getElem_mem _)
    have hp := packB_len l[i] hb.2
    obtain ⟨_, _, c3, c1⟩ := cap_pack hc hp
    refine ev_st ?_
    have hx := ih (i + 1) f4 (acc ++ packB l[i]) (by rw [List.length_append]; exact c3)
    rw [List.drop_eq_getElem_cons f5, packL_cons, ← List.append_assoc]
    rw [str_append] at hx
    unfold packB at hx hp ⊢ c1
    simp only [spec_PackText.l0, f1, f2, ↓reduceIte, hg, f3]
    by_cases h0 : l[i].f0 > 0
    · have h1 : ¬ l[i].f0 = 0 := by omega
      simp only [h0, h1, ↓reduceIte, Option.bind_some] at hx c1 ⊢
      simp only [strOfNums_size, c1, ↓reduceIte]
      exact hx
    · have h1 : l[i].f0 = 0 := by omega
      simp only [h1, Int.lt_irrefl, gt_iff_lt, ↓reduceIte, Option.bind_some] at hx c1 ⊢
      have c5 : acc.length + ([((l[i].f2.size : Int)) % 256] : List Int).length ≤ 9223372036854775807 := by
        rw [List.length_cons, bytesOf_length] at c1
        simp only [List.length_singleton]; omega
      have c6 : acc.length + ([((l[i].f2.size : Int)) % 256] : List Int).length + l[i].f2.size ≤ 9223372036854775807 := by
        rw [List.length_cons, bytesOf_length] at c1
        simp only [List.length_singleton]; omega
      simp only [strOfNums_size, ByteArray.size_append, c5, c6, ↓reduceIte]
      have hy : strOfNums (((l[i].f2.size : Int) % 256) :: bytesOf l[i].f2) = strOfNums [((l[i].f2.size : Int)) % 256] ++ l[i].f2 := by
        rw [← List.singleton_append, str_append, str_bytesOf]
      rw [hy, ← ByteArray.append_assoc] at hx
      exact hx
theorem spec_PackText_ev (s : ByteArray) : Ev (fun k => spec_PackText.f k s) (packOf s) := by
  simp only [spec_PackText.f]
  unfold packOf
  by_cases h : (s.size : Int) > 64
  · simp only [h, ↓reduceIte]; exact Ev.now _
  · simp only [h, ↓reduceIte]
    have hl := toksOf_len s
    refine Ev.bind (spec_TokensOf_ev s) ?_
    have := spec_PackText_l0 s (by omega) (toksOf s) hl (nice_toksOf s) (toksOf s).length 0 (by omega) [122] (by simp only [List.length_singleton]; omega)
    have hz : strOfNums [122] = (⟨#[122]⟩ : ByteArray) := by apply toList_inj.1; rfl
    rw [hz] at this
    simpa using this

theorem spec_l01In_eq (a b c : Int) : spec_l01In.f a b c = some (decide (b ≤ a ∧ a ≤ c)) := by
  unfold spec_l01In.f
  by_cases h : b ≤ a <;> simp [h, GE.ge]

theorem impl_in_eq (a b c : Int) : impl_in.f a b c = some (decide (b ≤ a ∧ a ≤ c)) := by
  unfold impl_in.f
  by_cases h : b ≤ a <;> simp [h, GE.ge]

/-! what tokens tell -/
def copyM (back : Int) : Nat → List Int → List Int
  | 0, acc => acc
  | n + 1, acc => copyM back n (acc ++ [rd acc ((acc.length : Int) - back)])
theorem copyM_len (back : Int) : ∀ (n : Nat) (acc : List Int), (copyM back n acc).length = acc.length + n
  | 0, _ => rfl
  | n + 1, acc => by rw [copyM, copyM_len back n, List.length_append, List.length_singleton]; omega
def plainM : List S56 → List Int → ByteArray × Bool
  | [], acc => (strOfNums acc, true)
  | t :: l, acc =>
    if t.f0 = 0 then (if (1 ≤ (t.f2.size : Int) ∧ (t.f2.size : Int) ≤ 31) ∧ t.f1 = 0 then (if ((acc ++ bytesOf t.f2).length : Int) > 64 then ((⟨#[]⟩ : ByteArray), false) else plainM l (acc ++ bytesOf t.f2)) else ((⟨#[]⟩ : ByteArray), false))
    else (if ((1 ≤ t.f0 ∧ t.f0 ≤ (acc.length : Int)) ∧ (1 ≤ t.f1 ∧ t.f1 ≤ 31)) ∧ t.f2.toList = [] then (if ((copyM t.f0 t.f1.toNat acc).length : Int) > 64 then ((⟨#[]⟩ : ByteArray), false) else plainM l (copyM t.f0 t.f1.toNat acc)) else ((⟨#[]⟩ : ByteArray), false))
theorem back_facts (a : Nat) (b : Int) (h1 : 1 ≤ b) (h2 : b ≤ (a : Int)) (ha : a ≤ 1000) : wrap64 ((a : Int) - b) = (a : Int) - b ∧ 0 ≤ (a : Int) - b ∧ (a : Int) - b < (a : Int) ∧ a < 140737488355328 := by
  refine ⟨w64 (by omega) (by omega), by omega, by omega, by omega⟩
theorem step_facts (j s : Int) (n : Nat) (h : j + ((n + 1 : Nat) : Int) = s) (h0 : 0 ≤ j) (hs : s ≤ 31) : j < s ∧ wrap64 (j + 1) = j + 1 ∧ j + 1 + (n : Int) = s := by
  refine ⟨by omega, w64 (by omega) (by omega), by omega⟩
theorem lit_facts (a z : Nat) (ha : a ≤ 64) (hz : z ≤ 31) : z < 140737488355328 ∧ a + z < 140737488355328 := by omega
theorem long_facts (n : Nat) (h : ¬ ((n : Int) > 64)) : n ≤ 64 := by omega
theorem toNat_facts (s : Int) (h : 1 ≤ s) : (0 : Int) + (s.toNat : Int) = s := by omega
theorem pidx_facts (i n d : Nat) (h : i + (d + 1) = n) (hn : n ≤ 1048576) : (i : Int) < (n : Int) ∧ (0 : Int) ≤ (i : Int) ∧ wrap64 ((i : Int) + 1) = ((i + 1 : Nat) : Int) ∧ i + 1 + d = n ∧ i < n := by
  refine ⟨by omega, by omega, ?_, by omega, by omega⟩
  rw [w64 (by omega) (by omega)]; omega

theorem spec_PlainOf_l1 (l : List S56) (x5 : Int) (f0 f1 : Int) (f2 : ByteArray) (hb : 1 ≤ f0) (hs : f1 ≤ 31) (r : ByteArray × Bool) : ∀ (n : Nat) (j : Int) (acc : List Int), 0 ≤ j → j + (n : Int) = f1 → f0 ≤ (acc.length : Int) → acc.length + n ≤ 1000 →
    Ev (fun k => if ((copyM f0 n acc).length : Int) > 64 then some ((⟨#[]⟩ : ByteArray), false) else spec_PlainOf.l0 k l (copyM f0 n acc) (wrap64 (x5 + 1))) r →
    Ev (fun k => spec_PlainOf.l1 k l acc x5 j f0 f1 f2) r := by
  intro n
  induction n with
  | zero =>
    intro j acc h0 hj _ _ h
    refine ev_st ?_
    simp only [spec_PlainOf.l1, show ¬ (j < f1) from by omega, ↓reduceIte]
    exact h
  | succ n ih =>
    intro j acc h0 hj hb2 ha h
    obtain ⟨f3, e1, f4⟩ := step_facts j f1 n hj h0 hs
    obtain ⟨e2, f5, f6, f7⟩ := back_facts acc.length f0 hb hb2 (by omega)
    refine ev_st ?_
    simp only [spec_PlainOf.l1, f3, ↓reduceIte, e2, f5, f6, f7, e1]
    exact ih (j + 1) _ (by omega) f4 (by rw [List.length_append, List.length_singleton]; omega) (by rw [List.length_append, List.length_singleton]; omega) h
theorem spec_PlainOf_l0 (l : List S56) (hl : l.length ≤ 1048576) : ∀ (d i : Nat), i + d = l.length → ∀ acc : List Int, acc.length ≤ 64 → Ev (fun k => spec_PlainOf.l0 k l acc (i : Int)) (plainM (l.drop i) acc) := by
  intro d
  induction d with
  | zero =>
    intro i hi acc _
    obtain rfl : i = l.length := by omega
    refine ev_st ?_
    simp only [spec_PlainOf.l0, Int.lt_irrefl, ↓reduceIte, List.drop_length, plainM]
    exact Ev.now _
  | succ d ih =>
    intro i hi acc ha
    obtain ⟨f1, f2, f3, f4, f5⟩ := pidx_facts i l.length d hi hl
    have hg := rd_MT l i f5
    rw [List.drop_eq_getElem_cons f5, plainM]
    refine ev_st ?_
    simp only [spec_PlainOf.l0, f1, f2, ↓reduceIte, hg, spec_l01In_eq, Option.bind_some]
    generalize l[i] = t
    by_cases h0 : t.f0 = 0
    · simp only [h0, ↓reduceIte]
      by_cases h1 : 1 ≤ (t.f2.size : Int) ∧ (t.f2.size : Int) ≤ 31
      · simp only [h1, and_self, decide_true, ↓reduceIte, true_and]
        refine ev_st ?_
        simp only [spec_PlainOf.j1, bne_iff_ne, ne_eq]
        by_cases h2 : t.f1 = 0
        · obtain ⟨g1, g2⟩ := lit_facts acc.length t.f2.size ha (by omega)
          simp only [h2, not_true_eq_false, ↓reduceIte, g1, g2, bytesOf_length, Option.bind_some, f3]
          by_cases h3 : ((acc ++ bytesOf t.f2).length : Int) > 64
          · simp only [h3, ↓reduceIte]; exact Ev.now _
          · simp only [h3, ↓reduceIte]; exact ih (i + 1) f4 _ (long_facts _ h3)
        · simp only [h2, not_false_eq_true, ↓reduceIte]; exact Ev.now _
      · simp only [h1, decide_false, Bool.false_eq_true, ↓reduceIte, false_and]
        refine ev_st ?_
        simp only [spec_PlainOf.j1, ↓reduceIte]
        exact Ev.now _
    · simp only [h0, ↓reduceIte]
      by_cases h1 : 1 ≤ t.f0 ∧ t.f0 ≤ (acc.length : Int)
      · by_cases h2 : 1 ≤ t.f1 ∧ t.f1 ≤ 31
        · simp only [h1, h2, and_self, decide_true, ↓reduceIte, true_and]
          refine ev_st ?_
          simp only [spec_PlainOf.j2, bne_iff_ne, ne_eq]
          by_cases h3 : t.f2.toList = []
          · simp only [h3, not_true_eq_false, ↓reduceIte]
            refine spec_PlainOf_l1 l (i : Int) t.f0 t.f1 t.f2 h1.1 h2.2 _ t.f1.toNat 0 acc (by omega) (toNat_facts _ h2.1) h1.2 (by omega) ?_
            simp only [f3]
            by_cases h4 : ((copyM t.f0 t.f1.toNat acc).length : Int) > 64
            · simp only [h4, ↓reduceIte]; exact Ev.now _
            · simp only [h4, ↓reduceIte]; exact ih (i + 1) f4 _ (long_facts _ h4)
          · simp only [h3, not_false_eq_true, ↓reduceIte]; exact Ev.now _
        · simp only [h1, h2, and_self, and_false, false_and, decide_true, decide_false, Bool.false_eq_true, ↓reduceIte]
          refine ev_st ?_
          simp only [spec_PlainOf.j2, ↓reduceIte]
          exact Ev.now _
      · simp only [h1, false_and, decide_false, Bool.false_eq_true, ↓reduceIte]
        refine ev_st ?_
        simp only [spec_PlainOf.j2, ↓reduceIte]
        exact Ev.now _
theorem spec_PlainOf_ev (l : List S56) (hl : l.length ≤ 1048576) : Ev (fun k => spec_PlainOf.f k l) (plainM l []) := by
  have := spec_PlainOf_l0 l hl l.length 0 (by omega) [] (by simp)
  simpa [spec_PlainOf.f] using this

theorem impl_PlainOf_l1 (l : List S56) (z x5 : Int) (f0 f1 : Int) (f2 : ByteArray) (hb : 1 ≤ f0) (hs : f1 ≤ 31) (r : ByteArray × Bool) : ∀ (n : Nat) (j : Int) (acc : List Int), 0 ≤ j → j + (n : Int) = f1 → f0 ≤ (acc.length : Int) → acc.length + n ≤ 1000 →
    Ev (fun k => if ((copyM f0 n acc).length : Int) > 64 then some ((⟨#[]⟩ : ByteArray), false) else impl_PlainOf.l0 k (copyM f0 n acc) l z (wrap64 (x5 + 1))) r →
    Ev (fun k => impl_PlainOf.l1 k acc l z x5 f1 j f0 f1 f2) r := by
  intro n
  induction n with
  | zero =>
    intro j acc h0 hj _ _ h
    refine ev_st ?_
    simp only [impl_PlainOf.l1, show ¬ (j < f1) from by omega, ↓reduceIte]
    exact h
  | succ n ih =>
    intro j acc h0 hj hb2 ha h
    obtain ⟨f3, e1, f4⟩ := step_facts j f1 n hj h0 hs
    obtain ⟨e2, f5, f6, f7⟩ := back_facts acc.length f0 hb hb2 (by omega)
    refine ev_st ?_
    simp only [impl_PlainOf.l1, f3, ↓reduceIte, e2, f5, f6, f7, e1]
    exact ih (j + 1) _ (by omega) f4 (by rw [List.length_append, List.length_singleton]; omega) (by rw [List.length_append, List.length_singleton]; omega) h
theorem impl_PlainOf_l0 (l : List S56) (hl : l.length ≤ 1048576) : ∀ (d i : Nat), i + d = l.length → ∀ acc : List Int, acc.length ≤ 64 → Ev (fun k => impl_PlainOf.l0 k acc l (l.length : Int) (i : Int)) (plainM (l.drop i) acc) := by
  intro d
  induction d with
  | zero =>
    intro i hi acc _
    obtain rfl : i = l.length := by omega
    refine ev_st ?_
    simp only [impl_PlainOf.l0, Int.lt_irrefl, ↓reduceIte, List.drop_length, plainM]
    exact Ev.now _
  | succ d ih =>
    intro i hi acc ha
    obtain ⟨f1, f2, f3, f4, f5⟩ := pidx_facts i l.length d hi hl
    have hg := rd_MT l i f5
    rw [List.drop_eq_getElem_cons f5, plainM]
    refine ev_st ?_
    simp only [impl_PlainOf.l0, f1, f2, ↓reduceIte, hg, impl_in_eq, Option.bind_some]
    generalize l[i] = t
    by_cases h0 : t.f0 = 0
    · simp only [h0, ↓reduceIte]
      by_cases h2 : t.f1 = 0
      · simp only [h2, ↓reduceIte, and_true]
        refine ev_st ?_
        simp only [impl_PlainOf.j1, Bool.not_eq_true', decide_eq_false_iff_not]
        by_cases h1 : 1 ≤ (t.f2.size : Int) ∧ (t.f2.size : Int) ≤ 31
        · obtain ⟨g1, g2⟩ := lit_facts acc.length t.f2.size ha (by omega)
          simp only [h1, and_self, not_true_eq_false, ↓reduceIte, g1, g2, bytesOf_length, Option.bind_some, f3]
          by_cases h3 : ((acc ++ bytesOf t.f2).length : Int) > 64
          · simp only [h3, ↓reduceIte]; exact Ev.now _
          · simp only [h3, ↓reduceIte]; exact ih (i + 1) f4 _ (long_facts _ h3)
        · simp only [h1, not_false_eq_true, ↓reduceIte]; exact Ev.now _
      · simp only [h2, and_false, ↓reduceIte]
        refine ev_st ?_
        simp only [impl_PlainOf.j1, ↓reduceIte]
        exact Ev.now _
    · simp only [h0, ↓reduceIte]
      by_cases h1 : 1 ≤ t.f0 ∧ t.f0 ≤ (acc.length : Int)
      · by_cases h2 : 1 ≤ t.f1 ∧ t.f1 ≤ 31
        · simp only [h1, h2, and_self, decide_true, ↓reduceIte, true_and]
          refine ev_st ?_
          simp only [impl_PlainOf.j2, bne_iff_ne, ne_eq]
          by_cases h3 : t.f2.toList = []
          · simp only [h3, not_true_eq_false, ↓reduceIte]
            refine impl_PlainOf_l1 l _ (i : Int) t.f0 t.f1 t.f2 h1.1 h2.2 _ t.f1.toNat 0 acc (by omega) (toNat_facts _ h2.1) h1.2 (by omega) ?_
            simp only [f3]
            by_cases h4 : ((copyM t.f0 t.f1.toNat acc).length : Int) > 64
            · simp only [h4, ↓reduceIte]; exact Ev.now _
            · simp only [h4, ↓reduceIte]; exact ih (i + 1) f4 _ (long_facts _ h4)
          · simp only [h3, not_false_eq_true, ↓reduceIte]; exact Ev.now _
        · simp only [h1, h2, and_self, and_false, false_and, decide_true, decide_false, Bool.false_eq_true, ↓reduceIte]
          refine ev_st ?_
          simp only [impl_PlainOf.j2, ↓reduceIte]
          exact Ev.now _
      · simp only [h1, false_and, decide_false, Bool.false_eq_true, ↓reduceIte]
        refine ev_st ?_
        simp only [impl_PlainOf.j2, ↓reduceIte]
        exact Ev.now _
theorem impl_PlainOf_ev (l : List S56) (hl : l.length ≤ 1048576) : Ev (fun k => impl_PlainOf.f k l) (plainM l []) := by
  have := impl_PlainOf_l0 l hl l.length 0 (by omega) [] (by simp)
  simpa [impl_PlainOf.f] using this

theorem toList_nil (a : ByteArray) : a.toList = [] ↔ a.size = 0 := by
  rw [ByteArray.toList_eq, ← List.length_eq_zero_iff, data_length]

/-! a text that is unpacked -/
def parse : Nat → List Int → Option (List S56)
  | 0, _ => some []
  | _ + 1, [] => some []
  | f + 1, n :: r => if n = 128 then none else if n > 128 then (match r with | [] => none | b :: r2 => (parse f r2).map (List.cons ⟨b, n - 128, (⟨#[]⟩ : ByteArray)⟩))
      else if n.toNat ≤ r.length then (parse f (r.drop n.toNat)).map (List.cons ⟨0, 0, strOfNums (r.take n.toNat)⟩) else none
theorem parse_cons (f : Nat) (n : Int) (r : List Int) : parse (f + 1) (n :: r) = if n = 128 then none else if n > 128 then (match r with | [] => none | b :: r2 => (parse f r2).map (List.cons ⟨b, n - 128, (⟨#[]⟩ : ByteArray)⟩))
      else if n.toNat ≤ r.length then (parse f (r.drop n.toNat)).map (List.cons ⟨0, 0, strOfNums (r.take n.toNat)⟩) else none := by cases r <;> rfl
def badT (t : S56) : Prop := (t.f0 = 0 ∧ ¬ ((1 ≤ (t.f2.size : Int) ∧ (t.f2.size : Int) ≤ 31) ∧ t.f1 = 0)) ∨ (t.f0 ≠ 0 ∧ ¬ (1 ≤ t.f1 ∧ t.f1 ≤ 31))
theorem plainM_bad : ∀ (l : List S56) (acc : List Int), (∃ t ∈ l, badT t) → (plainM l acc).2 = false := by
  intro l
  induction l with
  | nil => intro acc ⟨t, ht, _⟩; cases ht
  | cons x l ih =>
    intro acc ⟨t, ht, hb⟩
    have hx : badT x ∨ ∃ t ∈ l, badT t := by
      rcases List.mem_cons.1 ht with rfl | ht
      · exact Or.inl hb
      · exact Or.inr ⟨t, ht, hb⟩
    rw [plainM]
    by_cases h0 : x.f0 = 0
    · simp only [h0, ↓reduceIte]
      by_cases h1 : (1 ≤ (x.f2.size : Int) ∧ (x.f2.size : Int) ≤ 31) ∧ x.f1 = 0
      · rw [if_pos h1]
        split
        · rfl
        · rcases hx with hx | hx
          · rcases hx with ⟨_, hx⟩ | ⟨hx, _⟩
            · exact absurd h1 hx
            · exact absurd h0 hx
          · exact ih _ hx
      · rw [if_neg h1]
    · simp only [h0, ↓reduceIte]
      by_cases h1 : ((1 ≤ x.f0 ∧ x.f0 ≤ (acc.length : Int)) ∧ (1 ≤ x.f1 ∧ x.f1 ≤ 31)) ∧ x.f2.toList = []
      · rw [if_pos h1]
        split
        · rfl
        · rcases hx with hx | hx
          · rcases hx with ⟨hx, _⟩ | ⟨_, hx⟩
            · exact absurd hx h0
            · exact absurd h1.1.2 hx
          · exact ih _ hx
      · rw [if_neg h1]
/-- What a parse has told: its tokens, or that none of it tells a text. -/
def Outc (p : Option (List S56)) (acc : List S56) (d : Nat) (q : List S56 × Bool) : Prop :=
  q.1.length ≤ acc.length + d ∧ match p with | some l => q = (acc ++ l, true) | none => q.2 = true → ∃ t ∈ q.1, badT t
theorem outc_cons {p : Option (List S56)} {acc : List S56} {t : S56} {d d' : Nat} {q : List S56 × Bool} (h : Outc p (acc ++ [t]) d q) (hd : d + 1 ≤ d') : Outc (p.map (List.cons t)) acc d' q := by
  obtain ⟨h1, h2⟩ := h
  rw [List.length_append, List.length_singleton] at h1
  refine ⟨by omega, ?_⟩
  cases p with
  | none => exact h2
  | some l => simpa using h2
theorem outc_no {acc l : List S56} {d : Nat} (h : l.length ≤ acc.length + d) : Outc none acc d (l, false) := ⟨h, fun h => by cases h⟩
/-- A token that tells nothing, somewhere: whatever comes. -/
theorem outc_bad {p : Option (List S56)} {acc : List S56} {t : S56} {d d' : Nat} {q : List S56 × Bool} (h : Outc p (acc ++ [t]) d q) (hb : badT t) (hd : d + 1 ≤ d') : Outc none acc d' q := by
  obtain ⟨h1, h2⟩ := h
  rw [List.length_append, List.length_singleton] at h1
  refine ⟨by omega, fun hq => ?_⟩
  cases p with
  | none => exact h2 hq
  | some l => rw [h2]; exact ⟨t, by simp, hb⟩
def backOf (s x : ByteArray) : ByteArray × Bool := if (packOf x).2 = true then (if (packOf x).1.toList = s.toList then (x, true) else ((⟨#[]⟩ : ByteArray), false)) else ((⟨#[]⟩ : ByteArray), false)
def unpackOf (s : ByteArray) : ByteArray × Bool :=
  if s.size = 0 then ((⟨#[]⟩ : ByteArray), false)
  else if bt s 0 = 122 then (match parse s.size (bytesOf (s.extract 1 s.size)) with | none => ((⟨#[]⟩ : ByteArray), false) | some l => if (plainM l []).2 = true then backOf s (plainM l []).1 else ((⟨#[]⟩ : ByteArray), false))
  else if bt s 0 = 114 then backOf s (s.extract 1 s.size) else ((⟨#[]⟩ : ByteArray), false)
theorem bt_of_bytes (s : ByteArray) (x : Int) (r : List Int) (h : bytesOf s = x :: r) : bt s 0 = x := by
  have hz : 0 < s.size := by rw [← bytesOf_length, h, List.length_cons]; omega
  have := bt_get s 0 hz
  rw [show ((0 : Nat) : Int) = 0 from rfl] at this
  rw [this]
  simp [h]
theorem packOf_head (x : ByteArray) (h : (packOf x).2 = true) : bt (packOf x).1 0 = 114 ∨ bt (packOf x).1 0 = 122 := by
  unfold packOf at h ⊢
  split at h
  · cases h
  next hx =>
    rw [if_neg hx]
    unfold packFin
    split
    · refine Or.inl (bt_of_bytes _ _ (bytesOf x) ?_)
      rw [bytesOf_append]; rfl
    · refine Or.inr (bt_of_bytes _ _ (bytesOf (strOfNums (packL (toksOf x)))) ?_)
      rw [str_append, bytesOf_append]; rfl
theorem backOf_no (s x : ByteArray) (h1 : bt s 0 ≠ 114) (h2 : bt s 0 ≠ 122) : backOf s x = ((⟨#[]⟩ : ByteArray), false) := by
  unfold backOf
  split
  next h =>
    split
    next he =>
      have e := toList_inj.1 he
      have := packOf_head x h
      rw [e] at this
      rcases this with h | h
      · exact absurd h h1
      · exact absurd h h2
    next => rfl
  next => rfl
theorem extract_bytes (x : ByteArray) (i : Nat) : bytesOf (x.extract i x.size) = (bytesOf x).drop i := by
  rw [bytesOf_extract, List.take_of_length_le (by rw [bytesOf_length]; exact Nat.le_refl _)]
theorem extract_size (x : ByteArray) (i : Nat) : (x.extract i x.size).size = x.size - i := by rw [ByteArray.size_extract]; omega
theorem text_at (x : ByteArray) (i n : Nat) : x.extract i (i + n) = strOfNums (((bytesOf x).drop i).take n) := by
  rw [← str_bytesOf (x.extract i (i + n)), bytesOf_extract, List.drop_take, Nat.add_sub_cancel_left]
theorem packOf_size (s : ByteArray) : (packOf s).1.size ≤ 100000 := by
  have hl := toksOf_len s
  have hn := packL_len _ (nice_toksOf s)
  unfold packOf
  split
  · show (0 : Nat) ≤ 100000; omega
  next h =>
    unfold packFin
    split
    · simp only [ByteArray.size_append]; show 1 + s.size ≤ 100000; omega
    · rw [strOfNums_size, List.length_append, List.length_singleton]; omega

theorem at_facts (i z : Nat) (n : Int) (hz : z ≤ 1048576) (hi : i < z) (h0 : 0 ≤ n) (h1 : n ≤ 255) : wrap64 ((i : Int) + 1) = ((i + 1 : Nat) : Int) ∧ wrap64 ((i : Int) + 2) = ((i + 2 : Nat) : Int) ∧ wrap64 (n - 128) = n - 128 ∧ wrap64 (((i + 1 : Nat) : Int) + n) = ((i + 1 + n.toNat : Nat) : Int) ∧ (i : Int) < (z : Int) ∧ (0 : Int) ≤ (i : Int) ∧ (0 : Int) ≤ ((i + 1 : Nat) : Int) := by
  refine ⟨?_, ?_, ?_, ?_, by omega, by omega, by omega⟩
  · rw [w64 (by omega) (by omega)]; omega
  · rw [w64 (by omega) (by omega)]; omega
  · rw [w64 (by omega) (by omega)]
  · rw [w64 (by omega) (by omega)]; omega
theorem spec_l04Tokens_l0 (s : ByteArray) (hs : s.size ≤ 1048576) : ∀ (f i : Nat), i ≤ s.size → s.size - i ≤ f → ∀ acc : List S56, acc.length ≤ i → ∃ q, Ev (fun k => spec_l04Tokens.l0 k s acc (i : Int)) q ∧ Outc (parse f ((bytesOf s).drop i)) acc (s.size - i) q := by
  intro f
  induction f with
  | zero =>
    intro i hi hf acc ha
    obtain rfl : i = s.size := by omega
    refine ⟨(acc, true), ev_st ?_, ?_⟩
    · simp only [spec_l04Tokens.l0, Int.lt_irrefl, ↓reduceIte]; exact Ev.now _
    · exact ⟨Nat.le_add_right _ _, by simp [parse]⟩
  | succ f ih =>
    intro i hi hf acc ha
    rcases Nat.lt_or_ge i s.size with hlt | hge
    · have hr := bt_range s (i : Int)
      obtain ⟨e1, e2, e3, e4, f1, f2, f3⟩ := at_facts i s.size (bt s (i : Int)) hs hlt hr.1 hr.2
      rw [drop_bt s i hlt, parse_cons]
      have hlen : ((bytesOf s).drop (i + 1)).length = s.size - (i + 1) := by rw [List.length_drop, bytesOf_length]
      have hcap : acc.length < 4398046511104 := by omega
      by_cases h1 : bt s (i : Int) > 128
      · have h1' : ¬ bt s (i : Int) = 128 := by omega
        simp only [h1, h1', ↓reduceIte]
        by_cases h2 : i + 2 > s.size
        · have : (bytesOf s).drop (i + 1) = [] := List.drop_eq_nil_of_le (by rw [bytesOf_length]; omega)
          rw [this]
          refine ⟨(acc, false), ev_st ?_, outc_no (Nat.le_add_right _ _)⟩
          have h3 : ((i + 2 : Nat) : Int) > (s.size : Int) := by omega
          simp only [spec_l04Tokens.l0, f1, f2, ↓reduceIte, bt_wrap, h1, e2, h3]
          exact Ev.now _
        · have h3 : ¬ ((i + 2 : Nat) : Int) > (s.size : Int) := by omega
          have h4 : ((i + 1 : Nat) : Int) < (s.size : Int) := by omega
          rw [drop_bt s (i + 1) (by omega)]
          obtain ⟨q, hq, ho⟩ := ih (i + 2) (by omega) (by omega) (acc ++ [⟨bt s ((i + 1 : Nat) : Int), bt s (i : Int) - 128, (⟨#[]⟩ : ByteArray)⟩]) (by rw [List.length_append, List.length_singleton]; omega)
          refine ⟨q, ev_st ?_, outc_cons ho (by omega)⟩
          simp only [spec_l04Tokens.l0, f1, f2, ↓reduceIte, bt_wrap, h1, e1, e2, e3, h3, f3, h4, hcap]
          exact hq
      · have hn : 0 ≤ bt s (i : Int) := hr.1
        by_cases h2 : i + 1 + (bt s (i : Int)).toNat > s.size
        · have h3 : ((i + 1 + (bt s (i : Int)).toNat : Nat) : Int) > (s.size : Int) := by omega
          have hp : ∀ p : Option (List S56), (if bt s (i : Int) = 128 then none else if bt s (i : Int) > 128 then p else if (bt s (i : Int)).toNat ≤ ((bytesOf s).drop (i + 1)).length then (parse f (((bytesOf s).drop (i + 1)).drop (bt s (i : Int)).toNat)).map (List.cons ⟨0, 0, strOfNums (((bytesOf s).drop (i + 1)).take (bt s (i : Int)).toNat)⟩) else none) = none := by
            intro p
            by_cases h7 : bt s (i : Int) = 128
            · rw [if_pos h7]
            · rw [if_neg h7, if_neg h1, if_neg (by rw [hlen]; omega)]
          rw [hp]
          refine ⟨(acc, false), ev_st ?_, outc_no (Nat.le_add_right _ _)⟩
          simp only [spec_l04Tokens.l0, f1, f2, ↓reduceIte, bt_wrap, h1, e1, e4, h3]
          exact Ev.now _
        · have h3 : ¬ ((i + 1 + (bt s (i : Int)).toNat : Nat) : Int) > (s.size : Int) := by omega
          have h4 : ((i + 1 : Nat) : Int) ≤ ((i + 1 + (bt s (i : Int)).toNat : Nat) : Int) := by omega
          have h5 : ((i + 1 + (bt s (i : Int)).toNat : Nat) : Int) ≤ (s.size : Int) := by omega
          obtain ⟨q, hq, ho⟩ := ih (i + 1 + (bt s (i : Int)).toNat) (by omega) (by omega) (acc ++ [⟨0, 0, s.extract (i + 1) (i + 1 + (bt s (i : Int)).toNat)⟩]) (by rw [List.length_append, List.length_singleton]; omega)
          refine ⟨q, ev_st ?_, ?_⟩
          · simp only [spec_l04Tokens.l0, f1, f2, ↓reduceIte, bt_wrap, h1, e1, e4, h3, f3, h4, h5, hcap, Int.toNat_natCast]
            exact hq
          · by_cases h6 : bt s (i : Int) = 128
            · rw [if_pos h6]
              refine outc_bad ho (Or.inl ⟨rfl, fun hb => ?_⟩) (by omega)
              have := hb.1.2
              simp only [ByteArray.size_extract] at this
              omega
            · rw [if_neg h6, if_neg h1, if_pos (by rw [hlen]; omega), List.drop_drop]
              rw [text_at] at ho
              exact outc_cons ho (by omega)
    · obtain rfl : i = s.size := by omega
      have : (bytesOf s).drop s.size = [] := drop_end s
      rw [this]
      refine ⟨(acc, true), ev_st ?_, ?_⟩
      · simp only [spec_l04Tokens.l0, Int.lt_irrefl, ↓reduceIte]; exact Ev.now _
      · exact ⟨Nat.le_add_right _ _, by simp [parse]⟩
theorem spec_UnpackText_ev (s : ByteArray) (hs : s.size ≤ 1048576) : Ev (fun k => spec_UnpackText.f k s) (unpackOf s) := by
  simp only [spec_UnpackText.f]
  unfold unpackOf
  by_cases h0 : s.size = 0
  · have : (s.size : Int) = 0 := by omega
    simp only [this, h0, ↓reduceIte]; exact Ev.now _
  · have g0 : ¬ (s.size : Int) = 0 := by omega
    have g1 : (1 : Int) ≤ (s.size : Int) := by omega
    have g2 : (0 : Int) < (s.size : Int) := by omega
    simp only [g0, g1, g2, h0, ↓reduceIte]
    by_cases h1 : bt s 0 = 122
    · simp only [h1, ↓reduceIte]
      have hz := extract_size s 1
      obtain ⟨q, hq, ho⟩ := spec_l04Tokens_l0 (s.extract 1 s.size) (by omega) s.size 0 (by omega) (by omega) [] (by simp)
      rw [List.drop_zero] at ho
      have hq1 : q.1.length ≤ 1048576 := by have := ho.1; simp only [List.length_nil] at this; omega
      refine Ev.bind (a := q) (by simpa [spec_l04Tokens.f] using hq) (Ev.bind (spec_PlainOf_ev q.1 hq1) ?_)
      have ho2 := ho.2
      cases hp : parse s.size (bytesOf (s.extract 1 s.size)) with
      | none =>
        rw [hp] at ho2
        by_cases h2 : q.2 = true
        · have h3 := plainM_bad q.1 [] (ho2 h2)
          simp only [h2, h3, ↓reduceIte, Bool.not_false]
          refine ev_st ?_
          simp only [spec_UnpackText.j0, ↓reduceIte]
          exact Ev.now _
        · simp only [h2, Bool.false_eq_true, ↓reduceIte]
          refine ev_st ?_
          simp only [spec_UnpackText.j0, ↓reduceIte]
          exact Ev.now _
      | some l =>
        rw [hp] at ho2
        simp only [List.nil_append] at ho2
        subst ho2
        simp only [↓reduceIte]
        refine ev_st ?_
        simp only [spec_UnpackText.j0]
        by_cases h2 : (plainM l []).2 = true
        · simp only [h2, Bool.not_true, Bool.false_eq_true, ↓reduceIte]
          refine Ev.bind (spec_PackText_ev _) ?_
          unfold backOf
          split
          · split
            · exact Ev.now _
            · exact Ev.now _
          · exact Ev.now _
        · simp only [h2, Bool.not_false, Bool.false_eq_true, ↓reduceIte]
          exact Ev.now _
    · simp only [h1, ↓reduceIte]
      refine Ev.bind (spec_PackText_ev _) ?_
      by_cases h2 : bt s 0 = 114
      · simp only [h2, ↓reduceIte]
        unfold backOf
        split
        · split
          · exact Ev.now _
          · exact Ev.now _
        · exact Ev.now _
      · simp only [h2, ↓reduceIte]
        rw [← backOf_no s (s.extract 1 s.size) h2 h1]
        unfold backOf
        split
        · split
          · exact Ev.now _
          · exact Ev.now _
        · exact Ev.now _

theorem head_facts (z n : Int) (hz : z ≤ 1048576) (h0 : 0 ≤ n) (h1 : n ≤ 255) : wrap64 (n - 128) = n - 128 ∧ wrap64 (1 + n) = 1 + n ∧ (1 : Int) ≤ 1 + n ∧ (0 : Int) ≤ 1 + n ∧ (1 + n).toNat = 1 + n.toNat := by
  refine ⟨w64 (by omega) (by omega), w64 (by omega) (by omega), by omega, by omega, by omega⟩
theorem impl_tokensIn_l0 : ∀ (f : Nat) (x : ByteArray), x.size ≤ 1048576 → x.size ≤ f → ∀ acc : List S56, acc.length + x.size ≤ 1048576 → ∃ q, Ev (fun k => impl_tokensIn.l0 k x acc) q ∧ Outc (parse f (bytesOf x)) acc x.size q := by
  intro f
  induction f with
  | zero =>
    intro x _ hf acc ha
    have hz : x.size = 0 := by omega
    refine ⟨(acc, true), ev_st ?_, ?_⟩
    · simp only [impl_tokensIn.l0, toList_nil, hz, ↓reduceIte]; exact Ev.now _
    · exact ⟨Nat.le_add_right _ _, by simp [parse]⟩
  | succ f ih =>
    intro x hx hf acc ha
    by_cases hz : x.size = 0
    · have : bytesOf x = [] := List.eq_nil_of_length_eq_zero (by rw [bytesOf_length]; exact hz)
      rw [this]
      refine ⟨(acc, true), ev_st ?_, ?_⟩
      · simp only [impl_tokensIn.l0, toList_nil, hz, ↓reduceIte]; exact Ev.now _
      · exact ⟨Nat.le_add_right _ _, by simp [parse]⟩
    · have hr := bt_range x 0
      have g0 : (0 : Int) < (x.size : Int) := by omega
      have hd0 : bytesOf x = bt x 0 :: (bytesOf x).drop 1 := by
        have := drop_bt x 0 (by omega)
        simpa using this
      have hlen : ((bytesOf x).drop 1).length = x.size - 1 := by rw [List.length_drop, bytesOf_length]
      obtain ⟨e1, e2, f1, f2, f3⟩ := head_facts (x.size : Int) (bt x 0) (by omega) hr.1 hr.2
      have hcap : acc.length < 4398046511104 := by omega
      rw [hd0, parse_cons]
      by_cases h1 : bt x 0 ≥ 128
      · by_cases h2 : (x.size : Int) ≥ 2
        · have g1 : (1 : Int) < (x.size : Int) := by omega
          have g2 : (2 : Int) ≤ (x.size : Int) := by omega
          obtain ⟨q, hq, ho⟩ := ih (x.extract 2 x.size) (by rw [extract_size]; omega) (by rw [extract_size]; omega) (acc ++ [⟨bt x 1, bt x 0 - 128, (⟨#[]⟩ : ByteArray)⟩]) (by rw [extract_size, List.length_append, List.length_singleton]; omega)
          refine ⟨q, ev_st ?_, ?_⟩
          · simp only [impl_tokensIn.l0, toList_nil, hz, ↓reduceIte, g0, bt_wrap, h1, h2, decide_true]
            refine ev_st ?_
            simp only [impl_tokensIn.j1, ↓reduceIte, g1, hcap, g2, bt_wrap, e1]
            exact hq
          · rw [extract_size, extract_bytes] at ho
            by_cases h3 : bt x 0 = 128
            · rw [if_pos h3]
              refine outc_bad ho ?_ (by omega)
              unfold badT
              simp only [h3]
              by_cases h4 : bt x 1 = 0
              · refine Or.inl ⟨h4, fun hb => ?_⟩
                exact absurd (show (1 : Int) ≤ ((0 : Nat) : Int) from hb.1.1) (by omega)
              · exact Or.inr ⟨h4, fun hb => by omega⟩
            · have h4 : bt x 0 > 128 := by omega
              have h5 : (bytesOf x).drop 1 = bt x 1 :: (bytesOf x).drop 2 := drop_bt x 1 (by omega)
              rw [if_neg h3, if_pos h4, h5]
              exact outc_cons ho (by omega)
        · have h5 : (bytesOf x).drop 1 = [] := List.drop_eq_nil_of_le (by rw [bytesOf_length]; omega)
          refine ⟨([], false), ev_st ?_, ?_⟩
          · simp only [impl_tokensIn.l0, toList_nil, hz, ↓reduceIte, g0, bt_wrap, h1, h2, decide_false]
            refine ev_st ?_
            simp only [impl_tokensIn.j1, Bool.false_eq_true, ↓reduceIte, show ¬ (bt x 0 < 128) from by omega]
            exact Ev.now _
          · rw [h5]
            split
            · exact outc_no (by simp)
            · rw [if_pos (by omega)]
              exact outc_no (by simp)
      · have h3 : bt x 0 < 128 := by omega
        have h4 : ¬ bt x 0 = 128 := by omega
        have h5 : ¬ bt x 0 > 128 := by omega
        rw [if_neg h4, if_neg h5]
        by_cases h2 : bt x 0 < (x.size : Int)
        · have g1 : 1 + bt x 0 ≤ (x.size : Int) := by omega
          obtain ⟨q, hq, ho⟩ := ih (x.extract (1 + (bt x 0).toNat) x.size) (by rw [extract_size]; omega) (by rw [extract_size]; omega) (acc ++ [⟨0, 0, x.extract 1 (1 + (bt x 0).toNat)⟩]) (by rw [extract_size, List.length_append, List.length_singleton]; omega)
          refine ⟨q, ev_st ?_, ?_⟩
          · simp only [impl_tokensIn.l0, toList_nil, hz, ↓reduceIte, g0, bt_wrap, h1]
            refine ev_st ?_
            simp only [impl_tokensIn.j1, Bool.false_eq_true, ↓reduceIte, h3, h2, e2, f1, g1, hcap, f2, f3]
            exact hq
          · rw [extract_size, extract_bytes] at ho
            rw [if_pos (by rw [hlen]; omega), List.drop_drop]
            rw [text_at] at ho
            exact outc_cons ho (by omega)
        · refine ⟨([], false), ev_st ?_, ?_⟩
          · simp only [impl_tokensIn.l0, toList_nil, hz, ↓reduceIte, g0, bt_wrap, h1]
            refine ev_st ?_
            simp only [impl_tokensIn.j1, Bool.false_eq_true, ↓reduceIte, h3, h2]
            exact Ev.now _
          · rw [if_neg (by rw [hlen]; omega)]
            exact outc_no (by simp)
theorem impl_UnpackText_ev (s : ByteArray) (hs : s.size ≤ 1048576) : Ev (fun k => impl_UnpackText.f k s) (unpackOf s) := by
  simp only [impl_UnpackText.f]
  unfold unpackOf
  by_cases h0 : s.size = 0
  · simp only [toList_nil, h0, ↓reduceIte]; exact Ev.now _
  · have g1 : (1 : Int) ≤ (s.size : Int) := by omega
    have g2 : (0 : Int) < (s.size : Int) := by omega
    simp only [toList_nil, g1, g2, h0, ↓reduceIte]
    by_cases h2 : bt s 0 = 114
    · have h1 : ¬ bt s 0 = 122 := by omega
      simp only [h1, h2, ↓reduceIte]
      simp only [show ¬ ((114 : Int) = 122) from by omega, ↓reduceIte]
      refine Ev.bind (impl_PackText_ev _) ?_
      unfold backOf
      split
      · split
        · exact Ev.now _
        · exact Ev.now _
      · exact Ev.now _
    · simp only [h2, ↓reduceIte]
      have hz := extract_size s 1
      obtain ⟨q, hq, ho⟩ := impl_tokensIn_l0 s.size (s.extract 1 s.size) (by omega) (by omega) [] (by simp only [List.length_nil]; omega)
      have hq1 : q.1.length ≤ 1048576 := by have := ho.1; simp only [List.length_nil] at this; omega
      refine Ev.bind (a := q) (by simpa [impl_tokensIn.f] using hq) (Ev.bind (impl_PlainOf_ev q.1 hq1) ?_)
      have ho2 := ho.2
      have hwant : Ev (fun k => if q.2 = true then impl_UnpackText.j0 k s (plainM q.1 []).1 (!(plainM q.1 []).2) else impl_UnpackText.j0 k s (plainM q.1 []).1 true) (match parse s.size (bytesOf (s.extract 1 s.size)) with | none => ((⟨#[]⟩ : ByteArray), false) | some l => if (plainM l []).2 = true then backOf s (plainM l []).1 else ((⟨#[]⟩ : ByteArray), false)) := by
        cases hp : parse s.size (bytesOf (s.extract 1 s.size)) with
        | none =>
          rw [hp] at ho2
          by_cases h2 : q.2 = true
          · have h3 := plainM_bad q.1 [] (ho2 h2)
            simp only [h2, h3, ↓reduceIte, Bool.not_false]
            refine ev_st ?_
            simp only [impl_UnpackText.j0, ↓reduceIte]
            exact Ev.now _
          · simp only [h2, Bool.false_eq_true, ↓reduceIte]
            refine ev_st ?_
            simp only [impl_UnpackText.j0, ↓reduceIte]
            exact Ev.now _
        | some l =>
          rw [hp] at ho2
          simp only [List.nil_append] at ho2
          subst ho2
          simp only [↓reduceIte]
          refine ev_st ?_
          simp only [impl_UnpackText.j0]
          by_cases h2 : (plainM l []).2 = true
          · simp only [h2, Bool.not_true, Bool.false_eq_true, ↓reduceIte]
            refine Ev.bind (impl_PackText_ev _) ?_
            unfold backOf
            split
            · split
              · exact Ev.now _
              · exact Ev.now _
            · exact Ev.now _
          · simp only [h2, Bool.not_false, Bool.false_eq_true, ↓reduceIte]
            exact Ev.now _
      by_cases h1 : bt s 0 = 122
      · simp only [h1, ↓reduceIte]
        exact hwant
      · simp only [h1, ↓reduceIte]
        have he : (match parse s.size (bytesOf (s.extract 1 s.size)) with | none => ((⟨#[]⟩ : ByteArray), false) | some l => if (plainM l []).2 = true then backOf s (plainM l []).1 else ((⟨#[]⟩ : ByteArray), false)) = ((⟨#[]⟩ : ByteArray), false) := by
          split
          · rfl
          · split
            · exact backOf_no s _ h2 h1
            · rfl
        rw [he] at hwant
        exact hwant

/-! tokens tell their text -/
def okT (t : S56) (acc : List Int) : Prop := (t.f0 = 0 ∧ (1 ≤ t.f2.size ∧ t.f2.size ≤ 31) ∧ t.f1 = 0) ∨ (t.f0 ≠ 0 ∧ (1 ≤ t.f0 ∧ t.f0 ≤ (acc.length : Int)) ∧ (4 ≤ t.f1 ∧ t.f1 ≤ 31) ∧ t.f2.size = 0)
def tellT (t : S56) (acc : List Int) : List Int := if t.f0 = 0 then acc ++ bytesOf t.f2 else copyM t.f0 t.f1.toNat acc
/-- From acc on the tokens tell a. -/
def Tells : List S56 → List Int → List Int → Prop
  | [], acc, a => acc = a
  | t :: l, acc, a => okT t acc ∧ Tells l (tellT t acc) a
theorem tells_append : ∀ (l m : List S56) (acc a b : List Int), Tells l acc a → Tells m a b → Tells (l ++ m) acc b
  | [], m, acc, a, b, h, h2 => by rw [show acc = a from h]; exact h2
  | t :: l, m, acc, a, b, h, h2 => ⟨h.1, tells_append l m _ a b h.2 h2⟩
theorem tells_split : ∀ (l m : List S56) (acc b : List Int), Tells (l ++ m) acc b → ∃ a, Tells l acc a ∧ Tells m a b
  | [], m, acc, b, h => ⟨acc, rfl, h⟩
  | t :: l, m, acc, b, h => by
    obtain ⟨a, h1, h2⟩ := tells_split l m _ b h.2
    exact ⟨a, ⟨h.1, h1⟩, h2⟩
theorem tellT_len (t : S56) (acc : List Int) : acc.length ≤ (tellT t acc).length := by
  unfold tellT
  split
  · rw [List.length_append]; omega
  · rw [copyM_len]; omega
theorem tells_len : ∀ (l : List S56) (acc a : List Int), Tells l acc a → acc.length ≤ a.length
  | [], acc, a, h => by rw [show acc = a from h]; exact Nat.le_refl _
  | t :: l, acc, a, h => Nat.le_trans (tellT_len t acc) (tells_len l _ a h.2)
theorem plainM_tells : ∀ (l : List S56) (acc a : List Int), Tells l acc a → a.length ≤ 64 → plainM l acc = (strOfNums a, true)
  | [], acc, a, h, _ => by rw [show acc = a from h]; rfl
  | t :: l, acc, a, h, ha => by
    have h1 := tells_len l _ a h.2
    have hr := plainM_tells l _ a h.2 ha
    rw [plainM]
    unfold tellT at h1 hr
    rcases h.1 with ⟨g0, g1, g2⟩ | ⟨g0, g1, g2, g3⟩
    · have g4 : 1 ≤ (t.f2.size : Int) ∧ (t.f2.size : Int) ≤ 31 := by omega
      simp only [g0, ↓reduceIte] at h1 hr ⊢
      have g5 : ¬ ((acc ++ bytesOf t.f2).length : Int) > 64 := by omega
      simp only [g4, g2, and_self, ↓reduceIte, g5]
      exact hr
    · have g4 : 1 ≤ t.f1 ∧ t.f1 ≤ 31 := by omega
      have g6 : t.f2.toList = [] := (toList_nil _).2 g3
      simp only [g0, ↓reduceIte] at h1 hr ⊢
      have g5 : ¬ ((copyM t.f0 t.f1.toNat acc).length : Int) > 64 := by omega
      simp only [g1, g4, g6, and_self, ↓reduceIte, g5]
      exact hr
theorem copy_match (s : ByteArray) (back : Int) : ∀ (n p : Nat), p + n ≤ s.size → 1 ≤ back → back ≤ (p : Int) → (∀ i : Nat, i < n → bt s ((p : Int) - back + (i : Int)) = bt s ((p : Int) + (i : Int))) → copyM back n ((bytesOf s).take p) = (bytesOf s).take (p + n) := by
  intro n
  induction n with
  | zero => intro p _ _ _ _; rfl
  | succ n ih =>
    intro p hp hb hb2 hm
    have hlen : ((bytesOf s).take p).length = p := by rw [List.length_take, bytesOf_length]; omega
    have hq : ((p : Int) - back) = (((p : Int) - back).toNat : Int) := by omega
    have h0 := hm 0 (by omega)
    rw [copyM, hlen]
    have hrd : rd ((bytesOf s).take p) ((p : Int) - back) = bt s (p : Int) := by
      have e1 : bt s ((p : Int) - back) = bt s (p : Int) := by simpa using h0
      rw [← e1, ← rd_bytesOf, hq]
      unfold rd
      rw [Int.toNat_natCast, List.getD_eq_getElem?_getD, List.getD_eq_getElem?_getD, List.getElem?_take_of_lt (by omega)]
    rw [hrd]
    have hsn : (bytesOf s).take p ++ [bt s (p : Int)] = (bytesOf s).take (p + 1) := by
      rw [List.take_succ_eq_append_getElem (by rw [bytesOf_length]; omega), bt_get s p (by omega)]
    rw [hsn]
    have := ih (p + 1) (by omega) hb (by omega) (fun i hi => by
      have := hm (i + 1) (by omega)
      rw [show (((p + 1 : Nat) : Int) - back + (i : Int)) = (p : Int) - back + ((i + 1 : Nat) : Int) from by omega, show (((p + 1 : Nat) : Int) + (i : Int)) = (p : Int) + ((i + 1 : Nat) : Int) from by omega]
      exact this)
    rw [this, show p + 1 + n = p + (n + 1) from by omega]
theorem tells_addLit (s : ByteArray) (out : List S56) (p : Nat) (hp : p < s.size) (h : Tells out [] ((bytesOf s).take p)) : Tells (addLit out (s.extract p (p + 1))) [] ((bytesOf s).take (p + 1)) := by
  have h1 := one_byte s p hp
  have hb : bytesOf (s.extract p (p + 1)) = [bt s (p : Int)] := by
    rw [bytesOf_extract, List.drop_take, Nat.add_sub_cancel_left, drop_bt s p hp]
    rfl
  have hsn : (bytesOf s).take p ++ [bt s (p : Int)] = (bytesOf s).take (p + 1) := by
    rw [List.take_succ_eq_append_getElem (by rw [bytesOf_length]; omega), bt_get s p (by omega)]
  unfold addLit
  split
  next hq =>
    obtain ⟨q0, q1, q2⟩ := hq
    rcases List.eq_nil_or_concat out with rfl | ⟨l, t, rfl⟩
    · simp at q0
    · have e : lastT (l ++ [t]) = t := by simp [lastT]
      rw [List.concat_eq_append] at *
      rw [e] at q1 q2 ⊢
      obtain ⟨a, ha, hb2⟩ := tells_split l [t] [] _ h
      obtain ⟨ho, he⟩ := hb2
      have he : tellT t a = (bytesOf s).take p := he
      unfold tellT at he
      rw [if_pos q1] at he
      have hset : (l ++ [t]).set ((l ++ [t]).length - 1) ⟨t.f0, t.f1, t.f2 ++ s.extract p (p + 1)⟩ = l ++ [⟨t.f0, t.f1, t.f2 ++ s.extract p (p + 1)⟩] := by
        simp
      rw [hset]
      refine tells_append l _ [] a _ ha ⟨?_, ?_⟩
      · rcases ho with ⟨_, g1, g2⟩ | ⟨g0, _⟩
        · refine Or.inl ⟨q1, ?_, g2⟩
          simp only [ByteArray.size_append]; omega
        · exact absurd q1 g0
      · show tellT _ a = _
        unfold tellT
        rw [if_pos q1, bytesOf_append, hb, ← List.append_assoc, he, hsn]
  next =>
    refine tells_append out _ [] _ _ h ⟨Or.inl ⟨rfl, by simp only; omega, rfl⟩, ?_⟩
    show tellT _ _ = _
    unfold tellT
    rw [if_pos rfl, hb, hsn]
theorem tells_toks (s : ByteArray) (hs : s.size ≤ 64) : ∀ (f : Nat) (out : List S56) (p : Nat), s.size - p ≤ f → p ≤ s.size → Tells out [] ((bytesOf s).take p) → Tells (toks s f out p) [] (bytesOf s) := by
  intro f
  induction f with
  | zero =>
    intro out p hf hp h
    obtain rfl : p = s.size := by omega
    rw [List.take_of_length_le (by rw [bytesOf_length]; exact Nat.le_refl _)] at h
    exact h
  | succ f ih =>
    intro out p hf hp h
    rw [toks]
    split
    next hlt =>
      split
      next hb =>
        rcases bestOf_match s p hp with e | ⟨m1, m2, m3, m4, m5, m6⟩
        · rw [e] at hb; exact absurd hb (by decide)
        · have hc := copy_match s (bestOf s p).2 (bestOf s p).1.toNat p (by omega) m3 m4 (fun i hi => m6 i (by omega))
          refine ih _ _ (by omega) (by omega) (tells_append out _ [] _ _ h ⟨Or.inr ⟨by simp only; omega, ⟨m3, ?_⟩, ⟨m1, m2⟩, rfl⟩, ?_⟩)
          · rw [List.length_take, bytesOf_length]; simp only; omega
          · show tellT _ _ = _
            unfold tellT
            rw [if_neg (by simp only; omega)]
            exact hc
      next => exact ih _ _ (by omega) (by omega) (tells_addLit s out p hlt h)
    next hge =>
      obtain rfl : p = s.size := by omega
      rw [List.take_of_length_le (by rw [bytesOf_length]; exact Nat.le_refl _)] at h
      exact h
theorem tells_toksOf (s : ByteArray) (hs : s.size ≤ 64) : Tells (toksOf s) [] (bytesOf s) := by
  unfold toksOf
  rw [if_pos hs]
  exact tells_toks s hs s.size [] 0 (by omega) (by omega) rfl
theorem plainM_toksOf (s : ByteArray) (hs : s.size ≤ 64) : plainM (toksOf s) [] = (s, true) := by
  rw [plainM_tells _ _ _ (tells_toksOf s hs) (by rw [bytesOf_length]; exact hs), str_bytesOf]

/-! what is drawn -/
theorem bits_and255 (x : Int) : 0 ≤ Go.bits .and .i64 x 255 ∧ Go.bits .and .i64 x 255 ≤ 255 := by
  have h : (BitVec.ofInt IntKind.i64.bits x &&& BitVec.ofInt IntKind.i64.bits 255).toNat ≤ 255 := by
    rw [BitVec.toNat_and]
    exact Nat.le_trans Nat.and_le_right (by decide)
  simp only [Go.bits, IntKind.wrap_i64]
  omega
theorem l01Byte_is (l : List Int) (i s : Int) (hl : l.length ≤ 1048576) (hi : 0 ≤ i) : ∃ b j t, spec_l01Byte.f l i s = some (b, j, t) ∧ 0 ≤ b ∧ b ≤ 255 ∧ 0 ≤ j := by
  unfold spec_l01Byte.f
  by_cases h : i < (l.length : Int)
  · simp only [h, hi, ↓reduceIte]
    have e : wrap64 (i + 1) = i + 1 := w64 (by omega) (by omega)
    exact ⟨_, _, _, rfl, (bits_and255 _).1, (bits_and255 _).2, by omega⟩
  · simp only [h, ↓reduceIte]
    exact ⟨_, _, _, rfl, (bits_and255 _).1, (bits_and255 _).2, hi⟩
theorem tmod_range (a n : Int) (ha : 0 ≤ a) (hn : 1 ≤ n) : 0 ≤ Int.tmod a n ∧ Int.tmod a n < n := by
  rw [Int.tmod_eq_emod_of_nonneg ha]
  exact ⟨Int.emod_nonneg _ (by omega), Int.emod_lt_of_pos _ (by omega)⟩
theorem l01Below_is (l : List Int) (i s n : Int) (hl : l.length ≤ 1048576) (hi : 0 ≤ i) : ∃ b j t, spec_l01Below.f l i s n = some (b, j, t) ∧ 0 ≤ b ∧ (1 ≤ n → b < n) ∧ 0 ≤ j := by
  unfold spec_l01Below.f
  by_cases h : n ≤ 0
  · simp only [h, ↓reduceIte]
    exact ⟨_, _, _, rfl, by omega, fun h => by omega, hi⟩
  · simp only [h, show ¬ n = 0 from by omega, ↓reduceIte]
    obtain ⟨b1, j1, t1, e1, g1, g2, g3⟩ := l01Byte_is l i s hl hi
    by_cases h2 : n ≤ 256
    · have q := tmod_range b1 n g1 (by omega)
      simp only [h2, ↓reduceIte, e1, Option.bind_some]
      exact ⟨_, _, _, rfl, q.1, fun _ => q.2, g3⟩
    · obtain ⟨b2, j2, t2, e2, k1, k2, k3⟩ := l01Byte_is l j1 t1 hl g3
      obtain ⟨b3, j3, t3, e3, m1, m2, m3⟩ := l01Byte_is l j2 t2 hl k3
      obtain ⟨b4, j4, t4, e4, n1, n2, n3⟩ := l01Byte_is l j3 t3 hl m3
      simp only [h2, ↓reduceIte, e1, e2, e3, e4, Option.bind_some]
      have q := tmod_range (wrap64 ((wrap64 ((wrap64 ((wrap64 (b1 * 16777216)) + (wrap64 (b2 * 65536)))) + (wrap64 (b3 * 256)))) + b4)) n (by
        rw [w64 (n := b1 * 16777216) (by omega) (by omega), w64 (n := b2 * 65536) (by omega) (by omega), w64 (n := b3 * 256) (by omega) (by omega), w64 (n := b1 * 16777216 + b2 * 65536) (by omega) (by omega), w64 (n := b1 * 16777216 + b2 * 65536 + b3 * 256) (by omega) (by omega), w64 (by omega) (by omega)]
        omega) (by omega)
      exact ⟨_, _, _, rfl, q.1, fun _ => q.2, n3⟩
theorem l01New_l0 (l : List Int) (hl : l.length ≤ 1048576) : ∀ (d i : Nat), i + d = l.length → ∀ x : Int, ∃ y, Ev (fun k => spec_l01New.l0 k l x (i : Int)) (l, 0, y) := by
  intro d
  induction d with
  | zero =>
    intro i hi x
    obtain rfl : i = l.length := by omega
    refine ⟨x, ev_st ?_⟩
    simp only [spec_l01New.l0, Int.lt_irrefl, ↓reduceIte]
    exact Ev.now _
  | succ d ih =>
    intro i hi x
    have h1 : (i : Int) < (l.length : Int) := by omega
    have h2 : (0 : Int) ≤ (i : Int) := by omega
    have e : wrap64 ((i : Int) + 1) = ((i + 1 : Nat) : Int) := by rw [w64 (by omega) (by omega)]; omega
    by_cases h3 : (i : Int) < 4000
    · obtain ⟨y, hy⟩ := ih (i + 1) (by omega) (Go.bits .and .i64 (wrap64 ((wrap64 ((wrap64 (x * 131)) + (wrap64 (rd l (i : Int))))) + 7)) 1073741823)
      refine ⟨y, ev_st ?_⟩
      simp only [spec_l01New.l0, h1, h2, h3, ↓reduceIte, e]
      exact hy
    · refine ⟨x, ev_st ?_⟩
      simp only [spec_l01New.l0, h1, h3, ↓reduceIte]
      exact Ev.now _
theorem l01New_ev (l : List Int) (hl : l.length ≤ 1048576) : ∃ y, Ev (fun k => spec_l01New.f k l) (l, 0, y) := by
  obtain ⟨y, hy⟩ := l01New_l0 l hl l.length 0 (by omega) (wrap64 (36501 + (l.length : Int)))
  exact ⟨y, by simpa [spec_l01New.f] using hy⟩

/-! a text that is drawn; tokens that are drawn -/
theorem l01Pick_is (l : List Int) (i s : Int) (m : List ByteArray) (hl : l.length ≤ 1048576) (hi : 0 ≤ i) (hm : 1 ≤ m.length) (B : Nat) (hB : ∀ x ∈ m, x.size ≤ B) : ∃ b j t, spec_l01Pick.f l i s m = some (b, j, t) ∧ b.size ≤ B ∧ 0 ≤ j := by
  obtain ⟨b, j, t, e, h1, h2, h3⟩ := l01Below_is l i s (m.length : Int) hl hi
  have h4 := h2 (by omega)
  unfold spec_l01Pick.f
  simp only [e, Option.bind_some, h1, h4, ↓reduceIte]
  refine ⟨_, _, _, rfl, ?_, h3⟩
  unfold rdOf
  rw [List.getD_eq_getElem?_getD, List.getElem?_eq_getElem (by omega)]
  exact hB _ (List.getElem_mem _)
theorem l04Plain_l0 (l : List Int) (hl : l.length ≤ 1048576) : ∀ (d n : Nat), n + d = 8 → ∀ (x : ByteArray) (i s : Int), 0 ≤ i → x.size ≤ 8 * n → ∃ r j t, Ev (fun k => spec_l04Plain.l0 k x (n : Int) l i s) (r, j, t) ∧ r.size ≤ 64 ∧ 0 ≤ j := by
  intro d
  induction d with
  | zero =>
    intro n hn x i s hi hx
    obtain ⟨b, j, t, e, h1, h2, h3⟩ := l01Below_is l i s 8 hl hi
    have h4 := h2 (by omega)
    have h5 : ¬ ((n : Int) < b) := by omega
    have h6 : ¬ ((x.size : Int) > 64) := by omega
    refine ⟨x, j, t, ev_st ?_, by omega, h3⟩
    simp only [spec_l04Plain.l0, e, Option.bind_some, h5, h6, ↓reduceIte]
    exact Ev.now _
  | succ d ih =>
    intro n hn x i s hi hx
    obtain ⟨b, j, t, e, h1, h2, h3⟩ := l01Below_is l i s 8 hl hi
    by_cases h5 : (n : Int) < b
    · obtain ⟨c, j2, t2, e2, k1, k2⟩ := l01Pick_is l j t [(⟨#[97, 98, 99, 100]⟩ : ByteArray), (⟨#[97, 98]⟩ : ByteArray), (⟨#[97, 98, 99, 100, 101, 102, 103, 104]⟩ : ByteArray), (⟨#[120, 120, 120, 120, 120, 120, 120, 120]⟩ : ByteArray), (⟨#[113]⟩ : ByteArray), (⟨#[119, 114, 111, 116, 101]⟩ : ByteArray), (⟨#[122, 122]⟩ : ByteArray)] hl h3 (by decide) 8 (by decide)
      have e4 : wrap64 ((n : Int) + 1) = ((n + 1 : Nat) : Int) := by rw [w64 (by omega) (by omega)]; omega
      obtain ⟨r, j3, t3, q, q1, q2⟩ := ih (n + 1) (by omega) (x ++ c) j2 t2 k2 (by rw [ByteArray.size_append]; omega)
      refine ⟨r, j3, t3, ev_st ?_, q1, q2⟩
      simp only [spec_l04Plain.l0, e, Option.bind_some, h5, ↓reduceIte, e2, show x.size + c.size ≤ 9223372036854775807 from by omega, e4]
      exact q
    · have h6 : ¬ ((x.size : Int) > 64) := by omega
      refine ⟨x, j, t, ev_st ?_, by omega, h3⟩
      simp only [spec_l04Plain.l0, e, Option.bind_some, h5, h6, ↓reduceIte]
      exact Ev.now _
theorem l04Plain_ev (l : List Int) (hl : l.length ≤ 1048576) (i s : Int) (hi : 0 ≤ i) : ∃ r j t, Ev (fun k => spec_l04Plain.f k l i s) (r, j, t) ∧ r.size ≤ 64 ∧ 0 ≤ j :=
  l04Plain_l0 l hl 8 0 (by omega) (⟨#[]⟩ : ByteArray) i s hi (Nat.le_refl _)
theorem l01Long_l0 (n x1 : Int) : ∀ (d i : Nat) (xs : List Int), i + d = xs.length → (xs.length : Int) = n → xs.length ≤ 1000 → ∃ r, Ev (fun k => spec_l01Long.l0 k n x1 xs (i : Int)) r ∧ r.size = xs.length := by
  intro d
  induction d with
  | zero =>
    intro i xs hi hn hx
    refine ⟨strOfNums xs, ev_st ?_, strOfNums_size xs⟩
    simp only [spec_l01Long.l0, show ¬ ((i : Int) < n) from by omega, ↓reduceIte]
    exact Ev.now _
  | succ d ih =>
    intro i xs hi hn hx
    obtain ⟨r, h1, h2⟩ := ih (i + 1) (xs.set i x1) (by rw [List.length_set]; omega) (by rw [List.length_set]; exact hn) (by rw [List.length_set]; exact hx)
    have e4 : wrap64 ((i : Int) + 1) = ((i + 1 : Nat) : Int) := by rw [w64 (by omega) (by omega)]; omega
    refine ⟨r, ev_st ?_, by rw [h2, List.length_set]⟩
    simp only [spec_l01Long.l0, show (i : Int) < n from by omega, show (0 : Int) ≤ (i : Int) from by omega, show (i : Int) < (xs.length : Int) from by omega, ↓reduceIte, Int.toNat_natCast, e4]
    exact h1
theorem l01Long_ev (n : Nat) (hn : n ≤ 1000) (x1 : Int) : ∃ r, Ev (fun k => spec_l01Long.f k (n : Int) x1) r ∧ r.size = n := by
  obtain ⟨r, h1, h2⟩ := l01Long_l0 (n : Int) x1 n 0 (List.replicate n 0) (by simp) (by simp) (by simpa using hn)
  refine ⟨r, ?_, by simpa using h2⟩
  simp only [spec_l01Long.f, show (0 : Int) ≤ (n : Int) from by omega, ↓reduceIte, Int.toNat_natCast, show n ≤ 281474976710656 from by omega]
  exact h1
theorem l04Any_ev (l : List Int) (hl : l.length ≤ 1048576) (i s : Int) (hi : 0 ≤ i) : ∃ r j t, Ev (fun k => spec_l04Any.f k l i s) (r, j, t) ∧ r.size ≤ 65 ∧ 0 ≤ j := by
  obtain ⟨b, j, t, e, h1, h2, h3⟩ := l01Below_is l i s 12 hl hi
  simp only [spec_l04Any.f, spec_l01Once.f, e, Option.bind_some]
  by_cases h : b = 0
  · obtain ⟨b2, j2, t2, e2, k1, k2, k3⟩ := l01Below_is l j t 2 hl h3
    have k4 := k2 (by omega)
    obtain ⟨r, q1, q2⟩ := l01Long_ev (64 + b2.toNat) (by omega) 65
    have e4 : wrap64 (64 + b2) = ((64 + b2.toNat : Nat) : Int) := by rw [w64 (by omega) (by omega)]; omega
    refine ⟨r, j2, t2, ?_, by omega, k3⟩
    simp only [h, beq_self_eq_true, ↓reduceIte, e2, Option.bind_some, e4]
    exact Ev.bind q1 (Ev.now _)
  · obtain ⟨r, j2, t2, q1, q2, q3⟩ := l04Plain_ev l hl j t h3
    refine ⟨r, j2, t2, ?_, by omega, q3⟩
    simp only [beq_iff_eq, h, ↓reduceIte]
    exact Ev.bind q1 (Ev.now _)
theorem DrawPackText_ev (l : List Int) (hl : l.length ≤ 1048576) : ∃ r, Ev (fun k => spec_DrawPackText.f k l) r ∧ r.size ≤ 65 := by
  obtain ⟨y, hy⟩ := l01New_ev l hl
  obtain ⟨r, j, t, h1, h2, _⟩ := l04Any_ev l hl 0 y (by omega)
  refine ⟨r, ?_, h2⟩
  simp only [spec_DrawPackText.f]
  exact Ev.bind hy (Ev.bind h1 (Ev.now _))

/-! what is packed is unpacked -/
theorem empty_of (a : ByteArray) (h : a.size = 0) : a = (⟨#[]⟩ : ByteArray) := by
  apply bytesOf_inj
  have e : bytesOf a = [] := List.eq_nil_of_length_eq_zero (by rw [bytesOf_length]; exact h)
  rw [e]
  rfl
theorem parse_nil (f : Nat) : parse f [] = some [] := by cases f <;> rfl
theorem packB_range (t : S56) (h : t.f2.size ≤ 64) : ∀ x ∈ packB t, 0 ≤ x ∧ x < 256 := by
  intro x hx
  unfold packB at hx
  split at hx
  · simp only [List.mem_cons, List.not_mem_nil, or_false] at hx
    rcases hx with rfl | rfl <;> omega
  · rcases List.mem_cons.1 hx with rfl | hx
    · omega
    · exact bytesOf_range _ x hx
theorem packL_range : ∀ l : List S56, Nice l → ∀ x ∈ packL l, 0 ≤ x ∧ x < 256 := by
  intro l
  induction l with
  | nil => intro _ x hx; simp [packL] at hx
  | cons t l ih =>
    intro h x hx
    rw [packL_cons] at hx
    rcases List.mem_append.1 hx with hx | hx
    · exact packB_range t (h t List.mem_cons_self).2 x hx
    · exact ih (fun t ht => h t (List.mem_cons_of_mem _ ht)) x hx
theorem parse_packL : ∀ (l : List S56) (acc a : List Int), Tells l acc a → a.length ≤ 64 → ∀ f, (packL l).length ≤ f → parse f (packL l) = some l := by
  intro l
  induction l with
  | nil => intro acc a _ _ f _; exact parse_nil f
  | cons t l ih =>
    intro acc a h ha f hf
    obtain ⟨h1, h2⟩ := h
    have hle := tells_len _ _ _ h2
    have hle1 := tellT_len t acc
    rw [packL_cons, List.length_append] at hf
    rw [packL_cons]
    unfold packB at hf ⊢
    rcases h1 with ⟨g0, g1, g2⟩ | ⟨g0, g1, g2, g3⟩
    · rw [if_neg (by omega)] at hf ⊢
      rw [List.length_cons, bytesOf_length] at hf
      obtain ⟨f, rfl⟩ : ∃ k, f = k + 1 := ⟨f - 1, by omega⟩
      have e : ((t.f2.size : Int) % 256) = (t.f2.size : Int) := by omega
      rw [e, List.cons_append, parse_cons, if_neg (by omega), if_neg (by omega), Int.toNat_natCast, if_pos (by rw [List.length_append, bytesOf_length]; omega)]
      have e1 : (bytesOf t.f2 ++ packL l).drop t.f2.size = packL l := by
        have := bytesOf_length t.f2
        rw [← this, List.drop_left]
      have e2 : (bytesOf t.f2 ++ packL l).take t.f2.size = bytesOf t.f2 := by
        have := bytesOf_length t.f2
        rw [← this, List.take_left]
      rw [e1, e2, ih _ a h2 ha f (by omega), str_bytesOf, Option.map_some, ← g0]
      have : t.f1 = t.f0 := by omega
      obtain ⟨a0, a1, a2⟩ := t
      simp only at this g0 ⊢
      subst g0
      subst this
      rfl
    · rw [if_pos (by omega)] at hf ⊢
      simp only [List.length_cons, List.length_nil] at hf
      obtain ⟨f, rfl⟩ : ∃ k, f = k + 1 := ⟨f - 1, by omega⟩
      have e : wrap64 (128 + t.f1) % 256 = 128 + t.f1 := by rw [w64 (by omega) (by omega)]; omega
      have e1 : t.f0 % 256 = t.f0 := by omega
      rw [e, e1, List.cons_append, parse_cons, if_neg (by omega), if_pos (by omega)]
      simp only [List.singleton_append]
      rw [ih _ a h2 ha f (by omega), Option.map_some, show 128 + t.f1 - 128 = t.f1 from by omega, ← empty_of t.f2 g3]
theorem unpack_pack (s : ByteArray) (hs : s.size ≤ 64) : unpackOf (packOf s).1 = (s, true) := by
  have hok : (packOf s).2 = true := by
    unfold packOf packFin
    rw [if_neg (by omega)]
    split <;> rfl
  have hback : backOf (packOf s).1 s = (s, true) := by
    unfold backOf
    rw [if_pos hok, if_pos rfl]
  have ht := tells_toksOf s hs
  have hn := nice_toksOf s
  unfold unpackOf
  by_cases hz : (s.size : Int) + 1 ≤ (([122] ++ packL (toksOf s)).length : Int)
  · have e : (packOf s).1 = (⟨#[114]⟩ : ByteArray) ++ s := by
      unfold packOf packFin
      rw [if_neg (by omega), if_pos hz]
    have hb : bytesOf (packOf s).1 = 114 :: bytesOf s := by rw [e, bytesOf_append]; rfl
    have h0 : bt (packOf s).1 0 = 114 := bt_of_bytes _ _ _ hb
    have hsz : (packOf s).1.size = s.size + 1 := by rw [← bytesOf_length, hb, List.length_cons, bytesOf_length]
    have hx : (packOf s).1.extract 1 (packOf s).1.size = s := by
      apply bytesOf_inj
      rw [extract_bytes, hb]
      rfl
    rw [if_neg (by omega), if_neg (by omega), if_pos h0, hx, hback]
  · have e : (packOf s).1 = strOfNums ([122] ++ packL (toksOf s)) := by
      unfold packOf packFin
      rw [if_neg (by omega), if_neg hz]
    have hr : ∀ x ∈ [122] ++ packL (toksOf s), 0 ≤ x ∧ x < 256 := by
      intro x hx
      rcases List.mem_append.1 hx with hx | hx
      · simp only [List.mem_singleton] at hx; omega
      · exact packL_range _ hn x hx
    have hb : bytesOf (packOf s).1 = 122 :: packL (toksOf s) := by rw [e, bytesOf_str hr]; rfl
    have h0 : bt (packOf s).1 0 = 122 := bt_of_bytes _ _ _ hb
    have hsz : (packOf s).1.size = (packL (toksOf s)).length + 1 := by rw [← bytesOf_length, hb, List.length_cons]
    rw [if_neg (by omega), if_pos h0, extract_bytes, hb, List.drop_succ_cons, List.drop_zero,
      parse_packL _ _ _ ht (by rw [bytesOf_length]; exact hs) _ (by omega)]
    simp only [plainM_toksOf s hs, ↓reduceIte, hback]

/-! texts that are drawn; one that is spoilt -/
theorem l01Text_l0 (l : List Int) (hl : l.length ≤ 1048576) (n : Nat) (hn : n ≤ 5000) : ∀ (d i : Nat), i + d = n → ∀ (xs : List Int) (j s : Int), 0 ≤ j → xs.length = i → ∃ r j' t, Ev (fun k => spec_l01Text.l0 k (n : Int) xs (i : Int) l j s) (r, j', t) ∧ r.size = n ∧ 0 ≤ j' := by
  intro d
  induction d with
  | zero =>
    intro i hi xs j s hj hx
    refine ⟨strOfNums xs, j, s, ev_st ?_, by rw [strOfNums_size]; omega, hj⟩
    simp only [spec_l01Text.l0, show ¬ ((i : Int) < (n : Int)) from by omega, ↓reduceIte]
    exact Ev.now _
  | succ d ih =>
    intro i hi xs j s hj hx
    have e4 : wrap64 ((i : Int) + 1) = ((i + 1 : Nat) : Int) := by rw [w64 (by omega) (by omega)]; omega
    have f1 : (i : Int) < (n : Int) := by omega
    have f2 : xs.length < 140737488355328 := by omega
    have f3 : i + 1 + d = n := by omega
    obtain ⟨b, j2, t2, e, h1, h2, h3⟩ := l01Byte_is l j s hl hj
    obtain ⟨r, j', t, q1, q2, q3⟩ := ih (i + 1) f3 (xs ++ [b % 256]) j2 t2 h3 (by rw [List.length_append, List.length_singleton, hx])
    refine ⟨r, j', t, ev_st ?_, q2, q3⟩
    simp only [spec_l01Text.l0, f1, ↓reduceIte, e, Option.bind_some, f2, e4]
    exact q1
theorem l01Text_ev (l : List Int) (hl : l.length ≤ 1048576) (j s : Int) (hj : 0 ≤ j) (n : Nat) (hn : n ≤ 5000) : ∃ r j' t, Ev (fun k => spec_l01Text.f k l j s (n : Int)) (r, j', t) ∧ r.size = n ∧ 0 ≤ j' := by
  obtain ⟨r, j', t, q1, q2, q3⟩ := l01Text_l0 l hl n hn n 0 (by omega) [] j s hj rfl
  refine ⟨r, j', t, ?_, q2, q3⟩
  simp only [spec_l01Text.f, show ¬ ((n : Int) > 5000) from by omega, ↓reduceIte]
  refine ev_st ?_
  simp only [spec_l01Text.j0]
  exact q1
theorem l02Spoilt_j0 (l : List Int) (hl : l.length ≤ 1048576) (a : ByteArray) (ha : a.size ≤ 1000000) (c : Bool) (j s : Int) (hj : 0 ≤ j) : ∃ r j' t, Ev (fun k => spec_l02Spoilt.j0 k a c l j s) (r, j', t) ∧ r.size ≤ a.size + 1 ∧ 0 ≤ j' := by
  by_cases hc : c = true
  · by_cases h0 : (a.size : Int) > 0
    · obtain ⟨b, j2, t2, e, h1, h2, h3⟩ := l01Below_is l j s (a.size : Int) hl hj
      have h4 := h2 (by omega)
      obtain ⟨r, j3, t3, q1, q2, q3⟩ := l01Text_ev l hl j2 t2 h3 1 (by omega)
      have e4 : wrap64 (b + 1) = b + 1 := w64 (by omega) (by omega)
      have z1 : (a.extract 0 b.toNat).size ≤ a.size := by rw [ByteArray.size_extract]; omega
      have z2 : (a.extract 0 b.toNat).size + (a.extract (b + 1).toNat a.size).size ≤ a.size := by rw [ByteArray.size_extract, ByteArray.size_extract]; omega
      refine ⟨(a.extract 0 b.toNat ++ r) ++ a.extract (b + 1).toNat a.size, j3, t3, ev_st ?_, by rw [ByteArray.size_append, ByteArray.size_append]; omega, q3⟩
      simp only [spec_l02Spoilt.j0, hc, ↓reduceIte, h0, e, Option.bind_some, h1, show b ≤ (a.size : Int) from by omega]
      refine Ev.bind q1 ?_
      simp only [show (a.extract 0 b.toNat).size + r.size ≤ 9223372036854775807 from by omega, ↓reduceIte, e4, show 0 ≤ b + 1 from by omega, show b + 1 ≤ (a.size : Int) from by omega, ByteArray.size_append,
        show (a.extract 0 b.toNat).size + r.size + (a.extract (b + 1).toNat a.size).size ≤ 9223372036854775807 from by omega]
      exact Ev.now _
    · refine ⟨a, j, s, ev_st ?_, by omega, hj⟩
      simp only [spec_l02Spoilt.j0, hc, ↓reduceIte, h0]
      exact Ev.now _
  · refine ⟨a, j, s, ev_st ?_, by omega, hj⟩
    simp only [spec_l02Spoilt.j0, hc, Bool.false_eq_true, ↓reduceIte]
    exact Ev.now _
theorem l02Spoilt_ev (l : List Int) (hl : l.length ≤ 1048576) (j s : Int) (hj : 0 ≤ j) (a : ByteArray) (ha : a.size ≤ 1000000) : ∃ r j' t, Ev (fun k => spec_l02Spoilt.f k l j s a) (r, j', t) ∧ r.size ≤ a.size + 1 ∧ 0 ≤ j' := by
  obtain ⟨b, j2, t2, e, h1, h2, h3⟩ := l01Below_is l j s 12 hl hj
  simp only [spec_l02Spoilt.f, e, Option.bind_some]
  by_cases c0 : b = 0
  · obtain ⟨r, j3, t3, q1, q2, q3⟩ := l01Text_ev l hl j2 t2 h3 1 (by omega)
    refine ⟨a ++ r, j3, t3, ?_, by rw [ByteArray.size_append]; omega, q3⟩
    simp only [c0, ↓reduceIte]
    refine Ev.bind q1 ?_
    simp only [show a.size + r.size ≤ 9223372036854775807 from by omega, ↓reduceIte]
    exact Ev.now _
  · by_cases c1 : b = 1
    · have e4 : wrap64 ((a.size : Int) + 1) = (a.size : Int) + 1 := w64 (by omega) (by omega)
      obtain ⟨d, j3, t3, e5, k1, k2, k3⟩ := l01Below_is l j2 t2 ((a.size : Int) + 1) hl h3
      have k4 := k2 (by omega)
      refine ⟨a.extract 0 d.toNat, j3, t3, ?_, by rw [ByteArray.size_extract]; omega, k3⟩
      simp only [c1, show ¬ ((1 : Int) = 0) from by omega, ↓reduceIte, e4, e5, Option.bind_some, k1, show d ≤ (a.size : Int) from by omega]
      exact Ev.now _
    · by_cases c2 : b = 2
      · simp only [c0, c1, ↓reduceIte]
        simp only [c2, ↓reduceIte]
        exact l02Spoilt_j0 l hl a ha _ j2 t2 h3
      · simp only [c0, c1, c2, ↓reduceIte]
        exact l02Spoilt_j0 l hl a ha _ j2 t2 h3

theorem DrawUnpackText_ev (l : List Int) (hl : l.length ≤ 1048576) : ∃ r, Ev (fun k => spec_DrawUnpackText.f k l) r ∧ r.size ≤ 1000000 := by
  obtain ⟨y, hy⟩ := l01New_ev l hl
  obtain ⟨x, j, t, h1, h2, h3⟩ := l04Any_ev l hl 0 y (by omega)
  have hz := packOf_size x
  obtain ⟨b, j2, t2, e, k1, k2, k3⟩ := l01Below_is l j t 5 hl h3
  have hb : ∀ {r : ByteArray}, Ev (fun k => if b = 0 then ((spec_l02Spoilt.f k l j2 t2 (packOf x).1).bind fun bt296 => (some bt296.1)) else (if b = 1 then ((spec_l01Pick.f l j2 t2 (([(⟨#[]⟩ : ByteArray), (⟨#[114]⟩ : ByteArray), (⟨#[122]⟩ : ByteArray), (⟨#[113]⟩ : ByteArray), (⟨#[122, 1, 97]⟩ : ByteArray), (⟨#[114, 120, 120, 120, 120, 120, 120, 120, 120]⟩ : ByteArray), (⟨#[122, 132, 1]⟩ : ByteArray)] : List ByteArray))).bind fun bt302 => (some bt302.1)) else (some (packOf x).1))) r → Ev (fun k => spec_DrawUnpackText.f k l) r := by
    intro r h
    simp only [spec_DrawUnpackText.f]
    refine Ev.bind hy (Ev.bind h1 (Ev.bind (spec_PackText_ev x) ?_))
    simp only [e, Option.bind_some]
    exact h
  by_cases c0 : b = 0
  · obtain ⟨r, j3, t3, q1, q2, _⟩ := l02Spoilt_ev l hl j2 t2 k3 (packOf x).1 (by omega)
    refine ⟨r, hb ?_, by omega⟩
    simp only [c0, ↓reduceIte]
    exact Ev.bind q1 (Ev.now _)
  · by_cases c1 : b = 1
    · obtain ⟨r, j3, t3, q1, q2, _⟩ := l01Pick_is l j2 t2 [(⟨#[]⟩ : ByteArray), (⟨#[114]⟩ : ByteArray), (⟨#[122]⟩ : ByteArray), (⟨#[113]⟩ : ByteArray), (⟨#[122, 1, 97]⟩ : ByteArray), (⟨#[114, 120, 120, 120, 120, 120, 120, 120, 120]⟩ : ByteArray), (⟨#[122, 132, 1]⟩ : ByteArray)] hl k3 (by decide) 9 (by decide)
      refine ⟨r, hb ?_, by omega⟩
      simp only [c1, show ¬ ((1 : Int) = 0) from by omega, ↓reduceIte, q1, Option.bind_some]
      exact Ev.now _
    · refine ⟨(packOf x).1, hb ?_, by omega⟩
      simp only [c0, c1, ↓reduceIte]
      exact Ev.now _
theorem unpack_back (s : ByteArray) (h : (unpackOf s).2 = true) : (packOf (unpackOf s).1).1.toList = s.toList := by
  have hb : ∀ x, (backOf s x).2 = true → backOf s x = (x, true) ∧ (packOf x).1.toList = s.toList := by
    intro x hx
    unfold backOf at hx ⊢
    split at hx
    next h1 =>
      split at hx
      next h2 => rw [if_pos h1, if_pos h2]; exact ⟨rfl, h2⟩
      next => cases hx
    next => cases hx
  unfold unpackOf at h ⊢
  by_cases h0 : s.size = 0
  · rw [if_pos h0] at h; cases h
  · rw [if_neg h0] at h ⊢
    by_cases h1 : bt s 0 = 122
    · rw [if_pos h1] at h ⊢
      revert h
      cases parse s.size (bytesOf (s.extract 1 s.size)) with
      | none => intro h; cases h
      | some l =>
        simp only
        by_cases h2 : (plainM l []).2 = true
        · rw [if_pos h2]
          intro h
          obtain ⟨q1, q2⟩ := hb _ h
          rw [q1]
          exact q2
        · rw [if_neg h2]
          intro h; cases h
    · rw [if_neg h1] at h ⊢
      by_cases h2 : bt s 0 = 114
      · rw [if_pos h2] at h ⊢
        obtain ⟨q1, q2⟩ := hb _ h
        rw [q1]
        exact q2
      · rw [if_neg h2] at h; cases h
theorem laws_FnPacks_j0 (c : List Int) (hc : c.length ≤ 1048576) : Ev (fun k => laws_FnPacks.j0 k c false) true := by
  obtain ⟨u, q1, q2⟩ := DrawUnpackText_ev c hc
  refine ev_st ?_
  simp only [laws_FnPacks.j0, Bool.false_eq_true, ↓reduceIte]
  refine Ev.bind q1 (Ev.bind (impl_UnpackText_ev u (by omega)) (Ev.bind (spec_UnpackText_ev u (by omega)) (Ev.bind (impl_PackText_ev _) ?_)))
  simp only [beq_self_eq_true, ↓reduceIte]
  by_cases h : (unpackOf u).2 = true
  · have e := unpack_back u h
    simp only [h, ↓reduceIte, e, beq_self_eq_true]
    exact Ev.now _
  · simp only [h, Bool.false_eq_true, ↓reduceIte]
    exact Ev.now _
theorem FnPacks : laws_FnPacks.Pure := by
  intro c _ _ _
  refine Ev.rounds ?_
  simp only [laws_FnPacks.f, laws_big.f, Option.bind_some]
  by_cases hb : (c.length : Int) > 1048576
  · simp only [hb, decide_true, ↓reduceIte]; exact Ev.now _
  · simp only [hb, decide_false, Bool.false_eq_true, ↓reduceIte]
    have hc : c.length ≤ 1048576 := by omega
    obtain ⟨s, h1, h2⟩ := DrawPackText_ev c hc
    have hz := packOf_size s
    refine Ev.bind h1 (Ev.bind (impl_PackText_ev s) (Ev.bind (impl_UnpackText_ev _ (by omega)) (Ev.bind (spec_PackText_ev s) ?_)))
    simp only [bne_self_eq_false, Bool.false_eq_true, ↓reduceIte]
    by_cases h3 : (s.size : Int) > 64
    · have e : (packOf s).2 = false := by unfold packOf; rw [if_pos h3]
      simp only [e, Bool.false_eq_true, ↓reduceIte]
      exact laws_FnPacks_j0 c hc
    · have e : (packOf s).2 = true := by
        unfold packOf packFin
        rw [if_neg h3]
        split <;> rfl
      have hu := unpack_pack s (by omega)
      have hle : (packOf s).1.size ≤ s.size + 1 := by
        unfold packOf packFin
        rw [if_neg h3]
        split
        · simp only [ByteArray.size_append]
          show 1 + s.size ≤ s.size + 1
          omega
        next h4 =>
          simp only [strOfNums_size]
          omega
      have e4 : wrap64 ((s.size : Int) + 1) = (s.size : Int) + 1 := w64 (by omega) (by omega)
      simp only [e, hu, ↓reduceIte, e4, show ¬ (((packOf s).1.size : Int) > (s.size : Int) + 1) from by omega, decide_false]
      exact laws_FnPacks_j0 c hc

end Go.Proofs.Ytbafmoggckeaeaa.Pure
