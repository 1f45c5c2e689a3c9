/- What is proved here: the library's stable sort as a plain function over arrays (blocks of twenty by insertion, then merges in place by rotation) leaves a permutation that is sorted by any order that the comparisons decide. No condition of the program's. -/
import Derived.Sort.Lot0
import Derived.Sort.LotA
namespace Go.Proofs.Ythbdijeikfgjeaa.Stab
open Go.Sort
variable {α : Type} [Inhabited α]

/-! ### two stretches exchanged; a stretch turned round a place -/
def swapR (a b i : Nat) : Nat → Array α → Array α
  | 0, d => d
  | r + 1, d => swapR a b (i + 1) r (swp d (a + i) (b + i))
theorem swapR_size (a b : Nat) : ∀ (r i : Nat) (d : Array α), (swapR a b i r d).size = d.size
  | 0, _, _ => rfl
  | r + 1, i, d => by rw [swapR, swapR_size a b r]; exact size_swp _ _ _
theorem swapR_get (a b : Nat) : ∀ (r i : Nat) (d : Array α), a + (i + r) ≤ b → b + (i + r) ≤ d.size → ∀ k, (swapR a b i r d)[k]! = if a + i ≤ k ∧ k < a + i + r then d[k - a + b]! else if b + i ≤ k ∧ k < b + i + r then d[k - b + a]! else d[k]!
  | 0, i, d, _, _, k => by
    rw [if_neg (by omega), if_neg (by omega)]; rfl
  | r + 1, i, d, h1, h2, k => by
    rw [swapR, swapR_get a b r (i + 1) _ (by omega) (by rw [size_swp]; omega) k]
    have g := fun k => swp_get d (i := a + i) (j := b + i) (by omega) (by omega) k
    by_cases c1 : a + (i + 1) ≤ k ∧ k < a + (i + 1) + r
    · rw [if_pos c1, if_pos (by omega), g, if_neg (by omega), if_neg (by omega)]
    · rw [if_neg c1]
      by_cases c2 : b + (i + 1) ≤ k ∧ k < b + (i + 1) + r
      · rw [if_pos c2, if_neg (by omega), if_pos (by omega), g, if_neg (by omega), if_neg (by omega)]
      · rw [if_neg c2, g]
        by_cases c3 : k = b + i
        · rw [if_pos c3, if_neg (by omega), if_pos (by omega)]
          congr 1; omega
        · rw [if_neg c3]
          by_cases c4 : k = a + i
          · rw [if_pos c4, if_pos (by omega)]
            congr 1; omega
          · rw [if_neg c4, if_neg (by omega), if_neg (by omega)]
theorem swapR_perm (lo hi a b : Nat) : ∀ (r i : Nat) (d : Array α), lo ≤ a → lo ≤ b → a + (i + r) ≤ hi → b + (i + r) ≤ hi → hi ≤ d.size → PermIn lo hi d (swapR a b i r d)
  | 0, _, d, _, _, _, _, _ => permIn_refl d lo hi
  | r + 1, i, d, h1, h2, h3, h4, h5 =>
    permIn_trans _ _ _ _ _ (swp_permIn d lo hi (a + i) (b + i) (by omega) (by omega) (by omega) (by omega) h5) (swapR_perm lo hi a b r (i + 1) _ h1 h2 (by omega) (by omega) (by rw [size_swp]; exact h5))

def rot (m : Nat) : Nat → Nat → Nat → Array α → Array α
  | 0, _, _, d => d
  | f + 1, i, j, d => if i = j then swapR (m - i) m 0 i d else if j < i then rot m f (i - j) j (swapR (m - i) m 0 j d) else rot m f i (j - i) (swapR (m - i) (m + j - i) 0 i d)
theorem rot_size (m : Nat) : ∀ (f i j : Nat) (d : Array α), (rot m f i j d).size = d.size
  | 0, _, _, _ => rfl
  | f + 1, i, j, d => by
    rw [rot]
    split
    · exact swapR_size _ _ _ _ _
    · split
      · rw [rot_size m f]; exact swapR_size _ _ _ _ _
      · rw [rot_size m f]; exact swapR_size _ _ _ _ _
theorem rot_get (m : Nat) : ∀ (f i j : Nat) (d : Array α), 0 < i → 0 < j → i + j ≤ f → i ≤ m → m + j ≤ d.size → ∀ k, (rot m f i j d)[k]! = if m - i ≤ k ∧ k < m - i + j then d[k + i]! else if m - i + j ≤ k ∧ k < m + j then d[k - j]! else d[k]!
  | 0, i, j, d, h1, h2, h3, _, _, k => by omega
  | f + 1, i, j, d, h1, h2, h3, h4, h5, k => by
    rw [rot]
    by_cases e : i = j
    · rw [if_pos e, swapR_get _ _ _ _ _ (by omega) (by omega)]
      by_cases c1 : m - i ≤ k ∧ k < m - i + j
      · rw [if_pos c1, if_pos (by omega)]; congr 1; omega
      · rw [if_neg c1, if_neg (by omega)]
        by_cases c2 : m - i + j ≤ k ∧ k < m + j
        · rw [if_pos c2, if_pos (by omega)]; congr 1; omega
        · rw [if_neg c2, if_neg (by omega)]
    · rw [if_neg e]
      by_cases hl : j < i
      · rw [if_pos hl, rot_get m f (i - j) j _ (by omega) h2 (by omega) (by omega) (by rw [swapR_size]; exact h5) k]
        have g := swapR_get (m - i) m j 0 d (by omega) (by omega)
        by_cases c1 : m - (i - j) ≤ k ∧ k < m - (i - j) + j
        · rw [if_pos c1, g, if_neg (by omega), if_pos (by omega), if_neg (by omega), if_pos (by omega)]; congr 1; omega
        · rw [if_neg c1]
          by_cases c2 : m - (i - j) + j ≤ k ∧ k < m + j
          · rw [if_pos c2, g, if_neg (by omega), if_neg (by omega), if_neg (by omega), if_pos (by omega)]
          · rw [if_neg c2, g]
            by_cases c3 : m - i ≤ k ∧ k < m - i + j
            · rw [if_pos (by omega), if_pos c3]; congr 1; omega
            · rw [if_neg (by omega), if_neg (by omega), if_neg c3, if_neg (by omega)]
      · rw [if_neg hl, rot_get m f i (j - i) _ h1 (by omega) (by omega) h4 (by rw [swapR_size]; omega) k]
        have g := swapR_get (m - i) (m + j - i) i 0 d (by omega) (by omega)
        by_cases c1 : m - i ≤ k ∧ k < m - i + (j - i)
        · rw [if_pos c1, g, if_neg (by omega), if_neg (by omega), if_pos (by omega)]
        · rw [if_neg c1]
          by_cases c2 : m - i + (j - i) ≤ k ∧ k < m + (j - i)
          · rw [if_pos c2, g, if_pos (by omega), if_pos (by omega)]; congr 1; omega
          · rw [if_neg c2, g]
            by_cases c3 : m + (j - i) ≤ k ∧ k < m + j
            · rw [if_neg (by omega), if_pos (by omega), if_neg (by omega), if_pos (by omega)]; congr 1; omega
            · rw [if_neg (by omega), if_neg (by omega), if_neg (by omega), if_neg (by omega)]
theorem rot_perm (lo hi m : Nat) : ∀ (f i j : Nat) (d : Array α), lo + i ≤ m → m + j ≤ hi → hi ≤ d.size → PermIn lo hi d (rot m f i j d)
  | 0, _, _, d, _, _, _ => permIn_refl d lo hi
  | f + 1, i, j, d, h1, h2, h3 => by
    rw [rot]
    by_cases e : i = j
    · rw [if_pos e]; exact swapR_perm lo hi _ _ _ _ d (by omega) (by omega) (by omega) (by omega) h3
    · rw [if_neg e]
      by_cases hl : j < i
      · rw [if_pos hl]
        exact permIn_trans _ _ _ _ _ (swapR_perm lo hi _ _ _ _ d (by omega) (by omega) (by omega) (by omega) h3) (rot_perm lo hi m f _ _ _ (by omega) h2 (by rw [swapR_size]; exact h3))
      · rw [if_neg hl]
        exact permIn_trans _ _ _ _ _ (swapR_perm lo hi _ _ _ _ d (by omega) (by omega) (by omega) (by omega) h3) (rot_perm lo hi m f _ _ _ h1 (by omega) (by rw [swapR_size]; exact h3))

/-! ### one element moved up, or down -/
def mvUp : Nat → Nat → Array α → Array α
  | 0, _, d => d
  | c + 1, k, d => mvUp c (k + 1) (swp d k (k + 1))
theorem mvUp_size : ∀ (c k : Nat) (d : Array α), (mvUp c k d).size = d.size
  | 0, _, _ => rfl
  | c + 1, k, d => by rw [mvUp, mvUp_size c]; exact size_swp _ _ _
theorem mvUp_get : ∀ (c k : Nat) (d : Array α), k + c < d.size → ∀ x, (mvUp c k d)[x]! = if k ≤ x ∧ x < k + c then d[x + 1]! else if x = k + c then d[k]! else d[x]!
  | 0, k, d, _, x => by
    rw [if_neg (by omega)]
    by_cases e : x = k + 0
    · rw [if_pos e, mvUp]; congr 1
    · rw [if_neg e]; rfl
  | c + 1, k, d, h, x => by
    have g := fun x => swp_get d (i := k) (j := k + 1) (by omega) (by omega) x
    rw [mvUp, mvUp_get c (k + 1) _ (by rw [size_swp]; omega) x]
    by_cases c1 : k + 1 ≤ x ∧ x < k + 1 + c
    · rw [if_pos c1, if_pos (by omega), g, if_neg (by omega), if_neg (by omega)]
    · rw [if_neg c1]
      by_cases c2 : x = k + 1 + c
      · rw [if_pos c2, if_neg (by omega), if_pos (by omega), g, if_pos rfl]
      · rw [if_neg c2, g]
        by_cases c3 : x = k
        · rw [if_neg (by omega), if_pos c3, if_pos (by omega)]; congr 1; omega
        · rw [if_neg (by omega), if_neg c3, if_neg (by omega), if_neg (by omega)]
theorem mvUp_perm (lo hi : Nat) : ∀ (c k : Nat) (d : Array α), lo ≤ k → k + c < hi → hi ≤ d.size → PermIn lo hi d (mvUp c k d)
  | 0, _, d, _, _, _ => permIn_refl d lo hi
  | c + 1, k, d, h1, h2, h3 => permIn_trans _ _ _ _ _ (swp_permIn d lo hi k (k + 1) h1 (by omega) (by omega) (by omega) h3) (mvUp_perm lo hi c (k + 1) _ (by omega) (by omega) (by rw [size_swp]; exact h3))
def mvDn : Nat → Nat → Array α → Array α
  | 0, _, d => d
  | c + 1, k, d => mvDn c (k - 1) (swp d k (k - 1))
theorem mvDn_size : ∀ (c k : Nat) (d : Array α), (mvDn c k d).size = d.size
  | 0, _, _ => rfl
  | c + 1, k, d => by rw [mvDn, mvDn_size c]; exact size_swp _ _ _
theorem mvDn_get : ∀ (c k : Nat) (d : Array α), c ≤ k → k < d.size → ∀ x, (mvDn c k d)[x]! = if k - c < x ∧ x ≤ k then d[x - 1]! else if x = k - c then d[k]! else d[x]!
  | 0, k, d, _, _, x => by
    rw [if_neg (by omega)]
    by_cases e : x = k - 0
    · rw [if_pos e, mvDn]; congr 1
    · rw [if_neg e]; rfl
  | c + 1, k, d, h, hk, x => by
    have g := fun x => swp_get d (i := k) (j := k - 1) (by omega) (by omega) x
    rw [mvDn, mvDn_get c (k - 1) _ (by omega) (by rw [size_swp]; omega) x]
    by_cases c1 : k - 1 - c < x ∧ x ≤ k - 1
    · rw [if_pos c1, if_pos (by omega), g, if_neg (by omega), if_neg (by omega)]
    · rw [if_neg c1]
      by_cases c2 : x = k - 1 - c
      · rw [if_pos c2, if_neg (by omega), if_pos (by omega), g, if_pos rfl]
      · rw [if_neg c2, g]
        by_cases c3 : x = k
        · rw [if_neg (by omega), if_pos c3, if_pos (by omega)]; congr 1; omega
        · rw [if_neg (by omega), if_neg c3, if_neg (by omega), if_neg (by omega)]
theorem mvDn_perm (lo hi : Nat) : ∀ (c k : Nat) (d : Array α), lo + c ≤ k → k < hi → hi ≤ d.size → PermIn lo hi d (mvDn c k d)
  | 0, _, d, _, _, _ => permIn_refl d lo hi
  | c + 1, k, d, h1, h2, h3 => permIn_trans _ _ _ _ _ (swp_permIn d lo hi k (k - 1) (by omega) (by omega) (by omega) (by omega) h3) (mvDn_perm lo hi c (k - 1) _ (by omega) (by omega) (by rw [size_swp]; exact h3))

/-! ### a search by halves -/
def bs (p : Nat → Bool) : Nat → Nat → Nat → Nat
  | 0, i, _ => i
  | f + 1, i, j => if i < j then (if p ((i + j) / 2) = true then bs p f ((i + j) / 2 + 1) j else bs p f i ((i + j) / 2)) else i
theorem bs_spec (p : Nat → Bool) : ∀ (f i j : Nat), i ≤ j → j - i ≤ f → (∀ x y, i ≤ x → x ≤ y → y < j → p y = true → p x = true) →
    i ≤ bs p f i j ∧ bs p f i j ≤ j ∧ (∀ x, i ≤ x → x < bs p f i j → p x = true) ∧ (∀ x, bs p f i j ≤ x → x < j → p x = false)
  | 0, i, j, h, hf, _ => ⟨Nat.le_refl _, h, fun x h1 h2 => by simp only [bs] at h2; omega, fun x h1 h2 => by simp only [bs] at h1; omega⟩
  | f + 1, i, j, h, hf, hm => by
    rw [bs]
    by_cases hij : i < j
    · rw [if_pos hij]
      cases hc : p ((i + j) / 2) with
      | true =>
        rw [if_pos rfl]
        obtain ⟨a, b, c, d⟩ := bs_spec p f ((i + j) / 2 + 1) j (by omega) (by omega) (fun x y h1 h2 h3 h4 => hm x y (by omega) h2 h3 h4)
        refine ⟨by omega, b, fun x h1 h2 => ?_, d⟩
        by_cases hx : x ≤ (i + j) / 2
        · exact hm x _ h1 hx (by omega) hc
        · exact c x (by omega) h2
      | false =>
        rw [if_neg (by simp)]
        obtain ⟨a, b, c, d⟩ := bs_spec p f i ((i + j) / 2) (by omega) (by omega) (fun x y h1 h2 h3 h4 => hm x y h1 h2 (by omega) h4)
        refine ⟨a, by omega, c, fun x h1 h2 => ?_⟩
        by_cases hx : x < (i + j) / 2
        · exact d x h1 hx
        · cases hp : p x with
          | false => rfl
          | true => rw [hm ((i + j) / 2) x (by omega) (by omega) h2 hp] at hc; cases hc
    · rw [if_neg hij]
      exact ⟨Nat.le_refl _, h, fun x h1 h2 => by omega, fun x h1 h2 => by omega⟩
/-! ### the merge in place -/
variable (lt : α → α → Bool)
def symM : Nat → Nat → Nat → Nat → Array α → Array α
  | 0, _, _, _, d => d
  | f + 1, a, m, b, d =>
    if m - a = 1 then mvUp (bs (fun h => lt d[h]! d[a]!) (b - m) m b - 1 - a) a d
    else if b - m = 1 then mvDn (m - bs (fun h => !lt d[m]! d[h]!) (m - a) a m) m d
    else
      let mid := (a + b) / 2
      let n := mid + m
      let s0 := if m > mid then n - b else a
      let r0 := if m > mid then mid else m
      let s := bs (fun c => !lt d[n - 1 - c]! d[c]!) (r0 - s0) s0 r0
      let e := n - s
      let d1 := if s < m ∧ m < e then rot m (e - s) (m - s) (e - m) d else d
      let d2 := if a < s ∧ s < mid then symM f a s mid d1 else d1
      if mid < e ∧ e < b then symM f mid e b d2 else d2

/-- Sorted by T on a ≤ i < b. -/
def SortedT (T : α → α → Prop) (a b : Nat) (d : Array α) : Prop := ∀ i j, a ≤ i → i < j → j < b → T d[i]! d[j]!
theorem perm_from {d d' : Array α} {a b : Nat} (hb : b ≤ d.size) (h : PermIn a b d d') (i : Nat) (h1 : a ≤ i) (h2 : i < b) : ∃ k, a ≤ k ∧ k < b ∧ d'[i]! = d[k]! :=
  permIn_all d d' a b (fun x => ∃ k, a ≤ k ∧ k < b ∧ x = d[k]!) hb h (fun i h1 h2 => ⟨i, h1, h2, rfl⟩) i h1 h2
/-- What the comparisons decide: across the two halves less is T. -/
structure Ord (lt : α → α → Bool) (T : α → α → Prop) (I : α → Nat) : Prop where
  trans : ∀ x y z, T x y → T y z → T x z
  no : ∀ u v, I u < I v → lt v u = false → T u v
  yes : ∀ u v, I u < I v → lt v u = true → T v u
variable {lt} {T : α → α → Prop} {I : α → Nat}
omit [Inhabited α] in
theorem T_asym (hirr : ∀ x, ¬ T x x) (hO : Ord lt T I) {x y : α} (h : T x y) : ¬ T y x := fun h2 => hirr x (hO.trans _ _ _ h h2)
theorem symM_spec (hirr : ∀ x, ¬ T x x) (hO : Ord lt T I) : ∀ (f a m b : Nat) (d : Array α), a < m → m < b → b ≤ d.size → b - a ≤ f → SortedT T a m d → SortedT T m b d → (∀ x y, a ≤ x → x < m → m ≤ y → y < b → I d[x]! < I d[y]!) →
    PermIn a b d (symM lt f a m b d) ∧ SortedT T a b (symM lt f a m b d)
  | 0, a, m, b, d, h1, h2, _, hf, _, _, _ => by omega
  | f + 1, a, m, b, d, h1, h2, h3, hf, hL, hR, hI => by
    rw [symM]
    by_cases c1 : m - a = 1
    · rw [if_pos c1]
      obtain ⟨r1, r2, r3, r4⟩ := bs_spec (fun h => lt d[h]! d[a]!) (b - m) m b (by omega) (Nat.le_refl _) (fun x y q1 q2 q3 q4 => by
        have t := hO.yes d[a]! d[y]! (hI a y (by omega) (by omega) (by omega) (by omega)) q4
        have t2 : T d[x]! d[a]! := by
          rcases Nat.lt_or_ge x y with hxy | hxy
          · exact hO.trans _ _ _ (hR x y q1 hxy q3) t
          · obtain rfl : x = y := by omega
            exact t
        cases hc : lt d[x]! d[a]! with
        | true => rfl
        | false => exact absurd t2 (T_asym hirr hO (hO.no d[a]! d[x]! (hI a x (by omega) (by omega) (by omega) (by omega)) hc)))
      generalize bs (fun h => lt d[h]! d[a]!) (b - m) m b = r at *
      have g := mvUp_get (r - 1 - a) a d (by omega)
      refine ⟨mvUp_perm a b _ _ d (by omega) (by omega) h3, fun i j q1 q2 q3 => ?_⟩
      rw [g, g]
      have hlow : ∀ x, m ≤ x → x < r → T d[x]! d[a]! := fun x p1 p2 => hO.yes _ _ (hI a x (by omega) (by omega) (by omega) (by omega)) (r3 x p1 p2)
      have hhigh : ∀ x, r ≤ x → x < b → T d[a]! d[x]! := fun x p1 p2 => hO.no _ _ (hI a x (by omega) (by omega) (by omega) (by omega)) (r4 x p1 p2)
      by_cases e1 : a ≤ i ∧ i < a + (r - 1 - a)
      · rw [if_pos e1]
        by_cases e2 : a ≤ j ∧ j < a + (r - 1 - a)
        · rw [if_pos e2]; exact hR _ _ (by omega) (by omega) (by omega)
        · rw [if_neg e2]
          by_cases e3 : j = a + (r - 1 - a)
          · rw [if_pos e3]; exact hlow _ (by omega) (by omega)
          · rw [if_neg e3]; exact hR _ _ (by omega) (by omega) (by omega)
      · rw [if_neg e1, if_neg (by omega : ¬ (a ≤ j ∧ j < a + (r - 1 - a))), if_neg (by omega : ¬ j = a + (r - 1 - a))]
        by_cases e3 : i = a + (r - 1 - a)
        · rw [if_pos e3]; exact hhigh _ (by omega) (by omega)
        · rw [if_neg e3]; exact hR _ _ (by omega) (by omega) (by omega)
    · rw [if_neg c1]
      by_cases c2 : b - m = 1
      · rw [if_pos c2]
        obtain ⟨r1, r2, r3, r4⟩ := bs_spec (fun h => !lt d[m]! d[h]!) (m - a) a m (by omega) (Nat.le_refl _) (fun x y q1 q2 q3 q4 => by
          have q5 : lt d[m]! d[y]! = false := by simpa using q4
          have t := hO.no d[y]! d[m]! (hI y m (by omega) (by omega) (by omega) (by omega)) q5
          have t2 : T d[x]! d[m]! := by
            rcases Nat.lt_or_ge x y with hxy | hxy
            · exact hO.trans _ _ _ (hL x y q1 hxy q3) t
            · obtain rfl : x = y := by omega
              exact t
          cases hc : lt d[m]! d[x]! with
          | false => simp
          | true => exact absurd t2 (T_asym hirr hO (hO.yes d[x]! d[m]! (hI x m (by omega) (by omega) (by omega) (by omega)) hc)))
        generalize bs (fun h => !lt d[m]! d[h]!) (m - a) a m = r at *
        have g := mvDn_get (m - r) m d (by omega) (by omega)
        refine ⟨mvDn_perm a b _ _ d (by omega) (by omega) h3, fun i j q1 q2 q3 => ?_⟩
        rw [g, g]
        have hlow : ∀ x, a ≤ x → x < r → T d[x]! d[m]! := fun x p1 p2 => hO.no _ _ (hI x m (by omega) (by omega) (by omega) (by omega)) (by simpa using r3 x p1 p2)
        have hhigh : ∀ x, r ≤ x → x < m → T d[m]! d[x]! := fun x p1 p2 => hO.yes _ _ (hI x m (by omega) (by omega) (by omega) (by omega)) (by simpa using r4 x p1 p2)
        by_cases e1 : m - (m - r) < i ∧ i ≤ m
        · rw [if_pos e1, if_pos (by omega)]; exact hL _ _ (by omega) (by omega) (by omega)
        · rw [if_neg e1]
          by_cases e2 : i = m - (m - r)
          · rw [if_pos e2, if_pos (by omega)]; exact hhigh _ (by omega) (by omega)
          · rw [if_neg e2]
            by_cases e3 : m - (m - r) < j ∧ j ≤ m
            · rw [if_pos e3]; exact hL _ _ (by omega) (by omega) (by omega)
            · rw [if_neg e3]
              by_cases e4 : j = m - (m - r)
              · rw [if_pos e4]; exact hlow _ (by omega) (by omega)
              · rw [if_neg e4]; exact hL _ _ (by omega) (by omega) (by omega)
      · rw [if_neg c2]
        simp only
        obtain ⟨mid, hmid⟩ : ∃ mid, (a + b) / 2 = mid := ⟨_, rfl⟩
        rw [hmid]
        obtain ⟨s0, hs0⟩ : ∃ s0, (if m > mid then mid + m - b else a) = s0 := ⟨_, rfl⟩
        obtain ⟨r0, hr0⟩ : ∃ r0, (if m > mid then mid else m) = r0 := ⟨_, rfl⟩
        rw [hs0, hr0]
        have k0 : (m > mid ∧ s0 = mid + m - b ∧ r0 = mid) ∨ (m ≤ mid ∧ s0 = a ∧ r0 = m) := by
          by_cases hm : m > mid
          · rw [if_pos hm] at hs0 hr0; exact .inl ⟨hm, hs0.symm, hr0.symm⟩
          · rw [if_neg hm] at hs0 hr0; exact .inr ⟨by omega, hs0.symm, hr0.symm⟩
        have k1 : a ≤ s0 ∧ s0 ≤ r0 ∧ r0 ≤ m ∧ r0 ≤ mid ∧ mid + m - s0 ≤ b ∧ mid < b ∧ a < mid ∧ m ≤ mid + m - r0 := by omega
        clear hs0 hr0
        have hLI : ∀ c, s0 ≤ c → c < r0 → I d[c]! < I d[mid + m - 1 - c]! := fun c q1 q2 => hI _ _ (by omega) (by omega) (by omega) (by omega)
        obtain ⟨r1, r2, r3, r4⟩ := bs_spec (fun c => !lt d[mid + m - 1 - c]! d[c]!) (r0 - s0) s0 r0 (by omega) (Nat.le_refl _) (fun x y q1 q2 q3 q4 => by
          have q5 : lt d[mid + m - 1 - y]! d[y]! = false := by simpa using q4
          have t := hO.no _ _ (hLI y (by omega) q3) q5
          have t2 : T d[x]! d[mid + m - 1 - x]! := by
            rcases Nat.lt_or_ge x y with hxy | hxy
            · exact hO.trans _ _ _ (hO.trans _ _ _ (hL x y (by omega) hxy (by omega)) t) (hR _ _ (by omega) (by omega) (by omega))
            · obtain rfl : x = y := by omega
              exact t
          cases hc : lt d[mid + m - 1 - x]! d[x]! with
          | false => simp
          | true => exact absurd t2 (T_asym hirr hO (hO.yes _ _ (hLI x q1 (by omega)) hc)))
        generalize bs (fun c => !lt d[mid + m - 1 - c]! d[c]!) (r0 - s0) s0 r0 = s at *
        have f3 : ∀ c, s0 ≤ c → c < s → T d[c]! d[mid + m - 1 - c]! := fun c q1 q2 => hO.no _ _ (hLI c q1 (by omega)) (by simpa using r3 c q1 q2)
        have f4 : ∀ c, s ≤ c → c < r0 → T d[mid + m - 1 - c]! d[c]! := fun c q1 q2 => hO.yes _ _ (hLI c (by omega) q2) (by simpa using r4 c q1 q2)
        clear r3 r4 hLI
        obtain ⟨e, he⟩ : ∃ e, mid + m - s = e := ⟨_, rfl⟩
        rw [he]
        have k2 : m ≤ e ∧ e ≤ b ∧ s ≤ m ∧ a ≤ s ∧ s ≤ mid ∧ mid ≤ e ∧ s + e = mid + m := by omega
        obtain ⟨d1, hd1⟩ : ∃ d1, (if s < m ∧ m < e then rot m (e - s) (m - s) (e - m) d else d) = d1 := ⟨_, rfl⟩
        rw [hd1]
        have z1 : d1.size = d.size := by rw [← hd1]; split <;> simp [rot_size]
        have p1 : PermIn a b d d1 := by
          rw [← hd1]; split
          · exact rot_perm a b m _ _ _ d (by omega) (by omega) h3
          · exact permIn_refl d a b
        have g1 : ∀ k, d1[k]! = if s ≤ k ∧ k < mid then d[k + (m - s)]! else if mid ≤ k ∧ k < e then d[k - (e - m)]! else d[k]! := by
          intro k
          rw [← hd1]
          by_cases hc : s < m ∧ m < e
          · rw [if_pos hc, rot_get m (e - s) (m - s) (e - m) d (by omega) (by omega) (by omega) (by omega) (by omega) k]
            by_cases u1 : s ≤ k ∧ k < mid
            · rw [if_pos u1, if_pos (by omega)]
            · rw [if_neg u1, if_neg (by omega)]
              by_cases u2 : mid ≤ k ∧ k < e
              · rw [if_pos u2, if_pos (by omega)]
              · rw [if_neg u2, if_neg (by omega)]
          · rw [if_neg hc]
            by_cases u1 : s ≤ k ∧ k < mid
            · rw [if_pos u1]
              by_cases u3 : s < m
              · omega
              · rw [show m - s = 0 from by omega]; rfl
            · rw [if_neg u1]
              by_cases u2 : mid ≤ k ∧ k < e
              · rw [if_pos u2]
                by_cases u3 : s < m
                · rw [show e - m = 0 from by omega]; rfl
                · omega
              · rw [if_neg u2]
        -- the four stretches
        have L1 : ∀ k, a ≤ k → k < s → d1[k]! = d[k]! := fun k q1 q2 => by rw [g1, if_neg (by omega), if_neg (by omega)]
        have R1 : ∀ k, s ≤ k → k < mid → d1[k]! = d[k + (m - s)]! := fun k q1 q2 => by rw [g1, if_pos ⟨q1, q2⟩]
        have L2 : ∀ k, mid ≤ k → k < e → d1[k]! = d[k - (e - m)]! := fun k q1 q2 => by rw [g1, if_neg (by omega), if_pos ⟨q1, q2⟩]
        have R2 : ∀ k, e ≤ k → k < b → d1[k]! = d[k]! := fun k q1 q2 => by rw [g1, if_neg (by omega), if_neg (by omega)]
        have cross : ∀ x y, a ≤ x → x < mid → mid ≤ y → y < b → T d1[x]! d1[y]! := by
          intro x y q1 q2 q3 q4
          by_cases u1 : x < s
          · rw [L1 x q1 u1]
            by_cases u2 : y < e
            · rw [L2 y q3 u2]; exact hL _ _ q1 (by omega) (by omega)
            · rw [R2 y (by omega) q4]
              have hs : s0 < s := by
                rcases k0 with ⟨w1, w2, w3⟩ | ⟨w1, w2, w3⟩
                · rcases Nat.lt_or_ge s0 s with w | w
                  · exact w
                  · omega
                · omega
              have t := f3 (s - 1) (by omega) (by omega)
              have t1 : T d[x]! d[mid + m - 1 - (s - 1)]! := by
                rcases Nat.lt_or_ge x (s - 1) with w | w
                · exact hO.trans _ _ _ (hL x (s - 1) q1 w (by omega)) t
                · obtain rfl : x = s - 1 := by omega
                  exact t
              rw [show mid + m - 1 - (s - 1) = e from by omega] at t1
              rcases Nat.lt_or_ge e y with w | w
              · exact hO.trans _ _ _ t1 (hR e y (by omega) w q4)
              · obtain rfl : y = e := by omega
                exact t1
          · rw [R1 x (by omega) q2]
            by_cases u2 : y < e
            · rw [L2 y q3 u2]
              have hs : s < r0 := by omega
              have t := f4 s (Nat.le_refl _) hs
              rw [show mid + m - 1 - s = e - 1 from by omega] at t
              have t1 : T d[x + (m - s)]! d[s]! := by
                rcases Nat.lt_or_ge (x + (m - s)) (e - 1) with w | w
                · exact hO.trans _ _ _ (hR _ _ (by omega) w (by omega)) t
                · rw [show x + (m - s) = e - 1 from by omega]; exact t
              rcases Nat.lt_or_ge s (y - (e - m)) with w | w
              · exact hO.trans _ _ _ t1 (hL _ _ (by omega) w (by omega))
              · rw [show y - (e - m) = s from by omega]; exact t1
            · rw [R2 y (by omega) q4]; exact hR _ _ (by omega) (by omega) q4
        -- the left half
        obtain ⟨d2, hd2⟩ : ∃ d2, (if a < s ∧ s < mid then symM lt f a s mid d1 else d1) = d2 := ⟨_, rfl⟩
        rw [hd2]
        have sub1 : SortedT T a s d1 := fun i j q1 q2 q3 => by rw [L1 i q1 (by omega), L1 j (by omega) q3]; exact hL i j q1 q2 (by omega)
        have sub2 : SortedT T s mid d1 := fun i j q1 q2 q3 => by rw [R1 i q1 (by omega), R1 j (by omega) q3]; exact hR _ _ (by omega) (by omega) (by omega)
        have sub3 : SortedT T mid e d1 := fun i j q1 q2 q3 => by rw [L2 i q1 (by omega), L2 j (by omega) q3]; exact hL _ _ (by omega) (by omega) (by omega)
        have sub4 : SortedT T e b d1 := fun i j q1 q2 q3 => by rw [R2 i q1 (by omega), R2 j (by omega) q3]; exact hR _ _ (by omega) (by omega) (by omega)
        have s2 : PermIn a mid d1 d2 ∧ SortedT T a mid d2 := by
          rw [← hd2]
          by_cases hc : a < s ∧ s < mid
          · rw [if_pos hc]
            refine symM_spec hirr hO f a s mid d1 hc.1 hc.2 (by omega) (by omega) sub1 sub2 (fun x y q1 q2 q3 q4 => ?_)
            rw [L1 x q1 q2, R1 y q3 q4]
            exact hI _ _ q1 (by omega) (by omega) (by omega)
          · rw [if_neg hc]
            refine ⟨permIn_refl d1 a mid, fun i j q1 q2 q3 => ?_⟩
            by_cases w : a < s
            · exact sub1 i j q1 q2 (by omega)
            · exact sub2 i j (by omega) q2 q3
        have z2 : d2.size = d1.size := s2.1.1
        have out2 : ∀ k, mid ≤ k → d2[k]! = d1[k]! := fun k q => s2.1.2.1 k (.inr q)
        obtain ⟨d3, hd3⟩ : ∃ d3, (if mid < e ∧ e < b then symM lt f mid e b d2 else d2) = d3 := ⟨_, rfl⟩
        rw [hd3]
        have s3 : PermIn mid b d2 d3 ∧ SortedT T mid b d3 := by
          rw [← hd3]
          by_cases hc : mid < e ∧ e < b
          · rw [if_pos hc]
            refine symM_spec hirr hO f mid e b d2 hc.1 hc.2 (by omega) (by omega) (fun i j q1 q2 q3 => ?_) (fun i j q1 q2 q3 => ?_) (fun x y q1 q2 q3 q4 => ?_)
            · rw [out2 i (by omega), out2 j (by omega)]; exact sub3 i j q1 q2 q3
            · rw [out2 i (by omega), out2 j (by omega)]; exact sub4 i j q1 q2 q3
            · rw [out2 x (by omega), out2 y (by omega), L2 x q1 q2, R2 y q3 q4]
              exact hI _ _ (by omega) (by omega) (by omega) (by omega)
          · rw [if_neg hc]
            refine ⟨permIn_refl d2 mid b, fun i j q1 q2 q3 => ?_⟩
            rw [out2 i (by omega), out2 j (by omega)]
            by_cases w : mid < e
            · exact sub3 i j q1 q2 (by omega)
            · exact sub4 i j (by omega) q2 q3
        have z3 : d3.size = d2.size := s3.1.1
        refine ⟨permIn_trans _ _ _ _ _ p1 (permIn_trans _ _ _ _ _ (permIn_mono d1 d2 a mid a b (Nat.le_refl _) (by omega) (by omega) s2.1) (permIn_mono d2 d3 mid b a b (by omega) (Nat.le_refl _) (by omega) s3.1)), fun i j q1 q2 q3 => ?_⟩
        have out3 : ∀ k, k < mid → d3[k]! = d2[k]! := fun k q => s3.1.2.1 k (.inl q)
        by_cases w1 : j < mid
        · rw [out3 i (by omega), out3 j w1]; exact s2.2 i j q1 q2 w1
        · by_cases w2 : mid ≤ i
          · exact s3.2 i j w2 q2 q3
          · rw [out3 i (by omega)]
            obtain ⟨x, x1, x2, ex⟩ := perm_from (by omega) s2.1 i q1 (by omega)
            obtain ⟨y, y1, y2, ey⟩ := perm_from (by omega) s3.1 j (by omega) q3
            rw [ex, ey, out2 y y1]
            exact cross x y x1 x2 y1 y2

/-! ### the insertion sort, by T -/
theorem insInner_T (hirr : ∀ x, ¬ T x x) (hO : Ord lt T I) (a i : Nat) : ∀ (j : Nat) (d : Array α), a ≤ j → j ≤ i → i < d.size → SortedT T a j d → SortedT T (j + 1) (i + 1) d → (∀ k, j < k → k ≤ i → T d[j]! d[k]!) → (∀ p q, a ≤ p → p < j → j < q → q ≤ i → T d[p]! d[q]!) →
    (∀ p, a ≤ p → p < j → I d[p]! < I d[j]!) → PermIn a (i + 1) d (insInner lt a j d) ∧ SortedT T a (i + 1) (insInner lt a j d)
  | 0, d, h1, h2, h3, sL, sR, hx, hc, hI => by
    rw [insInner]
    refine ⟨permIn_refl d a (i + 1), fun p q q1 q2 q3 => ?_⟩
    by_cases w : p = 0
    · subst w; exact hx q (by omega) (by omega)
    · exact sR p q (by omega) q2 q3
  | j + 1, d, h1, h2, h3, sL, sR, hx, hc, hI => by
    rw [insInner]
    by_cases c : j + 1 > a ∧ lt d[j + 1]! d[j]! = true
    · rw [if_pos (by simp [c.1, c.2])]
      have g := fun x => swp_get d (i := j + 1) (j := j) (by omega) (by omega) x
      have tx := hO.yes d[j]! d[j + 1]! (hI j (by omega) (by omega)) c.2
      obtain ⟨a1, a2⟩ := insInner_T hirr hO a i j (swp d (j + 1) j) (by omega) (by omega) (by rw [size_swp]; exact h3)
        (fun p q q1 q2 q3 => by rw [g, g, if_neg (by omega), if_neg (by omega), if_neg (by omega), if_neg (by omega)]; exact sL p q q1 q2 (by omega))
        (fun p q q1 q2 q3 => by
          rw [g, g, if_neg (by omega), if_neg (by omega : ¬ q = j), if_neg (by omega : ¬ q = j + 1)]
          by_cases w : p = j + 1
          · rw [if_pos w]; exact hc j q (by omega) (by omega) (by omega) (by omega)
          · rw [if_neg w]; exact sR p q (by omega) q2 q3)
        (fun k q1 q2 => by
          rw [g, g, if_pos rfl, if_neg (by omega)]
          by_cases w : k = j + 1
          · rw [if_pos w]; exact tx
          · rw [if_neg w]; exact hx k (by omega) q2)
        (fun p q q1 q2 q3 q4 => by
          rw [g, g, if_neg (by omega), if_neg (by omega), if_neg (by omega)]
          by_cases w : q = j + 1
          · rw [if_pos w]; exact sL p j q1 q2 (by omega)
          · rw [if_neg w]; exact hc p q q1 (by omega) (by omega) q4)
        (fun p q1 q2 => by
          rw [g, g, if_neg (by omega), if_neg (by omega), if_pos rfl]
          exact hI p q1 (by omega))
      exact ⟨permIn_trans _ _ _ _ _ (swp_permIn d a (i + 1) (j + 1) j (by omega) (by omega) (by omega) (by omega) (by omega)) a1, a2⟩
    · rw [if_neg (by simpa using c)]
      refine ⟨permIn_refl d a (i + 1), fun p q q1 q2 q3 => ?_⟩
      have low : ∀ p, a ≤ p → p < j + 1 → T d[p]! d[j + 1]! := fun p q1 q2 => by
        have t : T d[j]! d[j + 1]! := by
          refine hO.no _ _ (hI j (by omega) (by omega)) ?_
          cases hc2 : lt d[j + 1]! d[j]! with
          | false => rfl
          | true => exact absurd ⟨by omega, hc2⟩ c
        by_cases w : p = j
        · subst w; exact t
        · exact hO.trans _ _ _ (sL p j q1 (by omega) (by omega)) t
      by_cases w1 : p = j + 1
      · subst w1; exact hx q (by omega) (by omega)
      · by_cases w2 : j + 1 < p
        · exact sR p q (by omega) q2 q3
        · by_cases w3 : q = j + 1
          · subst w3; exact low p q1 (by omega)
          · by_cases w4 : q < j + 1
            · exact sL p q q1 q2 w4
            · exact hc p q q1 (by omega) (by omega) (by omega)
theorem insOuter_T (hirr : ∀ x, ¬ T x x) (hO : Ord lt T I) (a b : Nat) : ∀ (r i : Nat) (d : Array α), b - i = r → a < i → b ≤ d.size → SortedT T a i d → (∀ p q, a ≤ p → p < q → i ≤ q → q < b → I d[p]! < I d[q]!) →
    PermIn a b d (insOuter lt a b i d) ∧ SortedT T a b (insOuter lt a b i d)
  | 0, i, d, hr, hai, hb, sL, hI => by
    rw [insOuter, if_neg (by omega)]
    exact ⟨permIn_refl d a b, fun p q q1 q2 q3 => sL p q q1 q2 (by omega)⟩
  | r + 1, i, d, hr, hai, hb, sL, hI => by
    rw [insOuter, if_pos (by omega)]
    obtain ⟨a1, a2⟩ := insInner_T hirr hO a i i d (by omega) (Nat.le_refl _) (by omega) sL (fun p q q1 q2 q3 => by omega) (fun k q1 q2 => by omega) (fun p q q1 q2 q3 q4 => by omega) (fun p q1 q2 => hI p i q1 q2 (Nat.le_refl _) (by omega))
    have z := a1.1
    obtain ⟨b1, b2⟩ := insOuter_T hirr hO a b r (i + 1) (insInner lt a i d) (by omega) (by omega) (by omega) a2 (fun p q q1 q2 q3 q4 => by
      rw [a1.2.1 q (.inr q3)]
      by_cases w : p < i + 1
      · obtain ⟨k, k1, k2, e⟩ := perm_from (by omega) a1 p q1 w
        rw [e]; exact hI k q k1 (by omega) (by omega) q4
      · rw [a1.2.1 p (.inr (by omega))]; exact hI p q q1 q2 (by omega) q4)
    exact ⟨permIn_trans _ _ _ _ _ (permIn_mono _ _ a (i + 1) a b (Nat.le_refl _) (by omega) hb a1) b1, b2⟩
theorem insertionSort_T (hirr : ∀ x, ¬ T x x) (hO : Ord lt T I) (a b : Nat) (d : Array α) (hb : b ≤ d.size) (hI : ∀ p q, a ≤ p → p < q → q < b → I d[p]! < I d[q]!) : PermIn a b d (insertionSort lt d a b) ∧ SortedT T a b (insertionSort lt d a b) :=
  insOuter_T hirr hO a b _ (a + 1) d rfl (by omega) hb (fun p q q1 q2 q3 => by omega) (fun p q q1 q2 _ q4 => hI p q q1 q2 q4)

/-! ### the whole: blocks of twenty, then passes of merges -/
variable (lt)
def insBlocks (n : Nat) : Nat → Nat → Array α → Array α
  | 0, a, d => insertionSort lt d a n
  | f + 1, a, d => if a + 20 ≤ n then insBlocks n f (a + 20) (insertionSort lt d a (a + 20)) else insertionSort lt d a n
def mergePass (s n : Nat) : Nat → Nat → Array α → Array α
  | 0, a, d => if a + s < n then symM lt (n - a) a (a + s) n d else d
  | f + 1, a, d => if a + 2 * s ≤ n then mergePass s n f (a + 2 * s) (symM lt (2 * s) a (a + s) (a + 2 * s) d) else if a + s < n then symM lt (n - a) a (a + s) n d else d
def passes (n : Nat) : Nat → Nat → Array α → Array α
  | 0, _, d => d
  | f + 1, s, d => if s < n then passes n f (2 * s) (mergePass lt s n n 0 d) else d
def stable (d : Array α) (n : Nat) : Array α := passes lt n n 20 (insBlocks lt n n 0 d)
variable {lt}

/-- All before place c have a lesser mark than all from it on. -/
def Cut (I : α → Nat) (n c : Nat) (d : Array α) : Prop := ∀ i j, i < c → c ≤ j → j < n → I d[i]! < I d[j]!
theorem Cut.perm {n c a b : Nat} {d d' : Array α} (h : Cut I n c d) (hb : b ≤ d.size) (hbn : b ≤ n) (hp : PermIn a b d d') (hc : c ≤ a ∨ b ≤ c) : Cut I n c d' := fun i j h1 h2 h3 => by
  have one : ∀ i, ∃ k, d'[i]! = d[k]! ∧ (i < c ↔ k < c) ∧ (i < n → k < n) := fun i => by
    by_cases w : a ≤ i ∧ i < b
    · obtain ⟨k, k1, k2, e⟩ := perm_from hb hp i w.1 w.2
      exact ⟨k, e, by omega, fun _ => by omega⟩
    · exact ⟨i, hp.2.1 i (by omega), Iff.rfl, fun h => h⟩
  obtain ⟨k, e, k1, _⟩ := one i
  obtain ⟨l, e2, l1, l2⟩ := one j
  rw [e, e2]
  exact h k l (by omega) (by omega) (l2 h3)
theorem SortedT.perm {a b a' b' : Nat} {d d' : Array α} (h : SortedT T a' b' d) (hp : PermIn a b d d') (hc : b' ≤ a ∨ b ≤ a') : SortedT T a' b' d' := fun i j h1 h2 h3 => by
  rw [hp.2.1 i (by omega), hp.2.1 j (by omega)]
  exact h i j h1 h2 h3
theorem permIn_wide {d d' : Array α} {a b n : Nat} (hb : b ≤ n) (hn : n ≤ d.size) (h : PermIn a b d d') : PermIn 0 n d d' := permIn_mono d d' a b 0 n (Nat.zero_le _) hb hn h

theorem insBlocks_T (hirr : ∀ x, ¬ T x x) (hO : Ord lt T I) (n : Nat) : ∀ (f q : Nat) (d : Array α), n ≤ d.size → n ≤ f + q * 20 → (∀ p, p < q → SortedT T (p * 20) (min (p * 20 + 20) n) d) → (∀ p, Cut I n (p * 20) d) → (∀ i j, q * 20 ≤ i → i < j → j < n → I d[i]! < I d[j]!) →
    PermIn 0 n d (insBlocks lt n f (q * 20) d) ∧ (∀ p, SortedT T (p * 20) (min (p * 20 + 20) n) (insBlocks lt n f (q * 20) d)) ∧ (∀ p, Cut I n (p * 20) (insBlocks lt n f (q * 20) d)) := by
  have last : ∀ (q : Nat) (d : Array α), n ≤ d.size → n < q * 20 + 20 → (∀ p, p < q → SortedT T (p * 20) (min (p * 20 + 20) n) d) → (∀ p, Cut I n (p * 20) d) → (∀ i j, q * 20 ≤ i → i < j → j < n → I d[i]! < I d[j]!) →
      PermIn 0 n d (insertionSort lt d (q * 20) n) ∧ (∀ p, SortedT T (p * 20) (min (p * 20 + 20) n) (insertionSort lt d (q * 20) n)) ∧ (∀ p, Cut I n (p * 20) (insertionSort lt d (q * 20) n)) := by
    intro q d hn hq hs hc hI
    obtain ⟨a1, a2⟩ := insertionSort_T hirr hO (q * 20) n d hn hI
    refine ⟨permIn_wide (Nat.le_refl _) hn a1, fun p => ?_, fun p => ?_⟩
    · rcases Nat.lt_trichotomy p q with w | w | w
      · exact (hs p w).perm a1 (.inl (by omega))
      · subst w; intro i j h1 h2 h3; exact a2 i j h1 h2 (by omega)
      · intro i j h1 h2 h3; omega
    · by_cases w : p ≤ q
      · exact (hc p).perm hn (Nat.le_refl _) a1 (.inl (by omega))
      · exact (hc p).perm hn (Nat.le_refl _) a1 (.inr (by omega))
  intro f
  induction f with
  | zero => intro q d hn hf hs hc hI; rw [insBlocks]; exact last q d hn (by omega) hs hc hI
  | succ f ih =>
    intro q d hn hf hs hc hI
    rw [insBlocks]
    by_cases c : q * 20 + 20 ≤ n
    · rw [if_pos c]
      obtain ⟨a1, a2⟩ := insertionSort_T hirr hO (q * 20) (q * 20 + 20) d (by omega) (fun p r h1 h2 h3 => hI p r h1 h2 (by omega))
      have z := a1.1
      have k := ih (q + 1) (insertionSort lt d (q * 20) (q * 20 + 20)) (by omega) (by omega) (fun p hp => by
          by_cases w : p = q
          · subst w; intro i j h1 h2 h3; exact a2 i j h1 h2 (by omega)
          · exact (hs p (by omega)).perm a1 (.inl (by omega))) (fun p => by
          by_cases w : p ≤ q
          · exact (hc p).perm (by omega) c a1 (.inl (by omega))
          · exact (hc p).perm (by omega) c a1 (.inr (by omega))) (fun i j h1 h2 h3 => by
          rw [a1.2.1 i (.inr (by omega)), a1.2.1 j (.inr (by omega))]; exact hI i j (by omega) h2 h3)
      rw [show (q + 1) * 20 = q * 20 + 20 from by omega] at k
      exact ⟨permIn_trans _ _ _ _ _ (permIn_wide c hn a1) k.1, k.2⟩
    · rw [if_neg c]; exact last q d hn (by omega) hs hc hI

theorem mergePass_T (hirr : ∀ x, ¬ T x x) (hO : Ord lt T I) (s n : Nat) (hs0 : 0 < s) : ∀ (f q : Nat) (d : Array α), n ≤ d.size → n ≤ f + q * (2 * s) → (∀ p, p < q → SortedT T (p * (2 * s)) (min (p * (2 * s) + 2 * s) n) d) → (∀ p, q * (2 * s) ≤ p * s → SortedT T (p * s) (min (p * s + s) n) d) →
    (∀ p, Cut I n (p * (2 * s)) d) → (∀ p, q * (2 * s) ≤ p * s → Cut I n (p * s) d) →
    PermIn 0 n d (mergePass lt s n f (q * (2 * s)) d) ∧ (∀ p, SortedT T (p * (2 * s)) (min (p * (2 * s) + 2 * s) n) (mergePass lt s n f (q * (2 * s)) d)) ∧ (∀ p, Cut I n (p * (2 * s)) (mergePass lt s n f (q * (2 * s)) d)) := by
  have near : ∀ p q : Nat, p < q → p * (2 * s) + 2 * s ≤ q * (2 * s) := fun p q h => by
    have := Nat.mul_le_mul_right (2 * s) (show p + 1 ≤ q from h)
    rw [Nat.add_mul, Nat.one_mul] at this
    exact this
  have two : ∀ q : Nat, (2 * q) * s = q * (2 * s) ∧ (2 * q + 1) * s = q * (2 * s) + s := fun q => by
    have e : (2 * q) * s = q * (2 * s) := by rw [Nat.mul_comm 2 q, Nat.mul_assoc]
    exact ⟨e, by rw [Nat.add_mul, Nat.one_mul, e]⟩
  have last : ∀ (q : Nat) (d : Array α), n ≤ d.size → n < q * (2 * s) + 2 * s → (∀ p, p < q → SortedT T (p * (2 * s)) (min (p * (2 * s) + 2 * s) n) d) → (∀ p, q * (2 * s) ≤ p * s → SortedT T (p * s) (min (p * s + s) n) d) →
      (∀ p, Cut I n (p * (2 * s)) d) → (∀ p, q * (2 * s) ≤ p * s → Cut I n (p * s) d) → ∀ d', (if q * (2 * s) + s < n then symM lt (n - q * (2 * s)) (q * (2 * s)) (q * (2 * s) + s) n d else d) = d' →
      PermIn 0 n d d' ∧ (∀ p, SortedT T (p * (2 * s)) (min (p * (2 * s) + 2 * s) n) d') ∧ (∀ p, Cut I n (p * (2 * s)) d') := by
    intro q d hn hq hA hB hC hD d' hd
    have t1 := (two q).1
    have t2 := (two q).2
    have B1 := hB (2 * q) (by omega)
    have B2 := hB (2 * q + 1) (by omega)
    have D2 := hD (2 * q + 1) (by omega)
    rw [t1] at B1
    rw [t2] at B2 D2
    have P : PermIn (q * (2 * s)) n d d' ∧ SortedT T (q * (2 * s)) n d' := by
      rw [← hd]
      by_cases c : q * (2 * s) + s < n
      · rw [if_pos c]
        exact symM_spec hirr hO _ _ _ _ d (by omega) c hn (Nat.le_refl _) (fun i j h1 h2 h3 => B1 i j h1 h2 (by omega)) (fun i j h1 h2 h3 => B2 i j h1 h2 (by omega)) (fun x y h1 h2 h3 h4 => D2 x y h2 h3 h4)
      · rw [if_neg c]
        exact ⟨permIn_refl d _ _, fun i j h1 h2 h3 => B1 i j h1 h2 (by omega)⟩
    refine ⟨permIn_wide (Nat.le_refl _) hn P.1, fun p => ?_, fun p => ?_⟩
    · rcases Nat.lt_trichotomy p q with w | w | w
      · have := near p q w
        exact (hA p w).perm P.1 (.inl (by omega))
      · subst w; intro i j h1 h2 h3; exact P.2 i j h1 h2 (by omega)
      · have := near q p w
        intro i j h1 h2 h3; omega
    · by_cases w : p ≤ q
      · have := Nat.mul_le_mul_right (2 * s) w
        exact (hC p).perm hn (Nat.le_refl _) P.1 (.inl this)
      · have := near q p (by omega)
        exact (hC p).perm hn (Nat.le_refl _) P.1 (.inr (by omega))
  intro f
  induction f with
  | zero => intro q d hn hf hA hB hC hD; rw [mergePass]; exact last q d hn (by omega) hA hB hC hD _ rfl
  | succ f ih =>
    intro q d hn hf hA hB hC hD
    rw [mergePass]
    by_cases c : q * (2 * s) + 2 * s ≤ n
    · rw [if_pos c]
      have t1 := (two q).1
      have t2 := (two q).2
      have B1 := hB (2 * q) (by omega)
      have B2 := hB (2 * q + 1) (by omega)
      have D2 := hD (2 * q + 1) (by omega)
      rw [t1] at B1
      rw [t2] at B2 D2
      obtain ⟨a1, a2⟩ := symM_spec hirr hO (2 * s) (q * (2 * s)) (q * (2 * s) + s) (q * (2 * s) + 2 * s) d (by omega) (by omega) (by omega) (by omega) (fun i j h1 h2 h3 => B1 i j h1 h2 (by omega)) (fun i j h1 h2 h3 => B2 i j h1 h2 (by omega)) (fun x y h1 h2 h3 h4 => D2 x y h2 h3 (by omega))
      have z := a1.1
      have nx : (q + 1) * (2 * s) = q * (2 * s) + 2 * s := by rw [Nat.add_mul, Nat.one_mul]
      have k := ih (q + 1) (symM lt (2 * s) (q * (2 * s)) (q * (2 * s) + s) (q * (2 * s) + 2 * s) d) (by omega) (by omega) (fun p hp => by
          by_cases w : p = q
          · subst w; intro i j h1 h2 h3; exact a2 i j h1 h2 (by omega)
          · have := near p q (by omega)
            exact (hA p (by omega)).perm a1 (.inl (by omega))) (fun p hp => (hB p (by omega)).perm a1 (.inr (by omega))) (fun p => by
          by_cases w : p ≤ q
          · have := Nat.mul_le_mul_right (2 * s) w
            exact (hC p).perm (by omega) c a1 (.inl this)
          · have := near q p (by omega)
            exact (hC p).perm (by omega) c a1 (.inr (by omega))) (fun p hp => (hD p (by omega)).perm (by omega) c a1 (.inr (by omega)))
      rw [nx] at k
      exact ⟨permIn_trans _ _ _ _ _ (permIn_wide c hn a1) k.1, k.2⟩
    · rw [if_neg c]; exact last q d hn (by omega) hA hB hC hD _ rfl

theorem passes_T (hirr : ∀ x, ¬ T x x) (hO : Ord lt T I) (n : Nat) : ∀ (f s : Nat) (d : Array α), 0 < s → n ≤ d.size → n ≤ f + s → (∀ p, SortedT T (p * s) (min (p * s + s) n) d) → (∀ p, Cut I n (p * s) d) →
    PermIn 0 n d (passes lt n f s d) ∧ SortedT T 0 n (passes lt n f s d)
  | 0, s, d, h0, hn, hf, hA, hC => by
    rw [passes]
    refine ⟨permIn_refl d 0 n, fun i j h1 h2 h3 => ?_⟩
    have := hA 0 i j (by omega) h2 (by omega)
    exact this
  | f + 1, s, d, h0, hn, hf, hA, hC => by
    rw [passes]
    by_cases c : s < n
    · rw [if_pos c]
      have k := mergePass_T hirr hO s n h0 n 0 d hn (by omega) (fun p hp => by omega) (fun p _ => hA p) (fun p => by
        have := hC (2 * p)
        rw [show (2 * p) * s = p * (2 * s) from by rw [Nat.mul_comm 2 p, Nat.mul_assoc]] at this
        exact this) (fun p _ => hC p)
      rw [Nat.zero_mul] at k
      have z := k.1.1
      have j := passes_T hirr hO n f (2 * s) (mergePass lt s n n 0 d) (by omega) (by omega) (by omega) k.2.1 k.2.2
      exact ⟨permIn_trans _ _ _ _ _ k.1 j.1, j.2⟩
    · rw [if_neg c]
      refine ⟨permIn_refl d 0 n, fun i j h1 h2 h3 => ?_⟩
      exact hA 0 i j (by omega) h2 (by omega)
/-- The stable sort: a permutation, sorted by T, where the marks ascend at the start. -/
theorem stable_T (hirr : ∀ x, ¬ T x x) (hO : Ord lt T I) (d : Array α) (n : Nat) (hn : n ≤ d.size) (hI : ∀ i j, i < j → j < n → I d[i]! < I d[j]!) : PermIn 0 n d (stable lt d n) ∧ SortedT T 0 n (stable lt d n) := by
  have k := insBlocks_T hirr hO n n 0 d hn (by omega) (fun p hp => by omega) (fun p i j h1 h2 h3 => hI i j (by omega) h3) (fun i j _ h2 h3 => hI i j h2 h3)
  rw [Nat.zero_mul] at k
  have z := k.1.1
  have j := passes_T hirr hO n n 20 (insBlocks lt n n 0 d) (by omega) (by omega) (by omega) k.2.1 k.2.2
  exact ⟨permIn_trans _ _ _ _ _ k.1 j.1, j.2⟩
end Go.Proofs.Ythbdijeikfgjeaa.Stab
