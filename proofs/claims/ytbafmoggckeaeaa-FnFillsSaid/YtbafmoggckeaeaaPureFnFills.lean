/- What is proved here: the law FnFills, told as a plain function over numbers and lists, answers true at all arguments. Conditions: those of the row alone, none of ours. -/
import Derived.Test.YtbafmoggckeaeaaQFnFillsx6
import Derived.Test.YtbafmoggckeaeaaKit
namespace Go.Proofs.Ytbafmoggckeaeaa.Pure
open Go.RowKit Go.Proofs.Ytbafmoggckeaeaa.QFnFills Go.Proofs.YtbafmoggckeaeaaW.PrintWords Go.Proofs.YtbafmoggckeaeaaW.PrintLast Go.Proofs.Ytbafmoggckeaeaa.Kit Go.Proofs.YtbafmoggckeaeaaW.PrintMore
set_option linter.unusedSimpArgs false
set_option linter.unusedVariables false

/-! what is drawn -/
theorem bits_and255 (x : Int) : 0 ≤ Go.bits .and .i64 x 255 ∧ Go.bits .and .i64 x 255 ≤ 255 := by
  have h : (BitVec.ofInt IntKind.i64.bits x &&& BitVec.ofInt IntKind.i64.bits 255).toNat ≤ 255 := by
    rw [BitVec.toNat_and]
    exact Nat.le_trans Nat.and_le_right (by decide)
  simp only [Go.bits, IntKind.wrap_i64]
  omega
theorem l01Byte_is (l : List Int) (i s : Int) (hl : l.length ≤ 1048576) (hi : 0 ≤ i) : ∃ b j t, spec_l01Byte.f l i s = some (b, j, t) ∧ 0 ≤ b ∧ b ≤ 255 ∧ 0 ≤ j := by
  unfold spec_l01Byte.f
  by_cases h : i < (l.length : Int)
  · simp only [h, hi, ↓reduceIte]
    have e : wrap64 (i + 1) = i + 1 := w64 (by omega) (by omega)
    exact ⟨_, _, _, rfl, (bits_and255 _).1, (bits_and255 _).2, by omega⟩
  · simp only [h, ↓reduceIte]
    exact ⟨_, _, _, rfl, (bits_and255 _).1, (bits_and255 _).2, hi⟩
theorem tmod_range (a n : Int) (ha : 0 ≤ a) (hn : 1 ≤ n) : 0 ≤ Int.tmod a n ∧ Int.tmod a n < n := by
  rw [Int.tmod_eq_emod_of_nonneg ha]
  exact ⟨Int.emod_nonneg _ (by omega), Int.emod_lt_of_pos _ (by omega)⟩
theorem l01Below_is (l : List Int) (i s n : Int) (hl : l.length ≤ 1048576) (hi : 0 ≤ i) : ∃ b j t, spec_l01Below.f l i s n = some (b, j, t) ∧ 0 ≤ b ∧ (1 ≤ n → b < n) ∧ 0 ≤ j := by
  unfold spec_l01Below.f
  by_cases h : n ≤ 0
  · simp only [h, ↓reduceIte]
    exact ⟨_, _, _, rfl, by omega, fun h => by omega, hi⟩
  · simp only [h, show ¬ n = 0 from by omega, ↓reduceIte]
    obtain ⟨b1, j1, t1, e1, g1, g2, g3⟩ := l01Byte_is l i s hl hi
    by_cases h2 : n ≤ 256
    · have q := tmod_range b1 n g1 (by omega)
      simp only [h2, ↓reduceIte, e1, Option.bind_some]
      exact ⟨_, _, _, rfl, q.1, fun _ => q.2, g3⟩
    · obtain ⟨b2, j2, t2, e2, k1, k2, k3⟩ := l01Byte_is l j1 t1 hl g3
      obtain ⟨b3, j3, t3, e3, m1, m2, m3⟩ := l01Byte_is l j2 t2 hl k3
      obtain ⟨b4, j4, t4, e4, n1, n2, n3⟩ := l01Byte_is l j3 t3 hl m3
      simp only [h2, ↓reduceIte, e1, e2, e3, e4, Option.bind_some]
      have q := tmod_range (wrap64 ((wrap64 ((wrap64 ((wrap64 (b1 * 16777216)) + (wrap64 (b2 * 65536)))) + (wrap64 (b3 * 256)))) + b4)) n (by
        rw [w64 (n := b1 * 16777216) (by omega) (by omega), w64 (n := b2 * 65536) (by omega) (by omega), w64 (n := b3 * 256) (by omega) (by omega), w64 (n := b1 * 16777216 + b2 * 65536) (by omega) (by omega), w64 (n := b1 * 16777216 + b2 * 65536 + b3 * 256) (by omega) (by omega), w64 (by omega) (by omega)]
        omega) (by omega)
      exact ⟨_, _, _, rfl, q.1, fun _ => q.2, n3⟩
theorem l01New_l0 (l : List Int) (hl : l.length ≤ 1048576) : ∀ (d i : Nat), i + d = l.length → ∀ x : Int, ∃ y, Ev (fun k => spec_l01New.l0 k l x (i : Int)) (l, 0, y) := by
  intro d
  induction d with
  | zero =>
    intro i hi x
    obtain rfl : i = l.length := by omega
    refine ⟨x, ev_st ?_⟩
    simp only [spec_l01New.l0, Int.lt_irrefl, ↓reduceIte]
    exact Ev.now _
  | succ d ih =>
    intro i hi x
    have h1 : (i : Int) < (l.length : Int) := by omega
    have h2 : (0 : Int) ≤ (i : Int) := by omega
    have e : wrap64 ((i : Int) + 1) = ((i + 1 : Nat) : Int) := by rw [w64 (by omega) (by omega)]; omega
    by_cases h3 : (i : Int) < 4000
    · obtain ⟨y, hy⟩ := ih (i + 1) (by omega) (Go.bits .and .i64 (wrap64 ((wrap64 ((wrap64 (x * 131)) + (wrap64 (rd l (i : Int))))) + 7)) 1073741823)
      refine ⟨y, ev_st ?_⟩
      simp only [spec_l01New.l0, h1, h2, h3, ↓reduceIte, e]
      exact hy
    · refine ⟨x, ev_st ?_⟩
      simp only [spec_l01New.l0, h1, h3, ↓reduceIte]
      exact Ev.now _
theorem l01New_ev (l : List Int) (hl : l.length ≤ 1048576) : ∃ y, Ev (fun k => spec_l01New.f k l) (l, 0, y) := by
  obtain ⟨y, hy⟩ := l01New_l0 l hl l.length 0 (by omega) (wrap64 (36501 + (l.length : Int)))
  exact ⟨y, by simpa [spec_l01New.f] using hy⟩

/-! twelve places -/
theorem DrawPlaces_l0 (l : List Int) (hl : l.length ≤ 1048576) : ∀ (d n : Nat), n + d = 12 → ∀ (xs : List Int) (i s : Int), 0 ≤ i → xs.length = n → (∀ x ∈ xs, 0 ≤ x ∧ x < 10000) → ∃ p, Ev (fun k => spec_DrawPlaces.l0 k xs (n : Int) l i s) p ∧ p.length = 12 ∧ ∀ x ∈ p, 0 ≤ x ∧ x < 10000 := by
  intro d
  induction d with
  | zero =>
    intro n hn xs i s hi hx hr
    refine ⟨xs, ev_st ?_, by omega, hr⟩
    simp only [spec_DrawPlaces.l0, show ¬ ((n : Int) < 12) from by omega, ↓reduceIte]
    exact Ev.now _
  | succ d ih =>
    intro n hn xs i s hi hx hr
    obtain ⟨b, j, t, e, h1, h2, h3⟩ := l01Below_is l i s 10000 hl hi
    have h4 := h2 (by omega)
    have e4 : wrap64 ((n : Int) + 1) = ((n + 1 : Nat) : Int) := by rw [w64 (by omega) (by omega)]; omega
    obtain ⟨p, q1, q2, q3⟩ := ih (n + 1) (by omega) (xs ++ [b]) j t h3 (by rw [List.length_append, List.length_singleton]; omega) (by
      intro x hx
      rcases List.mem_append.1 hx with hx | hx
      · exact hr x hx
      · simp only [List.mem_singleton] at hx; omega)
    refine ⟨p, ev_st ?_, q2, q3⟩
    simp only [spec_DrawPlaces.l0, show (n : Int) < 12 from by omega, ↓reduceIte, e, Option.bind_some, show xs.length < 17592186044416 from by omega, e4]
    exact q1
theorem DrawPlaces_ev (l : List Int) (hl : l.length ≤ 1048576) : ∃ p, Ev (fun k => spec_DrawPlaces.f k l) p ∧ p.length = 12 ∧ ∀ x ∈ p, 0 ≤ x ∧ x < 10000 := by
  obtain ⟨y, hy⟩ := l01New_ev l hl
  obtain ⟨b, j, t, e, h1, h2, h3⟩ := l01Byte_is l 0 y hl (by omega)
  obtain ⟨p, q1, q2, q3⟩ := DrawPlaces_l0 l hl 12 0 (by omega) [] j t h3 rfl (by simp)
  refine ⟨p, ?_, q2, q3⟩
  simp only [spec_DrawPlaces.f]
  refine Ev.bind hy ?_
  simp only [e, Option.bind_some]
  exact q1
theorem place_at (p : List Int) (hp : p.length = 12) (hr : ∀ x ∈ p, 0 ≤ x ∧ x < 10000) (i : Nat) (hi : i < 12) : 0 ≤ rd p (i : Int) ∧ rd p (i : Int) < 10000 := by
  unfold rd
  rw [Int.toNat_natCast, List.getD_eq_getElem?_getD, List.getElem?_eq_getElem (by omega)]
  exact hr _ (List.getElem_mem _)

/-! each flash there is, filled: reckoned -/
def fillsGo (k : Nat) (n : Int) : Option Bool := (spec_FlashNew.f k n).bind fun b => laws_FnFills.l0 k n b.2 0 b.1
theorem fillsGo_mono (n : Int) (k : Nat) : LeO (fillsGo k n) (fillsGo (k + 1) n) := LeO.bind (spec_FlashNew.mono n k) (fun b => laws_FnFills.mono_l k n b.2 0 b.1)
set_option maxRecDepth 100000 in
set_option maxHeartbeats 4000000 in
theorem fills_all (n : Nat) (h : 3 ≤ n) (h1 : n ≤ 10) : fillsGo 200 (n : Int) = some true := by
  have hh : n = 3 ∨ n = 4 ∨ n = 5 ∨ n = 6 ∨ n = 7 ∨ n = 8 ∨ n = 9 ∨ n = 10 := by omega
  rcases hh with rfl | rfl | rfl | rfl | rfl | rfl | rfl | rfl
  · decide +kernel
  · decide +kernel
  · decide +kernel
  · decide +kernel
  · decide +kernel
  · decide +kernel
  · decide +kernel
  · decide +kernel
theorem FnFills : laws_FnFills.Pure := by
  intro c _ _ _
  refine Ev.rounds ?_
  simp only [laws_FnFills.f, laws_big.f, Option.bind_some]
  by_cases hb : (c.length : Int) > 1048576
  · simp only [hb, decide_true, ↓reduceIte]; exact Ev.now _
  · simp only [hb, decide_false, Bool.false_eq_true, ↓reduceIte]
    obtain ⟨p, q1, q2, q3⟩ := DrawPlaces_ev c (by omega)
    refine Ev.bind q1 ?_
    have h0 := place_at p q2 q3 0 (by omega)
    simp only [Int.natCast_zero] at h0
    have m0 := tmod_range (rd p 0) 8 h0.1 (by omega)
    have e0 : wrap64 (3 + Int.tmod (rd p 0) 8) = ((3 + (Int.tmod (rd p 0) 8).toNat : Nat) : Int) := by rw [w64 (by omega) (by omega)]; omega
    simp only [q2, show (0 : Int) < ((12 : Nat) : Int) from by omega, ↓reduceIte, e0]
    exact Ev.of (fillsGo_mono _) (fills_all _ (by omega) (by omega))

end Go.Proofs.Ytbafmoggckeaeaa.Pure
