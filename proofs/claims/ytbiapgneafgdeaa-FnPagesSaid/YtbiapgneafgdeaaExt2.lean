/- More words for rows of bytes that '[]byte(s)' made: an element read, an element written. No condition of ours. -/
import Derived.Test.YtbiapgneafgdeaaExt
namespace Go.Proofs.Ytbiapgneafgdeaa.Add
section RowB2
open Go.RowKit Go.Proofs.YtbiapgneafgdeaaW.PrintWords
section
variable {e : Nat} {w W : World} {base : Nat} {ok : Nat → Prop} {v : Value} {xs : List Int}
theorem RB_form (h : RB e w base ok v xs) (hp : 0 < xs.length) : ∃ g cap, v = .slice (some ⟨g, 0, none⟩) xs.length cap ∧ base ≤ g ∧ g < w.heap.size ∧ ∃ c : Array Value × (Nat × Nat), w.heap[g]? = some (.cells c.1 e c.2) := by
  rcases h with h | ⟨g, cap, cur, h1, h2, h3, h4, h5⟩
  · obtain ⟨g, cap, a, b, c, cells, d⟩ := Kd.R_form h hp
    exact ⟨g, cap, a, b, c, (cells, (0, 0)), d⟩
  · exact ⟨g, cap, h1, h3, (Array.getElem?_eq_some_iff.1 h4).1, (cur, _), h4⟩
theorem RB_celln {g n cap : Nat} (_d : Int) (h : RB e W base ok (.slice (some ⟨g, 0, none⟩) n cap) xs) (i : Int) (h0 : 0 ≤ i) (hi : i < n) : W.cell? ⟨g, i.toNat, none⟩ = some (.int .u8 (rd xs i)) ∧ W.frozen? ⟨g, i.toNat, none⟩ = false := by
  rcases h with h | h
  · exact Kd.R_celln 0 h i h0 hi
  · obtain ⟨g', cap', he, hl, hC, hc⟩ := FB_reads h
    obtain ⟨g2, cap2, cur, h1, h2, h3, h4, h5, h6, h7, h8⟩ := h
    injection h1 with a1 a2 a3
    injection a1 with a1
    injection a1 with a1
    subst a1 a2 a3
    injection he with b1 b2 b3
    injection b1 with b1
    injection b1 with b1
    subst b1
    have hj : i.toNat < xs.length := by omega
    refine ⟨?_, ?_⟩
    · have q := hc i.toNat (.int .u8 (rd xs i)) (by simp [nums, rd, List.getElem?_eq_getElem hj, List.getD_eq_getElem?_getD])
      have hadd : (⟨g, 0, none⟩ : Addr).add i.toNat = ⟨g, i.toNat, none⟩ := by unfold Addr.add; split <;> simp_all
      rwa [hadd] at q
    · simp only [World.frozen?, h4, Bool.and_eq_false_iff, decide_eq_false_iff_not]
      left
      omega
theorem RB_putn {g n cap : Nat} (h : RB e W base ok (.slice (some ⟨g, 0, none⟩) n cap) xs) (i : Int) (x : Int) : RB e (W.setCell ⟨g, i.toNat, none⟩ (.int .u8 x)) base ok (.slice (some ⟨g, 0, none⟩) n cap) (xs.set i.toNat x) := by
  rcases h with h | h
  · exact .inl (Kd.R_putn h i x)
  · obtain ⟨g2, cap2, cur, h1, h2, h3, h4, h5, h6, h7, h8⟩ := h
    injection h1 with a1 a2 a3
    injection a1 with a1
    injection a1 with a1
    subst a1 a2 a3
    refine .inr ⟨g, cap, cur.setIfInBounds i.toNat (.int .u8 x), by rw [List.length_set], h2, h3, ?_, by rw [List.length_set]; exact h5, h6, by rw [Array.size_setIfInBounds]; exact h7, ?_⟩
    · rw [setCell_eq_setRow W g i.toNat cur e _ _ h4, Array.size_setIfInBounds]
      exact setRow_heap W g cur _ e _ h4
    · rw [List.length_set, Array.toList_setIfInBounds]
      have q : nums IntKind.u8 (xs.set i.toNat x) = (nums .u8 xs).set i.toNat (.int .u8 x) := by simp [nums, List.map_set]
      rw [q, ← h8, List.take_set]
end
/-- By types alone, whatever the other row's mark. -/
theorem R_typesF {α : Type} {d : Kd α} {e : Nat} {w : World} {base : Nat} {ok : Nat → Prop} {v : Value} {xs : List α} (h : d.R e w base ok v xs) {g t : Nat} {cells : Array Value} {fz : Nat × Nat} (hb : w.heap[g]? = some (.cells cells t fz)) (ht : ∀ q, q ∈ e :: d.E → q ≠ t) : d.R e w base (fun k => ok k ∧ k ≠ g) v xs :=
  Kd.R_mono (Kd.R_bound h) (fun k hk => ⟨hk.1, by
    obtain ⟨_, _, _, q, hq, cells', hc⟩ := hk
    rintro rfl
    rw [hc] at hb
    injection hb with hb
    injection hb with _ hb
    exact ht q hq hb⟩)
end RowB2
end Go.Proofs.Ytbiapgneafgdeaa.Add
