/- What is proved here: contracts of functions that the law FnExactMarkBad reaches, each told as a plain function. Conditions: those of each contract. (Written by a program of ours.) -/
import Derived.Test.YtbafmoggckeaeaaQFnExactMarkBadx0
import Derived.Test.YtbafmoggckeaeaaQFnExactMarkBadx1
import Derived.Test.YtbafmoggckeaeaaQFnExactMarkBadx3
namespace Go.Proofs.Ytbafmoggckeaeaa.QFnExactMarkBad
open Go.RowKit Go.Proofs.YtbafmoggckeaeaaW.PrintWords Go.Proofs.YtbafmoggckeaeaaW.PrintLast Go.Proofs.YtbafmoggckeaeaaW.PrintMore
attribute [local go_sem] max2_int min2_int max_two min_two max_three min_three max_four min_four   -- for this text's walks alone
set_option linter.unusedVariables false
set_option linter.unusedSimpArgs false

/-! ### laws_heldLeafS: function 88 -/
def laws_heldLeafS.l0 : Nat → List (S63) → Int → Int → Option (Int)
  | 0, _, _, _ => none
  | k + 1, x0, x1, x5 => if x5 < (x0.length : Int) then (if 0 ≤ x5 then (if ((rd_T63 x0 x5).f0) = x1 then ((laws_markText.f k (wrap64 (x1 + 1))).bind fun t205 => (if ((rd_T63 x0 x5).f1).toList = t205.toList then (laws_heldLeafS.l0 k x0 (wrap64 ((wrap64 (x1 + 1)) + 1)) (wrap64 (x5 + 1))) else (some (-1)))) else (some (-1))) else (none)) else (some x1)
def laws_heldLeafS.f (k : Nat) (l0 : List (S63)) (a1 : Int) : Option (Int) := laws_heldLeafS.l0 k l0 a1 0
theorem laws_heldLeafS.mono_l : ∀ k, (∀ y0 y1 y2, LeO (laws_heldLeafS.l0 k y0 y1 y2) (laws_heldLeafS.l0 (k + 1) y0 y1 y2))
  | 0 => fun _ _ _ r h => by simp [laws_heldLeafS.l0] at h
  | k + 1 => by
    have ih0 := laws_heldLeafS.mono_l k
    · intro y0 y1 y2
      unfold laws_heldLeafS.l0
      repeat' first
      | (with_reducible exact ih0 _ _ _)
      | (with_reducible exact laws_markText.mono _ _)
      | (with_reducible exact LeO.refl _)
      | (with_reducible exact LeO.none _)
      | (with_reducible refine LeO.ite ?_ ?_)
      | (with_reducible refine LeO.bind ?_ (fun _ => ?_))
      | exact ih0 _ _ _
      | exact laws_markText.mono _ _
      | exact LeO.none _
      | refine LeO.ite ?_ ?_
      | refine LeO.bind ?_ (fun _ => ?_)
theorem laws_heldLeafS.mono : ∀ a0 a1 k, LeO (laws_heldLeafS.f k a0 a1) (laws_heldLeafS.f (k + 1) a0 a1) := by
  intro a0 a1 k
  have ih0 := laws_heldLeafS.mono_l k
  unfold laws_heldLeafS.f
  repeat' first
      | (with_reducible exact ih0 _ _ _)
      | (with_reducible exact laws_markText.mono _ _)
      | (with_reducible exact LeO.refl _)
      | (with_reducible exact LeO.none _)
      | (with_reducible refine LeO.ite ?_ ?_)
      | (with_reducible refine LeO.bind ?_ (fun _ => ?_))
      | exact ih0 _ _ _
      | exact laws_markText.mono _ _
      | exact LeO.none _
      | refine LeO.ite ?_ ?_
      | refine LeO.bind ?_ (fun _ => ?_)
def laws_heldLeafS.T7 : Bool × List (List Nat × List Nat) := (true, [([], []), ([], []), ([0, 1], [0, 1]), ([2], [2]), ([3], [3]), ([], []), ([5], [5]), ([4, 6], [4, 6])])
def laws_heldLeafS.B7 : List Nat := [0, 0, 3, 7, 15, 0, 32, 127]
theorem laws_heldLeafS.tab7 : rtab .any (opsOf Try.f88 7) = laws_heldLeafS.T7 := by kernel_rfl
theorem laws_heldLeafS.bits7 : waitsOk laws_heldLeafS.T7.2 laws_heldLeafS.B7 = true := by kernel_rfl
set_option maxHeartbeats 8000000 in
set_option maxRecDepth 100000 in
theorem laws_heldLeafS.calls (k : Nat) (A0 : Option Addr) (c0 : Nat) (l0 : List (S63)) (a1 : Int) (r : Int) (w : World) (hr0 : Kd.C k63 w A0 l0.length l0) (hc0 : l0.length ≤ c0) (h : laws_heldLeafS.f k l0 a1 = some r) :
    Calls Try.prog 88 #[.slice A0 l0.length c0, .int .i64 a1] w fun e w' => e = .returned (.int .i64 r) ∧ Below w.heap.size w w' := by
  have HR0 := Aside0.mk hr0
  have HC0 := Aside0.mk hc0
  clear hr0 hc0
  have HB := Aside0.mk (Below.refl w.heap.size w)
  have H : (laws_heldLeafS.l0 k l0 a1 0) = some r := h
  clear h
  have H' := Aside0.mk H
  clear H
  go_enter Try.func88, Try.ntmps88
  go_wp2
  go_loopg [1, 5] k (fun kq v1 v5 w' => ∃ (x1_1 : Int) (x5_1 : Int), v1 = .int .i64 x1_1 ∧ v5 = .int .i64 x5_1 ∧ Aside0 (laws_heldLeafS.l0 kq l0 x1_1 x5_1 = some r) ∧ Aside0 (kq ≤ k) ∧ Aside0 (Below w.heap.size w w'))
  case atStart => exact ⟨(a1), (0), (by first | rfl | (simp; done) | (simp [*]; done)), (by first | rfl | (simp; done) | (simp [*]; done)), H', ⟨Nat.le_refl _⟩, ⟨by repeat (first | (with_reducible first | exact HB.out | apply below_alloc | apply pw_below_drewN | apply below_drew1) | exact HB.out)⟩⟩
  case round =>
    clear H'
    try clear p2
    obtain ⟨x1_1, x5_1, rfl, rfl, HA, HK1, HB⟩ := hrel
    cases gk with
    | zero => exact absurd HA.out (by simp [laws_heldLeafS.l0])
    | succ k1 =>
      have H := HA.out
      clear HA
      simp only [laws_heldLeafS.l0] at H
      by_cases c3 : x5_1 < (l0.length : Int)
      · rw [if_pos c3] at H
        have c3b0 : decide (x5_1 < (l0.length : Int)) = true := decide_eq_true c3
        clear c3
        by_cases c4 : 0 ≤ x5_1
        · rw [if_pos c4] at H
          have c4b0 : decide (0 ≤ x5_1) = true := decide_eq_true c4
          clear c4
          by_cases c5 : ((rd_T63 l0 x5_1).f0) = x1_1
          · rw [if_pos c5] at H
            have c5b0 : (((rd_T63 l0 x5_1).f0) == x1_1) = true := beq_iff_eq.mpr c5
            have c5b1 : (((rd_T63 l0 x5_1).f0) != x1_1) = false := bne_eq_false_iff_eq.mpr c5
            clear c5
            replace H := Option.bind_eq_some_iff.mp H
            obtain ⟨t205, A60, H⟩ := H
            replace H : (if ((rd_T63 l0 x5_1).f1).toList = t205.toList then (laws_heldLeafS.l0 k1 l0 (wrap64 ((wrap64 (x1_1 + 1)) + 1)) (wrap64 (x5_1 + 1))) else (some (-1))) = some r := H
            have A6 := Aside0.mk A60
            clear A60
            by_cases c7 : ((rd_T63 l0 x5_1).f1).toList = t205.toList
            · rw [if_pos c7] at H
              have c7b0 : (((rd_T63 l0 x5_1).f1).toList == t205.toList) = true := beq_iff_eq.mpr c7
              have c7b1 : (((rd_T63 l0 x5_1).f1).toList != t205.toList) = false := bne_eq_false_iff_eq.mpr c7
              clear c7
              have H' := Aside0.mk H
              clear H
              have p203 : 0 ≤ (x5_1 : Int) := of_decide_eq_true (by first | (with_reducible assumption) | assumption)
              have q203 : x5_1 < (l0.length : Int) := of_decide_eq_true (by first | (with_reducible assumption) | assumption)
              obtain ⟨ad203, e203, hx203_0, hx203_1⟩ := at_T63 HR0.out x5_1 p203 q203
              cases e203
              replace hx203_0 := (HB.out.cell (World.block_lt_of_cell? w _ hx203_0)).trans hx203_0
              replace hx203_1 := (HB.out.cell (World.block_lt_of_cell? w _ hx203_1)).trans hx203_1
              replace p203 := eq_true p203
              replace q203 := eq_true q203
              try go_wp2
              have n0_ := Aside0.mk (below_drew1 HB.out)
              clear HB
              have HB := n0_
              clear n0_
              have p204 : 0 ≤ (x5_1 : Int) := of_decide_eq_true (by first | (with_reducible assumption) | assumption)
              have q204 : x5_1 < (l0.length : Int) := of_decide_eq_true (by first | (with_reducible assumption) | assumption)
              obtain ⟨ad204, e204, hx204_0, hx204_1⟩ := at_T63 HR0.out x5_1 p204 q204
              have hw204_1 := hx204_1
              have hw204_0 := hx204_0
              obtain rfl : ad203 = ad204 := (by injection e204)
              replace hx204_0 := (HB.out.cell (World.block_lt_of_cell? w _ hx204_0)).trans hx204_0
              replace hx204_1 := (HB.out.cell (World.block_lt_of_cell? w _ hx204_1)).trans hx204_1
              replace p204 := eq_true p204
              replace q204 := eq_true q204
              refine start_ (n := 8) (S := fun w' => w'.cell? (ad203.add ((x5_1).toNat * 2)) = some (.int .i64 ((rd_T63 l0 x5_1).f0)) ∧ w'.cell? ⟨(ad203.add ((x5_1).toNat * 2)).block, (ad203.add ((x5_1).toNat * 2)).off + 1, none⟩ = some (.string ((rd_T63 l0 x5_1).f1))) (ds := []) #[false, false, false, false, false, false, false, false] (by kernel_rfl) rfl rfl ⟨((HB.out.cell (World.block_lt_of_cell? w _ hw204_0)).trans hw204_0), ((HB.out.cell (World.block_lt_of_cell? w _ hw204_1)).trans hw204_1)⟩ (fun hHeld => ?_); refine with_tabW laws_heldLeafS.tab7 laws_heldLeafS.bits7 (fun HT_ HW_ => ?_)
              generalize wr.drew = w8 at HB hx204_0 hx204_1 hHeld ⊢
              refine pure_ (i := 0) (N := some 21) (v := ?_) (a' := ?_) #[true, false, false, false, false, false, false, false] rfl rfl (any_of HT_.out (by kernel_rfl)) (fun _ _ _ h => h) (Or.inl ⟨by rfl, ?_⟩) ?_ ?_
              rotate_left
              · intro w'
                go_simp
                with_reducible rfl
              rotate_left
              · simp only [Act.put, List.setIfInBounds_toArray, List.set_cons_zero, List.set_cons_succ, i64_w, i32_w]
                rfl
              refine pure_ (i := 1) (N := some 22) (v := ?_) (a' := ?_) #[true, true, false, false, false, false, false, false] rfl rfl (any_of HT_.out (by kernel_rfl)) (fun _ _ _ h => h) (Or.inl ⟨by rfl, ?_⟩) ?_ ?_
              rotate_left
              · intro w'
                go_simp
                with_reducible rfl
              rotate_left
              · simp only [Act.put, List.setIfInBounds_toArray, List.set_cons_zero, List.set_cons_succ, i64_w, i32_w]
                rfl
              refine pure_ (i := 2) (N := some 23) (v := ?_) (a' := ?_) #[true, true, true, false, false, false, false, false] rfl rfl (any_of HT_.out (by kernel_rfl)) (fun _ _ _ h => h) (Or.inl ⟨by rfl, ?_⟩) ?_ ?_
              rotate_left
              · intro w'
                go_simp
                with_reducible rfl
              rotate_left
              · simp only [Act.put, List.setIfInBounds_toArray, List.set_cons_zero, List.set_cons_succ, i64_w, i32_w]
                rfl
              refine pure_ (i := 3) (N := some 24) (v := ?_) (a' := ?_) #[true, true, true, true, false, false, false, false] rfl rfl (any_of HT_.out (by kernel_rfl)) (fun _ _ _ h => h) (Or.inl ⟨by rfl, ?_⟩) ?_ ?_
              rotate_left
              · intro w'
                go_simp
                with_reducible rfl
              rotate_left
              · simp only [Act.put, List.setIfInBounds_toArray, List.set_cons_zero, List.set_cons_succ, i64_w, i32_w]
                rfl
              refine pure_ (i := 5) (N := some 26) (v := ?_) (a' := ?_) #[true, true, true, true, false, true, false, false] rfl rfl (any_of HT_.out (by kernel_rfl)) (fun _ _ _ h => h) (Or.inl ⟨by rfl, ?_⟩) ?_ ?_
              rotate_left
              · intro w'
                go_simp
                with_reducible rfl
              rotate_left
              · simp only [Act.put, List.setIfInBounds_toArray, List.set_cons_zero, List.set_cons_succ, i64_w, i32_w]
                rfl
              refine take_ (i := 4) (N := some 25) (v := ?_) (a' := ?_) #[true, true, true, true, true, true, false, false] rfl rfl (take_ofW HT_.out HW_.out (by kernel_rfl)) (fun _ _ _ h => h) (Or.inl ⟨by rfl, ?_⟩) hHeld ?_ ?_
              rotate_left
              · rintro w' ⟨s0, s1⟩
                go_simp
                with_reducible rfl
              rotate_left
              · simp only [Act.put, List.setIfInBounds_toArray, List.set_cons_zero, List.set_cons_succ, i64_w, i32_w]
                rfl
              refine one_ (i := 6) (N := some 27) #[true, true, true, true, true, true, true, false] rfl rfl (one_of HT_.out (by kernel_rfl)) (by decide) (fun K hK => ?_)
              refine goes_ Try.func92 (by kernel_rfl) rfl #[.int .i64 (wrap64 (x1_1 + 1))] (by rfl) rfl rfl (by (try simp only [List.map_toArray, List.map_cons, List.map_nil]); first | done | rfl | (simp only [List.length_drop, List.length_take]; rfl)) ?_
              with_reducible refine (laws_markText.calls k1 (wrap64 (x1_1 + 1)) t205 _ A6.out).mono ?_
              rintro e w9 ⟨rfl, hb⟩
              refine ⟨_, rfl, ?_⟩
              have n0_ := Aside0.mk (below_step (by repeat (first | (with_reducible first | exact HB.out | apply below_alloc | apply pw_below_drewN | apply below_drew1) | exact HB.out)) hb)
              clear HB
              have HB := n0_
              clear n0_
              (try clear hb)
              (try clear hb2)
              (try clear hk)
              (try clear hi)
              refine hK.out _ _ ⟨((HB.out.cell (World.block_lt_of_cell? w _ hw204_0)).trans hw204_0), ((HB.out.cell (World.block_lt_of_cell? w _ hw204_1)).trans hw204_1)⟩ (fun hHeld => ?_)
              clear hK K
              refine norm_ (a' := ?_) ?_ ?_
              rotate_left
              · show Act.put _ (some 27) _ = _
                simp only [Act.put, List.setIfInBounds_toArray, List.set_cons_zero, List.set_cons_succ, i64_w, i32_w]
                rfl
              refine pure_ (i := 7) (N := some 28) (v := ?_) (a' := ?_) #[true, true, true, true, true, true, true, true] rfl rfl (any_of HT_.out (by kernel_rfl)) (fun _ _ _ h => h) (Or.inl ⟨by rfl, ?_⟩) ?_ ?_
              rotate_left
              · intro w'
                go_simp
                with_reducible rfl
              rotate_left
              · simp only [Act.put, List.setIfInBounds_toArray, List.set_cons_zero, List.set_cons_succ, i64_w, i32_w]
                rfl
              refine done_ (done_of HT_.out (by kernel_rfl)) ?_
              try go_wp2
              go_roundg k1
              case measure => have := HK1.out; omega
              case rel => exact ⟨(wrap64 ((wrap64 (x1_1 + 1)) + 1)), (wrap64 (x5_1 + 1)), (by first | rfl | (simp; done) | (simp [*]; done)), (by first | rfl | (simp; done) | (simp [*]; done)), H', ⟨by have := HK1.out; omega⟩, ⟨by repeat (first | (with_reducible first | exact HB.out | apply below_alloc | apply pw_below_drewN | apply below_drew1) | exact HB.out)⟩⟩
            · rw [if_neg c7] at H
              have c7b0 : (((rd_T63 l0 x5_1).f1).toList == t205.toList) = false := beq_eq_false_iff_ne.mpr c7
              have c7b1 : (((rd_T63 l0 x5_1).f1).toList != t205.toList) = true := bne_iff_ne.mpr c7
              obtain rfl := Option.some.inj H
              have p203 : 0 ≤ (x5_1 : Int) := of_decide_eq_true (by first | (with_reducible assumption) | assumption)
              have q203 : x5_1 < (l0.length : Int) := of_decide_eq_true (by first | (with_reducible assumption) | assumption)
              obtain ⟨ad203, e203, hx203_0, hx203_1⟩ := at_T63 HR0.out x5_1 p203 q203
              cases e203
              replace hx203_0 := (HB.out.cell (World.block_lt_of_cell? w _ hx203_0)).trans hx203_0
              replace hx203_1 := (HB.out.cell (World.block_lt_of_cell? w _ hx203_1)).trans hx203_1
              replace p203 := eq_true p203
              replace q203 := eq_true q203
              try go_wp2
              have n0_ := Aside0.mk (below_drew1 HB.out)
              clear HB
              have HB := n0_
              clear n0_
              have p204 : 0 ≤ (x5_1 : Int) := of_decide_eq_true (by first | (with_reducible assumption) | assumption)
              have q204 : x5_1 < (l0.length : Int) := of_decide_eq_true (by first | (with_reducible assumption) | assumption)
              obtain ⟨ad204, e204, hx204_0, hx204_1⟩ := at_T63 HR0.out x5_1 p204 q204
              have hw204_1 := hx204_1
              have hw204_0 := hx204_0
              obtain rfl : ad203 = ad204 := (by injection e204)
              replace hx204_0 := (HB.out.cell (World.block_lt_of_cell? w _ hx204_0)).trans hx204_0
              replace hx204_1 := (HB.out.cell (World.block_lt_of_cell? w _ hx204_1)).trans hx204_1
              replace p204 := eq_true p204
              replace q204 := eq_true q204
              refine start_ (n := 8) (S := fun w' => w'.cell? (ad203.add ((x5_1).toNat * 2)) = some (.int .i64 ((rd_T63 l0 x5_1).f0)) ∧ w'.cell? ⟨(ad203.add ((x5_1).toNat * 2)).block, (ad203.add ((x5_1).toNat * 2)).off + 1, none⟩ = some (.string ((rd_T63 l0 x5_1).f1))) (ds := []) #[false, false, false, false, false, false, false, false] (by kernel_rfl) rfl rfl ⟨((HB.out.cell (World.block_lt_of_cell? w _ hw204_0)).trans hw204_0), ((HB.out.cell (World.block_lt_of_cell? w _ hw204_1)).trans hw204_1)⟩ (fun hHeld => ?_); refine with_tabW laws_heldLeafS.tab7 laws_heldLeafS.bits7 (fun HT_ HW_ => ?_)
              generalize wr.drew = w10 at HB hx204_0 hx204_1 hHeld ⊢
              refine pure_ (i := 0) (N := some 21) (v := ?_) (a' := ?_) #[true, false, false, false, false, false, false, false] rfl rfl (any_of HT_.out (by kernel_rfl)) (fun _ _ _ h => h) (Or.inl ⟨by rfl, ?_⟩) ?_ ?_
              rotate_left
              · intro w'
                go_simp
                with_reducible rfl
              rotate_left
              · simp only [Act.put, List.setIfInBounds_toArray, List.set_cons_zero, List.set_cons_succ, i64_w, i32_w]
                rfl
              refine pure_ (i := 1) (N := some 22) (v := ?_) (a' := ?_) #[true, true, false, false, false, false, false, false] rfl rfl (any_of HT_.out (by kernel_rfl)) (fun _ _ _ h => h) (Or.inl ⟨by rfl, ?_⟩) ?_ ?_
              rotate_left
              · intro w'
                go_simp
                with_reducible rfl
              rotate_left
              · simp only [Act.put, List.setIfInBounds_toArray, List.set_cons_zero, List.set_cons_succ, i64_w, i32_w]
                rfl
              refine pure_ (i := 2) (N := some 23) (v := ?_) (a' := ?_) #[true, true, true, false, false, false, false, false] rfl rfl (any_of HT_.out (by kernel_rfl)) (fun _ _ _ h => h) (Or.inl ⟨by rfl, ?_⟩) ?_ ?_
              rotate_left
              · intro w'
                go_simp
                with_reducible rfl
              rotate_left
              · simp only [Act.put, List.setIfInBounds_toArray, List.set_cons_zero, List.set_cons_succ, i64_w, i32_w]
                rfl
              refine pure_ (i := 3) (N := some 24) (v := ?_) (a' := ?_) #[true, true, true, true, false, false, false, false] rfl rfl (any_of HT_.out (by kernel_rfl)) (fun _ _ _ h => h) (Or.inl ⟨by rfl, ?_⟩) ?_ ?_
              rotate_left
              · intro w'
                go_simp
                with_reducible rfl
              rotate_left
              · simp only [Act.put, List.setIfInBounds_toArray, List.set_cons_zero, List.set_cons_succ, i64_w, i32_w]
                rfl
              refine pure_ (i := 5) (N := some 26) (v := ?_) (a' := ?_) #[true, true, true, true, false, true, false, false] rfl rfl (any_of HT_.out (by kernel_rfl)) (fun _ _ _ h => h) (Or.inl ⟨by rfl, ?_⟩) ?_ ?_
              rotate_left
              · intro w'
                go_simp
                with_reducible rfl
              rotate_left
              · simp only [Act.put, List.setIfInBounds_toArray, List.set_cons_zero, List.set_cons_succ, i64_w, i32_w]
                rfl
              refine take_ (i := 4) (N := some 25) (v := ?_) (a' := ?_) #[true, true, true, true, true, true, false, false] rfl rfl (take_ofW HT_.out HW_.out (by kernel_rfl)) (fun _ _ _ h => h) (Or.inl ⟨by rfl, ?_⟩) hHeld ?_ ?_
              rotate_left
              · rintro w' ⟨s0, s1⟩
                go_simp
                with_reducible rfl
              rotate_left
              · simp only [Act.put, List.setIfInBounds_toArray, List.set_cons_zero, List.set_cons_succ, i64_w, i32_w]
                rfl
              refine one_ (i := 6) (N := some 27) #[true, true, true, true, true, true, true, false] rfl rfl (one_of HT_.out (by kernel_rfl)) (by decide) (fun K hK => ?_)
              refine goes_ Try.func92 (by kernel_rfl) rfl #[.int .i64 (wrap64 (x1_1 + 1))] (by rfl) rfl rfl (by (try simp only [List.map_toArray, List.map_cons, List.map_nil]); first | done | rfl | (simp only [List.length_drop, List.length_take]; rfl)) ?_
              with_reducible refine (laws_markText.calls k1 (wrap64 (x1_1 + 1)) t205 _ A6.out).mono ?_
              rintro e w11 ⟨rfl, hb⟩
              refine ⟨_, rfl, ?_⟩
              have n0_ := Aside0.mk (below_step (by repeat (first | (with_reducible first | exact HB.out | apply below_alloc | apply pw_below_drewN | apply below_drew1) | exact HB.out)) hb)
              clear HB
              have HB := n0_
              clear n0_
              (try clear hb)
              (try clear hb2)
              (try clear hk)
              (try clear hi)
              refine hK.out _ _ ⟨((HB.out.cell (World.block_lt_of_cell? w _ hw204_0)).trans hw204_0), ((HB.out.cell (World.block_lt_of_cell? w _ hw204_1)).trans hw204_1)⟩ (fun hHeld => ?_)
              clear hK K
              refine norm_ (a' := ?_) ?_ ?_
              rotate_left
              · show Act.put _ (some 27) _ = _
                simp only [Act.put, List.setIfInBounds_toArray, List.set_cons_zero, List.set_cons_succ, i64_w, i32_w]
                rfl
              refine pure_ (i := 7) (N := some 28) (v := ?_) (a' := ?_) #[true, true, true, true, true, true, true, true] rfl rfl (any_of HT_.out (by kernel_rfl)) (fun _ _ _ h => h) (Or.inl ⟨by rfl, ?_⟩) ?_ ?_
              rotate_left
              · intro w'
                go_simp
                with_reducible rfl
              rotate_left
              · simp only [Act.put, List.setIfInBounds_toArray, List.set_cons_zero, List.set_cons_succ, i64_w, i32_w]
                rfl
              refine done_ (done_of HT_.out (by kernel_rfl)) ?_
              try go_wp2
              go_ret
              exact ⟨by first | rfl | (simp [errW_none, errW_some] <;> rfl) | (simp [*, errW_none, errW_some] <;> rfl), by repeat (first | (with_reducible first | exact HB.out | apply below_alloc | apply pw_below_drewN | apply below_drew1) | exact HB.out)⟩
          · rw [if_neg c5] at H
            have c5b0 : (((rd_T63 l0 x5_1).f0) == x1_1) = false := beq_eq_false_iff_ne.mpr c5
            have c5b1 : (((rd_T63 l0 x5_1).f0) != x1_1) = true := bne_iff_ne.mpr c5
            obtain rfl := Option.some.inj H
            have p203 : 0 ≤ (x5_1 : Int) := of_decide_eq_true (by first | (with_reducible assumption) | assumption)
            have q203 : x5_1 < (l0.length : Int) := of_decide_eq_true (by first | (with_reducible assumption) | assumption)
            obtain ⟨ad203, e203, hx203_0, hx203_1⟩ := at_T63 HR0.out x5_1 p203 q203
            cases e203
            replace hx203_0 := (HB.out.cell (World.block_lt_of_cell? w _ hx203_0)).trans hx203_0
            replace hx203_1 := (HB.out.cell (World.block_lt_of_cell? w _ hx203_1)).trans hx203_1
            replace p203 := eq_true p203
            replace q203 := eq_true q203
            go_wp2
            go_ret
            exact ⟨by first | rfl | (simp [errW_none, errW_some] <;> rfl) | (simp [*, errW_none, errW_some] <;> rfl), by repeat (first | (with_reducible first | exact HB.out | apply below_alloc | apply pw_below_drewN | apply below_drew1) | exact HB.out)⟩
        · rw [if_neg c4] at H
          exact absurd H (by simp)
      · rw [if_neg c3] at H
        have c3b0 : decide (x5_1 < (l0.length : Int)) = false := decide_eq_false c3
        clear c3
        obtain rfl := Option.some.inj H
        go_wp2
        go_ret
        exact ⟨by first | rfl | (simp [errW_none, errW_some] <;> rfl) | (simp [*, errW_none, errW_some] <;> rfl), by repeat (first | (with_reducible first | exact HB.out | apply below_alloc | apply pw_below_drewN | apply below_drew1) | exact HB.out)⟩

/-! ### laws_heldBlockS: function 78 -/
def laws_heldBlockS.l0 : Nat → List (S39) → Int → Int → Option (Int)
  | 0, _, _, _ => none
  | k + 1, x0, x1, x5 => if x5 < (x0.length : Int) then (if 0 ≤ x5 then (if (((rd_T39 x0 x5).f0) != ((Int.tmod x1 3) == 0)) = true then (some (-1)) else (if ((rd_T39 x0 x5).f1) = (wrap64 (x1 + 1)) then ((laws_heldLeafS.f k ((rd_T39 x0 x5).f2) (wrap64 ((wrap64 (x1 + 1)) + 1))).bind fun t209 => (if t209 < 0 then (some (-1)) else (laws_heldBlockS.l0 k x0 t209 (wrap64 (x5 + 1))))) else (some (-1)))) else (none)) else (some x1)
def laws_heldBlockS.f (k : Nat) (l0 : List (S39)) (a1 : Int) : Option (Int) := laws_heldBlockS.l0 k l0 a1 0
theorem laws_heldBlockS.mono_l : ∀ k, (∀ y0 y1 y2, LeO (laws_heldBlockS.l0 k y0 y1 y2) (laws_heldBlockS.l0 (k + 1) y0 y1 y2))
  | 0 => fun _ _ _ r h => by simp [laws_heldBlockS.l0] at h
  | k + 1 => by
    have ih0 := laws_heldBlockS.mono_l k
    · intro y0 y1 y2
      unfold laws_heldBlockS.l0
      repeat' first
      | (with_reducible exact ih0 _ _ _)
      | (with_reducible exact laws_heldLeafS.mono _ _ _)
      | (with_reducible exact LeO.refl _)
      | (with_reducible exact LeO.none _)
      | (with_reducible refine LeO.ite ?_ ?_)
      | (with_reducible refine LeO.bind ?_ (fun _ => ?_))
      | exact ih0 _ _ _
      | exact laws_heldLeafS.mono _ _ _
      | exact LeO.none _
      | refine LeO.ite ?_ ?_
      | refine LeO.bind ?_ (fun _ => ?_)
theorem laws_heldBlockS.mono : ∀ a0 a1 k, LeO (laws_heldBlockS.f k a0 a1) (laws_heldBlockS.f (k + 1) a0 a1) := by
  intro a0 a1 k
  have ih0 := laws_heldBlockS.mono_l k
  unfold laws_heldBlockS.f
  repeat' first
      | (with_reducible exact ih0 _ _ _)
      | (with_reducible exact laws_heldLeafS.mono _ _ _)
      | (with_reducible exact LeO.refl _)
      | (with_reducible exact LeO.none _)
      | (with_reducible refine LeO.ite ?_ ?_)
      | (with_reducible refine LeO.bind ?_ (fun _ => ?_))
      | exact ih0 _ _ _
      | exact laws_heldLeafS.mono _ _ _
      | exact LeO.none _
      | refine LeO.ite ?_ ?_
      | refine LeO.bind ?_ (fun _ => ?_)
set_option maxHeartbeats 8000000 in
set_option maxRecDepth 100000 in
theorem laws_heldBlockS.calls (k : Nat) (A0 : Option Addr) (c0 : Nat) (l0 : List (S39)) (a1 : Int) (r : Int) (w : World) (hr0 : Kd.C k39 w A0 l0.length l0) (hc0 : l0.length ≤ c0) (h : laws_heldBlockS.f k l0 a1 = some r) :
    Calls Try.prog 78 #[.slice A0 l0.length c0, .int .i64 a1] w fun e w' => e = .returned (.int .i64 r) ∧ Below w.heap.size w w' := by
  have HR0 := Aside0.mk hr0
  have HC0 := Aside0.mk hc0
  clear hr0 hc0
  have HB := Aside0.mk (Below.refl w.heap.size w)
  have H : (laws_heldBlockS.l0 k l0 a1 0) = some r := h
  clear h
  have H' := Aside0.mk H
  clear H
  go_enter Try.func78, Try.ntmps78
  go_wp2
  go_loopg [1, 5] k (fun kq v1 v5 w' => ∃ (x1_1 : Int) (x5_1 : Int), v1 = .int .i64 x1_1 ∧ v5 = .int .i64 x5_1 ∧ Aside0 (laws_heldBlockS.l0 kq l0 x1_1 x5_1 = some r) ∧ Aside0 (kq ≤ k) ∧ Aside0 (Below w.heap.size w w'))
  case atStart => exact ⟨(a1), (0), (by first | rfl | (simp; done) | (simp [*]; done)), (by first | rfl | (simp; done) | (simp [*]; done)), H', ⟨Nat.le_refl _⟩, ⟨by repeat (first | (with_reducible first | exact HB.out | apply below_alloc | apply pw_below_drewN | apply below_drew1) | exact HB.out)⟩⟩
  case round =>
    clear H'
    try clear p2
    obtain ⟨x1_1, x5_1, rfl, rfl, HA, HK1, HB⟩ := hrel
    cases gk with
    | zero => exact absurd HA.out (by simp [laws_heldBlockS.l0])
    | succ k1 =>
      have H := HA.out
      clear HA
      simp only [laws_heldBlockS.l0] at H
      by_cases c3 : x5_1 < (l0.length : Int)
      · rw [if_pos c3] at H
        have c3b0 : decide (x5_1 < (l0.length : Int)) = true := decide_eq_true c3
        clear c3
        by_cases c4 : 0 ≤ x5_1
        · rw [if_pos c4] at H
          have c4b0 : decide (0 ≤ x5_1) = true := decide_eq_true c4
          clear c4
          by_cases c5 : (((rd_T39 l0 x5_1).f0) != ((Int.tmod x1_1 3) == 0)) = true
          · rw [if_pos c5] at H
            have c5b0 : (((rd_T39 l0 x5_1).f0) != ((Int.tmod x1_1 3) == 0)) = true := c5
            (try (have c5b1 : decide (((rd_T39 l0 x5_1).f0) = ((Int.tmod x1_1 3) == 0)) = false := by simpa using c5))
            (try (have c5b2 : (((rd_T39 l0 x5_1).f0) == ((Int.tmod x1_1 3) == 0)) = false := by simpa using c5))
            (try (have c5b3 : ¬ (((rd_T39 l0 x5_1).f0) = ((Int.tmod x1_1 3) == 0)) := by simpa using c5))
            clear c5
            obtain rfl := Option.some.inj H
            have p206 : 0 ≤ (x5_1 : Int) := of_decide_eq_true (by first | (with_reducible assumption) | assumption)
            have q206 : x5_1 < (l0.length : Int) := of_decide_eq_true (by first | (with_reducible assumption) | assumption)
            obtain ⟨ad206, A206_2, c206_2, e206, hx206_0, hx206_1, hx206_2, hl206_2, hi206_2⟩ := at_T39 HR0.out x5_1 p206 q206
            cases e206
            replace hx206_0 := (HB.out.cell (World.block_lt_of_cell? w _ hx206_0)).trans hx206_0
            replace hx206_1 := (HB.out.cell (World.block_lt_of_cell? w _ hx206_1)).trans hx206_1
            replace hx206_2 := (HB.out.cell (World.block_lt_of_cell? w _ hx206_2)).trans hx206_2
            have HR206_2 := Aside0.mk hi206_2
            have HC206_2 := Aside0.mk hl206_2
            clear hi206_2 hl206_2
            replace p206 := eq_true p206
            replace q206 := eq_true q206
            go_wp2
            go_ret
            exact ⟨by first | rfl | (simp [errW_none, errW_some] <;> rfl) | (simp [*, errW_none, errW_some] <;> rfl), by repeat (first | (with_reducible first | exact HB.out | apply below_alloc | apply pw_below_drewN | apply below_drew1) | exact HB.out)⟩
          · rw [if_neg c5] at H
            have c5b0 : (((rd_T39 l0 x5_1).f0) != ((Int.tmod x1_1 3) == 0)) = false := by simpa using c5
            (try (have c5b1 : decide (((rd_T39 l0 x5_1).f0) = ((Int.tmod x1_1 3) == 0)) = true := by simpa using c5))
            (try (have c5b2 : (((rd_T39 l0 x5_1).f0) == ((Int.tmod x1_1 3) == 0)) = true := by simpa using c5))
            clear c5
            by_cases c6 : ((rd_T39 l0 x5_1).f1) = (wrap64 (x1_1 + 1))
            · rw [if_pos c6] at H
              have c6b0 : (((rd_T39 l0 x5_1).f1) == (wrap64 (x1_1 + 1))) = true := beq_iff_eq.mpr c6
              have c6b1 : (((rd_T39 l0 x5_1).f1) != (wrap64 (x1_1 + 1))) = false := bne_eq_false_iff_eq.mpr c6
              clear c6
              replace H := Option.bind_eq_some_iff.mp H
              obtain ⟨t209, A70, H⟩ := H
              replace H : (if t209 < 0 then (some (-1)) else (laws_heldBlockS.l0 k1 l0 t209 (wrap64 (x5_1 + 1)))) = some r := H
              have A7 := Aside0.mk A70
              clear A70
              by_cases c8 : t209 < 0
              · rw [if_pos c8] at H
                have c8b0 : decide (t209 < 0) = true := decide_eq_true c8
                clear c8
                obtain rfl := Option.some.inj H
                have p206 : 0 ≤ (x5_1 : Int) := of_decide_eq_true (by first | (with_reducible assumption) | assumption)
                have q206 : x5_1 < (l0.length : Int) := of_decide_eq_true (by first | (with_reducible assumption) | assumption)
                obtain ⟨ad206, A206_2, c206_2, e206, hx206_0, hx206_1, hx206_2, hl206_2, hi206_2⟩ := at_T39 HR0.out x5_1 p206 q206
                cases e206
                replace hx206_0 := (HB.out.cell (World.block_lt_of_cell? w _ hx206_0)).trans hx206_0
                replace hx206_1 := (HB.out.cell (World.block_lt_of_cell? w _ hx206_1)).trans hx206_1
                replace hx206_2 := (HB.out.cell (World.block_lt_of_cell? w _ hx206_2)).trans hx206_2
                have HR206_2 := Aside0.mk hi206_2
                have HC206_2 := Aside0.mk hl206_2
                clear hi206_2 hl206_2
                replace p206 := eq_true p206
                replace q206 := eq_true q206
                have p207 : 0 ≤ (x5_1 : Int) := of_decide_eq_true (by first | (with_reducible assumption) | assumption)
                have q207 : x5_1 < (l0.length : Int) := of_decide_eq_true (by first | (with_reducible assumption) | assumption)
                obtain ⟨ad207, A207_2, c207_2, e207, hx207_0, hx207_1, hx207_2, hl207_2, hi207_2⟩ := at_T39 HR0.out x5_1 p207 q207
                obtain rfl : ad206 = ad207 := (by injection e207)
                replace hx207_0 := (HB.out.cell (World.block_lt_of_cell? w _ hx207_0)).trans hx207_0
                replace hx207_1 := (HB.out.cell (World.block_lt_of_cell? w _ hx207_1)).trans hx207_1
                replace hx207_2 := (HB.out.cell (World.block_lt_of_cell? w _ hx207_2)).trans hx207_2
                have HR207_2 := Aside0.mk hi207_2
                have HC207_2 := Aside0.mk hl207_2
                clear hi207_2 hl207_2
                replace p207 := eq_true p207
                replace q207 := eq_true q207
                have ea_ := Option.some.inj (hx206_2.symm.trans hx207_2)
                injection ea_ with ea_ en_ ec_
                subst ea_
                subst ec_
                clear en_
                have p208 : 0 ≤ (x5_1 : Int) := of_decide_eq_true (by first | (with_reducible assumption) | assumption)
                have q208 : x5_1 < (l0.length : Int) := of_decide_eq_true (by first | (with_reducible assumption) | assumption)
                obtain ⟨ad208, A208_2, c208_2, e208, hx208_0, hx208_1, hx208_2, hl208_2, hi208_2⟩ := at_T39 HR0.out x5_1 p208 q208
                obtain rfl : ad206 = ad208 := (by injection e208)
                replace hx208_0 := (HB.out.cell (World.block_lt_of_cell? w _ hx208_0)).trans hx208_0
                replace hx208_1 := (HB.out.cell (World.block_lt_of_cell? w _ hx208_1)).trans hx208_1
                replace hx208_2 := (HB.out.cell (World.block_lt_of_cell? w _ hx208_2)).trans hx208_2
                have HR208_2 := Aside0.mk hi208_2
                have HC208_2 := Aside0.mk hl208_2
                clear hi208_2 hl208_2
                replace p208 := eq_true p208
                replace q208 := eq_true q208
                have ea_ := Option.some.inj (hx206_2.symm.trans hx208_2)
                injection ea_ with ea_ en_ ec_
                subst ea_
                subst ec_
                clear en_
                go_wp2_with (first | ((with_reducible refine gate_callee (f := 88) rfl ?_); refine goesL_ (some 38) rfl rfl Try.func88 (by kernel_rfl) rfl #[.slice A206_2 ((rd_T39 l0 x5_1).f2).length c206_2, .int .i64 (wrap64 ((wrap64 (x1_1 + 1)) + 1))] rfl (by (try simp only [List.map_toArray, List.map_cons, List.map_nil]); first | done | rfl | (simp only [List.length_drop, List.length_take]; rfl)) ?_; (with_reducible refine (laws_heldLeafS.calls k1 _ _ ((rd_T39 l0 x5_1).f2) (wrap64 ((wrap64 (x1_1 + 1)) + 1)) t209 _ ?side1 ?side2 A7.out).mono ?_); (case side1 => repeat (first | exact (Kd.C_below HR208_2.out HB.out) | (with_reducible refine Kd.C_alloc ?_ _) | (with_reducible refine Kd.C_drewN ?_ _) | (with_reducible refine Kd.C_drew ?_))); (case side2 => exact HC208_2.out); rintro e w9 ⟨rfl, hb⟩; refine ⟨_, rfl, ?_⟩; have n0_ := Aside0.mk (below_step (by repeat (first | (with_reducible first | exact HB.out | apply below_alloc | apply pw_below_drewN | apply below_drew1) | exact HB.out)) hb); clear HB; have HB := n0_; clear n0_; (try clear hb); (try clear hb2); (try clear hk); (try clear hi)))
                go_ret
                exact ⟨by first | rfl | (simp [errW_none, errW_some] <;> rfl) | (simp [*, errW_none, errW_some] <;> rfl), by repeat (first | (with_reducible first | exact HB.out | apply below_alloc | apply pw_below_drewN | apply below_drew1) | exact HB.out)⟩
              · rw [if_neg c8] at H
                have c8b0 : decide (t209 < 0) = false := decide_eq_false c8
                clear c8
                have H' := Aside0.mk H
                clear H
                have p206 : 0 ≤ (x5_1 : Int) := of_decide_eq_true (by first | (with_reducible assumption) | assumption)
                have q206 : x5_1 < (l0.length : Int) := of_decide_eq_true (by first | (with_reducible assumption) | assumption)
                obtain ⟨ad206, A206_2, c206_2, e206, hx206_0, hx206_1, hx206_2, hl206_2, hi206_2⟩ := at_T39 HR0.out x5_1 p206 q206
                cases e206
                replace hx206_0 := (HB.out.cell (World.block_lt_of_cell? w _ hx206_0)).trans hx206_0
                replace hx206_1 := (HB.out.cell (World.block_lt_of_cell? w _ hx206_1)).trans hx206_1
                replace hx206_2 := (HB.out.cell (World.block_lt_of_cell? w _ hx206_2)).trans hx206_2
                have HR206_2 := Aside0.mk hi206_2
                have HC206_2 := Aside0.mk hl206_2
                clear hi206_2 hl206_2
                replace p206 := eq_true p206
                replace q206 := eq_true q206
                have p207 : 0 ≤ (x5_1 : Int) := of_decide_eq_true (by first | (with_reducible assumption) | assumption)
                have q207 : x5_1 < (l0.length : Int) := of_decide_eq_true (by first | (with_reducible assumption) | assumption)
                obtain ⟨ad207, A207_2, c207_2, e207, hx207_0, hx207_1, hx207_2, hl207_2, hi207_2⟩ := at_T39 HR0.out x5_1 p207 q207
                obtain rfl : ad206 = ad207 := (by injection e207)
                replace hx207_0 := (HB.out.cell (World.block_lt_of_cell? w _ hx207_0)).trans hx207_0
                replace hx207_1 := (HB.out.cell (World.block_lt_of_cell? w _ hx207_1)).trans hx207_1
                replace hx207_2 := (HB.out.cell (World.block_lt_of_cell? w _ hx207_2)).trans hx207_2
                have HR207_2 := Aside0.mk hi207_2
                have HC207_2 := Aside0.mk hl207_2
                clear hi207_2 hl207_2
                replace p207 := eq_true p207
                replace q207 := eq_true q207
                have ea_ := Option.some.inj (hx206_2.symm.trans hx207_2)
                injection ea_ with ea_ en_ ec_
                subst ea_
                subst ec_
                clear en_
                have p208 : 0 ≤ (x5_1 : Int) := of_decide_eq_true (by first | (with_reducible assumption) | assumption)
                have q208 : x5_1 < (l0.length : Int) := of_decide_eq_true (by first | (with_reducible assumption) | assumption)
                obtain ⟨ad208, A208_2, c208_2, e208, hx208_0, hx208_1, hx208_2, hl208_2, hi208_2⟩ := at_T39 HR0.out x5_1 p208 q208
                obtain rfl : ad206 = ad208 := (by injection e208)
                replace hx208_0 := (HB.out.cell (World.block_lt_of_cell? w _ hx208_0)).trans hx208_0
                replace hx208_1 := (HB.out.cell (World.block_lt_of_cell? w _ hx208_1)).trans hx208_1
                replace hx208_2 := (HB.out.cell (World.block_lt_of_cell? w _ hx208_2)).trans hx208_2
                have HR208_2 := Aside0.mk hi208_2
                have HC208_2 := Aside0.mk hl208_2
                clear hi208_2 hl208_2
                replace p208 := eq_true p208
                replace q208 := eq_true q208
                have ea_ := Option.some.inj (hx206_2.symm.trans hx208_2)
                injection ea_ with ea_ en_ ec_
                subst ea_
                subst ec_
                clear en_
                go_wp2_with (first | ((with_reducible refine gate_callee (f := 88) rfl ?_); refine goesL_ (some 38) rfl rfl Try.func88 (by kernel_rfl) rfl #[.slice A206_2 ((rd_T39 l0 x5_1).f2).length c206_2, .int .i64 (wrap64 ((wrap64 (x1_1 + 1)) + 1))] rfl (by (try simp only [List.map_toArray, List.map_cons, List.map_nil]); first | done | rfl | (simp only [List.length_drop, List.length_take]; rfl)) ?_; (with_reducible refine (laws_heldLeafS.calls k1 _ _ ((rd_T39 l0 x5_1).f2) (wrap64 ((wrap64 (x1_1 + 1)) + 1)) t209 _ ?side1 ?side2 A7.out).mono ?_); (case side1 => repeat (first | exact (Kd.C_below HR208_2.out HB.out) | (with_reducible refine Kd.C_alloc ?_ _) | (with_reducible refine Kd.C_drewN ?_ _) | (with_reducible refine Kd.C_drew ?_))); (case side2 => exact HC208_2.out); rintro e w10 ⟨rfl, hb⟩; refine ⟨_, rfl, ?_⟩; have n0_ := Aside0.mk (below_step (by repeat (first | (with_reducible first | exact HB.out | apply below_alloc | apply pw_below_drewN | apply below_drew1) | exact HB.out)) hb); clear HB; have HB := n0_; clear n0_; (try clear hb); (try clear hb2); (try clear hk); (try clear hi)))
                go_roundg k1
                case measure => have := HK1.out; omega
                case rel => exact ⟨(t209), (wrap64 (x5_1 + 1)), (by first | rfl | (simp; done) | (simp [*]; done)), (by first | rfl | (simp; done) | (simp [*]; done)), H', ⟨by have := HK1.out; omega⟩, ⟨by repeat (first | (with_reducible first | exact HB.out | apply below_alloc | apply pw_below_drewN | apply below_drew1) | exact HB.out)⟩⟩
            · rw [if_neg c6] at H
              have c6b0 : (((rd_T39 l0 x5_1).f1) == (wrap64 (x1_1 + 1))) = false := beq_eq_false_iff_ne.mpr c6
              have c6b1 : (((rd_T39 l0 x5_1).f1) != (wrap64 (x1_1 + 1))) = true := bne_iff_ne.mpr c6
              obtain rfl := Option.some.inj H
              have p206 : 0 ≤ (x5_1 : Int) := of_decide_eq_true (by first | (with_reducible assumption) | assumption)
              have q206 : x5_1 < (l0.length : Int) := of_decide_eq_true (by first | (with_reducible assumption) | assumption)
              obtain ⟨ad206, A206_2, c206_2, e206, hx206_0, hx206_1, hx206_2, hl206_2, hi206_2⟩ := at_T39 HR0.out x5_1 p206 q206
              cases e206
              replace hx206_0 := (HB.out.cell (World.block_lt_of_cell? w _ hx206_0)).trans hx206_0
              replace hx206_1 := (HB.out.cell (World.block_lt_of_cell? w _ hx206_1)).trans hx206_1
              replace hx206_2 := (HB.out.cell (World.block_lt_of_cell? w _ hx206_2)).trans hx206_2
              have HR206_2 := Aside0.mk hi206_2
              have HC206_2 := Aside0.mk hl206_2
              clear hi206_2 hl206_2
              replace p206 := eq_true p206
              replace q206 := eq_true q206
              have p207 : 0 ≤ (x5_1 : Int) := of_decide_eq_true (by first | (with_reducible assumption) | assumption)
              have q207 : x5_1 < (l0.length : Int) := of_decide_eq_true (by first | (with_reducible assumption) | assumption)
              obtain ⟨ad207, A207_2, c207_2, e207, hx207_0, hx207_1, hx207_2, hl207_2, hi207_2⟩ := at_T39 HR0.out x5_1 p207 q207
              obtain rfl : ad206 = ad207 := (by injection e207)
              replace hx207_0 := (HB.out.cell (World.block_lt_of_cell? w _ hx207_0)).trans hx207_0
              replace hx207_1 := (HB.out.cell (World.block_lt_of_cell? w _ hx207_1)).trans hx207_1
              replace hx207_2 := (HB.out.cell (World.block_lt_of_cell? w _ hx207_2)).trans hx207_2
              have HR207_2 := Aside0.mk hi207_2
              have HC207_2 := Aside0.mk hl207_2
              clear hi207_2 hl207_2
              replace p207 := eq_true p207
              replace q207 := eq_true q207
              have ea_ := Option.some.inj (hx206_2.symm.trans hx207_2)
              injection ea_ with ea_ en_ ec_
              subst ea_
              subst ec_
              clear en_
              go_wp2
              go_ret
              exact ⟨by first | rfl | (simp [errW_none, errW_some] <;> rfl) | (simp [*, errW_none, errW_some] <;> rfl), by repeat (first | (with_reducible first | exact HB.out | apply below_alloc | apply pw_below_drewN | apply below_drew1) | exact HB.out)⟩
        · rw [if_neg c4] at H
          exact absurd H (by simp)
      · rw [if_neg c3] at H
        have c3b0 : decide (x5_1 < (l0.length : Int)) = false := decide_eq_false c3
        clear c3
        obtain rfl := Option.some.inj H
        go_wp2
        go_ret
        exact ⟨by first | rfl | (simp [errW_none, errW_some] <;> rfl) | (simp [*, errW_none, errW_some] <;> rfl), by repeat (first | (with_reducible first | exact HB.out | apply below_alloc | apply pw_below_drewN | apply below_drew1) | exact HB.out)⟩

/-! ### laws_heldFlash: function 48 -/
def laws_heldFlash.f (k : Nat) (l0_0 : List (S39)) (a1 : Int) : Option (Int) := (laws_heldBlockS.f k l0_0 a1).bind fun t211 => (if t211 < 0 then (some (-1)) else (some t211))
theorem laws_heldFlash.mono : ∀ a0 a1 k, LeO (laws_heldFlash.f k a0 a1) (laws_heldFlash.f (k + 1) a0 a1) := by
  intro a0 a1 k
  unfold laws_heldFlash.f
  repeat' first
      | (with_reducible exact laws_heldBlockS.mono _ _ _)
      | (with_reducible exact LeO.refl _)
      | (with_reducible exact LeO.none _)
      | (with_reducible refine LeO.ite ?_ ?_)
      | (with_reducible refine LeO.bind ?_ (fun _ => ?_))
      | exact laws_heldBlockS.mono _ _ _
      | exact LeO.none _
      | refine LeO.ite ?_ ?_
      | refine LeO.bind ?_ (fun _ => ?_)
set_option maxHeartbeats 8000000 in
set_option maxRecDepth 100000 in
theorem laws_heldFlash.calls (k : Nat) (A0_0 : Option Addr) (c0_0 : Nat) (l0_0 : List (S39)) (a1 : Int) (r : Int) (w : World) (hr0_0 : Kd.C k39 w A0_0 l0_0.length l0_0) (hc0_0 : l0_0.length ≤ c0_0) (h : laws_heldFlash.f k l0_0 a1 = some r) :
    Calls Try.prog 48 #[.agg #[.slice A0_0 l0_0.length c0_0], .int .i64 a1] w fun e w' => e = .returned (.int .i64 r) ∧ Below w.heap.size w w' := by
  have hu29 := Try.underlying29
  have HR0_0 := Aside0.mk hr0_0
  have HC0_0 := Aside0.mk hc0_0
  clear hr0_0 hc0_0
  have HB := Aside0.mk (Below.refl w.heap.size w)
  have H : ((laws_heldBlockS.f k l0_0 a1).bind fun t211 => (if t211 < 0 then (some (-1)) else (some t211))) = some r := h
  clear h
  replace H := Option.bind_eq_some_iff.mp H
  obtain ⟨t211, A30, H⟩ := H
  replace H : (if t211 < 0 then (some (-1)) else (some t211)) = some r := H
  have A3 := Aside0.mk A30
  clear A30
  by_cases c4 : t211 < 0
  · rw [if_pos c4] at H
    have c4b0 : decide (t211 < 0) = true := decide_eq_true c4
    clear c4
    obtain rfl := Option.some.inj H
    go_enter Try.func48, Try.ntmps48
    go_wp2_with (first | ((with_reducible refine gate_dst (N := 2) rfl ?_); refine box_event ?hg (N := 2) ?hd (cs := #[.slice A0_0 l0_0.length c0_0]) (t := 29) ?hr ?_; (case hd => rfl); (case hg => rfl); (case hr => first | (go_simp; done) | (go_simp; rfl)); intro gb210 hg w5 hbox hb; have n0_ := Aside0.mk (below_step (by repeat (first | (with_reducible first | exact HB.out | apply below_alloc | apply pw_below_drewN | apply below_drew1) | exact HB.out)) hb); have n1_ := Aside0.mk (hbox); have n2_ := Aside0.mk ((by rw [hg]; exact (below_size (by repeat (first | (with_reducible first | exact HB.out | apply below_alloc | apply pw_below_drewN | apply below_drew1) | exact HB.out))) : w.heap.size ≤ gb210)); have n3_ := Aside0.mk ((by rw [hg]; exact (below_size (by repeat (first | (with_reducible first | exact HB.out | apply below_alloc | apply pw_below_drewN | apply below_drew1) | exact HB.out))) : w.heap.size ≤ gb210)); clear HB; have HB := n0_; have BK210 := n1_; have GW210 := n2_; have GE210 := n3_; clear n0_ n1_ n2_ n3_; clear hb hbox hg; have hcz6_0 : w5.cell? ⟨gb210, 0, none⟩ = some (.slice A0_0 l0_0.length c0_0) := (blk_cell BK210.out 0).trans rfl; have hfz6_0 := blk_frozen BK210.out 0) | ((with_reducible refine gate_callee (f := 78) rfl ?_); refine goesL_ (some 8) rfl rfl Try.func78 (by kernel_rfl) rfl #[.slice A0_0 l0_0.length c0_0, .int .i64 a1] rfl (by (try simp only [List.map_toArray, List.map_cons, List.map_nil]); first | done | rfl | (simp only [List.length_drop, List.length_take]; rfl)) ?_; (with_reducible refine (laws_heldBlockS.calls k _ _ l0_0 a1 t211 _ ?side1 ?side2 A3.out).mono ?_); (case side1 => repeat (first | exact (Kd.C_below HR0_0.out HB.out) | (with_reducible refine Kd.C_alloc ?_ _) | (with_reducible refine Kd.C_drewN ?_ _) | (with_reducible refine Kd.C_drew ?_))); (case side2 => exact HC0_0.out); rintro e w7 ⟨rfl, hb⟩; refine ⟨_, rfl, ?_⟩; have n0_ := Aside0.mk (blk_below (g := gb210) (o := .cells #[.slice A0_0 l0_0.length c0_0] 29 (0, 0)) (by (with_reducible repeat (first | refine blk_drewN ?_ _ | refine blk_drew ?_ | refine blk_alloc ?_ _)); exact BK210.out) hb); have n1_ := Aside0.mk (below_step (by repeat (first | (with_reducible first | exact HB.out | apply below_alloc | apply pw_below_drewN | apply below_drew1 | refine below_set ?_ GE210.out) | exact HB.out)) hb); clear BK210; clear HB; have BK210 := n0_; have HB := n1_; clear n0_ n1_; (try clear hb); (try clear hb2); (try clear hk); (try clear hi); (try have hcygb210_0 : _ = some (.slice A0_0 l0_0.length c0_0) := (blk_cell BK210.out 0).trans rfl)))
    go_ret
    exact ⟨by first | rfl | (simp [errW_none, errW_some] <;> rfl) | (simp [*, errW_none, errW_some] <;> rfl), by repeat (first | (with_reducible first | exact HB.out | apply below_alloc | apply pw_below_drewN | apply below_drew1 | refine below_set ?_ GE210.out) | exact HB.out)⟩
  · rw [if_neg c4] at H
    have c4b0 : decide (t211 < 0) = false := decide_eq_false c4
    clear c4
    obtain rfl := Option.some.inj H
    go_enter Try.func48, Try.ntmps48
    go_wp2_with (first | ((with_reducible refine gate_dst (N := 2) rfl ?_); refine box_event ?hg (N := 2) ?hd (cs := #[.slice A0_0 l0_0.length c0_0]) (t := 29) ?hr ?_; (case hd => rfl); (case hg => rfl); (case hr => first | (go_simp; done) | (go_simp; rfl)); intro gb210 hg w8 hbox hb; have n0_ := Aside0.mk (below_step (by repeat (first | (with_reducible first | exact HB.out | apply below_alloc | apply pw_below_drewN | apply below_drew1) | exact HB.out)) hb); have n1_ := Aside0.mk (hbox); have n2_ := Aside0.mk ((by rw [hg]; exact (below_size (by repeat (first | (with_reducible first | exact HB.out | apply below_alloc | apply pw_below_drewN | apply below_drew1) | exact HB.out))) : w.heap.size ≤ gb210)); have n3_ := Aside0.mk ((by rw [hg]; exact (below_size (by repeat (first | (with_reducible first | exact HB.out | apply below_alloc | apply pw_below_drewN | apply below_drew1) | exact HB.out))) : w.heap.size ≤ gb210)); clear HB; have HB := n0_; have BK210 := n1_; have GW210 := n2_; have GE210 := n3_; clear n0_ n1_ n2_ n3_; clear hb hbox hg; have hcz9_0 : w8.cell? ⟨gb210, 0, none⟩ = some (.slice A0_0 l0_0.length c0_0) := (blk_cell BK210.out 0).trans rfl; have hfz9_0 := blk_frozen BK210.out 0) | ((with_reducible refine gate_callee (f := 78) rfl ?_); refine goesL_ (some 8) rfl rfl Try.func78 (by kernel_rfl) rfl #[.slice A0_0 l0_0.length c0_0, .int .i64 a1] rfl (by (try simp only [List.map_toArray, List.map_cons, List.map_nil]); first | done | rfl | (simp only [List.length_drop, List.length_take]; rfl)) ?_; (with_reducible refine (laws_heldBlockS.calls k _ _ l0_0 a1 t211 _ ?side1 ?side2 A3.out).mono ?_); (case side1 => repeat (first | exact (Kd.C_below HR0_0.out HB.out) | (with_reducible refine Kd.C_alloc ?_ _) | (with_reducible refine Kd.C_drewN ?_ _) | (with_reducible refine Kd.C_drew ?_))); (case side2 => exact HC0_0.out); rintro e w10 ⟨rfl, hb⟩; refine ⟨_, rfl, ?_⟩; have n0_ := Aside0.mk (blk_below (g := gb210) (o := .cells #[.slice A0_0 l0_0.length c0_0] 29 (0, 0)) (by (with_reducible repeat (first | refine blk_drewN ?_ _ | refine blk_drew ?_ | refine blk_alloc ?_ _)); exact BK210.out) hb); have n1_ := Aside0.mk (below_step (by repeat (first | (with_reducible first | exact HB.out | apply below_alloc | apply pw_below_drewN | apply below_drew1 | refine below_set ?_ GE210.out) | exact HB.out)) hb); clear BK210; clear HB; have BK210 := n0_; have HB := n1_; clear n0_ n1_; (try clear hb); (try clear hb2); (try clear hk); (try clear hi); (try have hcygb210_0 : _ = some (.slice A0_0 l0_0.length c0_0) := (blk_cell BK210.out 0).trans rfl)))
    go_ret
    exact ⟨by first | rfl | (simp [errW_none, errW_some] <;> rfl) | (simp [*, errW_none, errW_some] <;> rfl), by repeat (first | (with_reducible first | exact HB.out | apply below_alloc | apply pw_below_drewN | apply below_drew1 | refine below_set ?_ GE210.out) | exact HB.out)⟩

/-! ### laws_FnExactMarkBad: function 11 -/
/-- A flash of the call's own in a variable: the variable's block, the flash, whose blocks lie from lo on and below hi. -/
structure Ok (w : World) (g : Nat) (A : Option Addr) (n c : Nat) (xs : List S39) (lo hi : Nat) (W : World) : Prop where
  b : W.heap[g]? = some (.cells #[.slice A n c] 29 (0, 0))
  s : Kd.S k39 39 W w.heap.size (fun k => lo ≤ k ∧ k < hi) (.slice A n c) xs
  hg : hi ≤ g
  hl : lo ≤ hi
section
variable {w W W' W1 W2 : World} {g g' : Nat} {A A' : Option Addr} {n c n' c' : Nat} {xs ys : List S39} {lo hi lo' hi' : Nat}
theorem Ok.below (h : Ok w g A n c xs lo hi W) (hb : Below W.heap.size W W') : Ok w g A n c xs lo hi W' := ⟨blk_below h.b hb, Kd.S_below h.s hb, h.hg, h.hl⟩
theorem Ok.kept (h : Ok w g A n c xs lo hi W) (hk : Kept W W' (fun k => lo' ≤ k ∧ k < hi')) (hd : g < lo' ∨ hi' ≤ lo) : Ok w g A n c xs lo hi W' :=
  ⟨blk_kept h.b hk (fun k => by have := h.hg; have := h.hl; omega), Kd.S_kept h.s hk (fun k hk h2 => by have := h.hg; have := h.hl; omega), h.hg, h.hl⟩
theorem Ok.marked (h : Ok w g A n c xs lo hi W) (hk : Kept W W' (fun k => lo ≤ k ∧ k < hi)) (hS : Kd.S k39 39 W' w.heap.size (fun k => lo ≤ k ∧ k < hi) (.slice A n c) ys) : Ok w g A n c ys lo hi W' :=
  ⟨blk_kept h.b hk (fun k => by have := h.hg; omega), hS, h.hg, h.hl⟩
theorem Ok.row (h : Ok w g A n c xs lo hi W) (hg : g < g') (cs : Array Value) : Ok w g A n c xs lo hi (W.setRow g' cs) :=
  ⟨(setRow_other W g' g cs (by omega)).trans h.b, Kd.S_step h.s (fun k hk _ => setRow_other W g' k cs (by have := h.hg; omega)), h.hg, h.hl⟩
theorem Ok.make (hS : Kd.S k39 39 W1 W.heap.size (fun _ => True) (.slice A n c) xs) (hlo : w.heap.size ≤ W.heap.size ∧ W.heap.size ≤ W1.heap.size) (hg : g = W1.heap.size) {old : Array Value} (hbox : W2.heap[g]? = some (.cells old 29 (0, 0))) (hb : Below W1.heap.size W1 W2) :
    Ok w g A n c xs W.heap.size W1.heap.size (W2.setRow g #[.slice A n c]) :=
  ⟨setRow_heap W2 g old _ 29 (0, 0) hbox, Kd.S_step (Kd.S_lower (Kd.S_mono (Kd.S_bound (Kd.S_below (Kd.S_mono (Kd.S_bound hS) (fun k hk => (⟨hk.2.1, hk.2.2.1⟩ : W.heap.size ≤ k ∧ k < W1.heap.size))) hb)) (fun k hk => hk.1)) hlo.1) (fun k hk _ => setRow_other W2 g k _ (by omega)), Nat.le_of_eq hg.symm, hlo.2⟩
theorem below_row39 (h : Below w.heap.size w W) (ha : w.heap.size ≤ g) (cs : Array Value) : Below w.heap.size w (W.setRow g cs) :=
  ⟨h.os, h.tape, h.output, by have := h.size; rw [setRow_size]; exact this, fun k hk => (setRow_other W g k cs (by omega)).trans (h.block k hk)⟩
theorem row_event39 {P : Program} {ops : Array Oper} {rest : List Oper} {o : Oper} {a : Act} {Q : Exit → Act → World → Prop} (hgd : o.guard = none) (ty : TypeId) (x y : Operand) (ho : o.op = .store ty x y)
    (g : Nat) (cells : Array Value) (hx : a.eval x = .pointer (some ⟨g, 0, none⟩)) (hy : a.eval y = .agg cells)
    (t : TypeId) (old : Array Value) (hg : W.heap[g]? = some (.cells old t (0, 0))) (hi : (P.info? ty).map (·.size) = some cells.size)
    (hold : old.size = cells.size) (h1 : cells.all (·.oneCell') = true)
    (h : ∀ w', w' = W.setRow g cells → wpList P ops Q rest (a.put o.dst undef) w') : wpList P ops Q (o :: rest) a W :=
  wpList_store_row hgd ty x y ho g cells hx hy t old hg hi hold h1 (h _ rfl)
theorem eq_at {k : Nat} {base base' : Nat} {ok ok' : Nat → Prop} {e : Bool} (h1 : Kd.S k39 39 W base ok (.slice A n c) xs) (h2 : Kd.S k39 39 W base' ok' (.slice A' n' c') ys) (h : laws_eqFlash.f k xs ys = some e) :
    Calls Try.prog 32 #[.agg #[.slice A n c], .agg #[.slice A' n' c']] W fun r w' => r = .returned (.bool e) ∧ Below W.heap.size W w' := by
  obtain ⟨e1, q1, r1⟩ := Kd.S_reads' h1
  obtain ⟨e2, q2, r2⟩ := Kd.S_reads' h2
  subst e1
  subst e2
  exact laws_eqFlash.calls k A c xs A' c' ys e W r1 q1 r2 q2 h
theorem held_at {k : Nat} {base : Nat} {ok : Nat → Prop} {a q : Int} (h1 : Kd.S k39 39 W base ok (.slice A n c) xs) (h : laws_heldFlash.f k xs a = some q) :
    Calls Try.prog 48 #[.agg #[.slice A n c], .int .i64 a] W fun r w' => r = .returned (.int .i64 q) ∧ Below W.heap.size W w' := by
  obtain ⟨e1, q1, r1⟩ := Kd.S_reads' h1
  subst e1
  exact laws_heldFlash.calls k A c xs a q W r1 q1 h
end
set_option maxHeartbeats 4000000 in
set_option maxRecDepth 1000000 in
theorem laws_FnExactMarkBad.big_ (k : Nat) (A0_0 : Option Addr) (c0_0 : Nat) (l0_0 : List (S103)) (a1 : Int) (sz : Int) (w : World) (hr0_0 : Kd.C k103 w A0_0 l0_0.length l0_0) (hc0_0 : l0_0.length ≤ c0_0) (hsz : laws_szFlash.f k l0_0 1048576 = some sz) (hz : sz < 0) :
    Calls Try.prog 11 #[.agg #[.slice A0_0 l0_0.length c0_0], .int .i64 a1] w fun e w' => e = .returned (.bool true) ∧ Below w.heap.size w w' := by
  have hu44 := Try.underlying44
  have hu29 := Try.underlying29
  have HI44 : Aside0 ((Try.prog.info? 44).map (·.size) = some 1) := ⟨by kernel_rfl⟩
  have HI29 : Aside0 ((Try.prog.info? 29).map (·.size) = some 1) := ⟨by kernel_rfl⟩
  have HB := Aside0.mk (Below.refl w.heap.size w)
  have HR := Aside0.mk hr0_0
  have HC := Aside0.mk hc0_0
  have HSZ := Aside0.mk hsz
  have hz1 : decide (sz < 0) = true := decide_eq_true hz
  clear hr0_0 hc0_0 hsz hz
  go_enter Try.func11, Try.ntmps11
  go_wp2_with (first | ((with_reducible refine gate_dst (N := 2) rfl ?_); refine box_event ?hg (N := 2) ?hd (cs := #[.slice A0_0 l0_0.length c0_0]) (t := 44) ?hr ?_; (case hd => rfl); (case hg => rfl); (case hr => first | (go_simp; done) | (go_simp; rfl)); intro gA hg w2 hbox hb; have HB_2 := Aside0.mk (below_step HB.out hb); have BA_2 := Aside0.mk hbox; clear hg hbox hb HB) | ((with_reducible refine gate_dst (N := 13) rfl ?_); refine wpList_load_row rfl 44 (.tmp 2) rfl gA rfl 44 _ (0, 0) _ BA_2.out hu44 rfl HI44.out ?_) | ((with_reducible refine gate_callee (f := 28) rfl ?_); (with_reducible refine gate_dst (N := 15) rfl ?_); refine goesL_ (some 15) rfl rfl Try.func28 (by kernel_rfl) rfl #[.agg #[.slice A0_0 l0_0.length c0_0], .int .i64 1048576] rfl (by (try simp only [List.map_toArray, List.map_cons, List.map_nil]); first | done | rfl) ?_; (with_reducible refine (laws_szFlash.calls k A0_0 c0_0 l0_0 1048576 sz _ (Kd.C_below HR.out HB_2.out) HC.out HSZ.out).mono ?_); rintro e w3 ⟨rfl, hb⟩; refine ⟨_, rfl, ?_⟩; have HB_3 := Aside0.mk (below_step HB_2.out hb); have BA_3 := Aside0.mk (blk_below BA_2.out hb); clear hb HB_2 BA_2))
  go_ret
  exact ⟨rfl, HB_3.out⟩
set_option maxHeartbeats 4000000 in
set_option maxRecDepth 1000000 in
theorem laws_FnExactMarkBad.walk_ (k : Nat) (A0_0 : Option Addr) (c0_0 : Nat) (l0_0 : List (S103)) (a1 : Int) (sz kx kg : Int) (m rs ri mx rg : List S39) (w : World) (hr0_0 : Kd.C k103 w A0_0 l0_0.length l0_0) (hc0_0 : l0_0.length ≤ c0_0) (hsz : laws_szFlash.f k l0_0 1048576 = some sz) (hz : ¬ sz < 0)
    (hto : laws_toFlash.f k l0_0 = some m) (hs : spec_MarkBad.f k m a1 = some rs) (hi : impl_MarkBad.f k m a1 = some ri) (he1 : laws_eqFlash.f k ri rs = some true) (he2 : laws_eqFlash.f k m m = some true)
    (hmx : laws_markFlash.f k m 1 = some (kx, mx)) (hkx : ¬ kx < 0) (hmg : laws_markFlash.f k ri 1 = some (kg, rg)) (hh : laws_heldFlash.f k rg 1 = some kg) (hkg : ¬ kg < 0) :
    Calls Try.prog 11 #[.agg #[.slice A0_0 l0_0.length c0_0], .int .i64 a1] w fun e w' => e = .returned (.bool true) ∧ Below w.heap.size w w' := by
  have hu44 := Try.underlying44
  have hu29 := Try.underlying29
  have HI44 : Aside0 ((Try.prog.info? 44).map (·.size) = some 1) := ⟨by kernel_rfl⟩
  have HI29 : Aside0 ((Try.prog.info? 29).map (·.size) = some 1) := ⟨by kernel_rfl⟩
  have HB := Aside0.mk (Below.refl w.heap.size w)
  have HR := Aside0.mk hr0_0
  have HC := Aside0.mk hc0_0
  have HSZ := Aside0.mk hsz
  have HTO := Aside0.mk hto
  have HS := Aside0.mk hs
  have HI_ := Aside0.mk hi
  have HE1 := Aside0.mk he1
  have HE2 := Aside0.mk he2
  have HMX := Aside0.mk hmx
  have HMG := Aside0.mk hmg
  have HH := Aside0.mk hh
  have hz1 : decide (sz < 0) = false := decide_eq_false hz
  have hkx1 : decide (kx < 0) = false := decide_eq_false hkx
  have hkg1 : decide (kg < 0) = false := decide_eq_false hkg
  clear hr0_0 hc0_0 hsz hz hto hs hi he1 he2 hmx hkx hmg hh hkg
  go_enter Try.func11, Try.ntmps11
  go_wp2_with (first | ((with_reducible refine gate_dst (N := 2) rfl ?_); refine box_event ?hg (N := 2) ?hd (cs := #[.slice A0_0 l0_0.length c0_0]) (t := 44) ?hr ?_; (case hd => rfl); (case hg => rfl); (case hr => first | (go_simp; done) | (go_simp; rfl)); intro gA hg w2 hbox hb; have HB_2 := Aside0.mk (below_step HB.out hb); have BA_2 := Aside0.mk hbox; clear hg hbox hb HB) | ((with_reducible refine gate_dst (N := 13) rfl ?_); refine wpList_load_row rfl 44 (.tmp 2) rfl gA rfl 44 _ (0, 0) _ BA_2.out hu44 rfl HI44.out ?_) | ((with_reducible refine gate_callee (f := 28) rfl ?_); (with_reducible refine gate_dst (N := 15) rfl ?_); refine goesL_ (some 15) rfl rfl Try.func28 (by kernel_rfl) rfl #[.agg #[.slice A0_0 l0_0.length c0_0], .int .i64 1048576] rfl (by (try simp only [List.map_toArray, List.map_cons, List.map_nil]); first | done | rfl) ?_; (with_reducible refine (laws_szFlash.calls k A0_0 c0_0 l0_0 1048576 sz _ (Kd.C_below HR.out HB_2.out) HC.out HSZ.out).mono ?_); rintro e w3 ⟨rfl, hb⟩; refine ⟨_, rfl, ?_⟩; have HB_3 := Aside0.mk (below_step HB_2.out hb); have BA_3 := Aside0.mk (blk_below BA_2.out hb); clear hb HB_2 BA_2) | ((with_reducible refine gate_dst (N := 18) rfl ?_); refine wpList_load_row rfl 44 (.tmp 2) rfl gA rfl 44 _ (0, 0) _ BA_3.out hu44 rfl HI44.out ?_) | ((with_reducible refine gate_callee (f := 30) rfl ?_); (with_reducible refine gate_dst (N := 19) rfl ?_); refine goesL_ (some 19) rfl rfl Try.func30 (by kernel_rfl) rfl #[.agg #[.slice A0_0 l0_0.length c0_0]] rfl (by (try simp only [List.map_toArray, List.map_cons, List.map_nil]); first | done | rfl) ?_; (with_reducible refine (laws_toFlash.calls k A0_0 c0_0 l0_0 m _ (Kd.C_below HR.out HB_3.out) HC.out HTO.out).mono ?_); rintro e w4 ⟨v_, rfl, hS, hb⟩; refine ⟨_, rfl, ?_⟩; obtain ⟨Aa, ca, e_⟩ := Kd.S_slice hS; subst e_; have Sa := Aside0.mk hS; have LOa := Aside0.mk (⟨HB_3.out.size, hb.size⟩ : w.heap.size ≤ w3.heap.size ∧ w3.heap.size ≤ _); clear hS; have HB_4 := Aside0.mk (below_step HB_3.out hb); have BA_4 := Aside0.mk (blk_below BA_3.out hb); clear hb HB_3 BA_3) | ((with_reducible refine gate_callee (f := 45) rfl ?_); (with_reducible refine gate_dst (N := 21) rfl ?_); refine goesL_ (some 21) rfl rfl Try.func45 (by kernel_rfl) rfl #[.agg #[.slice Aa m.length ca], .int .i64 a1] rfl (by (try simp only [List.map_toArray, List.map_cons, List.map_nil]); first | done | rfl) ?_; (with_reducible refine (spec_MarkBad.calls k Aa ca m a1 rs _ (Kd.S_reads' Sa.out).2.2 (Kd.S_reads' Sa.out).2.1 HS.out).mono ?_); rintro e w5 ⟨v_, rfl, hS, hb⟩; refine ⟨_, rfl, ?_⟩; obtain ⟨Aw, cw, e_⟩ := Kd.S_slice hS; subst e_; have Sw := Aside0.mk hS; have LOw := Aside0.mk (⟨HB_4.out.size, hb.size⟩ : w.heap.size ≤ w4.heap.size ∧ w4.heap.size ≤ _); clear hS; have LT_A_O6 := Aside0.mk (blk_lt BA_4.out); have HB_5 := Aside0.mk (below_step HB_4.out hb); have BA_5 := Aside0.mk (blk_below BA_4.out hb); clear hb Sa LOa HB_4 BA_4) | ((with_reducible refine gate_dst (N := 6) rfl ?_); refine box_event ?hg (N := 6) ?hd (cs := #[.slice none 0 0]) (t := 29) ?hr ?_; (case hd => rfl); (case hg => rfl); (case hr => first | (go_simp; done) | (go_simp; rfl)); intro g6 hg w6 hbox hb; have GE6 := Aside0.mk ((by rw [hg]; exact HB_5.out.size) : w.heap.size ≤ g6); have RA_O6 := Aside0.mk ((by rw [hg]; exact blk_lt BA_5.out) : gA < g6); have HB_6 := Aside0.mk (below_step HB_5.out hb); have BA_6 := Aside0.mk (blk_below BA_5.out hb); have MK := Aside0.mk (fun W' (e_ : W' = World.setRow w6 g6 #[.slice Aw rs.length cw]) => (by rw [e_]; exact Ok.make Sw.out LOw.out hg hbox hb : Ok w g6 Aw rs.length cw rs w4.heap.size w5.heap.size W')); have BX := Aside0.mk hbox; clear hg hbox hb Sw LOw HB_5 BA_5) | ((with_reducible refine gate_store (t := 29) (p := 6) rfl ?_); refine row_event39 rfl 29 (.tmp 6) (.tmp 21) rfl g6 #[.slice Aw rs.length cw] rfl (by first | rfl | (go_simp; done) | (go_simp; rfl)) 29 _ BX.out HI29.out rfl (by simp [Value.oneCell']) ?_; intro w7 hw; have O6_7 := Aside0.mk (MK.out _ hw); have HB_7 := Aside0.mk (by rw [hw]; exact below_row39 HB_6.out GE6.out _ : Below w.heap.size w w7); have BA_7 := Aside0.mk (by rw [hw]; exact (setRow_other _ _ _ _ (by have := RA_O6.out; omega)).trans BA_6.out : w7.heap[gA]? = some (.cells #[.slice A0_0 l0_0.length c0_0] 44 (0, 0))); clear hw MK BX HB_6 BA_6) | ((with_reducible refine gate_dst (N := 22) rfl ?_); refine wpList_load_row rfl 44 (.tmp 2) rfl gA rfl 44 _ (0, 0) _ BA_7.out hu44 rfl HI44.out ?_) | ((with_reducible refine gate_callee (f := 30) rfl ?_); (with_reducible refine gate_dst (N := 23) rfl ?_); refine goesL_ (some 23) rfl rfl Try.func30 (by kernel_rfl) rfl #[.agg #[.slice A0_0 l0_0.length c0_0]] rfl (by (try simp only [List.map_toArray, List.map_cons, List.map_nil]); first | done | rfl) ?_; (with_reducible refine (laws_toFlash.calls k A0_0 c0_0 l0_0 m _ (Kd.C_below HR.out HB_7.out) HC.out HTO.out).mono ?_); rintro e w8 ⟨v_, rfl, hS, hb⟩; refine ⟨_, rfl, ?_⟩; obtain ⟨Ax, cx, e_⟩ := Kd.S_slice hS; subst e_; have Sx := Aside0.mk hS; have LOx := Aside0.mk (⟨HB_7.out.size, hb.size⟩ : w.heap.size ≤ w7.heap.size ∧ w7.heap.size ≤ _); clear hS; have LT_O6_O7 := Aside0.mk (blk_lt O6_7.out.b); have LT_A_O7 := Aside0.mk (blk_lt BA_7.out); have HB_8 := Aside0.mk (below_step HB_7.out hb); have BA_8 := Aside0.mk (blk_below BA_7.out hb); have O6_8 := Aside0.mk (O6_7.out.below hb); clear hb HB_7 BA_7 O6_7) | ((with_reducible refine gate_dst (N := 7) rfl ?_); refine box_event ?hg (N := 7) ?hd (cs := #[.slice none 0 0]) (t := 29) ?hr ?_; (case hd => rfl); (case hg => rfl); (case hr => first | (go_simp; done) | (go_simp; rfl)); intro g7 hg w9 hbox hb; have GE7 := Aside0.mk ((by rw [hg]; exact HB_8.out.size) : w.heap.size ≤ g7); have R_O6_O7 := Aside0.mk ((by rw [hg]; exact blk_lt O6_8.out.b) : g6 < g7); have RA_O7 := Aside0.mk ((by rw [hg]; exact blk_lt BA_8.out) : gA < g7); have HB_9 := Aside0.mk (below_step HB_8.out hb); have BA_9 := Aside0.mk (blk_below BA_8.out hb); have O6_9 := Aside0.mk (O6_8.out.below hb); have MK := Aside0.mk (fun W' (e_ : W' = World.setRow w9 g7 #[.slice Ax m.length cx]) => (by rw [e_]; exact Ok.make Sx.out LOx.out hg hbox hb : Ok w g7 Ax m.length cx m w7.heap.size w8.heap.size W')); have BX := Aside0.mk hbox; clear hg hbox hb Sx LOx HB_8 BA_8 O6_8) | ((with_reducible refine gate_store (t := 29) (p := 7) rfl ?_); refine row_event39 rfl 29 (.tmp 7) (.tmp 23) rfl g7 #[.slice Ax m.length cx] rfl (by first | rfl | (go_simp; done) | (go_simp; rfl)) 29 _ BX.out HI29.out rfl (by simp [Value.oneCell']) ?_; intro w10 hw; have O7_10 := Aside0.mk (MK.out _ hw); have HB_10 := Aside0.mk (by rw [hw]; exact below_row39 HB_9.out GE7.out _ : Below w.heap.size w w10); have BA_10 := Aside0.mk (by rw [hw]; exact (setRow_other _ _ _ _ (by have := RA_O7.out; omega)).trans BA_9.out : w10.heap[gA]? = some (.cells #[.slice A0_0 l0_0.length c0_0] 44 (0, 0))); have O6_10 := Aside0.mk (by rw [hw]; exact O6_9.out.row R_O6_O7.out _ : Ok w g6 _ _ _ _ _ _ w10); clear hw MK BX HB_9 BA_9 O6_9) | ((with_reducible refine gate_dst (N := 24) rfl ?_); refine wpList_load_row rfl 29 (.tmp 7) rfl g7 rfl 29 _ (0, 0) _ O7_10.out.b hu29 rfl HI29.out ?_) | ((with_reducible refine gate_callee (f := 46) rfl ?_); (with_reducible refine gate_dst (N := 26) rfl ?_); refine goesL_ (some 26) rfl rfl Try.func46 (by kernel_rfl) rfl #[.agg #[.slice Ax m.length cx], .int .i64 a1] rfl (by (try simp only [List.map_toArray, List.map_cons, List.map_nil]); first | done | rfl) ?_; (with_reducible refine (impl_MarkBad.calls k Ax cx m a1 ri _ (Kd.S_reads' O7_10.out.s).2.2 (Kd.S_reads' O7_10.out.s).2.1 HI_.out).mono ?_); rintro e w11 ⟨v_, rfl, hS, hb⟩; refine ⟨_, rfl, ?_⟩; obtain ⟨Ag, cg, e_⟩ := Kd.S_slice hS; subst e_; have Sg := Aside0.mk hS; have LOg := Aside0.mk (⟨HB_10.out.size, hb.size⟩ : w.heap.size ≤ w10.heap.size ∧ w10.heap.size ≤ _); clear hS; have LT_O6_O8 := Aside0.mk (blk_lt O6_10.out.b); have LT_O7_O8 := Aside0.mk (blk_lt O7_10.out.b); have LT_A_O8 := Aside0.mk (blk_lt BA_10.out); have HB_11 := Aside0.mk (below_step HB_10.out hb); have BA_11 := Aside0.mk (blk_below BA_10.out hb); have O6_11 := Aside0.mk (O6_10.out.below hb); have O7_11 := Aside0.mk (O7_10.out.below hb); clear hb HB_10 BA_10 O6_10 O7_10) | ((with_reducible refine gate_dst (N := 8) rfl ?_); refine box_event ?hg (N := 8) ?hd (cs := #[.slice none 0 0]) (t := 29) ?hr ?_; (case hd => rfl); (case hg => rfl); (case hr => first | (go_simp; done) | (go_simp; rfl)); intro g8 hg w12 hbox hb; have GE8 := Aside0.mk ((by rw [hg]; exact HB_11.out.size) : w.heap.size ≤ g8); have R_O6_O8 := Aside0.mk ((by rw [hg]; exact blk_lt O6_11.out.b) : g6 < g8); have R_O7_O8 := Aside0.mk ((by rw [hg]; exact blk_lt O7_11.out.b) : g7 < g8); have RA_O8 := Aside0.mk ((by rw [hg]; exact blk_lt BA_11.out) : gA < g8); have HB_12 := Aside0.mk (below_step HB_11.out hb); have BA_12 := Aside0.mk (blk_below BA_11.out hb); have O6_12 := Aside0.mk (O6_11.out.below hb); have O7_12 := Aside0.mk (O7_11.out.below hb); have MK := Aside0.mk (fun W' (e_ : W' = World.setRow w12 g8 #[.slice Ag ri.length cg]) => (by rw [e_]; exact Ok.make Sg.out LOg.out hg hbox hb : Ok w g8 Ag ri.length cg ri w10.heap.size w11.heap.size W')); have BX := Aside0.mk hbox; clear hg hbox hb Sg LOg HB_11 BA_11 O6_11 O7_11) | ((with_reducible refine gate_store (t := 29) (p := 8) rfl ?_); refine row_event39 rfl 29 (.tmp 8) (.tmp 26) rfl g8 #[.slice Ag ri.length cg] rfl (by first | rfl | (go_simp; done) | (go_simp; rfl)) 29 _ BX.out HI29.out rfl (by simp [Value.oneCell']) ?_; intro w13 hw; have O8_13 := Aside0.mk (MK.out _ hw); have HB_13 := Aside0.mk (by rw [hw]; exact below_row39 HB_12.out GE8.out _ : Below w.heap.size w w13); have BA_13 := Aside0.mk (by rw [hw]; exact (setRow_other _ _ _ _ (by have := RA_O8.out; omega)).trans BA_12.out : w13.heap[gA]? = some (.cells #[.slice A0_0 l0_0.length c0_0] 44 (0, 0))); have O6_13 := Aside0.mk (by rw [hw]; exact O6_12.out.row R_O6_O8.out _ : Ok w g6 _ _ _ _ _ _ w13); have O7_13 := Aside0.mk (by rw [hw]; exact O7_12.out.row R_O7_O8.out _ : Ok w g7 _ _ _ _ _ _ w13); clear hw MK BX HB_12 BA_12 O6_12 O7_12) | ((with_reducible refine gate_dst (N := 27) rfl ?_); refine wpList_load_row rfl 29 (.tmp 8) rfl g8 rfl 29 _ (0, 0) _ O8_13.out.b hu29 rfl HI29.out ?_) | ((with_reducible refine gate_dst (N := 28) rfl ?_); refine wpList_load_row rfl 29 (.tmp 6) rfl g6 rfl 29 _ (0, 0) _ O6_13.out.b hu29 rfl HI29.out ?_) | ((with_reducible refine gate_callee (f := 32) rfl ?_); (with_reducible refine gate_dst (N := 29) rfl ?_); refine goesL_ (some 29) rfl rfl Try.func32 (by kernel_rfl) rfl #[.agg #[.slice Ag ri.length cg], .agg #[.slice Aw rs.length cw]] rfl (by (try simp only [List.map_toArray, List.map_cons, List.map_nil]); first | done | rfl) ?_; (with_reducible refine (eq_at O8_13.out.s O6_13.out.s HE1.out).mono ?_); rintro e w14 ⟨rfl, hb⟩; refine ⟨_, rfl, ?_⟩; have HB_14 := Aside0.mk (below_step HB_13.out hb); have BA_14 := Aside0.mk (blk_below BA_13.out hb); have O6_14 := Aside0.mk (O6_13.out.below hb); have O7_14 := Aside0.mk (O7_13.out.below hb); have O8_14 := Aside0.mk (O8_13.out.below hb); clear hb HB_13 BA_13 O6_13 O7_13 O8_13))
  refine start_ (n := 5) (S := fun w' => w'.cell? ⟨g7, 0, none⟩ = some (.slice Ax m.length cx) ∧ w'.cell? ⟨gA, 0, none⟩ = some (.slice A0_0 l0_0.length c0_0) ∧ w'.heap[gA]? = some (.cells #[.slice A0_0 l0_0.length c0_0] 44 (0, 0)) ∧ Below w.heap.size w w' ∧ Ok w g6 Aw rs.length cw rs w4.heap.size w5.heap.size w' ∧ Ok w g7 Ax m.length cx m w7.heap.size w8.heap.size w' ∧ Ok w g8 Ag ri.length cg ri w10.heap.size w11.heap.size w') (ds := []) #[false, false, false, false, false] (by kernel_rfl) rfl rfl ⟨(blk_cell O7_14.out.b 0).trans rfl, (blk_cell BA_14.out 0).trans rfl, BA_14.out, below_drew1 HB_14.out, O6_14.out.below (below_drew1 (Below.refl _ _)), O7_14.out.below (below_drew1 (Below.refl _ _)), O8_14.out.below (below_drew1 (Below.refl _ _))⟩ (fun hHeld => ?_)
  refine take_ (i := 0) (N := some 31) (v := ?_) (a' := ?_) #[true, false, false, false, false] rfl rfl (by kernel_rfl) (fun _ _ _ h => h) (Or.inl ⟨by rfl, ?_⟩) hHeld ?_ ?_
  rotate_left
  · rintro w' ⟨s0, s1, s2, s3, s4, s5, s6⟩
    go_simp
    with_reducible rfl
  rotate_left
  · simp only [Act.put, List.setIfInBounds_toArray, List.set_cons_zero, List.set_cons_succ, i64_w, i32_w]
    rfl
  refine take_ (i := 1) (N := some 32) (v := ?_) (a' := ?_) #[true, true, false, false, false] rfl rfl (by kernel_rfl) (fun _ _ _ h => h) (Or.inl ⟨by rfl, ?_⟩) hHeld ?_ ?_
  rotate_left
  · rintro w' ⟨s0, s1, s2, s3, s4, s5, s6⟩
    go_simp
    with_reducible rfl
  rotate_left
  · simp only [Act.put, List.setIfInBounds_toArray, List.set_cons_zero, List.set_cons_succ, i64_w, i32_w]
    rfl
  refine one_ (i := 2) (N := some 33) #[true, true, true, false, false] rfl rfl (by kernel_rfl) (by decide) (fun K hK => ?_)
  refine goes_ Try.func30 (by kernel_rfl) rfl #[.agg #[.slice A0_0 l0_0.length c0_0]] (by rfl) rfl rfl (by simp only [List.map_toArray, List.map_cons, List.map_nil]; rfl) ?_
  with_reducible refine (laws_toFlash.calls k A0_0 c0_0 l0_0 m _ (Kd.C_below HR.out hHeld.2.2.2.1) HC.out HTO.out).mono ?_
  rintro e w40 ⟨v_, rfl, hS, hb⟩
  refine ⟨_, rfl, ?_⟩
  obtain ⟨At, ct, e_⟩ := Kd.S_slice hS
  subst e_
  refine hK.out _ _ ⟨pw_cell_below hb hHeld.1, pw_cell_below hb hHeld.2.1, blk_below hHeld.2.2.1 hb, below_step hHeld.2.2.2.1 hb, hHeld.2.2.2.2.1.below hb, hHeld.2.2.2.2.2.1.below hb, hHeld.2.2.2.2.2.2.below hb⟩ (fun hHeld => ?_)
  clear hK K
  refine norm_ (a' := ?_) ?_ ?_
  rotate_left
  · show Act.put _ (some 33) _ = _
    simp only [Act.put, List.setIfInBounds_toArray, List.set_cons_zero, List.set_cons_succ, i64_w, i32_w]
    rfl
  refine one_ (i := 3) (N := some 34) #[true, true, true, true, false] rfl rfl (by kernel_rfl) (by decide) (fun K hK => ?_)
  refine goes_ Try.func32 (by kernel_rfl) rfl #[.agg #[.slice Ax m.length cx], .agg #[.slice At m.length ct]] (by rfl) rfl rfl (by simp only [List.map_toArray, List.map_cons, List.map_nil]; rfl) ?_
  with_reducible refine (eq_at hHeld.2.2.2.2.2.1.s hS HE2.out).mono ?_
  rintro e w41 ⟨rfl, hb⟩
  refine ⟨_, rfl, ?_⟩
  refine hK.out _ _ ⟨pw_cell_below hb hHeld.1, pw_cell_below hb hHeld.2.1, blk_below hHeld.2.2.1 hb, below_step hHeld.2.2.2.1 hb, hHeld.2.2.2.2.1.below hb, hHeld.2.2.2.2.2.1.below hb, hHeld.2.2.2.2.2.2.below hb⟩ (fun hHeld => ?_)
  clear hK K
  refine norm_ (a' := ?_) ?_ ?_
  rotate_left
  · show Act.put _ (some 34) _ = _
    simp only [Act.put, List.setIfInBounds_toArray, List.set_cons_zero, List.set_cons_succ, i64_w, i32_w]
    rfl
  refine pure_ (i := 4) (N := some 35) (v := ?_) (a' := ?_) #[true, true, true, true, true] rfl rfl (by kernel_rfl) (fun _ _ _ h => h) (Or.inl ⟨by rfl, ?_⟩) ?_ ?_
  rotate_left
  · intro w'
    go_simp
    with_reducible rfl
  rotate_left
  · simp only [Act.put, List.setIfInBounds_toArray, List.set_cons_zero, List.set_cons_succ, i64_w, i32_w]
    rfl
  refine done_ (by kernel_rfl) ?_

  have HB_41 := Aside0.mk hHeld.2.2.2.1
  have BA_41 := Aside0.mk hHeld.2.2.1
  have O6_41 := Aside0.mk hHeld.2.2.2.2.1
  have O7_41 := Aside0.mk hHeld.2.2.2.2.2.1
  have O8_41 := Aside0.mk hHeld.2.2.2.2.2.2
  clear hHeld hS hb HB_14 BA_14 O6_14 O7_14 O8_14
  go_wp2_with (first | ((with_reducible refine gate_dst (N := 36) rfl ?_); refine wpList_load_row rfl 29 (.tmp 7) rfl g7 rfl 29 _ (0, 0) _ O7_41.out.b hu29 rfl HI29.out ?_) | ((with_reducible refine gate_callee (f := 47) rfl ?_); (with_reducible refine gate_dst (N := 38) rfl ?_); refine goesL_ (some 38) rfl rfl Try.func47 (by kernel_rfl) rfl #[.agg #[.slice Ax m.length cx], .int .i64 1] rfl (by (try simp only [List.map_toArray, List.map_cons, List.map_nil]); first | done | rfl) ?_; (with_reducible refine (laws_markFlash.calls k _ Ax m.length cx m 1 kx mx w _ HB_41.out O7_41.out.s HMX.out).mono ?_); rintro e w42 ⟨rfl, hS, hb, hk⟩; refine ⟨_, rfl, ?_⟩; have HB_42 := Aside0.mk hb; have BA_42 := Aside0.mk (blk_kept BA_41.out hk (fun h_ => by have h1_ := h_.1; have := LT_A_O7.out; omega)); have O6_42 := Aside0.mk (O6_41.out.kept hk (.inl LT_O6_O7.out)); have O8_42 := Aside0.mk (O8_41.out.kept hk (.inr (Nat.le_trans O7_41.out.hg (Nat.le_of_lt LT_O7_O8.out)))); have O7_42 := Aside0.mk (O7_41.out.marked hk hS); clear hS hb hk HB_41 O7_41 BA_41 O6_41 O8_41) | ((with_reducible refine gate_dst (N := 42) rfl ?_); refine gate_guard (by rfl) ?_; refine wpList_load_row rfl 29 (.tmp 8) rfl g8 rfl 29 _ (0, 0) _ O8_42.out.b hu29 rfl HI29.out ?_) | ((with_reducible refine gate_dst (N := 43) rfl ?_); refine gate_guard (by rfl) ?_; refine wpList_load_row rfl 29 (.tmp 6) rfl g6 rfl 29 _ (0, 0) _ O6_42.out.b hu29 rfl HI29.out ?_) | ((with_reducible refine gate_callee (f := 32) rfl ?_); (with_reducible refine gate_dst (N := 44) rfl ?_); refine gate_guard (by rfl) ?_; refine goesL_ (some 44) rfl rfl Try.func32 (by kernel_rfl) rfl #[.agg #[.slice Ag ri.length cg], .agg #[.slice Aw rs.length cw]] rfl (by (try simp only [List.map_toArray, List.map_cons, List.map_nil]); first | done | rfl) ?_; (with_reducible refine (eq_at O8_42.out.s O6_42.out.s HE1.out).mono ?_); rintro e w43 ⟨rfl, hb⟩; refine ⟨_, rfl, ?_⟩; have HB_43 := Aside0.mk (below_step HB_42.out hb); have BA_43 := Aside0.mk (blk_below BA_42.out hb); have O6_43 := Aside0.mk (O6_42.out.below hb); have O7_43 := Aside0.mk (O7_42.out.below hb); have O8_43 := Aside0.mk (O8_42.out.below hb); clear hb HB_42 BA_42 O6_42 O7_42 O8_42) | ((with_reducible refine gate_dst (N := 47) rfl ?_); refine wpList_load_row rfl 29 (.tmp 8) rfl g8 rfl 29 _ (0, 0) _ O8_43.out.b hu29 rfl HI29.out ?_) | ((with_reducible refine gate_callee (f := 47) rfl ?_); (with_reducible refine gate_dst (N := 49) rfl ?_); refine goesL_ (some 49) rfl rfl Try.func47 (by kernel_rfl) rfl #[.agg #[.slice Ag ri.length cg], .int .i64 1] rfl (by (try simp only [List.map_toArray, List.map_cons, List.map_nil]); first | done | rfl) ?_; (with_reducible refine (laws_markFlash.calls k _ Ag ri.length cg ri 1 kg rg w _ HB_43.out O8_43.out.s HMG.out).mono ?_); rintro e w44 ⟨rfl, hS, hb, hk⟩; refine ⟨_, rfl, ?_⟩; have HB_44 := Aside0.mk hb; have BA_44 := Aside0.mk (blk_kept BA_43.out hk (fun h_ => by have h1_ := h_.1; have := LT_A_O8.out; omega)); have O6_44 := Aside0.mk (O6_43.out.kept hk (.inl LT_O6_O8.out)); have O7_44 := Aside0.mk (O7_43.out.kept hk (.inl LT_O7_O8.out)); have O8_44 := Aside0.mk (O8_43.out.marked hk hS); clear hS hb hk HB_43 O8_43 BA_43 O6_43 O7_43) | ((with_reducible refine gate_dst (N := 50) rfl ?_); refine wpList_load_row rfl 29 (.tmp 8) rfl g8 rfl 29 _ (0, 0) _ O8_44.out.b hu29 rfl HI29.out ?_) | ((with_reducible refine gate_callee (f := 48) rfl ?_); (with_reducible refine gate_dst (N := 52) rfl ?_); refine goesL_ (some 52) rfl rfl Try.func48 (by kernel_rfl) rfl #[.agg #[.slice Ag ri.length cg], .int .i64 1] rfl (by (try simp only [List.map_toArray, List.map_cons, List.map_nil]); first | done | rfl) ?_; (with_reducible refine (held_at O8_44.out.s HH.out).mono ?_); rintro e w45 ⟨rfl, hb⟩; refine ⟨_, rfl, ?_⟩; have HB_45 := Aside0.mk (below_step HB_44.out hb); have BA_45 := Aside0.mk (blk_below BA_44.out hb); have O6_45 := Aside0.mk (O6_44.out.below hb); have O7_45 := Aside0.mk (O7_44.out.below hb); have O8_45 := Aside0.mk (O8_44.out.below hb); clear hb HB_44 BA_44 O6_44 O7_44 O8_44) | ((with_reducible refine gate_dst (N := 58) rfl ?_); refine wpList_load_row rfl 44 (.tmp 2) rfl gA rfl 44 _ (0, 0) _ BA_45.out hu44 rfl HI44.out ?_) | ((with_reducible refine gate_callee (f := 30) rfl ?_); (with_reducible refine gate_dst (N := 59) rfl ?_); refine goesL_ (some 59) rfl rfl Try.func30 (by kernel_rfl) rfl #[.agg #[.slice A0_0 l0_0.length c0_0]] rfl (by (try simp only [List.map_toArray, List.map_cons, List.map_nil]); first | done | rfl) ?_; (with_reducible refine (laws_toFlash.calls k A0_0 c0_0 l0_0 m _ (Kd.C_below HR.out HB_45.out) HC.out HTO.out).mono ?_); rintro e w46 ⟨v_, rfl, hS, hb⟩; refine ⟨_, rfl, ?_⟩; obtain ⟨Ab, cb, e_⟩ := Kd.S_slice hS; subst e_; have Sb := Aside0.mk hS; have LOb := Aside0.mk (⟨HB_45.out.size, hb.size⟩ : w.heap.size ≤ w45.heap.size ∧ w45.heap.size ≤ _); clear hS; have HB_46 := Aside0.mk (below_step HB_45.out hb); have BA_46 := Aside0.mk (blk_below BA_45.out hb); have O6_46 := Aside0.mk (O6_45.out.below hb); have O7_46 := Aside0.mk (O7_45.out.below hb); have O8_46 := Aside0.mk (O8_45.out.below hb); clear hb HB_45 BA_45 O6_45 O7_45 O8_45) | ((with_reducible refine gate_callee (f := 46) rfl ?_); (with_reducible refine gate_dst (N := 61) rfl ?_); refine goesL_ (some 61) rfl rfl Try.func46 (by kernel_rfl) rfl #[.agg #[.slice Ab m.length cb], .int .i64 a1] rfl (by (try simp only [List.map_toArray, List.map_cons, List.map_nil]); first | done | rfl) ?_; (with_reducible refine (impl_MarkBad.calls k Ab cb m a1 ri _ (Kd.S_reads' Sb.out).2.2 (Kd.S_reads' Sb.out).2.1 HI_.out).mono ?_); rintro e w47 ⟨v_, rfl, hS, hb⟩; refine ⟨_, rfl, ?_⟩; obtain ⟨Ah, ch, e_⟩ := Kd.S_slice hS; subst e_; have Sh := Aside0.mk hS; have LOh := Aside0.mk (⟨HB_46.out.size, hb.size⟩ : w.heap.size ≤ w46.heap.size ∧ w46.heap.size ≤ _); clear hS; have LT_O6_O12 := Aside0.mk (blk_lt O6_46.out.b); have LT_O7_O12 := Aside0.mk (blk_lt O7_46.out.b); have LT_O8_O12 := Aside0.mk (blk_lt O8_46.out.b); have LT_A_O12 := Aside0.mk (blk_lt BA_46.out); have HB_47 := Aside0.mk (below_step HB_46.out hb); have BA_47 := Aside0.mk (blk_below BA_46.out hb); have O6_47 := Aside0.mk (O6_46.out.below hb); have O7_47 := Aside0.mk (O7_46.out.below hb); have O8_47 := Aside0.mk (O8_46.out.below hb); clear hb Sb LOb HB_46 BA_46 O6_46 O7_46 O8_46) | ((with_reducible refine gate_dst (N := 12) rfl ?_); refine box_event ?hg (N := 12) ?hd (cs := #[.slice none 0 0]) (t := 29) ?hr ?_; (case hd => rfl); (case hg => rfl); (case hr => first | (go_simp; done) | (go_simp; rfl)); intro g12 hg w48 hbox hb; have GE12 := Aside0.mk ((by rw [hg]; exact HB_47.out.size) : w.heap.size ≤ g12); have R_O6_O12 := Aside0.mk ((by rw [hg]; exact blk_lt O6_47.out.b) : g6 < g12); have R_O7_O12 := Aside0.mk ((by rw [hg]; exact blk_lt O7_47.out.b) : g7 < g12); have R_O8_O12 := Aside0.mk ((by rw [hg]; exact blk_lt O8_47.out.b) : g8 < g12); have RA_O12 := Aside0.mk ((by rw [hg]; exact blk_lt BA_47.out) : gA < g12); have HB_48 := Aside0.mk (below_step HB_47.out hb); have BA_48 := Aside0.mk (blk_below BA_47.out hb); have O6_48 := Aside0.mk (O6_47.out.below hb); have O7_48 := Aside0.mk (O7_47.out.below hb); have O8_48 := Aside0.mk (O8_47.out.below hb); have MK := Aside0.mk (fun W' (e_ : W' = World.setRow w48 g12 #[.slice Ah ri.length ch]) => (by rw [e_]; exact Ok.make Sh.out LOh.out hg hbox hb : Ok w g12 Ah ri.length ch ri w46.heap.size w47.heap.size W')); have BX := Aside0.mk hbox; clear hg hbox hb Sh LOh HB_47 BA_47 O6_47 O7_47 O8_47) | ((with_reducible refine gate_store (t := 29) (p := 12) rfl ?_); refine row_event39 rfl 29 (.tmp 12) (.tmp 61) rfl g12 #[.slice Ah ri.length ch] rfl (by first | rfl | (go_simp; done) | (go_simp; rfl)) 29 _ BX.out HI29.out rfl (by simp [Value.oneCell']) ?_; intro w49 hw; have O12_49 := Aside0.mk (MK.out _ hw); have HB_49 := Aside0.mk (by rw [hw]; exact below_row39 HB_48.out GE12.out _ : Below w.heap.size w w49); have BA_49 := Aside0.mk (by rw [hw]; exact (setRow_other _ _ _ _ (by have := RA_O12.out; omega)).trans BA_48.out : w49.heap[gA]? = some (.cells #[.slice A0_0 l0_0.length c0_0] 44 (0, 0))); have O6_49 := Aside0.mk (by rw [hw]; exact O6_48.out.row R_O6_O12.out _ : Ok w g6 _ _ _ _ _ _ w49); have O7_49 := Aside0.mk (by rw [hw]; exact O7_48.out.row R_O7_O12.out _ : Ok w g7 _ _ _ _ _ _ w49); have O8_49 := Aside0.mk (by rw [hw]; exact O8_48.out.row R_O8_O12.out _ : Ok w g8 _ _ _ _ _ _ w49); clear hw MK BX HB_48 BA_48 O6_48 O7_48 O8_48) | ((with_reducible refine gate_dst (N := 62) rfl ?_); refine wpList_load_row rfl 29 (.tmp 12) rfl g12 rfl 29 _ (0, 0) _ O12_49.out.b hu29 rfl HI29.out ?_) | ((with_reducible refine gate_dst (N := 63) rfl ?_); refine wpList_load_row rfl 29 (.tmp 6) rfl g6 rfl 29 _ (0, 0) _ O6_49.out.b hu29 rfl HI29.out ?_) | ((with_reducible refine gate_callee (f := 32) rfl ?_); (with_reducible refine gate_dst (N := 64) rfl ?_); refine goesL_ (some 64) rfl rfl Try.func32 (by kernel_rfl) rfl #[.agg #[.slice Ah ri.length ch], .agg #[.slice Aw rs.length cw]] rfl (by (try simp only [List.map_toArray, List.map_cons, List.map_nil]); first | done | rfl) ?_; (with_reducible refine (eq_at O12_49.out.s O6_49.out.s HE1.out).mono ?_); rintro e w50 ⟨rfl, hb⟩; refine ⟨_, rfl, ?_⟩; have HB_50 := Aside0.mk (below_step HB_49.out hb); have BA_50 := Aside0.mk (blk_below BA_49.out hb); have O6_50 := Aside0.mk (O6_49.out.below hb); have O7_50 := Aside0.mk (O7_49.out.below hb); have O8_50 := Aside0.mk (O8_49.out.below hb); have O12_50 := Aside0.mk (O12_49.out.below hb); clear hb HB_49 BA_49 O6_49 O7_49 O8_49 O12_49) | ((with_reducible refine gate_dst (N := 66) rfl ?_); refine wpList_load_row rfl 29 (.tmp 8) rfl g8 rfl 29 _ (0, 0) _ O8_50.out.b hu29 rfl HI29.out ?_) | ((with_reducible refine gate_callee (f := 48) rfl ?_); (with_reducible refine gate_dst (N := 68) rfl ?_); refine goesL_ (some 68) rfl rfl Try.func48 (by kernel_rfl) rfl #[.agg #[.slice Ag ri.length cg], .int .i64 1] rfl (by (try simp only [List.map_toArray, List.map_cons, List.map_nil]); first | done | rfl) ?_; (with_reducible refine (held_at O8_50.out.s HH.out).mono ?_); rintro e w51 ⟨rfl, hb⟩; refine ⟨_, rfl, ?_⟩; have HB_51 := Aside0.mk (below_step HB_50.out hb); have BA_51 := Aside0.mk (blk_below BA_50.out hb); have O6_51 := Aside0.mk (O6_50.out.below hb); have O7_51 := Aside0.mk (O7_50.out.below hb); have O8_51 := Aside0.mk (O8_50.out.below hb); have O12_51 := Aside0.mk (O12_50.out.below hb); clear hb HB_50 BA_50 O6_50 O7_50 O8_50 O12_50))
  go_ret
  exact ⟨rfl, HB_51.out⟩
/-- The law as a plain function: told where it answers true. -/
def laws_FnExactMarkBad.f (k : Nat) (l0_0 : List (S103)) (a1 : Int) : Option (Bool) :=
  (laws_szFlash.f k l0_0 1048576).bind fun sz => if sz < 0 then some true else
    ((laws_toFlash.f k l0_0).bind fun m => (spec_MarkBad.f k m a1).bind fun rs => (impl_MarkBad.f k m a1).bind fun ri => (laws_eqFlash.f k ri rs).bind fun e1 => (laws_eqFlash.f k m m).bind fun e2 =>
      (laws_markFlash.f k m 1).bind fun x => (laws_markFlash.f k ri 1).bind fun y => (laws_heldFlash.f k y.2 1).bind fun q =>
        if e1 = true ∧ e2 = true ∧ ¬ x.1 < 0 ∧ q = y.1 ∧ ¬ q < 0 then some true else none)
theorem laws_FnExactMarkBad.calls (k : Nat) (A0_0 : Option Addr) (c0_0 : Nat) (l0_0 : List (S103)) (a1 : Int) (r : Bool) (w : World) (hr0_0 : Kd.C k103 w A0_0 l0_0.length l0_0) (hc0_0 : l0_0.length ≤ c0_0) (h : laws_FnExactMarkBad.f k l0_0 a1 = some r) :
    Calls Try.prog 11 #[.agg #[.slice A0_0 l0_0.length c0_0], .int .i64 a1] w fun e w' => e = .returned (.bool r) ∧ Below w.heap.size w w' := by
  unfold laws_FnExactMarkBad.f at h
  obtain ⟨sz, hsz, h⟩ := Option.bind_eq_some_iff.mp h
  split at h
  · rename_i hz
    obtain rfl := Option.some.inj h
    exact laws_FnExactMarkBad.big_ k A0_0 c0_0 l0_0 a1 sz w hr0_0 hc0_0 hsz hz
  · rename_i hz
    obtain ⟨m, hto, h⟩ := Option.bind_eq_some_iff.mp h
    obtain ⟨rs, hs, h⟩ := Option.bind_eq_some_iff.mp h
    obtain ⟨ri, hi, h⟩ := Option.bind_eq_some_iff.mp h
    obtain ⟨e1, he1, h⟩ := Option.bind_eq_some_iff.mp h
    obtain ⟨e2, he2, h⟩ := Option.bind_eq_some_iff.mp h
    obtain ⟨⟨kx, mx⟩, hmx, h⟩ := Option.bind_eq_some_iff.mp h
    obtain ⟨⟨kg, rg⟩, hmg, h⟩ := Option.bind_eq_some_iff.mp h
    obtain ⟨q, hh, h⟩ := Option.bind_eq_some_iff.mp h
    split at h
    · rename_i hc
      obtain rfl := Option.some.inj h
      obtain ⟨rfl, rfl, hkx, rfl, hkg⟩ := hc
      exact laws_FnExactMarkBad.walk_ k A0_0 c0_0 l0_0 a1 sz kx _ m rs ri mx rg w hr0_0 hc0_0 hsz hz hto hs hi he1 he2 hmx hkx hmg hh hkg
    · cases h

end Go.Proofs.Ytbafmoggckeaeaa.QFnExactMarkBad
