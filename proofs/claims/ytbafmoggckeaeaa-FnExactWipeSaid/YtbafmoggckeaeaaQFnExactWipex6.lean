/- What is proved here: contracts of functions that the law FnExactWipe reaches, each told as a plain function. Conditions: those of each contract. (Written by a program of ours.) -/
import Derived.Test.YtbafmoggckeaeaaQFnExactWipex0
import Derived.Test.YtbafmoggckeaeaaQFnExactWipex5
namespace Go.Proofs.Ytbafmoggckeaeaa.QFnExactWipe
open Go.RowKit Go.Proofs.YtbafmoggckeaeaaW.PrintWords Go.Proofs.YtbafmoggckeaeaaW.PrintLast Go.Proofs.YtbafmoggckeaeaaW.PrintMore
attribute [local go_sem] max2_int min2_int max_two min_two max_three min_three max_four min_four   -- for this text's walks alone
set_option linter.unusedVariables false
set_option linter.unusedSimpArgs false

/-! ### impl_FlashOk: function 31 -/
mutual
def impl_FlashOk.l0 : Nat → List (S39) → Int → Int → List (S39) → Option (Bool)
  | 0, _, _, _, _ => none
  | k + 1, x8, x9, x10, x225000 => if x10 < x9 then (if 0 ≤ x10 then (if x10 < (x8.length : Int) then (if (((rd_T39 x8 x10).f2).length : Int) = 4 then ((impl_in.f ((rd_T39 x8 x10).f1) 0 1000000000).bind fun t228 => (impl_FlashOk.j1 k x8 x9 x10 (!t228) x225000 ((rd_T39 x8 x10).f0) ((rd_T39 x8 x10).f1) ((rd_T39 x8 x10).f2))) else (impl_FlashOk.j1 k x8 x9 x10 true x225000 ((rd_T39 x8 x10).f0) ((rd_T39 x8 x10).f1) ((rd_T39 x8 x10).f2))) else (none)) else (none)) else ((impl_in.f (x225000.length : Int) 3 10).bind fun t225 => (some t225))
def impl_FlashOk.j1 : Nat → List (S39) → Int → Int → Bool → List (S39) → Bool → Int → List (S63) → Option (Bool)
  | 0, _, _, _, _, _, _, _, _ => none
  | k + 1, x8, x9, x10, x23, x225000, x228000, x228001, x228002 => if x23 = true then (some false) else (impl_FlashOk.l1 k x8 x9 x10 x228002 (x228002.length : Int) 0 x225000 x228000 x228001 x228002)
def impl_FlashOk.l1 : Nat → List (S39) → Int → Int → List (S63) → Int → Int → List (S39) → Bool → Int → List (S63) → Option (Bool)
  | 0, _, _, _, _, _, _, _, _, _, _ => none
  | k + 1, x8, x9, x10, x25, x26, x27, x225000, x228000, x228001, x228002 => if x27 < x26 then (if 0 ≤ x27 then (if x27 < (x25.length : Int) then ((impl_leafOk.f ((rd_T63 x25 x27).f0) ((rd_T63 x25 x27).f1)).bind fun t231 => (if t231 = true then (if x27 > 0 then (if 0 ≤ (wrap64 (x27 - 1)) then (if (wrap64 (x27 - 1)) < (x228002.length : Int) then (if ((rd_T63 x228002 (wrap64 (x27 - 1))).f0) = 0 then (if ((rd_T63 x25 x27).f0) = 0 then (impl_FlashOk.l1 k x8 x9 x10 x25 x26 (wrap64 (x27 + 1)) x225000 x228000 x228001 x228002) else (some false)) else (impl_FlashOk.l1 k x8 x9 x10 x25 x26 (wrap64 (x27 + 1)) x225000 x228000 x228001 x228002)) else (none)) else (none)) else (impl_FlashOk.l1 k x8 x9 x10 x25 x26 (wrap64 (x27 + 1)) x225000 x228000 x228001 x228002)) else (some false))) else (none)) else (none)) else (impl_FlashOk.l0 k x8 x9 (wrap64 (x10 + 1)) x225000)
end
def impl_FlashOk.f (k : Nat) (l0_0 : List (S39)) : Option (Bool) := impl_FlashOk.l0 k l0_0 (l0_0.length : Int) 0 l0_0
theorem impl_FlashOk.mono_l : ∀ k, (∀ y0 y1 y2 y3, LeO (impl_FlashOk.l0 k y0 y1 y2 y3) (impl_FlashOk.l0 (k + 1) y0 y1 y2 y3)) ∧ (∀ y0 y1 y2 y3 y4 y5 y6 y7, LeO (impl_FlashOk.j1 k y0 y1 y2 y3 y4 y5 y6 y7) (impl_FlashOk.j1 (k + 1) y0 y1 y2 y3 y4 y5 y6 y7)) ∧ (∀ y0 y1 y2 y3 y4 y5 y6 y7 y8 y9, LeO (impl_FlashOk.l1 k y0 y1 y2 y3 y4 y5 y6 y7 y8 y9) (impl_FlashOk.l1 (k + 1) y0 y1 y2 y3 y4 y5 y6 y7 y8 y9))
  | 0 => ⟨fun _ _ _ _ r h => by simp [impl_FlashOk.l0] at h, fun _ _ _ _ _ _ _ _ r h => by simp [impl_FlashOk.j1] at h, fun _ _ _ _ _ _ _ _ _ _ r h => by simp [impl_FlashOk.l1] at h⟩
  | k + 1 => by
    obtain ⟨ih0, ih1, ih2⟩ := impl_FlashOk.mono_l k
    refine ⟨?_, ?_, ?_⟩
    · intro y0 y1 y2 y3
      unfold impl_FlashOk.l0
      repeat' first
      | (with_reducible exact ih0 _ _ _ _)
      | (with_reducible exact ih1 _ _ _ _ _ _ _ _)
      | (with_reducible exact ih2 _ _ _ _ _ _ _ _ _ _)
      | (with_reducible exact LeO.refl _)
      | (with_reducible exact LeO.none _)
      | (with_reducible refine LeO.ite ?_ ?_)
      | (with_reducible refine LeO.bind ?_ (fun _ => ?_))
      | exact ih0 _ _ _ _
      | exact ih1 _ _ _ _ _ _ _ _
      | exact ih2 _ _ _ _ _ _ _ _ _ _
      | exact LeO.none _
      | refine LeO.ite ?_ ?_
      | refine LeO.bind ?_ (fun _ => ?_)
    · intro y0 y1 y2 y3 y4 y5 y6 y7
      unfold impl_FlashOk.j1
      repeat' first
      | (with_reducible exact ih0 _ _ _ _)
      | (with_reducible exact ih1 _ _ _ _ _ _ _ _)
      | (with_reducible exact ih2 _ _ _ _ _ _ _ _ _ _)
      | (with_reducible exact LeO.refl _)
      | (with_reducible exact LeO.none _)
      | (with_reducible refine LeO.ite ?_ ?_)
      | (with_reducible refine LeO.bind ?_ (fun _ => ?_))
      | exact ih0 _ _ _ _
      | exact ih1 _ _ _ _ _ _ _ _
      | exact ih2 _ _ _ _ _ _ _ _ _ _
      | exact LeO.none _
      | refine LeO.ite ?_ ?_
      | refine LeO.bind ?_ (fun _ => ?_)
    · intro y0 y1 y2 y3 y4 y5 y6 y7 y8 y9
      unfold impl_FlashOk.l1
      repeat' first
      | (with_reducible exact ih0 _ _ _ _)
      | (with_reducible exact ih1 _ _ _ _ _ _ _ _)
      | (with_reducible exact ih2 _ _ _ _ _ _ _ _ _ _)
      | (with_reducible exact LeO.refl _)
      | (with_reducible exact LeO.none _)
      | (with_reducible refine LeO.ite ?_ ?_)
      | (with_reducible refine LeO.bind ?_ (fun _ => ?_))
      | exact ih0 _ _ _ _
      | exact ih1 _ _ _ _ _ _ _ _
      | exact ih2 _ _ _ _ _ _ _ _ _ _
      | exact LeO.none _
      | refine LeO.ite ?_ ?_
      | refine LeO.bind ?_ (fun _ => ?_)
theorem impl_FlashOk.mono : ∀ a0 k, LeO (impl_FlashOk.f k a0) (impl_FlashOk.f (k + 1) a0) := by
  intro a0 k
  obtain ⟨ih0, ih1, ih2⟩ := impl_FlashOk.mono_l k
  unfold impl_FlashOk.f
  repeat' first
      | (with_reducible exact ih0 _ _ _ _)
      | (with_reducible exact ih1 _ _ _ _ _ _ _ _)
      | (with_reducible exact ih2 _ _ _ _ _ _ _ _ _ _)
      | (with_reducible exact LeO.refl _)
      | (with_reducible exact LeO.none _)
      | (with_reducible refine LeO.ite ?_ ?_)
      | (with_reducible refine LeO.bind ?_ (fun _ => ?_))
      | exact ih0 _ _ _ _
      | exact ih1 _ _ _ _ _ _ _ _
      | exact ih2 _ _ _ _ _ _ _ _ _ _
      | exact LeO.none _
      | refine LeO.ite ?_ ?_
      | refine LeO.bind ?_ (fun _ => ?_)
set_option maxHeartbeats 8000000 in
set_option maxRecDepth 100000 in
theorem impl_FlashOk.calls (k : Nat) (A0_0 : Option Addr) (c0_0 : Nat) (l0_0 : List (S39)) (r : Bool) (w : World) (hr0_0 : Kd.C k39 w A0_0 l0_0.length l0_0) (hc0_0 : l0_0.length ≤ c0_0) (h : impl_FlashOk.f k l0_0 = some r) :
    Calls Try.prog 31 #[.agg #[.slice A0_0 l0_0.length c0_0]] w fun e w' => e = .returned (.bool r) ∧ Below w.heap.size w w' := by
  have hu29 := Try.underlying29
  have hu39 := Try.underlying39
  have hu63 := Try.underlying63
  have HR0_0 := Aside0.mk hr0_0
  have HC0_0 := Aside0.mk hc0_0
  clear hr0_0 hc0_0
  have HB := Aside0.mk (Below.refl w.heap.size w)
  have H : (impl_FlashOk.l0 k l0_0 (l0_0.length : Int) 0 l0_0) = some r := h
  clear h
  have H' := Aside0.mk H
  clear H
  go_enter Try.func31, Try.ntmps31
  go_wp2_with (first | ((with_reducible refine gate_dst (N := 1) rfl ?_); refine box_event ?hg (N := 1) ?hd (cs := #[.slice A0_0 l0_0.length c0_0]) (t := 29) ?hr ?_; (case hd => rfl); (case hg => rfl); (case hr => first | (go_simp; done) | (go_simp; rfl)); intro gb224 hg w2 hbox hb; have n0_ := Aside0.mk (below_step (by repeat (first | (with_reducible first | exact HB.out | apply below_alloc | apply pw_below_drewN | apply below_drew1) | exact HB.out)) hb); have n1_ := Aside0.mk (hbox); have n2_ := Aside0.mk ((by rw [hg]; exact (below_size (by repeat (first | (with_reducible first | exact HB.out | apply below_alloc | apply pw_below_drewN | apply below_drew1) | exact HB.out))) : w.heap.size ≤ gb224)); have n3_ := Aside0.mk ((by rw [hg]; exact (below_size (by repeat (first | (with_reducible first | exact HB.out | apply below_alloc | apply pw_below_drewN | apply below_drew1) | exact HB.out))) : w.heap.size ≤ gb224)); clear HB; have HB := n0_; have BK224 := n1_; have GW224 := n2_; have GE224 := n3_; clear n0_ n1_ n2_ n3_; clear hb hbox hg; have hcz3_0 : w2.cell? ⟨gb224, 0, none⟩ = some (.slice A0_0 l0_0.length c0_0) := (blk_cell BK224.out 0).trans rfl; have hfz3_0 := blk_frozen BK224.out 0))
  try go_simp
  go_loopg [10] k (fun kq v10 w' => ∃ (x10_1 : Int), v10 = .int .i64 x10_1 ∧ Aside0 (impl_FlashOk.l0 kq l0_0 (l0_0.length : Int) x10_1 l0_0 = some r) ∧ Aside0 (kq ≤ k) ∧ Aside0 (w'.heap[gb224]? = some (.cells #[(.slice A0_0 l0_0.length c0_0)] 29 (0, 0))) ∧ Aside0 (Below w.heap.size w w'))
  case atStart => exact ⟨(0), (by first | rfl | (simp; done) | (simp [*]; done)), H', ⟨Nat.le_refl _⟩, ⟨by (with_reducible repeat (first | refine blk_drewN ?_ _ | refine blk_drew ?_ | refine blk_alloc ?_ _)); exact BK224.out⟩, ⟨by repeat (first | (with_reducible first | exact HB.out | apply below_alloc | apply pw_below_drewN | apply below_drew1 | refine below_set ?_ GE224.out) | exact HB.out)⟩⟩
  case round =>
    clear H'
    try clear p2
    try clear c3
    try clear hcz3_0
    try clear hfz3_0
    obtain ⟨x10_1, rfl, HA, HK1, BK224, HB⟩ := hrel
    cases gk with
    | zero => exact absurd HA.out (by simp [impl_FlashOk.l0])
    | succ k1 =>
      have H := HA.out
      clear HA
      simp only [impl_FlashOk.l0] at H
      by_cases c4 : x10_1 < (l0_0.length : Int)
      · rw [if_pos c4] at H
        have c4b0 : decide (x10_1 < (l0_0.length : Int)) = true := decide_eq_true c4
        clear c4
        by_cases c5 : 0 ≤ x10_1
        · rw [if_pos c5] at H
          have c5b0 : decide (0 ≤ x10_1) = true := decide_eq_true c5
          clear c5
          by_cases c6 : x10_1 < (l0_0.length : Int)
          · rw [if_pos c6] at H
            have c6b0 : decide (x10_1 < (l0_0.length : Int)) = true := decide_eq_true c6
            clear c6
            have HC7 := Aside0.mk H
            clear H
            have p226 : 0 ≤ (x10_1 : Int) := of_decide_eq_true (by first | (with_reducible assumption) | assumption)
            have q226 : x10_1 < (l0_0.length : Int) := of_decide_eq_true (by first | (with_reducible assumption) | assumption)
            obtain ⟨ad226, A226_2, c226_2, e226, hx226_0, hx226_1, hx226_2, hl226_2, hi226_2⟩ := at_T39 HR0_0.out x10_1 p226 q226
            cases e226
            replace hx226_0 := (HB.out.cell (World.block_lt_of_cell? w _ hx226_0)).trans hx226_0
            replace hx226_1 := (HB.out.cell (World.block_lt_of_cell? w _ hx226_1)).trans hx226_1
            replace hx226_2 := (HB.out.cell (World.block_lt_of_cell? w _ hx226_2)).trans hx226_2
            have HR226_2 := Aside0.mk hi226_2
            have HC226_2 := Aside0.mk hl226_2
            clear hi226_2 hl226_2
            replace p226 := eq_true p226
            replace q226 := eq_true q226
            go_upto_region 4 with (first | ((with_reducible refine gate_dst (N := 4) rfl ?_); refine box_event ?hg (N := 4) ?hd (cs := #[.bool false, .int .i64 0, .slice none 0 0]) (t := 39) ?hr ?_; (case hd => rfl); (case hg => rfl); (case hr => first | (go_simp; done) | (go_simp; rfl)); intro gb227 hg w8 hbox hb; have n0_ := Aside0.mk (blk_below (g := gb224) (o := .cells #[.slice (some ad226) l0_0.length c0_0] 29 (0, 0)) (by (with_reducible repeat (first | refine blk_drewN ?_ _ | refine blk_drew ?_ | refine blk_alloc ?_ _)); exact BK224.out) hb); have n1_ := Aside0.mk (below_step (by repeat (first | (with_reducible first | exact HB.out | apply below_alloc | apply pw_below_drewN | apply below_drew1 | refine below_set ?_ GE224.out) | exact HB.out)) hb); have n2_ := Aside0.mk (hbox); have n3_ := Aside0.mk ((by rw [hg]; exact (below_size (by repeat (first | (with_reducible first | exact HB.out | apply below_alloc | apply pw_below_drewN | apply below_drew1 | refine below_set ?_ GE224.out) | exact HB.out))) : w.heap.size ≤ gb227)); have n4_ := Aside0.mk ((by rw [hg]; exact (below_size (by repeat (first | (with_reducible first | exact HB.out | apply below_alloc | apply pw_below_drewN | apply below_drew1 | refine below_set ?_ GE224.out) | exact HB.out))) : w.heap.size ≤ gb227)); have n5_ := Aside0.mk ((by rw [hg]; exact Nat.ne_of_lt (blk_lt (g := gb224) (o := .cells #[.slice (some ad226) l0_0.length c0_0] 29 (0, 0)) (by (with_reducible repeat (first | refine blk_drewN ?_ _ | refine blk_drew ?_ | refine blk_alloc ?_ _)); exact BK224.out)) : gb224 ≠ gb227)); have n6_ := Aside0.mk ((by rw [hg]; exact Nat.ne_of_gt (blk_lt (g := gb224) (o := .cells #[.slice (some ad226) l0_0.length c0_0] 29 (0, 0)) (by (with_reducible repeat (first | refine blk_drewN ?_ _ | refine blk_drew ?_ | refine blk_alloc ?_ _)); exact BK224.out)) : gb227 ≠ gb224)); clear BK224; clear HB; have BK224 := n0_; have HB := n1_; have BK227 := n2_; have GW227 := n3_; have GE227 := n4_; have NB224_227 := n5_; have NB227_224 := n6_; clear n0_ n1_ n2_ n3_ n4_ n5_ n6_; clear hb hbox hg; have hnb9 := NB227_224.out; have hnc9 := NB224_227.out; have hcz10_0 : w8.cell? ⟨gb227, 0, none⟩ = some (.bool false) := (blk_cell BK227.out 0).trans rfl; have hcz10_1 : w8.cell? ⟨gb227, 1, none⟩ = some (.int .i64 0) := (blk_cell BK227.out 1).trans rfl; have hcz10_2 : w8.cell? ⟨gb227, 2, none⟩ = some (.slice none 0 0) := (blk_cell BK227.out 2).trans rfl; have hfz10_0 := blk_frozen BK227.out 0; have hfz10_1 := blk_frozen BK227.out 1; have hfz10_2 := blk_frozen BK227.out 2))
            (try simp only [Act.put, List.setIfInBounds_toArray, List.set_cons_zero, List.set_cons_succ])
            go_cut [23] (fun v23 wc => ∃ (kq : Nat) (x23_6 : Bool), v23 = .bool x23_6 ∧ Aside0 (impl_FlashOk.j1 kq l0_0 (l0_0.length : Int) x10_1 x23_6 l0_0 ((rd_T39 l0_0 x10_1).f0) ((rd_T39 l0_0 x10_1).f1) ((rd_T39 l0_0 x10_1).f2) = some r) ∧ Aside0 (kq ≤ k1) ∧ Aside0 (wc.heap[gb224]? = some (.cells #[(.slice (some ad226) l0_0.length c0_0)] 29 (0, 0))) ∧ Aside0 (wc.heap[gb227]? = some (.cells #[.bool ((rd_T39 l0_0 x10_1).f0), .int .i64 ((rd_T39 l0_0 x10_1).f1), (.slice A226_2 ((rd_T39 l0_0 x10_1).f2).length c226_2)] 39 (0, 0))) ∧ Aside0 (Below w.heap.size w wc))
            case first =>
              have H := HC7.out
              clear HC7
              by_cases c11 : (((rd_T39 l0_0 x10_1).f2).length : Int) = 4
              · rw [if_pos c11] at H
                have c11b0 : ((((rd_T39 l0_0 x10_1).f2).length : Int) == 4) = true := beq_iff_eq.mpr c11
                have c11b1 : ((((rd_T39 l0_0 x10_1).f2).length : Int) != 4) = false := bne_eq_false_iff_eq.mpr c11
                clear c11
                (first | rw [c11b0] | (simp only [i64_w, i32_w]; rw [c11b0]) | skip)
                replace H := Option.bind_eq_some_iff.mp H
                obtain ⟨t228, A120, H⟩ := H
                replace H : (impl_FlashOk.j1 k1 l0_0 (l0_0.length : Int) x10_1 (!t228) l0_0 ((rd_T39 l0_0 x10_1).f0) ((rd_T39 l0_0 x10_1).f1) ((rd_T39 l0_0 x10_1).f2)) = some r := H
                have A12 := Aside0.mk A120
                clear A120
                have H' := Aside0.mk H
                clear H
                have hnb13 := NB227_224.out
                have hnc13 := NB224_227.out
                have hcz14_0 : w8.cell? ⟨gb227, 0, none⟩ = some (.bool false) := (blk_cell BK227.out 0).trans rfl
                have hcz14_1 : w8.cell? ⟨gb227, 1, none⟩ = some (.int .i64 0) := (blk_cell BK227.out 1).trans rfl
                have hcz14_2 : w8.cell? ⟨gb227, 2, none⟩ = some (.slice none 0 0) := (blk_cell BK227.out 2).trans rfl
                have hfz14_0 := blk_frozen BK227.out 0
                have hfz14_1 := blk_frozen BK227.out 1
                have hfz14_2 := blk_frozen BK227.out 2
                go_wp2_with (first | (go_at_call 66; (with_reducible refine (impl_in.calls ((rd_T39 l0_0 x10_1).f1) 0 1000000000 t228 _ A12.out).mono ?_); rintro e w' ⟨rfl, ⟨nd, rfl⟩⟩))
                go_meet
                case rel => exact ⟨_, (!t228), (by first | rfl | (simp; done) | (simp [*]; done)), H', ⟨by have := HK1.out; first | omega | exact Nat.le_refl _⟩, ⟨by (with_reducible repeat (first | refine blk_drewN ?_ _ | refine blk_drew ?_ | refine blk_alloc ?_ _)); refine blk_far ?_ NB224_227.out _; (with_reducible repeat (first | refine blk_drewN ?_ _ | refine blk_drew ?_ | refine blk_alloc ?_ _)); refine blk_far ?_ NB224_227.out _; (with_reducible repeat (first | refine blk_drewN ?_ _ | refine blk_drew ?_ | refine blk_alloc ?_ _)); refine blk_far ?_ NB224_227.out _; (with_reducible repeat (first | refine blk_drewN ?_ _ | refine blk_drew ?_ | refine blk_alloc ?_ _)); exact BK224.out⟩, ⟨by (with_reducible repeat (first | refine blk_drewN ?_ _ | refine blk_drew ?_ | refine blk_alloc ?_ _)); refine blk_put (cs := #[.bool ((rd_T39 l0_0 x10_1).f0), .int .i64 ((rd_T39 l0_0 x10_1).f1), .slice none 0 0]) ?_ 2 _ rfl; (with_reducible repeat (first | refine blk_drewN ?_ _ | refine blk_drew ?_ | refine blk_alloc ?_ _)); refine blk_put (cs := #[.bool ((rd_T39 l0_0 x10_1).f0), .int .i64 0, .slice none 0 0]) ?_ 1 _ rfl; (with_reducible repeat (first | refine blk_drewN ?_ _ | refine blk_drew ?_ | refine blk_alloc ?_ _)); refine blk_put (cs := #[.bool false, .int .i64 0, .slice none 0 0]) ?_ 0 _ rfl; (with_reducible repeat (first | refine blk_drewN ?_ _ | refine blk_drew ?_ | refine blk_alloc ?_ _)); exact BK227.out⟩, ⟨by repeat (first | (with_reducible first | exact HB.out | apply below_alloc | apply pw_below_drewN | apply below_drew1 | refine below_set ?_ GE224.out | refine below_set ?_ GE227.out) | exact HB.out)⟩⟩
              · rw [if_neg c11] at H
                have c11b0 : ((((rd_T39 l0_0 x10_1).f2).length : Int) == 4) = false := beq_eq_false_iff_ne.mpr c11
                have c11b1 : ((((rd_T39 l0_0 x10_1).f2).length : Int) != 4) = true := bne_iff_ne.mpr c11
                (first | rw [c11b0] | (simp only [i64_w, i32_w]; rw [c11b0]) | skip)
                have H' := Aside0.mk H
                clear H
                have hnb15 := NB227_224.out
                have hnc15 := NB224_227.out
                have hcz16_0 : w8.cell? ⟨gb227, 0, none⟩ = some (.bool false) := (blk_cell BK227.out 0).trans rfl
                have hcz16_1 : w8.cell? ⟨gb227, 1, none⟩ = some (.int .i64 0) := (blk_cell BK227.out 1).trans rfl
                have hcz16_2 : w8.cell? ⟨gb227, 2, none⟩ = some (.slice none 0 0) := (blk_cell BK227.out 2).trans rfl
                have hfz16_0 := blk_frozen BK227.out 0
                have hfz16_1 := blk_frozen BK227.out 1
                have hfz16_2 := blk_frozen BK227.out 2
                go_wp2
                go_meet
                case rel => exact ⟨_, (true), (by first | rfl | (simp; done) | (simp [*]; done)), H', ⟨by have := HK1.out; first | omega | exact Nat.le_refl _⟩, ⟨by (with_reducible repeat (first | refine blk_drewN ?_ _ | refine blk_drew ?_ | refine blk_alloc ?_ _)); refine blk_far ?_ NB224_227.out _; (with_reducible repeat (first | refine blk_drewN ?_ _ | refine blk_drew ?_ | refine blk_alloc ?_ _)); refine blk_far ?_ NB224_227.out _; (with_reducible repeat (first | refine blk_drewN ?_ _ | refine blk_drew ?_ | refine blk_alloc ?_ _)); refine blk_far ?_ NB224_227.out _; (with_reducible repeat (first | refine blk_drewN ?_ _ | refine blk_drew ?_ | refine blk_alloc ?_ _)); exact BK224.out⟩, ⟨by (with_reducible repeat (first | refine blk_drewN ?_ _ | refine blk_drew ?_ | refine blk_alloc ?_ _)); refine blk_put (cs := #[.bool ((rd_T39 l0_0 x10_1).f0), .int .i64 ((rd_T39 l0_0 x10_1).f1), .slice none 0 0]) ?_ 2 _ rfl; (with_reducible repeat (first | refine blk_drewN ?_ _ | refine blk_drew ?_ | refine blk_alloc ?_ _)); refine blk_put (cs := #[.bool ((rd_T39 l0_0 x10_1).f0), .int .i64 0, .slice none 0 0]) ?_ 1 _ rfl; (with_reducible repeat (first | refine blk_drewN ?_ _ | refine blk_drew ?_ | refine blk_alloc ?_ _)); refine blk_put (cs := #[.bool false, .int .i64 0, .slice none 0 0]) ?_ 0 _ rfl; (with_reducible repeat (first | refine blk_drewN ?_ _ | refine blk_drew ?_ | refine blk_alloc ?_ _)); exact BK227.out⟩, ⟨by repeat (first | (with_reducible first | exact HB.out | apply below_alloc | apply pw_below_drewN | apply below_drew1 | refine below_set ?_ GE224.out | refine below_set ?_ GE227.out) | exact HB.out)⟩⟩
            case rest =>
              clear HC7
              try clear c1
              try clear c2
              try clear p2
              try clear q2
              try clear hx2
              try clear c3
              try clear c4
              try clear c4b0
              try clear c5
              try clear c5b0
              try clear c6
              try clear c6b0
              try clear c9
              try clear c11
              try clear c11b0
              try clear c11b1
              try clear c13
              try clear c15
              try clear hcz10_0
              try clear hcz10_1
              try clear hcz10_2
              try clear hcz14_0
              try clear hcz14_1
              try clear hcz14_2
              try clear hcz16_0
              try clear hcz16_1
              try clear hcz16_2
              try clear hcz3_0
              try clear hfz10_0
              try clear hfz10_1
              try clear hfz10_2
              try clear hfz14_0
              try clear hfz14_1
              try clear hfz14_2
              try clear hfz16_0
              try clear hfz16_1
              try clear hfz16_2
              try clear hfz3_0
              try clear hx226_0
              try clear hx226_1
              try clear hx226_2
              try clear p2
              try clear p226
              try clear q226
              obtain ⟨kq, x23_6, rfl, HA, HJ6, BK224, BK227, HB⟩ := hcut
              cases kq with
              | zero => exact absurd HA.out (by simp [impl_FlashOk.j1])
              | succ kj6 =>
                have H := HA.out
                clear HA
                simp only [impl_FlashOk.j1] at H
                by_cases c17 : x23_6 = true
                · subst c17
                  have H1 : (some false) = some r := by rw [if_pos rfl] at H; exact H
                  clear H
                  have H := H1
                  clear H1
                  obtain rfl := Option.some.inj H
                  go_wp2
                  go_ret
                  exact ⟨by first | rfl | (simp [errW_none, errW_some] <;> rfl) | (simp [*, errW_none, errW_some] <;> rfl), by repeat (first | (with_reducible first | exact HB.out | apply below_alloc | apply pw_below_drewN | apply below_drew1 | refine below_set ?_ GE224.out | refine below_set ?_ GE227.out) | exact HB.out)⟩
                · replace c17 := Bool.eq_false_iff.mpr c17
                  subst c17
                  have H1 : (impl_FlashOk.l1 kj6 l0_0 (l0_0.length : Int) x10_1 ((rd_T39 l0_0 x10_1).f2) (((rd_T39 l0_0 x10_1).f2).length : Int) 0 l0_0 ((rd_T39 l0_0 x10_1).f0) ((rd_T39 l0_0 x10_1).f1) ((rd_T39 l0_0 x10_1).f2)) = some r := by rw [if_neg (show ¬ (false = true) by decide)] at H; exact H
                  clear H
                  have H := H1
                  clear H1
                  have H' := Aside0.mk H
                  clear H
                  have hnb18 := NB227_224.out
                  have hnc18 := NB224_227.out
                  have hcz19_0 : wc.cell? ⟨gb227, 0, none⟩ = some (.bool ((rd_T39 l0_0 x10_1).f0)) := (blk_cell BK227.out 0).trans rfl
                  have hcz19_1 : wc.cell? ⟨gb227, 1, none⟩ = some (.int .i64 ((rd_T39 l0_0 x10_1).f1)) := (blk_cell BK227.out 1).trans rfl
                  have hcz19_2 : wc.cell? ⟨gb227, 2, none⟩ = some (.slice A226_2 ((rd_T39 l0_0 x10_1).f2).length c226_2) := (blk_cell BK227.out 2).trans rfl
                  have hfz19_0 := blk_frozen BK227.out 0
                  have hfz19_1 := blk_frozen BK227.out 1
                  have hfz19_2 := blk_frozen BK227.out 2
                  go_wp2
                  go_loopg [27] kj6 (fun kq v27 w' => ∃ (x27_3 : Int), v27 = .int .i64 x27_3 ∧ Aside0 (impl_FlashOk.l1 kq l0_0 (l0_0.length : Int) x10_1 ((rd_T39 l0_0 x10_1).f2) (((rd_T39 l0_0 x10_1).f2).length : Int) x27_3 l0_0 ((rd_T39 l0_0 x10_1).f0) ((rd_T39 l0_0 x10_1).f1) ((rd_T39 l0_0 x10_1).f2) = some r) ∧ Aside0 (kq ≤ kj6) ∧ Aside0 (w'.heap[gb224]? = some (.cells #[(.slice (some ad226) l0_0.length c0_0)] 29 (0, 0))) ∧ Aside0 (w'.heap[gb227]? = some (.cells #[.bool ((rd_T39 l0_0 x10_1).f0), .int .i64 ((rd_T39 l0_0 x10_1).f1), (.slice A226_2 ((rd_T39 l0_0 x10_1).f2).length c226_2)] 39 (0, 0))) ∧ Aside0 (Below w.heap.size w w'))
                  case atStart => exact ⟨(0), (by first | rfl | (simp; done) | (simp [*]; done)), H', ⟨Nat.le_refl _⟩, ⟨by (with_reducible repeat (first | refine blk_drewN ?_ _ | refine blk_drew ?_ | refine blk_alloc ?_ _)); exact BK224.out⟩, ⟨by (with_reducible repeat (first | refine blk_drewN ?_ _ | refine blk_drew ?_ | refine blk_alloc ?_ _)); exact BK227.out⟩, ⟨by repeat (first | (with_reducible first | exact HB.out | apply below_alloc | apply pw_below_drewN | apply below_drew1 | refine below_set ?_ GE224.out | refine below_set ?_ GE227.out) | exact HB.out)⟩⟩
                  case round =>
                    clear H'
                    try clear c1
                    try clear c2
                    try clear p2
                    try clear q2
                    try clear hx2
                    try clear c3
                    try clear c4
                    try clear c4b0
                    try clear c5
                    try clear c5b0
                    try clear c6
                    try clear c6b0
                    try clear c9
                    try clear c11
                    try clear c11b0
                    try clear c11b1
                    try clear c13
                    try clear c15
                    try clear c17
                    try clear c18
                    try clear hcz10_0
                    try clear hcz10_1
                    try clear hcz10_2
                    try clear hcz14_0
                    try clear hcz14_1
                    try clear hcz14_2
                    try clear hcz16_0
                    try clear hcz16_1
                    try clear hcz16_2
                    try clear hcz19_0
                    try clear hcz19_1
                    try clear hcz19_2
                    try clear hcz3_0
                    try clear hfz10_0
                    try clear hfz10_1
                    try clear hfz10_2
                    try clear hfz14_0
                    try clear hfz14_1
                    try clear hfz14_2
                    try clear hfz16_0
                    try clear hfz16_1
                    try clear hfz16_2
                    try clear hfz19_0
                    try clear hfz19_1
                    try clear hfz19_2
                    try clear hfz3_0
                    try clear hx226_0
                    try clear hx226_1
                    try clear hx226_2
                    try clear p2
                    try clear p226
                    try clear q2
                    try clear q226
                    obtain ⟨x27_3, rfl, HA, HK3, BK224, BK227, HB⟩ := hrel
                    cases gk with
                    | zero => exact absurd HA.out (by simp [impl_FlashOk.l1])
                    | succ k3 =>
                      have H := HA.out
                      clear HA
                      simp only [impl_FlashOk.l1] at H
                      by_cases c20 : x27_3 < (((rd_T39 l0_0 x10_1).f2).length : Int)
                      · rw [if_pos c20] at H
                        have c20b0 : decide (x27_3 < (((rd_T39 l0_0 x10_1).f2).length : Int)) = true := decide_eq_true c20
                        clear c20
                        by_cases c21 : 0 ≤ x27_3
                        · rw [if_pos c21] at H
                          have c21b0 : decide (0 ≤ x27_3) = true := decide_eq_true c21
                          clear c21
                          by_cases c22 : x27_3 < (((rd_T39 l0_0 x10_1).f2).length : Int)
                          · rw [if_pos c22] at H
                            have c22b0 : decide (x27_3 < (((rd_T39 l0_0 x10_1).f2).length : Int)) = true := decide_eq_true c22
                            clear c22
                            replace H := Option.bind_eq_some_iff.mp H
                            obtain ⟨t231, A230, H⟩ := H
                            replace H : (if t231 = true then (if x27_3 > 0 then (if 0 ≤ (wrap64 (x27_3 - 1)) then (if (wrap64 (x27_3 - 1)) < (((rd_T39 l0_0 x10_1).f2).length : Int) then (if ((rd_T63 ((rd_T39 l0_0 x10_1).f2) (wrap64 (x27_3 - 1))).f0) = 0 then (if ((rd_T63 ((rd_T39 l0_0 x10_1).f2) x27_3).f0) = 0 then (impl_FlashOk.l1 k3 l0_0 (l0_0.length : Int) x10_1 ((rd_T39 l0_0 x10_1).f2) (((rd_T39 l0_0 x10_1).f2).length : Int) (wrap64 (x27_3 + 1)) l0_0 ((rd_T39 l0_0 x10_1).f0) ((rd_T39 l0_0 x10_1).f1) ((rd_T39 l0_0 x10_1).f2)) else (some false)) else (impl_FlashOk.l1 k3 l0_0 (l0_0.length : Int) x10_1 ((rd_T39 l0_0 x10_1).f2) (((rd_T39 l0_0 x10_1).f2).length : Int) (wrap64 (x27_3 + 1)) l0_0 ((rd_T39 l0_0 x10_1).f0) ((rd_T39 l0_0 x10_1).f1) ((rd_T39 l0_0 x10_1).f2))) else (none)) else (none)) else (impl_FlashOk.l1 k3 l0_0 (l0_0.length : Int) x10_1 ((rd_T39 l0_0 x10_1).f2) (((rd_T39 l0_0 x10_1).f2).length : Int) (wrap64 (x27_3 + 1)) l0_0 ((rd_T39 l0_0 x10_1).f0) ((rd_T39 l0_0 x10_1).f1) ((rd_T39 l0_0 x10_1).f2))) else (some false)) = some r := H
                            have A23 := Aside0.mk A230
                            clear A230
                            by_cases c24 : t231 = true
                            · subst c24
                              have H1 : (if x27_3 > 0 then (if 0 ≤ (wrap64 (x27_3 - 1)) then (if (wrap64 (x27_3 - 1)) < (((rd_T39 l0_0 x10_1).f2).length : Int) then (if ((rd_T63 ((rd_T39 l0_0 x10_1).f2) (wrap64 (x27_3 - 1))).f0) = 0 then (if ((rd_T63 ((rd_T39 l0_0 x10_1).f2) x27_3).f0) = 0 then (impl_FlashOk.l1 k3 l0_0 (l0_0.length : Int) x10_1 ((rd_T39 l0_0 x10_1).f2) (((rd_T39 l0_0 x10_1).f2).length : Int) (wrap64 (x27_3 + 1)) l0_0 ((rd_T39 l0_0 x10_1).f0) ((rd_T39 l0_0 x10_1).f1) ((rd_T39 l0_0 x10_1).f2)) else (some false)) else (impl_FlashOk.l1 k3 l0_0 (l0_0.length : Int) x10_1 ((rd_T39 l0_0 x10_1).f2) (((rd_T39 l0_0 x10_1).f2).length : Int) (wrap64 (x27_3 + 1)) l0_0 ((rd_T39 l0_0 x10_1).f0) ((rd_T39 l0_0 x10_1).f1) ((rd_T39 l0_0 x10_1).f2))) else (none)) else (none)) else (impl_FlashOk.l1 k3 l0_0 (l0_0.length : Int) x10_1 ((rd_T39 l0_0 x10_1).f2) (((rd_T39 l0_0 x10_1).f2).length : Int) (wrap64 (x27_3 + 1)) l0_0 ((rd_T39 l0_0 x10_1).f0) ((rd_T39 l0_0 x10_1).f1) ((rd_T39 l0_0 x10_1).f2))) = some r := by rw [if_pos rfl] at H; exact H
                              clear H
                              have H := H1
                              clear H1
                              by_cases c25 : x27_3 > 0
                              · rw [if_pos c25] at H
                                have c25b0 : decide (0 < x27_3) = true := decide_eq_true c25
                                clear c25
                                obtain ⟨ji26, hji26⟩ : ∃ j_ : Int, (wrap64 (x27_3 - 1)) = j_ := ⟨_, rfl⟩
                                replace H : (if 0 ≤ (ji26) then (if (ji26) < (((rd_T39 l0_0 x10_1).f2).length : Int) then (if ((rd_T63 ((rd_T39 l0_0 x10_1).f2) (ji26)).f0) = 0 then (if ((rd_T63 ((rd_T39 l0_0 x10_1).f2) x27_3).f0) = 0 then (impl_FlashOk.l1 k3 l0_0 (l0_0.length : Int) x10_1 ((rd_T39 l0_0 x10_1).f2) (((rd_T39 l0_0 x10_1).f2).length : Int) (wrap64 (x27_3 + 1)) l0_0 ((rd_T39 l0_0 x10_1).f0) ((rd_T39 l0_0 x10_1).f1) ((rd_T39 l0_0 x10_1).f2)) else (some false)) else (impl_FlashOk.l1 k3 l0_0 (l0_0.length : Int) x10_1 ((rd_T39 l0_0 x10_1).f2) (((rd_T39 l0_0 x10_1).f2).length : Int) (wrap64 (x27_3 + 1)) l0_0 ((rd_T39 l0_0 x10_1).f0) ((rd_T39 l0_0 x10_1).f1) ((rd_T39 l0_0 x10_1).f2))) else (none)) else (none)) = some r := by first | (rw [hji26] at H; exact H) | (simp only [hji26] at H ⊢; exact H)
                                (try rw [hji26] at A23)
                                have hji26w : (IntKind.i64.wrap (x27_3 - 1)) = ji26 := (i64_w _).trans hji26
                                by_cases c27 : 0 ≤ (ji26)
                                · rw [if_pos c27] at H
                                  have c27b0 : decide (0 ≤ (ji26)) = true := decide_eq_true c27
                                  clear c27
                                  by_cases c28 : (ji26) < (((rd_T39 l0_0 x10_1).f2).length : Int)
                                  · rw [if_pos c28] at H
                                    have c28b0 : decide ((ji26) < (((rd_T39 l0_0 x10_1).f2).length : Int)) = true := decide_eq_true c28
                                    clear c28
                                    by_cases c29 : ((rd_T63 ((rd_T39 l0_0 x10_1).f2) (ji26)).f0) = 0
                                    · rw [if_pos c29] at H
                                      have c29b0 : (((rd_T63 ((rd_T39 l0_0 x10_1).f2) (ji26)).f0) == 0) = true := beq_iff_eq.mpr c29
                                      have c29b1 : (((rd_T63 ((rd_T39 l0_0 x10_1).f2) (ji26)).f0) != 0) = false := bne_eq_false_iff_eq.mpr c29
                                      clear c29
                                      by_cases c30 : ((rd_T63 ((rd_T39 l0_0 x10_1).f2) x27_3).f0) = 0
                                      · rw [if_pos c30] at H
                                        have c30b0 : (((rd_T63 ((rd_T39 l0_0 x10_1).f2) x27_3).f0) == 0) = true := beq_iff_eq.mpr c30
                                        have c30b1 : (((rd_T63 ((rd_T39 l0_0 x10_1).f2) x27_3).f0) != 0) = false := bne_eq_false_iff_eq.mpr c30
                                        clear c30
                                        have H' := Aside0.mk H
                                        clear H
                                        have p229 : 0 ≤ (x27_3 : Int) := of_decide_eq_true (by first | (with_reducible assumption) | assumption)
                                        have q229 : x27_3 < (((rd_T39 l0_0 x10_1).f2).length : Int) := of_decide_eq_true (by first | (with_reducible assumption) | assumption)
                                        obtain ⟨ad229, e229, hx229_0, hx229_1⟩ := at_T63 HR226_2.out x27_3 p229 q229
                                        cases e229
                                        replace hx229_0 := (HB.out.cell (World.block_lt_of_cell? w _ hx229_0)).trans hx229_0
                                        replace hx229_1 := (HB.out.cell (World.block_lt_of_cell? w _ hx229_1)).trans hx229_1
                                        replace p229 := eq_true p229
                                        replace q229 := eq_true q229
                                        go_wp2_with (first | ((with_reducible refine gate_dst (N := 6) rfl ?_); refine box_event ?hg (N := 6) ?hd (cs := #[.int .i64 0, .string (⟨#[]⟩ : ByteArray)]) (t := 63) ?hr ?_; (case hd => rfl); (case hg => rfl); (case hr => first | (go_simp; done) | (go_simp; rfl)); intro gb230 hg w31 hbox hb; have n0_ := Aside0.mk (blk_below (g := gb224) (o := .cells #[.slice (some ad226) l0_0.length c0_0] 29 (0, 0)) (by (with_reducible repeat (first | refine blk_drewN ?_ _ | refine blk_drew ?_ | refine blk_alloc ?_ _)); exact BK224.out) hb); have n1_ := Aside0.mk (blk_below (g := gb227) (o := .cells #[.bool ((rd_T39 l0_0 x10_1).f0), .int .i64 ((rd_T39 l0_0 x10_1).f1), .slice (some ad229) ((rd_T39 l0_0 x10_1).f2).length c226_2] 39 (0, 0)) (by (with_reducible repeat (first | refine blk_drewN ?_ _ | refine blk_drew ?_ | refine blk_alloc ?_ _)); exact BK227.out) hb); have n2_ := Aside0.mk (below_step (by repeat (first | (with_reducible first | exact HB.out | apply below_alloc | apply pw_below_drewN | apply below_drew1 | refine below_set ?_ GE224.out | refine below_set ?_ GE227.out) | exact HB.out)) hb); have n3_ := Aside0.mk (hbox); have n4_ := Aside0.mk ((by rw [hg]; exact (below_size (by repeat (first | (with_reducible first | exact HB.out | apply below_alloc | apply pw_below_drewN | apply below_drew1 | refine below_set ?_ GE224.out | refine below_set ?_ GE227.out) | exact HB.out))) : w.heap.size ≤ gb230)); have n5_ := Aside0.mk ((by rw [hg]; exact (below_size (by repeat (first | (with_reducible first | exact HB.out | apply below_alloc | apply pw_below_drewN | apply below_drew1 | refine below_set ?_ GE224.out | refine below_set ?_ GE227.out) | exact HB.out))) : w.heap.size ≤ gb230)); have n6_ := Aside0.mk ((by rw [hg]; exact Nat.ne_of_lt (blk_lt (g := gb224) (o := .cells #[.slice (some ad226) l0_0.length c0_0] 29 (0, 0)) (by (with_reducible repeat (first | refine blk_drewN ?_ _ | refine blk_drew ?_ | refine blk_alloc ?_ _)); exact BK224.out)) : gb224 ≠ gb230)); have n7_ := Aside0.mk ((by rw [hg]; exact Nat.ne_of_gt (blk_lt (g := gb224) (o := .cells #[.slice (some ad226) l0_0.length c0_0] 29 (0, 0)) (by (with_reducible repeat (first | refine blk_drewN ?_ _ | refine blk_drew ?_ | refine blk_alloc ?_ _)); exact BK224.out)) : gb230 ≠ gb224)); have n8_ := Aside0.mk ((by rw [hg]; exact Nat.ne_of_lt (blk_lt (g := gb227) (o := .cells #[.bool ((rd_T39 l0_0 x10_1).f0), .int .i64 ((rd_T39 l0_0 x10_1).f1), .slice (some ad229) ((rd_T39 l0_0 x10_1).f2).length c226_2] 39 (0, 0)) (by (with_reducible repeat (first | refine blk_drewN ?_ _ | refine blk_drew ?_ | refine blk_alloc ?_ _)); exact BK227.out)) : gb227 ≠ gb230)); have n9_ := Aside0.mk ((by rw [hg]; exact Nat.ne_of_gt (blk_lt (g := gb227) (o := .cells #[.bool ((rd_T39 l0_0 x10_1).f0), .int .i64 ((rd_T39 l0_0 x10_1).f1), .slice (some ad229) ((rd_T39 l0_0 x10_1).f2).length c226_2] 39 (0, 0)) (by (with_reducible repeat (first | refine blk_drewN ?_ _ | refine blk_drew ?_ | refine blk_alloc ?_ _)); exact BK227.out)) : gb230 ≠ gb227)); clear BK224; clear BK227; clear HB; have BK224 := n0_; have BK227 := n1_; have HB := n2_; have BK230 := n3_; have GW230 := n4_; have GE230 := n5_; have NB224_230 := n6_; have NB230_224 := n7_; have NB227_230 := n8_; have NB230_227 := n9_; clear n0_ n1_ n2_ n3_ n4_ n5_ n6_ n7_ n8_ n9_; clear hb hbox hg; have hnb32 := NB230_224.out; have hnc32 := NB224_230.out; have hnb33 := NB230_227.out; have hnc33 := NB227_230.out; have hcz34_0 : w31.cell? ⟨gb230, 0, none⟩ = some (.int .i64 0) := (blk_cell BK230.out 0).trans rfl; have hcz34_1 : w31.cell? ⟨gb230, 1, none⟩ = some (.string (⟨#[]⟩ : ByteArray)) := (blk_cell BK230.out 1).trans rfl; have hfz34_0 := blk_frozen BK230.out 0; have hfz34_1 := blk_frozen BK230.out 1; (try have hcygb224_0 : _ = some (.slice (some ad226) l0_0.length c0_0) := (blk_cell BK224.out 0).trans rfl); (try have hcygb227_0 : _ = some (.bool ((rd_T39 l0_0 x10_1).f0)) := (blk_cell BK227.out 0).trans rfl); (try have hcygb227_1 : _ = some (.int .i64 ((rd_T39 l0_0 x10_1).f1)) := (blk_cell BK227.out 1).trans rfl); (try have hcygb227_2 : _ = some (.slice (some ad229) ((rd_T39 l0_0 x10_1).f2).length c226_2) := (blk_cell BK227.out 2).trans rfl); (try have hcygb224_0 : _ = some (.slice (some ad226) l0_0.length c0_0) := (blk_cell BK224.out 0).trans rfl); (try have hcygb224_0 : _ = some (.slice (some ad226) l0_0.length c0_0) := (blk_cell BK224.out 0).trans rfl); (try have hcygb227_0 : _ = some (.bool ((rd_T39 l0_0 x10_1).f0)) := (blk_cell BK227.out 0).trans rfl); (try have hcygb227_1 : _ = some (.int .i64 ((rd_T39 l0_0 x10_1).f1)) := (blk_cell BK227.out 1).trans rfl); (try have hcygb227_2 : _ = some (.slice (some ad229) ((rd_T39 l0_0 x10_1).f2).length c226_2) := (blk_cell BK227.out 2).trans rfl); (try have hcygb227_0 : _ = some (.bool ((rd_T39 l0_0 x10_1).f0)) := (blk_cell BK227.out 0).trans rfl); (try have hcygb227_1 : _ = some (.int .i64 ((rd_T39 l0_0 x10_1).f1)) := (blk_cell BK227.out 1).trans rfl); (try have hcygb227_2 : _ = some (.slice (some ad229) ((rd_T39 l0_0 x10_1).f2).length c226_2) := (blk_cell BK227.out 2).trans rfl)) | ((with_reducible refine gate_callee (f := 67) rfl ?_); refine goesL_ (some 33) rfl rfl Try.func67 (by kernel_rfl) rfl #[.agg #[.int .i64 ((rd_T63 ((rd_T39 l0_0 x10_1).f2) x27_3).f0), .string ((rd_T63 ((rd_T39 l0_0 x10_1).f2) x27_3).f1)]] rfl (by (try simp only [List.map_toArray, List.map_cons, List.map_nil]); first | done | rfl | (simp only [List.length_drop, List.length_take]; rfl)) ?_; (with_reducible refine (impl_leafOk.calls ((rd_T63 ((rd_T39 l0_0 x10_1).f2) x27_3).f0) ((rd_T63 ((rd_T39 l0_0 x10_1).f2) x27_3).f1) true _ A23.out).mono ?_); rintro e w35 ⟨rfl, hb⟩; refine ⟨_, rfl, ?_⟩; have n0_ := Aside0.mk (blk_below (g := gb224) (o := .cells #[.slice (some ad226) l0_0.length c0_0] 29 (0, 0)) (by (with_reducible repeat (first | refine blk_drewN ?_ _ | refine blk_drew ?_ | refine blk_alloc ?_ _)); refine blk_far ?_ NB224_230.out _; (with_reducible repeat (first | refine blk_drewN ?_ _ | refine blk_drew ?_ | refine blk_alloc ?_ _)); refine blk_far ?_ NB224_230.out _; (with_reducible repeat (first | refine blk_drewN ?_ _ | refine blk_drew ?_ | refine blk_alloc ?_ _)); exact BK224.out) hb); have n1_ := Aside0.mk (blk_below (g := gb227) (o := .cells #[.bool ((rd_T39 l0_0 x10_1).f0), .int .i64 ((rd_T39 l0_0 x10_1).f1), .slice (some ad229) ((rd_T39 l0_0 x10_1).f2).length c226_2] 39 (0, 0)) (by (with_reducible repeat (first | refine blk_drewN ?_ _ | refine blk_drew ?_ | refine blk_alloc ?_ _)); refine blk_far ?_ NB227_230.out _; (with_reducible repeat (first | refine blk_drewN ?_ _ | refine blk_drew ?_ | refine blk_alloc ?_ _)); refine blk_far ?_ NB227_230.out _; (with_reducible repeat (first | refine blk_drewN ?_ _ | refine blk_drew ?_ | refine blk_alloc ?_ _)); exact BK227.out) hb); have n2_ := Aside0.mk (blk_below (g := gb230) (o := .cells #[.int .i64 ((rd_T63 ((rd_T39 l0_0 x10_1).f2) x27_3).f0), .string ((rd_T63 ((rd_T39 l0_0 x10_1).f2) x27_3).f1)] 63 (0, 0)) (by (with_reducible repeat (first | refine blk_drewN ?_ _ | refine blk_drew ?_ | refine blk_alloc ?_ _)); refine blk_put (cs := #[.int .i64 ((rd_T63 ((rd_T39 l0_0 x10_1).f2) x27_3).f0), .string (⟨#[]⟩ : ByteArray)]) ?_ 1 _ rfl; (with_reducible repeat (first | refine blk_drewN ?_ _ | refine blk_drew ?_ | refine blk_alloc ?_ _)); refine blk_put (cs := #[.int .i64 0, .string (⟨#[]⟩ : ByteArray)]) ?_ 0 _ rfl; (with_reducible repeat (first | refine blk_drewN ?_ _ | refine blk_drew ?_ | refine blk_alloc ?_ _)); exact BK230.out) hb); have n3_ := Aside0.mk (below_step (by repeat (first | (with_reducible first | exact HB.out | apply below_alloc | apply pw_below_drewN | apply below_drew1 | refine below_set ?_ GE224.out | refine below_set ?_ GE227.out | refine below_set ?_ GE230.out) | exact HB.out)) hb); clear BK224; clear BK227; clear BK230; clear HB; have BK224 := n0_; have BK227 := n1_; have BK230 := n2_; have HB := n3_; clear n0_ n1_ n2_ n3_; (try clear hb); (try clear hb2); (try clear hk); (try clear hi); have hnb36 := NB227_224.out; have hnc36 := NB224_227.out; have hcz37_0 : w35.cell? ⟨gb227, 0, none⟩ = some (.bool ((rd_T39 l0_0 x10_1).f0)) := (blk_cell BK227.out 0).trans rfl; have hcz37_1 : w35.cell? ⟨gb227, 1, none⟩ = some (.int .i64 ((rd_T39 l0_0 x10_1).f1)) := (blk_cell BK227.out 1).trans rfl; have hcz37_2 : w35.cell? ⟨gb227, 2, none⟩ = some (.slice (some ad229) ((rd_T39 l0_0 x10_1).f2).length c226_2) := (blk_cell BK227.out 2).trans rfl; have hfz37_0 := blk_frozen BK227.out 0; have hfz37_1 := blk_frozen BK227.out 1; have hfz37_2 := blk_frozen BK227.out 2; have p232 : 0 ≤ ((ji26) : Int) := of_decide_eq_true (by first | (with_reducible assumption) | assumption); have q232 : (ji26) < (((rd_T39 l0_0 x10_1).f2).length : Int) := of_decide_eq_true (by first | (with_reducible assumption) | assumption); obtain ⟨ad232, e232, hx232_0, hx232_1⟩ := at_T63 HR226_2.out (ji26) p232 q232; obtain rfl : ad229 = ad232 := (by injection e232); replace hx232_0 := (HB.out.cell (World.block_lt_of_cell? w _ hx232_0)).trans hx232_0; replace hx232_1 := (HB.out.cell (World.block_lt_of_cell? w _ hx232_1)).trans hx232_1; replace p232 := eq_true p232; replace q232 := eq_true q232; have hcz38_0 : w35.cell? ⟨gb230, 0, none⟩ = some (.int .i64 ((rd_T63 ((rd_T39 l0_0 x10_1).f2) x27_3).f0)) := (blk_cell BK230.out 0).trans rfl; have hcz38_1 : w35.cell? ⟨gb230, 1, none⟩ = some (.string ((rd_T63 ((rd_T39 l0_0 x10_1).f2) x27_3).f1)) := (blk_cell BK230.out 1).trans rfl; have hfz38_0 := blk_frozen BK230.out 0; have hfz38_1 := blk_frozen BK230.out 1; (try have hcygb224_0 : _ = some (.slice (some ad226) l0_0.length c0_0) := (blk_cell BK224.out 0).trans rfl)))
                                        go_roundg k3
                                        case measure => have := HK1.out; have := HJ6.out; have := HK3.out; omega
                                        case rel => exact ⟨(wrap64 (x27_3 + 1)), (by first | rfl | (simp; done) | (simp [*]; done)), H', ⟨by have := HK1.out; have := HJ6.out; have := HK3.out; omega⟩, ⟨by (with_reducible repeat (first | refine blk_drewN ?_ _ | refine blk_drew ?_ | refine blk_alloc ?_ _)); exact BK224.out⟩, ⟨by (with_reducible repeat (first | refine blk_drewN ?_ _ | refine blk_drew ?_ | refine blk_alloc ?_ _)); exact BK227.out⟩, ⟨by repeat (first | (with_reducible first | exact HB.out | apply below_alloc | apply pw_below_drewN | apply below_drew1 | refine below_set ?_ GE224.out | refine below_set ?_ GE227.out | refine below_set ?_ GE230.out) | exact HB.out)⟩⟩
                                      · rw [if_neg c30] at H
                                        have c30b0 : (((rd_T63 ((rd_T39 l0_0 x10_1).f2) x27_3).f0) == 0) = false := beq_eq_false_iff_ne.mpr c30
                                        have c30b1 : (((rd_T63 ((rd_T39 l0_0 x10_1).f2) x27_3).f0) != 0) = true := bne_iff_ne.mpr c30
                                        obtain rfl := Option.some.inj H
                                        have p229 : 0 ≤ (x27_3 : Int) := of_decide_eq_true (by first | (with_reducible assumption) | assumption)
                                        have q229 : x27_3 < (((rd_T39 l0_0 x10_1).f2).length : Int) := of_decide_eq_true (by first | (with_reducible assumption) | assumption)
                                        obtain ⟨ad229, e229, hx229_0, hx229_1⟩ := at_T63 HR226_2.out x27_3 p229 q229
                                        cases e229
                                        replace hx229_0 := (HB.out.cell (World.block_lt_of_cell? w _ hx229_0)).trans hx229_0
                                        replace hx229_1 := (HB.out.cell (World.block_lt_of_cell? w _ hx229_1)).trans hx229_1
                                        replace p229 := eq_true p229
                                        replace q229 := eq_true q229
                                        go_wp2_with (first | ((with_reducible refine gate_dst (N := 6) rfl ?_); refine box_event ?hg (N := 6) ?hd (cs := #[.int .i64 0, .string (⟨#[]⟩ : ByteArray)]) (t := 63) ?hr ?_; (case hd => rfl); (case hg => rfl); (case hr => first | (go_simp; done) | (go_simp; rfl)); intro gb230 hg w39 hbox hb; have n0_ := Aside0.mk (blk_below (g := gb224) (o := .cells #[.slice (some ad226) l0_0.length c0_0] 29 (0, 0)) (by (with_reducible repeat (first | refine blk_drewN ?_ _ | refine blk_drew ?_ | refine blk_alloc ?_ _)); exact BK224.out) hb); have n1_ := Aside0.mk (blk_below (g := gb227) (o := .cells #[.bool ((rd_T39 l0_0 x10_1).f0), .int .i64 ((rd_T39 l0_0 x10_1).f1), .slice (some ad229) ((rd_T39 l0_0 x10_1).f2).length c226_2] 39 (0, 0)) (by (with_reducible repeat (first | refine blk_drewN ?_ _ | refine blk_drew ?_ | refine blk_alloc ?_ _)); exact BK227.out) hb); have n2_ := Aside0.mk (below_step (by repeat (first | (with_reducible first | exact HB.out | apply below_alloc | apply pw_below_drewN | apply below_drew1 | refine below_set ?_ GE224.out | refine below_set ?_ GE227.out) | exact HB.out)) hb); have n3_ := Aside0.mk (hbox); have n4_ := Aside0.mk ((by rw [hg]; exact (below_size (by repeat (first | (with_reducible first | exact HB.out | apply below_alloc | apply pw_below_drewN | apply below_drew1 | refine below_set ?_ GE224.out | refine below_set ?_ GE227.out) | exact HB.out))) : w.heap.size ≤ gb230)); have n5_ := Aside0.mk ((by rw [hg]; exact (below_size (by repeat (first | (with_reducible first | exact HB.out | apply below_alloc | apply pw_below_drewN | apply below_drew1 | refine below_set ?_ GE224.out | refine below_set ?_ GE227.out) | exact HB.out))) : w.heap.size ≤ gb230)); have n6_ := Aside0.mk ((by rw [hg]; exact Nat.ne_of_lt (blk_lt (g := gb224) (o := .cells #[.slice (some ad226) l0_0.length c0_0] 29 (0, 0)) (by (with_reducible repeat (first | refine blk_drewN ?_ _ | refine blk_drew ?_ | refine blk_alloc ?_ _)); exact BK224.out)) : gb224 ≠ gb230)); have n7_ := Aside0.mk ((by rw [hg]; exact Nat.ne_of_gt (blk_lt (g := gb224) (o := .cells #[.slice (some ad226) l0_0.length c0_0] 29 (0, 0)) (by (with_reducible repeat (first | refine blk_drewN ?_ _ | refine blk_drew ?_ | refine blk_alloc ?_ _)); exact BK224.out)) : gb230 ≠ gb224)); have n8_ := Aside0.mk ((by rw [hg]; exact Nat.ne_of_lt (blk_lt (g := gb227) (o := .cells #[.bool ((rd_T39 l0_0 x10_1).f0), .int .i64 ((rd_T39 l0_0 x10_1).f1), .slice (some ad229) ((rd_T39 l0_0 x10_1).f2).length c226_2] 39 (0, 0)) (by (with_reducible repeat (first | refine blk_drewN ?_ _ | refine blk_drew ?_ | refine blk_alloc ?_ _)); exact BK227.out)) : gb227 ≠ gb230)); have n9_ := Aside0.mk ((by rw [hg]; exact Nat.ne_of_gt (blk_lt (g := gb227) (o := .cells #[.bool ((rd_T39 l0_0 x10_1).f0), .int .i64 ((rd_T39 l0_0 x10_1).f1), .slice (some ad229) ((rd_T39 l0_0 x10_1).f2).length c226_2] 39 (0, 0)) (by (with_reducible repeat (first | refine blk_drewN ?_ _ | refine blk_drew ?_ | refine blk_alloc ?_ _)); exact BK227.out)) : gb230 ≠ gb227)); clear BK224; clear BK227; clear HB; have BK224 := n0_; have BK227 := n1_; have HB := n2_; have BK230 := n3_; have GW230 := n4_; have GE230 := n5_; have NB224_230 := n6_; have NB230_224 := n7_; have NB227_230 := n8_; have NB230_227 := n9_; clear n0_ n1_ n2_ n3_ n4_ n5_ n6_ n7_ n8_ n9_; clear hb hbox hg; have hnb40 := NB230_224.out; have hnc40 := NB224_230.out; have hnb41 := NB230_227.out; have hnc41 := NB227_230.out; have hcz42_0 : w39.cell? ⟨gb230, 0, none⟩ = some (.int .i64 0) := (blk_cell BK230.out 0).trans rfl; have hcz42_1 : w39.cell? ⟨gb230, 1, none⟩ = some (.string (⟨#[]⟩ : ByteArray)) := (blk_cell BK230.out 1).trans rfl; have hfz42_0 := blk_frozen BK230.out 0; have hfz42_1 := blk_frozen BK230.out 1; (try have hcygb224_0 : _ = some (.slice (some ad226) l0_0.length c0_0) := (blk_cell BK224.out 0).trans rfl); (try have hcygb227_0 : _ = some (.bool ((rd_T39 l0_0 x10_1).f0)) := (blk_cell BK227.out 0).trans rfl); (try have hcygb227_1 : _ = some (.int .i64 ((rd_T39 l0_0 x10_1).f1)) := (blk_cell BK227.out 1).trans rfl); (try have hcygb227_2 : _ = some (.slice (some ad229) ((rd_T39 l0_0 x10_1).f2).length c226_2) := (blk_cell BK227.out 2).trans rfl); (try have hcygb224_0 : _ = some (.slice (some ad226) l0_0.length c0_0) := (blk_cell BK224.out 0).trans rfl); (try have hcygb224_0 : _ = some (.slice (some ad226) l0_0.length c0_0) := (blk_cell BK224.out 0).trans rfl); (try have hcygb227_0 : _ = some (.bool ((rd_T39 l0_0 x10_1).f0)) := (blk_cell BK227.out 0).trans rfl); (try have hcygb227_1 : _ = some (.int .i64 ((rd_T39 l0_0 x10_1).f1)) := (blk_cell BK227.out 1).trans rfl); (try have hcygb227_2 : _ = some (.slice (some ad229) ((rd_T39 l0_0 x10_1).f2).length c226_2) := (blk_cell BK227.out 2).trans rfl); (try have hcygb227_0 : _ = some (.bool ((rd_T39 l0_0 x10_1).f0)) := (blk_cell BK227.out 0).trans rfl); (try have hcygb227_1 : _ = some (.int .i64 ((rd_T39 l0_0 x10_1).f1)) := (blk_cell BK227.out 1).trans rfl); (try have hcygb227_2 : _ = some (.slice (some ad229) ((rd_T39 l0_0 x10_1).f2).length c226_2) := (blk_cell BK227.out 2).trans rfl)) | ((with_reducible refine gate_callee (f := 67) rfl ?_); refine goesL_ (some 33) rfl rfl Try.func67 (by kernel_rfl) rfl #[.agg #[.int .i64 ((rd_T63 ((rd_T39 l0_0 x10_1).f2) x27_3).f0), .string ((rd_T63 ((rd_T39 l0_0 x10_1).f2) x27_3).f1)]] rfl (by (try simp only [List.map_toArray, List.map_cons, List.map_nil]); first | done | rfl | (simp only [List.length_drop, List.length_take]; rfl)) ?_; (with_reducible refine (impl_leafOk.calls ((rd_T63 ((rd_T39 l0_0 x10_1).f2) x27_3).f0) ((rd_T63 ((rd_T39 l0_0 x10_1).f2) x27_3).f1) true _ A23.out).mono ?_); rintro e w43 ⟨rfl, hb⟩; refine ⟨_, rfl, ?_⟩; have n0_ := Aside0.mk (blk_below (g := gb224) (o := .cells #[.slice (some ad226) l0_0.length c0_0] 29 (0, 0)) (by (with_reducible repeat (first | refine blk_drewN ?_ _ | refine blk_drew ?_ | refine blk_alloc ?_ _)); refine blk_far ?_ NB224_230.out _; (with_reducible repeat (first | refine blk_drewN ?_ _ | refine blk_drew ?_ | refine blk_alloc ?_ _)); refine blk_far ?_ NB224_230.out _; (with_reducible repeat (first | refine blk_drewN ?_ _ | refine blk_drew ?_ | refine blk_alloc ?_ _)); exact BK224.out) hb); have n1_ := Aside0.mk (blk_below (g := gb227) (o := .cells #[.bool ((rd_T39 l0_0 x10_1).f0), .int .i64 ((rd_T39 l0_0 x10_1).f1), .slice (some ad229) ((rd_T39 l0_0 x10_1).f2).length c226_2] 39 (0, 0)) (by (with_reducible repeat (first | refine blk_drewN ?_ _ | refine blk_drew ?_ | refine blk_alloc ?_ _)); refine blk_far ?_ NB227_230.out _; (with_reducible repeat (first | refine blk_drewN ?_ _ | refine blk_drew ?_ | refine blk_alloc ?_ _)); refine blk_far ?_ NB227_230.out _; (with_reducible repeat (first | refine blk_drewN ?_ _ | refine blk_drew ?_ | refine blk_alloc ?_ _)); exact BK227.out) hb); have n2_ := Aside0.mk (blk_below (g := gb230) (o := .cells #[.int .i64 ((rd_T63 ((rd_T39 l0_0 x10_1).f2) x27_3).f0), .string ((rd_T63 ((rd_T39 l0_0 x10_1).f2) x27_3).f1)] 63 (0, 0)) (by (with_reducible repeat (first | refine blk_drewN ?_ _ | refine blk_drew ?_ | refine blk_alloc ?_ _)); refine blk_put (cs := #[.int .i64 ((rd_T63 ((rd_T39 l0_0 x10_1).f2) x27_3).f0), .string (⟨#[]⟩ : ByteArray)]) ?_ 1 _ rfl; (with_reducible repeat (first | refine blk_drewN ?_ _ | refine blk_drew ?_ | refine blk_alloc ?_ _)); refine blk_put (cs := #[.int .i64 0, .string (⟨#[]⟩ : ByteArray)]) ?_ 0 _ rfl; (with_reducible repeat (first | refine blk_drewN ?_ _ | refine blk_drew ?_ | refine blk_alloc ?_ _)); exact BK230.out) hb); have n3_ := Aside0.mk (below_step (by repeat (first | (with_reducible first | exact HB.out | apply below_alloc | apply pw_below_drewN | apply below_drew1 | refine below_set ?_ GE224.out | refine below_set ?_ GE227.out | refine below_set ?_ GE230.out) | exact HB.out)) hb); clear BK224; clear BK227; clear BK230; clear HB; have BK224 := n0_; have BK227 := n1_; have BK230 := n2_; have HB := n3_; clear n0_ n1_ n2_ n3_; (try clear hb); (try clear hb2); (try clear hk); (try clear hi); have hnb44 := NB227_224.out; have hnc44 := NB224_227.out; have hcz45_0 : w43.cell? ⟨gb227, 0, none⟩ = some (.bool ((rd_T39 l0_0 x10_1).f0)) := (blk_cell BK227.out 0).trans rfl; have hcz45_1 : w43.cell? ⟨gb227, 1, none⟩ = some (.int .i64 ((rd_T39 l0_0 x10_1).f1)) := (blk_cell BK227.out 1).trans rfl; have hcz45_2 : w43.cell? ⟨gb227, 2, none⟩ = some (.slice (some ad229) ((rd_T39 l0_0 x10_1).f2).length c226_2) := (blk_cell BK227.out 2).trans rfl; have hfz45_0 := blk_frozen BK227.out 0; have hfz45_1 := blk_frozen BK227.out 1; have hfz45_2 := blk_frozen BK227.out 2; have p232 : 0 ≤ ((ji26) : Int) := of_decide_eq_true (by first | (with_reducible assumption) | assumption); have q232 : (ji26) < (((rd_T39 l0_0 x10_1).f2).length : Int) := of_decide_eq_true (by first | (with_reducible assumption) | assumption); obtain ⟨ad232, e232, hx232_0, hx232_1⟩ := at_T63 HR226_2.out (ji26) p232 q232; obtain rfl : ad229 = ad232 := (by injection e232); replace hx232_0 := (HB.out.cell (World.block_lt_of_cell? w _ hx232_0)).trans hx232_0; replace hx232_1 := (HB.out.cell (World.block_lt_of_cell? w _ hx232_1)).trans hx232_1; replace p232 := eq_true p232; replace q232 := eq_true q232; have hcz46_0 : w43.cell? ⟨gb230, 0, none⟩ = some (.int .i64 ((rd_T63 ((rd_T39 l0_0 x10_1).f2) x27_3).f0)) := (blk_cell BK230.out 0).trans rfl; have hcz46_1 : w43.cell? ⟨gb230, 1, none⟩ = some (.string ((rd_T63 ((rd_T39 l0_0 x10_1).f2) x27_3).f1)) := (blk_cell BK230.out 1).trans rfl; have hfz46_0 := blk_frozen BK230.out 0; have hfz46_1 := blk_frozen BK230.out 1; (try have hcygb224_0 : _ = some (.slice (some ad226) l0_0.length c0_0) := (blk_cell BK224.out 0).trans rfl)))
                                        go_ret
                                        exact ⟨by first | rfl | (simp [errW_none, errW_some] <;> rfl) | (simp only [← hji26]; first | rfl | (simp [errW_none, errW_some] <;> rfl)) | (simp [*, errW_none, errW_some] <;> rfl), by repeat (first | (with_reducible first | exact HB.out | apply below_alloc | apply pw_below_drewN | apply below_drew1 | refine below_set ?_ GE224.out | refine below_set ?_ GE227.out | refine below_set ?_ GE230.out) | exact HB.out)⟩
                                    · rw [if_neg c29] at H
                                      have c29b0 : (((rd_T63 ((rd_T39 l0_0 x10_1).f2) (ji26)).f0) == 0) = false := beq_eq_false_iff_ne.mpr c29
                                      have c29b1 : (((rd_T63 ((rd_T39 l0_0 x10_1).f2) (ji26)).f0) != 0) = true := bne_iff_ne.mpr c29
                                      have H' := Aside0.mk H
                                      clear H
                                      have p229 : 0 ≤ (x27_3 : Int) := of_decide_eq_true (by first | (with_reducible assumption) | assumption)
                                      have q229 : x27_3 < (((rd_T39 l0_0 x10_1).f2).length : Int) := of_decide_eq_true (by first | (with_reducible assumption) | assumption)
                                      obtain ⟨ad229, e229, hx229_0, hx229_1⟩ := at_T63 HR226_2.out x27_3 p229 q229
                                      cases e229
                                      replace hx229_0 := (HB.out.cell (World.block_lt_of_cell? w _ hx229_0)).trans hx229_0
                                      replace hx229_1 := (HB.out.cell (World.block_lt_of_cell? w _ hx229_1)).trans hx229_1
                                      replace p229 := eq_true p229
                                      replace q229 := eq_true q229
                                      go_wp2_with (first | ((with_reducible refine gate_dst (N := 6) rfl ?_); refine box_event ?hg (N := 6) ?hd (cs := #[.int .i64 0, .string (⟨#[]⟩ : ByteArray)]) (t := 63) ?hr ?_; (case hd => rfl); (case hg => rfl); (case hr => first | (go_simp; done) | (go_simp; rfl)); intro gb230 hg w47 hbox hb; have n0_ := Aside0.mk (blk_below (g := gb224) (o := .cells #[.slice (some ad226) l0_0.length c0_0] 29 (0, 0)) (by (with_reducible repeat (first | refine blk_drewN ?_ _ | refine blk_drew ?_ | refine blk_alloc ?_ _)); exact BK224.out) hb); have n1_ := Aside0.mk (blk_below (g := gb227) (o := .cells #[.bool ((rd_T39 l0_0 x10_1).f0), .int .i64 ((rd_T39 l0_0 x10_1).f1), .slice (some ad229) ((rd_T39 l0_0 x10_1).f2).length c226_2] 39 (0, 0)) (by (with_reducible repeat (first | refine blk_drewN ?_ _ | refine blk_drew ?_ | refine blk_alloc ?_ _)); exact BK227.out) hb); have n2_ := Aside0.mk (below_step (by repeat (first | (with_reducible first | exact HB.out | apply below_alloc | apply pw_below_drewN | apply below_drew1 | refine below_set ?_ GE224.out | refine below_set ?_ GE227.out) | exact HB.out)) hb); have n3_ := Aside0.mk (hbox); have n4_ := Aside0.mk ((by rw [hg]; exact (below_size (by repeat (first | (with_reducible first | exact HB.out | apply below_alloc | apply pw_below_drewN | apply below_drew1 | refine below_set ?_ GE224.out | refine below_set ?_ GE227.out) | exact HB.out))) : w.heap.size ≤ gb230)); have n5_ := Aside0.mk ((by rw [hg]; exact (below_size (by repeat (first | (with_reducible first | exact HB.out | apply below_alloc | apply pw_below_drewN | apply below_drew1 | refine below_set ?_ GE224.out | refine below_set ?_ GE227.out) | exact HB.out))) : w.heap.size ≤ gb230)); have n6_ := Aside0.mk ((by rw [hg]; exact Nat.ne_of_lt (blk_lt (g := gb224) (o := .cells #[.slice (some ad226) l0_0.length c0_0] 29 (0, 0)) (by (with_reducible repeat (first | refine blk_drewN ?_ _ | refine blk_drew ?_ | refine blk_alloc ?_ _)); exact BK224.out)) : gb224 ≠ gb230)); have n7_ := Aside0.mk ((by rw [hg]; exact Nat.ne_of_gt (blk_lt (g := gb224) (o := .cells #[.slice (some ad226) l0_0.length c0_0] 29 (0, 0)) (by (with_reducible repeat (first | refine blk_drewN ?_ _ | refine blk_drew ?_ | refine blk_alloc ?_ _)); exact BK224.out)) : gb230 ≠ gb224)); have n8_ := Aside0.mk ((by rw [hg]; exact Nat.ne_of_lt (blk_lt (g := gb227) (o := .cells #[.bool ((rd_T39 l0_0 x10_1).f0), .int .i64 ((rd_T39 l0_0 x10_1).f1), .slice (some ad229) ((rd_T39 l0_0 x10_1).f2).length c226_2] 39 (0, 0)) (by (with_reducible repeat (first | refine blk_drewN ?_ _ | refine blk_drew ?_ | refine blk_alloc ?_ _)); exact BK227.out)) : gb227 ≠ gb230)); have n9_ := Aside0.mk ((by rw [hg]; exact Nat.ne_of_gt (blk_lt (g := gb227) (o := .cells #[.bool ((rd_T39 l0_0 x10_1).f0), .int .i64 ((rd_T39 l0_0 x10_1).f1), .slice (some ad229) ((rd_T39 l0_0 x10_1).f2).length c226_2] 39 (0, 0)) (by (with_reducible repeat (first | refine blk_drewN ?_ _ | refine blk_drew ?_ | refine blk_alloc ?_ _)); exact BK227.out)) : gb230 ≠ gb227)); clear BK224; clear BK227; clear HB; have BK224 := n0_; have BK227 := n1_; have HB := n2_; have BK230 := n3_; have GW230 := n4_; have GE230 := n5_; have NB224_230 := n6_; have NB230_224 := n7_; have NB227_230 := n8_; have NB230_227 := n9_; clear n0_ n1_ n2_ n3_ n4_ n5_ n6_ n7_ n8_ n9_; clear hb hbox hg; have hnb48 := NB230_224.out; have hnc48 := NB224_230.out; have hnb49 := NB230_227.out; have hnc49 := NB227_230.out; have hcz50_0 : w47.cell? ⟨gb230, 0, none⟩ = some (.int .i64 0) := (blk_cell BK230.out 0).trans rfl; have hcz50_1 : w47.cell? ⟨gb230, 1, none⟩ = some (.string (⟨#[]⟩ : ByteArray)) := (blk_cell BK230.out 1).trans rfl; have hfz50_0 := blk_frozen BK230.out 0; have hfz50_1 := blk_frozen BK230.out 1; (try have hcygb224_0 : _ = some (.slice (some ad226) l0_0.length c0_0) := (blk_cell BK224.out 0).trans rfl); (try have hcygb227_0 : _ = some (.bool ((rd_T39 l0_0 x10_1).f0)) := (blk_cell BK227.out 0).trans rfl); (try have hcygb227_1 : _ = some (.int .i64 ((rd_T39 l0_0 x10_1).f1)) := (blk_cell BK227.out 1).trans rfl); (try have hcygb227_2 : _ = some (.slice (some ad229) ((rd_T39 l0_0 x10_1).f2).length c226_2) := (blk_cell BK227.out 2).trans rfl); (try have hcygb224_0 : _ = some (.slice (some ad226) l0_0.length c0_0) := (blk_cell BK224.out 0).trans rfl); (try have hcygb224_0 : _ = some (.slice (some ad226) l0_0.length c0_0) := (blk_cell BK224.out 0).trans rfl); (try have hcygb227_0 : _ = some (.bool ((rd_T39 l0_0 x10_1).f0)) := (blk_cell BK227.out 0).trans rfl); (try have hcygb227_1 : _ = some (.int .i64 ((rd_T39 l0_0 x10_1).f1)) := (blk_cell BK227.out 1).trans rfl); (try have hcygb227_2 : _ = some (.slice (some ad229) ((rd_T39 l0_0 x10_1).f2).length c226_2) := (blk_cell BK227.out 2).trans rfl); (try have hcygb227_0 : _ = some (.bool ((rd_T39 l0_0 x10_1).f0)) := (blk_cell BK227.out 0).trans rfl); (try have hcygb227_1 : _ = some (.int .i64 ((rd_T39 l0_0 x10_1).f1)) := (blk_cell BK227.out 1).trans rfl); (try have hcygb227_2 : _ = some (.slice (some ad229) ((rd_T39 l0_0 x10_1).f2).length c226_2) := (blk_cell BK227.out 2).trans rfl)) | ((with_reducible refine gate_callee (f := 67) rfl ?_); refine goesL_ (some 33) rfl rfl Try.func67 (by kernel_rfl) rfl #[.agg #[.int .i64 ((rd_T63 ((rd_T39 l0_0 x10_1).f2) x27_3).f0), .string ((rd_T63 ((rd_T39 l0_0 x10_1).f2) x27_3).f1)]] rfl (by (try simp only [List.map_toArray, List.map_cons, List.map_nil]); first | done | rfl | (simp only [List.length_drop, List.length_take]; rfl)) ?_; (with_reducible refine (impl_leafOk.calls ((rd_T63 ((rd_T39 l0_0 x10_1).f2) x27_3).f0) ((rd_T63 ((rd_T39 l0_0 x10_1).f2) x27_3).f1) true _ A23.out).mono ?_); rintro e w51 ⟨rfl, hb⟩; refine ⟨_, rfl, ?_⟩; have n0_ := Aside0.mk (blk_below (g := gb224) (o := .cells #[.slice (some ad226) l0_0.length c0_0] 29 (0, 0)) (by (with_reducible repeat (first | refine blk_drewN ?_ _ | refine blk_drew ?_ | refine blk_alloc ?_ _)); refine blk_far ?_ NB224_230.out _; (with_reducible repeat (first | refine blk_drewN ?_ _ | refine blk_drew ?_ | refine blk_alloc ?_ _)); refine blk_far ?_ NB224_230.out _; (with_reducible repeat (first | refine blk_drewN ?_ _ | refine blk_drew ?_ | refine blk_alloc ?_ _)); exact BK224.out) hb); have n1_ := Aside0.mk (blk_below (g := gb227) (o := .cells #[.bool ((rd_T39 l0_0 x10_1).f0), .int .i64 ((rd_T39 l0_0 x10_1).f1), .slice (some ad229) ((rd_T39 l0_0 x10_1).f2).length c226_2] 39 (0, 0)) (by (with_reducible repeat (first | refine blk_drewN ?_ _ | refine blk_drew ?_ | refine blk_alloc ?_ _)); refine blk_far ?_ NB227_230.out _; (with_reducible repeat (first | refine blk_drewN ?_ _ | refine blk_drew ?_ | refine blk_alloc ?_ _)); refine blk_far ?_ NB227_230.out _; (with_reducible repeat (first | refine blk_drewN ?_ _ | refine blk_drew ?_ | refine blk_alloc ?_ _)); exact BK227.out) hb); have n2_ := Aside0.mk (blk_below (g := gb230) (o := .cells #[.int .i64 ((rd_T63 ((rd_T39 l0_0 x10_1).f2) x27_3).f0), .string ((rd_T63 ((rd_T39 l0_0 x10_1).f2) x27_3).f1)] 63 (0, 0)) (by (with_reducible repeat (first | refine blk_drewN ?_ _ | refine blk_drew ?_ | refine blk_alloc ?_ _)); refine blk_put (cs := #[.int .i64 ((rd_T63 ((rd_T39 l0_0 x10_1).f2) x27_3).f0), .string (⟨#[]⟩ : ByteArray)]) ?_ 1 _ rfl; (with_reducible repeat (first | refine blk_drewN ?_ _ | refine blk_drew ?_ | refine blk_alloc ?_ _)); refine blk_put (cs := #[.int .i64 0, .string (⟨#[]⟩ : ByteArray)]) ?_ 0 _ rfl; (with_reducible repeat (first | refine blk_drewN ?_ _ | refine blk_drew ?_ | refine blk_alloc ?_ _)); exact BK230.out) hb); have n3_ := Aside0.mk (below_step (by repeat (first | (with_reducible first | exact HB.out | apply below_alloc | apply pw_below_drewN | apply below_drew1 | refine below_set ?_ GE224.out | refine below_set ?_ GE227.out | refine below_set ?_ GE230.out) | exact HB.out)) hb); clear BK224; clear BK227; clear BK230; clear HB; have BK224 := n0_; have BK227 := n1_; have BK230 := n2_; have HB := n3_; clear n0_ n1_ n2_ n3_; (try clear hb); (try clear hb2); (try clear hk); (try clear hi); have hnb52 := NB227_224.out; have hnc52 := NB224_227.out; have hcz53_0 : w51.cell? ⟨gb227, 0, none⟩ = some (.bool ((rd_T39 l0_0 x10_1).f0)) := (blk_cell BK227.out 0).trans rfl; have hcz53_1 : w51.cell? ⟨gb227, 1, none⟩ = some (.int .i64 ((rd_T39 l0_0 x10_1).f1)) := (blk_cell BK227.out 1).trans rfl; have hcz53_2 : w51.cell? ⟨gb227, 2, none⟩ = some (.slice (some ad229) ((rd_T39 l0_0 x10_1).f2).length c226_2) := (blk_cell BK227.out 2).trans rfl; have hfz53_0 := blk_frozen BK227.out 0; have hfz53_1 := blk_frozen BK227.out 1; have hfz53_2 := blk_frozen BK227.out 2; have p232 : 0 ≤ ((ji26) : Int) := of_decide_eq_true (by first | (with_reducible assumption) | assumption); have q232 : (ji26) < (((rd_T39 l0_0 x10_1).f2).length : Int) := of_decide_eq_true (by first | (with_reducible assumption) | assumption); obtain ⟨ad232, e232, hx232_0, hx232_1⟩ := at_T63 HR226_2.out (ji26) p232 q232; obtain rfl : ad229 = ad232 := (by injection e232); replace hx232_0 := (HB.out.cell (World.block_lt_of_cell? w _ hx232_0)).trans hx232_0; replace hx232_1 := (HB.out.cell (World.block_lt_of_cell? w _ hx232_1)).trans hx232_1; replace p232 := eq_true p232; replace q232 := eq_true q232; (try have hcygb224_0 : _ = some (.slice (some ad226) l0_0.length c0_0) := (blk_cell BK224.out 0).trans rfl); (try have hcygb230_0 : _ = some (.int .i64 ((rd_T63 ((rd_T39 l0_0 x10_1).f2) x27_3).f0)) := (blk_cell BK230.out 0).trans rfl); (try have hcygb230_1 : _ = some (.string ((rd_T63 ((rd_T39 l0_0 x10_1).f2) x27_3).f1)) := (blk_cell BK230.out 1).trans rfl)))
                                      go_roundg k3
                                      case measure => have := HK1.out; have := HJ6.out; have := HK3.out; omega
                                      case rel => exact ⟨(wrap64 (x27_3 + 1)), (by first | rfl | (simp; done) | (simp [*]; done)), H', ⟨by have := HK1.out; have := HJ6.out; have := HK3.out; omega⟩, ⟨by (with_reducible repeat (first | refine blk_drewN ?_ _ | refine blk_drew ?_ | refine blk_alloc ?_ _)); exact BK224.out⟩, ⟨by (with_reducible repeat (first | refine blk_drewN ?_ _ | refine blk_drew ?_ | refine blk_alloc ?_ _)); exact BK227.out⟩, ⟨by repeat (first | (with_reducible first | exact HB.out | apply below_alloc | apply pw_below_drewN | apply below_drew1 | refine below_set ?_ GE224.out | refine below_set ?_ GE227.out | refine below_set ?_ GE230.out) | exact HB.out)⟩⟩
                                  · rw [if_neg c28] at H
                                    exact absurd H (by simp)
                                · rw [if_neg c27] at H
                                  exact absurd H (by simp)
                              · rw [if_neg c25] at H
                                have c25b0 : decide (0 < x27_3) = false := decide_eq_false c25
                                clear c25
                                have H' := Aside0.mk H
                                clear H
                                have p229 : 0 ≤ (x27_3 : Int) := of_decide_eq_true (by first | (with_reducible assumption) | assumption)
                                have q229 : x27_3 < (((rd_T39 l0_0 x10_1).f2).length : Int) := of_decide_eq_true (by first | (with_reducible assumption) | assumption)
                                obtain ⟨ad229, e229, hx229_0, hx229_1⟩ := at_T63 HR226_2.out x27_3 p229 q229
                                cases e229
                                replace hx229_0 := (HB.out.cell (World.block_lt_of_cell? w _ hx229_0)).trans hx229_0
                                replace hx229_1 := (HB.out.cell (World.block_lt_of_cell? w _ hx229_1)).trans hx229_1
                                replace p229 := eq_true p229
                                replace q229 := eq_true q229
                                go_wp2_with (first | ((with_reducible refine gate_dst (N := 6) rfl ?_); refine box_event ?hg (N := 6) ?hd (cs := #[.int .i64 0, .string (⟨#[]⟩ : ByteArray)]) (t := 63) ?hr ?_; (case hd => rfl); (case hg => rfl); (case hr => first | (go_simp; done) | (go_simp; rfl)); intro gb230 hg w54 hbox hb; have n0_ := Aside0.mk (blk_below (g := gb224) (o := .cells #[.slice (some ad226) l0_0.length c0_0] 29 (0, 0)) (by (with_reducible repeat (first | refine blk_drewN ?_ _ | refine blk_drew ?_ | refine blk_alloc ?_ _)); exact BK224.out) hb); have n1_ := Aside0.mk (blk_below (g := gb227) (o := .cells #[.bool ((rd_T39 l0_0 x10_1).f0), .int .i64 ((rd_T39 l0_0 x10_1).f1), .slice (some ad229) ((rd_T39 l0_0 x10_1).f2).length c226_2] 39 (0, 0)) (by (with_reducible repeat (first | refine blk_drewN ?_ _ | refine blk_drew ?_ | refine blk_alloc ?_ _)); exact BK227.out) hb); have n2_ := Aside0.mk (below_step (by repeat (first | (with_reducible first | exact HB.out | apply below_alloc | apply pw_below_drewN | apply below_drew1 | refine below_set ?_ GE224.out | refine below_set ?_ GE227.out) | exact HB.out)) hb); have n3_ := Aside0.mk (hbox); have n4_ := Aside0.mk ((by rw [hg]; exact (below_size (by repeat (first | (with_reducible first | exact HB.out | apply below_alloc | apply pw_below_drewN | apply below_drew1 | refine below_set ?_ GE224.out | refine below_set ?_ GE227.out) | exact HB.out))) : w.heap.size ≤ gb230)); have n5_ := Aside0.mk ((by rw [hg]; exact (below_size (by repeat (first | (with_reducible first | exact HB.out | apply below_alloc | apply pw_below_drewN | apply below_drew1 | refine below_set ?_ GE224.out | refine below_set ?_ GE227.out) | exact HB.out))) : w.heap.size ≤ gb230)); have n6_ := Aside0.mk ((by rw [hg]; exact Nat.ne_of_lt (blk_lt (g := gb224) (o := .cells #[.slice (some ad226) l0_0.length c0_0] 29 (0, 0)) (by (with_reducible repeat (first | refine blk_drewN ?_ _ | refine blk_drew ?_ | refine blk_alloc ?_ _)); exact BK224.out)) : gb224 ≠ gb230)); have n7_ := Aside0.mk ((by rw [hg]; exact Nat.ne_of_gt (blk_lt (g := gb224) (o := .cells #[.slice (some ad226) l0_0.length c0_0] 29 (0, 0)) (by (with_reducible repeat (first | refine blk_drewN ?_ _ | refine blk_drew ?_ | refine blk_alloc ?_ _)); exact BK224.out)) : gb230 ≠ gb224)); have n8_ := Aside0.mk ((by rw [hg]; exact Nat.ne_of_lt (blk_lt (g := gb227) (o := .cells #[.bool ((rd_T39 l0_0 x10_1).f0), .int .i64 ((rd_T39 l0_0 x10_1).f1), .slice (some ad229) ((rd_T39 l0_0 x10_1).f2).length c226_2] 39 (0, 0)) (by (with_reducible repeat (first | refine blk_drewN ?_ _ | refine blk_drew ?_ | refine blk_alloc ?_ _)); exact BK227.out)) : gb227 ≠ gb230)); have n9_ := Aside0.mk ((by rw [hg]; exact Nat.ne_of_gt (blk_lt (g := gb227) (o := .cells #[.bool ((rd_T39 l0_0 x10_1).f0), .int .i64 ((rd_T39 l0_0 x10_1).f1), .slice (some ad229) ((rd_T39 l0_0 x10_1).f2).length c226_2] 39 (0, 0)) (by (with_reducible repeat (first | refine blk_drewN ?_ _ | refine blk_drew ?_ | refine blk_alloc ?_ _)); exact BK227.out)) : gb230 ≠ gb227)); clear BK224; clear BK227; clear HB; have BK224 := n0_; have BK227 := n1_; have HB := n2_; have BK230 := n3_; have GW230 := n4_; have GE230 := n5_; have NB224_230 := n6_; have NB230_224 := n7_; have NB227_230 := n8_; have NB230_227 := n9_; clear n0_ n1_ n2_ n3_ n4_ n5_ n6_ n7_ n8_ n9_; clear hb hbox hg; have hnb55 := NB230_224.out; have hnc55 := NB224_230.out; have hnb56 := NB230_227.out; have hnc56 := NB227_230.out; have hcz57_0 : w54.cell? ⟨gb230, 0, none⟩ = some (.int .i64 0) := (blk_cell BK230.out 0).trans rfl; have hcz57_1 : w54.cell? ⟨gb230, 1, none⟩ = some (.string (⟨#[]⟩ : ByteArray)) := (blk_cell BK230.out 1).trans rfl; have hfz57_0 := blk_frozen BK230.out 0; have hfz57_1 := blk_frozen BK230.out 1; (try have hcygb224_0 : _ = some (.slice (some ad226) l0_0.length c0_0) := (blk_cell BK224.out 0).trans rfl); (try have hcygb227_0 : _ = some (.bool ((rd_T39 l0_0 x10_1).f0)) := (blk_cell BK227.out 0).trans rfl); (try have hcygb227_1 : _ = some (.int .i64 ((rd_T39 l0_0 x10_1).f1)) := (blk_cell BK227.out 1).trans rfl); (try have hcygb227_2 : _ = some (.slice (some ad229) ((rd_T39 l0_0 x10_1).f2).length c226_2) := (blk_cell BK227.out 2).trans rfl); (try have hcygb224_0 : _ = some (.slice (some ad226) l0_0.length c0_0) := (blk_cell BK224.out 0).trans rfl); (try have hcygb224_0 : _ = some (.slice (some ad226) l0_0.length c0_0) := (blk_cell BK224.out 0).trans rfl); (try have hcygb227_0 : _ = some (.bool ((rd_T39 l0_0 x10_1).f0)) := (blk_cell BK227.out 0).trans rfl); (try have hcygb227_1 : _ = some (.int .i64 ((rd_T39 l0_0 x10_1).f1)) := (blk_cell BK227.out 1).trans rfl); (try have hcygb227_2 : _ = some (.slice (some ad229) ((rd_T39 l0_0 x10_1).f2).length c226_2) := (blk_cell BK227.out 2).trans rfl); (try have hcygb227_0 : _ = some (.bool ((rd_T39 l0_0 x10_1).f0)) := (blk_cell BK227.out 0).trans rfl); (try have hcygb227_1 : _ = some (.int .i64 ((rd_T39 l0_0 x10_1).f1)) := (blk_cell BK227.out 1).trans rfl); (try have hcygb227_2 : _ = some (.slice (some ad229) ((rd_T39 l0_0 x10_1).f2).length c226_2) := (blk_cell BK227.out 2).trans rfl)) | ((with_reducible refine gate_callee (f := 67) rfl ?_); refine goesL_ (some 33) rfl rfl Try.func67 (by kernel_rfl) rfl #[.agg #[.int .i64 ((rd_T63 ((rd_T39 l0_0 x10_1).f2) x27_3).f0), .string ((rd_T63 ((rd_T39 l0_0 x10_1).f2) x27_3).f1)]] rfl (by (try simp only [List.map_toArray, List.map_cons, List.map_nil]); first | done | rfl | (simp only [List.length_drop, List.length_take]; rfl)) ?_; (with_reducible refine (impl_leafOk.calls ((rd_T63 ((rd_T39 l0_0 x10_1).f2) x27_3).f0) ((rd_T63 ((rd_T39 l0_0 x10_1).f2) x27_3).f1) true _ A23.out).mono ?_); rintro e w58 ⟨rfl, hb⟩; refine ⟨_, rfl, ?_⟩; have n0_ := Aside0.mk (blk_below (g := gb224) (o := .cells #[.slice (some ad226) l0_0.length c0_0] 29 (0, 0)) (by (with_reducible repeat (first | refine blk_drewN ?_ _ | refine blk_drew ?_ | refine blk_alloc ?_ _)); refine blk_far ?_ NB224_230.out _; (with_reducible repeat (first | refine blk_drewN ?_ _ | refine blk_drew ?_ | refine blk_alloc ?_ _)); refine blk_far ?_ NB224_230.out _; (with_reducible repeat (first | refine blk_drewN ?_ _ | refine blk_drew ?_ | refine blk_alloc ?_ _)); exact BK224.out) hb); have n1_ := Aside0.mk (blk_below (g := gb227) (o := .cells #[.bool ((rd_T39 l0_0 x10_1).f0), .int .i64 ((rd_T39 l0_0 x10_1).f1), .slice (some ad229) ((rd_T39 l0_0 x10_1).f2).length c226_2] 39 (0, 0)) (by (with_reducible repeat (first | refine blk_drewN ?_ _ | refine blk_drew ?_ | refine blk_alloc ?_ _)); refine blk_far ?_ NB227_230.out _; (with_reducible repeat (first | refine blk_drewN ?_ _ | refine blk_drew ?_ | refine blk_alloc ?_ _)); refine blk_far ?_ NB227_230.out _; (with_reducible repeat (first | refine blk_drewN ?_ _ | refine blk_drew ?_ | refine blk_alloc ?_ _)); exact BK227.out) hb); have n2_ := Aside0.mk (blk_below (g := gb230) (o := .cells #[.int .i64 ((rd_T63 ((rd_T39 l0_0 x10_1).f2) x27_3).f0), .string ((rd_T63 ((rd_T39 l0_0 x10_1).f2) x27_3).f1)] 63 (0, 0)) (by (with_reducible repeat (first | refine blk_drewN ?_ _ | refine blk_drew ?_ | refine blk_alloc ?_ _)); refine blk_put (cs := #[.int .i64 ((rd_T63 ((rd_T39 l0_0 x10_1).f2) x27_3).f0), .string (⟨#[]⟩ : ByteArray)]) ?_ 1 _ rfl; (with_reducible repeat (first | refine blk_drewN ?_ _ | refine blk_drew ?_ | refine blk_alloc ?_ _)); refine blk_put (cs := #[.int .i64 0, .string (⟨#[]⟩ : ByteArray)]) ?_ 0 _ rfl; (with_reducible repeat (first | refine blk_drewN ?_ _ | refine blk_drew ?_ | refine blk_alloc ?_ _)); exact BK230.out) hb); have n3_ := Aside0.mk (below_step (by repeat (first | (with_reducible first | exact HB.out | apply below_alloc | apply pw_below_drewN | apply below_drew1 | refine below_set ?_ GE224.out | refine below_set ?_ GE227.out | refine below_set ?_ GE230.out) | exact HB.out)) hb); clear BK224; clear BK227; clear BK230; clear HB; have BK224 := n0_; have BK227 := n1_; have BK230 := n2_; have HB := n3_; clear n0_ n1_ n2_ n3_; (try clear hb); (try clear hb2); (try clear hk); (try clear hi); (try have hcygb224_0 : _ = some (.slice (some ad226) l0_0.length c0_0) := (blk_cell BK224.out 0).trans rfl); (try have hcygb227_0 : _ = some (.bool ((rd_T39 l0_0 x10_1).f0)) := (blk_cell BK227.out 0).trans rfl); (try have hcygb227_1 : _ = some (.int .i64 ((rd_T39 l0_0 x10_1).f1)) := (blk_cell BK227.out 1).trans rfl); (try have hcygb227_2 : _ = some (.slice (some ad229) ((rd_T39 l0_0 x10_1).f2).length c226_2) := (blk_cell BK227.out 2).trans rfl); (try have hcygb230_0 : _ = some (.int .i64 ((rd_T63 ((rd_T39 l0_0 x10_1).f2) x27_3).f0)) := (blk_cell BK230.out 0).trans rfl); (try have hcygb230_1 : _ = some (.string ((rd_T63 ((rd_T39 l0_0 x10_1).f2) x27_3).f1)) := (blk_cell BK230.out 1).trans rfl)))
                                go_roundg k3
                                case measure => have := HK1.out; have := HJ6.out; have := HK3.out; omega
                                case rel => exact ⟨(wrap64 (x27_3 + 1)), (by first | rfl | (simp; done) | (simp [*]; done)), H', ⟨by have := HK1.out; have := HJ6.out; have := HK3.out; omega⟩, ⟨by (with_reducible repeat (first | refine blk_drewN ?_ _ | refine blk_drew ?_ | refine blk_alloc ?_ _)); exact BK224.out⟩, ⟨by (with_reducible repeat (first | refine blk_drewN ?_ _ | refine blk_drew ?_ | refine blk_alloc ?_ _)); exact BK227.out⟩, ⟨by repeat (first | (with_reducible first | exact HB.out | apply below_alloc | apply pw_below_drewN | apply below_drew1 | refine below_set ?_ GE224.out | refine below_set ?_ GE227.out | refine below_set ?_ GE230.out) | exact HB.out)⟩⟩
                            · replace c24 := Bool.eq_false_iff.mpr c24
                              subst c24
                              have H1 : (some false) = some r := by rw [if_neg (show ¬ (false = true) by decide)] at H; exact H
                              clear H
                              have H := H1
                              clear H1
                              obtain rfl := Option.some.inj H
                              have p229 : 0 ≤ (x27_3 : Int) := of_decide_eq_true (by first | (with_reducible assumption) | assumption)
                              have q229 : x27_3 < (((rd_T39 l0_0 x10_1).f2).length : Int) := of_decide_eq_true (by first | (with_reducible assumption) | assumption)
                              obtain ⟨ad229, e229, hx229_0, hx229_1⟩ := at_T63 HR226_2.out x27_3 p229 q229
                              cases e229
                              replace hx229_0 := (HB.out.cell (World.block_lt_of_cell? w _ hx229_0)).trans hx229_0
                              replace hx229_1 := (HB.out.cell (World.block_lt_of_cell? w _ hx229_1)).trans hx229_1
                              replace p229 := eq_true p229
                              replace q229 := eq_true q229
                              go_wp2_with (first | ((with_reducible refine gate_dst (N := 6) rfl ?_); refine box_event ?hg (N := 6) ?hd (cs := #[.int .i64 0, .string (⟨#[]⟩ : ByteArray)]) (t := 63) ?hr ?_; (case hd => rfl); (case hg => rfl); (case hr => first | (go_simp; done) | (go_simp; rfl)); intro gb230 hg w59 hbox hb; have n0_ := Aside0.mk (blk_below (g := gb224) (o := .cells #[.slice (some ad226) l0_0.length c0_0] 29 (0, 0)) (by (with_reducible repeat (first | refine blk_drewN ?_ _ | refine blk_drew ?_ | refine blk_alloc ?_ _)); exact BK224.out) hb); have n1_ := Aside0.mk (blk_below (g := gb227) (o := .cells #[.bool ((rd_T39 l0_0 x10_1).f0), .int .i64 ((rd_T39 l0_0 x10_1).f1), .slice (some ad229) ((rd_T39 l0_0 x10_1).f2).length c226_2] 39 (0, 0)) (by (with_reducible repeat (first | refine blk_drewN ?_ _ | refine blk_drew ?_ | refine blk_alloc ?_ _)); exact BK227.out) hb); have n2_ := Aside0.mk (below_step (by repeat (first | (with_reducible first | exact HB.out | apply below_alloc | apply pw_below_drewN | apply below_drew1 | refine below_set ?_ GE224.out | refine below_set ?_ GE227.out) | exact HB.out)) hb); have n3_ := Aside0.mk (hbox); have n4_ := Aside0.mk ((by rw [hg]; exact (below_size (by repeat (first | (with_reducible first | exact HB.out | apply below_alloc | apply pw_below_drewN | apply below_drew1 | refine below_set ?_ GE224.out | refine below_set ?_ GE227.out) | exact HB.out))) : w.heap.size ≤ gb230)); have n5_ := Aside0.mk ((by rw [hg]; exact (below_size (by repeat (first | (with_reducible first | exact HB.out | apply below_alloc | apply pw_below_drewN | apply below_drew1 | refine below_set ?_ GE224.out | refine below_set ?_ GE227.out) | exact HB.out))) : w.heap.size ≤ gb230)); have n6_ := Aside0.mk ((by rw [hg]; exact Nat.ne_of_lt (blk_lt (g := gb224) (o := .cells #[.slice (some ad226) l0_0.length c0_0] 29 (0, 0)) (by (with_reducible repeat (first | refine blk_drewN ?_ _ | refine blk_drew ?_ | refine blk_alloc ?_ _)); exact BK224.out)) : gb224 ≠ gb230)); have n7_ := Aside0.mk ((by rw [hg]; exact Nat.ne_of_gt (blk_lt (g := gb224) (o := .cells #[.slice (some ad226) l0_0.length c0_0] 29 (0, 0)) (by (with_reducible repeat (first | refine blk_drewN ?_ _ | refine blk_drew ?_ | refine blk_alloc ?_ _)); exact BK224.out)) : gb230 ≠ gb224)); have n8_ := Aside0.mk ((by rw [hg]; exact Nat.ne_of_lt (blk_lt (g := gb227) (o := .cells #[.bool ((rd_T39 l0_0 x10_1).f0), .int .i64 ((rd_T39 l0_0 x10_1).f1), .slice (some ad229) ((rd_T39 l0_0 x10_1).f2).length c226_2] 39 (0, 0)) (by (with_reducible repeat (first | refine blk_drewN ?_ _ | refine blk_drew ?_ | refine blk_alloc ?_ _)); exact BK227.out)) : gb227 ≠ gb230)); have n9_ := Aside0.mk ((by rw [hg]; exact Nat.ne_of_gt (blk_lt (g := gb227) (o := .cells #[.bool ((rd_T39 l0_0 x10_1).f0), .int .i64 ((rd_T39 l0_0 x10_1).f1), .slice (some ad229) ((rd_T39 l0_0 x10_1).f2).length c226_2] 39 (0, 0)) (by (with_reducible repeat (first | refine blk_drewN ?_ _ | refine blk_drew ?_ | refine blk_alloc ?_ _)); exact BK227.out)) : gb230 ≠ gb227)); clear BK224; clear BK227; clear HB; have BK224 := n0_; have BK227 := n1_; have HB := n2_; have BK230 := n3_; have GW230 := n4_; have GE230 := n5_; have NB224_230 := n6_; have NB230_224 := n7_; have NB227_230 := n8_; have NB230_227 := n9_; clear n0_ n1_ n2_ n3_ n4_ n5_ n6_ n7_ n8_ n9_; clear hb hbox hg; have hnb60 := NB230_224.out; have hnc60 := NB224_230.out; have hnb61 := NB230_227.out; have hnc61 := NB227_230.out; have hcz62_0 : w59.cell? ⟨gb230, 0, none⟩ = some (.int .i64 0) := (blk_cell BK230.out 0).trans rfl; have hcz62_1 : w59.cell? ⟨gb230, 1, none⟩ = some (.string (⟨#[]⟩ : ByteArray)) := (blk_cell BK230.out 1).trans rfl; have hfz62_0 := blk_frozen BK230.out 0; have hfz62_1 := blk_frozen BK230.out 1; (try have hcygb224_0 : _ = some (.slice (some ad226) l0_0.length c0_0) := (blk_cell BK224.out 0).trans rfl); (try have hcygb227_0 : _ = some (.bool ((rd_T39 l0_0 x10_1).f0)) := (blk_cell BK227.out 0).trans rfl); (try have hcygb227_1 : _ = some (.int .i64 ((rd_T39 l0_0 x10_1).f1)) := (blk_cell BK227.out 1).trans rfl); (try have hcygb227_2 : _ = some (.slice (some ad229) ((rd_T39 l0_0 x10_1).f2).length c226_2) := (blk_cell BK227.out 2).trans rfl); (try have hcygb224_0 : _ = some (.slice (some ad226) l0_0.length c0_0) := (blk_cell BK224.out 0).trans rfl); (try have hcygb224_0 : _ = some (.slice (some ad226) l0_0.length c0_0) := (blk_cell BK224.out 0).trans rfl); (try have hcygb227_0 : _ = some (.bool ((rd_T39 l0_0 x10_1).f0)) := (blk_cell BK227.out 0).trans rfl); (try have hcygb227_1 : _ = some (.int .i64 ((rd_T39 l0_0 x10_1).f1)) := (blk_cell BK227.out 1).trans rfl); (try have hcygb227_2 : _ = some (.slice (some ad229) ((rd_T39 l0_0 x10_1).f2).length c226_2) := (blk_cell BK227.out 2).trans rfl); (try have hcygb227_0 : _ = some (.bool ((rd_T39 l0_0 x10_1).f0)) := (blk_cell BK227.out 0).trans rfl); (try have hcygb227_1 : _ = some (.int .i64 ((rd_T39 l0_0 x10_1).f1)) := (blk_cell BK227.out 1).trans rfl); (try have hcygb227_2 : _ = some (.slice (some ad229) ((rd_T39 l0_0 x10_1).f2).length c226_2) := (blk_cell BK227.out 2).trans rfl)) | ((with_reducible refine gate_callee (f := 67) rfl ?_); refine goesL_ (some 33) rfl rfl Try.func67 (by kernel_rfl) rfl #[.agg #[.int .i64 ((rd_T63 ((rd_T39 l0_0 x10_1).f2) x27_3).f0), .string ((rd_T63 ((rd_T39 l0_0 x10_1).f2) x27_3).f1)]] rfl (by (try simp only [List.map_toArray, List.map_cons, List.map_nil]); first | done | rfl | (simp only [List.length_drop, List.length_take]; rfl)) ?_; (with_reducible refine (impl_leafOk.calls ((rd_T63 ((rd_T39 l0_0 x10_1).f2) x27_3).f0) ((rd_T63 ((rd_T39 l0_0 x10_1).f2) x27_3).f1) false _ A23.out).mono ?_); rintro e w63 ⟨rfl, hb⟩; refine ⟨_, rfl, ?_⟩; have n0_ := Aside0.mk (blk_below (g := gb224) (o := .cells #[.slice (some ad226) l0_0.length c0_0] 29 (0, 0)) (by (with_reducible repeat (first | refine blk_drewN ?_ _ | refine blk_drew ?_ | refine blk_alloc ?_ _)); refine blk_far ?_ NB224_230.out _; (with_reducible repeat (first | refine blk_drewN ?_ _ | refine blk_drew ?_ | refine blk_alloc ?_ _)); refine blk_far ?_ NB224_230.out _; (with_reducible repeat (first | refine blk_drewN ?_ _ | refine blk_drew ?_ | refine blk_alloc ?_ _)); exact BK224.out) hb); have n1_ := Aside0.mk (blk_below (g := gb227) (o := .cells #[.bool ((rd_T39 l0_0 x10_1).f0), .int .i64 ((rd_T39 l0_0 x10_1).f1), .slice (some ad229) ((rd_T39 l0_0 x10_1).f2).length c226_2] 39 (0, 0)) (by (with_reducible repeat (first | refine blk_drewN ?_ _ | refine blk_drew ?_ | refine blk_alloc ?_ _)); refine blk_far ?_ NB227_230.out _; (with_reducible repeat (first | refine blk_drewN ?_ _ | refine blk_drew ?_ | refine blk_alloc ?_ _)); refine blk_far ?_ NB227_230.out _; (with_reducible repeat (first | refine blk_drewN ?_ _ | refine blk_drew ?_ | refine blk_alloc ?_ _)); exact BK227.out) hb); have n2_ := Aside0.mk (blk_below (g := gb230) (o := .cells #[.int .i64 ((rd_T63 ((rd_T39 l0_0 x10_1).f2) x27_3).f0), .string ((rd_T63 ((rd_T39 l0_0 x10_1).f2) x27_3).f1)] 63 (0, 0)) (by (with_reducible repeat (first | refine blk_drewN ?_ _ | refine blk_drew ?_ | refine blk_alloc ?_ _)); refine blk_put (cs := #[.int .i64 ((rd_T63 ((rd_T39 l0_0 x10_1).f2) x27_3).f0), .string (⟨#[]⟩ : ByteArray)]) ?_ 1 _ rfl; (with_reducible repeat (first | refine blk_drewN ?_ _ | refine blk_drew ?_ | refine blk_alloc ?_ _)); refine blk_put (cs := #[.int .i64 0, .string (⟨#[]⟩ : ByteArray)]) ?_ 0 _ rfl; (with_reducible repeat (first | refine blk_drewN ?_ _ | refine blk_drew ?_ | refine blk_alloc ?_ _)); exact BK230.out) hb); have n3_ := Aside0.mk (below_step (by repeat (first | (with_reducible first | exact HB.out | apply below_alloc | apply pw_below_drewN | apply below_drew1 | refine below_set ?_ GE224.out | refine below_set ?_ GE227.out | refine below_set ?_ GE230.out) | exact HB.out)) hb); clear BK224; clear BK227; clear BK230; clear HB; have BK224 := n0_; have BK227 := n1_; have BK230 := n2_; have HB := n3_; clear n0_ n1_ n2_ n3_; (try clear hb); (try clear hb2); (try clear hk); (try clear hi); (try have hcygb224_0 : _ = some (.slice (some ad226) l0_0.length c0_0) := (blk_cell BK224.out 0).trans rfl); (try have hcygb227_0 : _ = some (.bool ((rd_T39 l0_0 x10_1).f0)) := (blk_cell BK227.out 0).trans rfl); (try have hcygb227_1 : _ = some (.int .i64 ((rd_T39 l0_0 x10_1).f1)) := (blk_cell BK227.out 1).trans rfl); (try have hcygb227_2 : _ = some (.slice (some ad229) ((rd_T39 l0_0 x10_1).f2).length c226_2) := (blk_cell BK227.out 2).trans rfl); (try have hcygb230_0 : _ = some (.int .i64 ((rd_T63 ((rd_T39 l0_0 x10_1).f2) x27_3).f0)) := (blk_cell BK230.out 0).trans rfl); (try have hcygb230_1 : _ = some (.string ((rd_T63 ((rd_T39 l0_0 x10_1).f2) x27_3).f1)) := (blk_cell BK230.out 1).trans rfl)))
                              go_ret
                              exact ⟨by first | rfl | (simp [errW_none, errW_some] <;> rfl) | (simp [*, errW_none, errW_some] <;> rfl), by repeat (first | (with_reducible first | exact HB.out | apply below_alloc | apply pw_below_drewN | apply below_drew1 | refine below_set ?_ GE224.out | refine below_set ?_ GE227.out | refine below_set ?_ GE230.out) | exact HB.out)⟩
                          · rw [if_neg c22] at H
                            exact absurd H (by simp)
                        · rw [if_neg c21] at H
                          exact absurd H (by simp)
                      · rw [if_neg c20] at H
                        have c20b0 : decide (x27_3 < (((rd_T39 l0_0 x10_1).f2).length : Int)) = false := decide_eq_false c20
                        clear c20
                        have H' := Aside0.mk H
                        clear H
                        go_wp2
                        go_roundg k3
                        case measure => have := HK1.out; have := HJ6.out; have := HK3.out; omega
                        case rel => exact ⟨(wrap64 (x10_1 + 1)), (by first | rfl | (simp; done) | (simp [*]; done)), H', ⟨by have := HK1.out; have := HJ6.out; have := HK3.out; omega⟩, ⟨by (with_reducible repeat (first | refine blk_drewN ?_ _ | refine blk_drew ?_ | refine blk_alloc ?_ _)); exact BK224.out⟩, ⟨by repeat (first | (with_reducible first | exact HB.out | apply below_alloc | apply pw_below_drewN | apply below_drew1 | refine below_set ?_ GE224.out | refine below_set ?_ GE227.out) | exact HB.out)⟩⟩
          · rw [if_neg c6] at H
            exact absurd H (by simp)
        · rw [if_neg c5] at H
          exact absurd H (by simp)
      · rw [if_neg c4] at H
        have c4b0 : decide (x10_1 < (l0_0.length : Int)) = false := decide_eq_false c4
        clear c4
        replace H := Option.bind_eq_some_iff.mp H
        obtain ⟨t225, A640, H⟩ := H
        replace H : (some t225) = some r := H
        have A64 := Aside0.mk A640
        clear A640
        obtain rfl := Option.some.inj H
        have hcz65_0 : wr.cell? ⟨gb224, 0, none⟩ = some (.slice A0_0 l0_0.length c0_0) := (blk_cell BK224.out 0).trans rfl
        have hfz65_0 := blk_frozen BK224.out 0
        go_wp2_with (first | ((with_reducible refine gate_callee (f := 66) rfl ?_); refine goesL_ (some 59) rfl rfl Try.func66 (by kernel_rfl) rfl #[.int .i64 (l0_0.length : Int), .int .i64 3, .int .i64 10] rfl (by (try simp only [List.map_toArray, List.map_cons, List.map_nil]); first | done | rfl | (simp only [List.length_drop, List.length_take]; rfl)) ?_; (with_reducible refine (impl_in.calls (l0_0.length : Int) 3 10 t225 _ A64.out).mono ?_); rintro e w' ⟨rfl, ⟨nd, rfl⟩⟩; refine ⟨_, rfl, ?_⟩))
        go_ret
        exact ⟨by first | rfl | (simp [errW_none, errW_some] <;> rfl) | (simp [*, errW_none, errW_some] <;> rfl), by repeat (first | (with_reducible first | exact HB.out | apply below_alloc | apply pw_below_drewN | apply below_drew1 | refine below_set ?_ GE224.out) | exact HB.out)⟩

/-! ### impl_usable: function 76 -/
def impl_usable.f (k : Nat) (l0_0 : List (S39)) (a1 : Int) : Option (Bool) := (impl_FlashOk.f k l0_0).bind fun t234 => (if t234 = true then ((impl_in.f a1 0 (wrap64 ((l0_0.length : Int) - 1))).bind fun t235 => (if t235 = true then (if 0 ≤ a1 then (if a1 < (l0_0.length : Int) then (some (!((rd_T39 l0_0 a1).f0))) else (none)) else (none)) else (some false))) else (some false))
theorem impl_usable.mono : ∀ a0 a1 k, LeO (impl_usable.f k a0 a1) (impl_usable.f (k + 1) a0 a1) := by
  intro a0 a1 k
  unfold impl_usable.f
  repeat' first
      | (with_reducible exact impl_FlashOk.mono _ _)
      | (with_reducible exact LeO.refl _)
      | (with_reducible exact LeO.none _)
      | (with_reducible refine LeO.ite ?_ ?_)
      | (with_reducible refine LeO.bind ?_ (fun _ => ?_))
      | exact impl_FlashOk.mono _ _
      | exact LeO.none _
      | refine LeO.ite ?_ ?_
      | refine LeO.bind ?_ (fun _ => ?_)
set_option maxHeartbeats 8000000 in
set_option maxRecDepth 100000 in
theorem impl_usable.calls (k : Nat) (A0_0 : Option Addr) (c0_0 : Nat) (l0_0 : List (S39)) (a1 : Int) (r : Bool) (w : World) (hr0_0 : Kd.C k39 w A0_0 l0_0.length l0_0) (hc0_0 : l0_0.length ≤ c0_0) (h : impl_usable.f k l0_0 a1 = some r) :
    Calls Try.prog 76 #[.agg #[.slice A0_0 l0_0.length c0_0], .int .i64 a1] w fun e w' => e = .returned (.bool r) ∧ Below w.heap.size w w' := by
  have hu29 := Try.underlying29
  have HR0_0 := Aside0.mk hr0_0
  have HC0_0 := Aside0.mk hc0_0
  clear hr0_0 hc0_0
  have HB := Aside0.mk (Below.refl w.heap.size w)
  have H : ((impl_FlashOk.f k l0_0).bind fun t234 => (if t234 = true then ((impl_in.f a1 0 (wrap64 ((l0_0.length : Int) - 1))).bind fun t235 => (if t235 = true then (if 0 ≤ a1 then (if a1 < (l0_0.length : Int) then (some (!((rd_T39 l0_0 a1).f0))) else (none)) else (none)) else (some false))) else (some false))) = some r := h
  clear h
  replace H := Option.bind_eq_some_iff.mp H
  obtain ⟨t234, A30, H⟩ := H
  replace H : (if t234 = true then ((impl_in.f a1 0 (wrap64 ((l0_0.length : Int) - 1))).bind fun t235 => (if t235 = true then (if 0 ≤ a1 then (if a1 < (l0_0.length : Int) then (some (!((rd_T39 l0_0 a1).f0))) else (none)) else (none)) else (some false))) else (some false)) = some r := H
  have A3 := Aside0.mk A30
  clear A30
  by_cases c4 : t234 = true
  · subst c4
    have H1 : ((impl_in.f a1 0 (wrap64 ((l0_0.length : Int) - 1))).bind fun t235 => (if t235 = true then (if 0 ≤ a1 then (if a1 < (l0_0.length : Int) then (some (!((rd_T39 l0_0 a1).f0))) else (none)) else (none)) else (some false))) = some r := by rw [if_pos rfl] at H; exact H
    clear H
    have H := H1
    clear H1
    replace H := Option.bind_eq_some_iff.mp H
    obtain ⟨t235, A50, H⟩ := H
    replace H : (if t235 = true then (if 0 ≤ a1 then (if a1 < (l0_0.length : Int) then (some (!((rd_T39 l0_0 a1).f0))) else (none)) else (none)) else (some false)) = some r := H
    have A5 := Aside0.mk A50
    clear A50
    by_cases c6 : t235 = true
    · subst c6
      have H1 : (if 0 ≤ a1 then (if a1 < (l0_0.length : Int) then (some (!((rd_T39 l0_0 a1).f0))) else (none)) else (none)) = some r := by rw [if_pos rfl] at H; exact H
      clear H
      have H := H1
      clear H1
      by_cases c7 : 0 ≤ a1
      · rw [if_pos c7] at H
        have c7b0 : decide (0 ≤ a1) = true := decide_eq_true c7
        clear c7
        by_cases c8 : a1 < (l0_0.length : Int)
        · rw [if_pos c8] at H
          have c8b0 : decide (a1 < (l0_0.length : Int)) = true := decide_eq_true c8
          clear c8
          obtain rfl := Option.some.inj H
          go_enter Try.func76, Try.ntmps76
          go_wp2_with (first | ((with_reducible refine gate_dst (N := 2) rfl ?_); (try (refine gate_guard (by rfl) ?_; dsimp only)); refine box_event ?hg (N := 2) ?hd (cs := #[.slice A0_0 l0_0.length c0_0]) (t := 29) ?hr ?_; (case hd => rfl); (case hg => rfl); (case hr => first | (go_simp; done) | (go_simp; rfl)); intro gb233 hg w9 hbox hb; have n0_ := Aside0.mk (below_step (by repeat (first | (with_reducible first | exact HB.out | apply below_alloc | apply pw_below_drewN | apply below_drew1) | exact HB.out)) hb); have n1_ := Aside0.mk (hbox); have n2_ := Aside0.mk ((by rw [hg]; exact (below_size (by repeat (first | (with_reducible first | exact HB.out | apply below_alloc | apply pw_below_drewN | apply below_drew1) | exact HB.out))) : w.heap.size ≤ gb233)); have n3_ := Aside0.mk ((by rw [hg]; exact (below_size (by repeat (first | (with_reducible first | exact HB.out | apply below_alloc | apply pw_below_drewN | apply below_drew1) | exact HB.out))) : w.heap.size ≤ gb233)); clear HB; have HB := n0_; have BK233 := n1_; have GW233 := n2_; have GE233 := n3_; clear n0_ n1_ n2_ n3_; clear hb hbox hg; have hcz10_0 : w9.cell? ⟨gb233, 0, none⟩ = some (.slice A0_0 l0_0.length c0_0) := (blk_cell BK233.out 0).trans rfl; have hfz10_0 := blk_frozen BK233.out 0) | ((with_reducible refine gate_callee (f := 31) rfl ?_); refine goesL_ (some 6) rfl rfl Try.func31 (by kernel_rfl) rfl #[.agg #[.slice A0_0 l0_0.length c0_0]] rfl (by (try simp only [List.map_toArray, List.map_cons, List.map_nil]); first | done | rfl | (simp only [List.length_drop, List.length_take]; rfl)) ?_; (with_reducible refine (impl_FlashOk.calls k _ _ l0_0 true _ ?side1 ?side2 A3.out).mono ?_); (case side1 => repeat (first | exact (Kd.C_below HR0_0.out HB.out) | (with_reducible refine Kd.C_alloc ?_ _) | (with_reducible refine Kd.C_drewN ?_ _) | (with_reducible refine Kd.C_drew ?_))); (case side2 => exact HC0_0.out); rintro e w11 ⟨rfl, hb⟩; refine ⟨_, rfl, ?_⟩; have n0_ := Aside0.mk (blk_below (g := gb233) (o := .cells #[.slice A0_0 l0_0.length c0_0] 29 (0, 0)) (by (with_reducible repeat (first | refine blk_drewN ?_ _ | refine blk_drew ?_ | refine blk_alloc ?_ _)); exact BK233.out) hb); have n1_ := Aside0.mk (below_step (by repeat (first | (with_reducible first | exact HB.out | apply below_alloc | apply pw_below_drewN | apply below_drew1 | refine below_set ?_ GE233.out) | exact HB.out)) hb); clear BK233; clear HB; have BK233 := n0_; have HB := n1_; clear n0_ n1_; (try clear hb); (try clear hb2); (try clear hk); (try clear hi); have hcz12_0 : w11.cell? ⟨gb233, 0, none⟩ = some (.slice A0_0 l0_0.length c0_0) := (blk_cell BK233.out 0).trans rfl; have hfz12_0 := blk_frozen BK233.out 0) | (go_at_call 66; (with_reducible refine (impl_in.calls a1 0 (wrap64 ((l0_0.length : Int) - 1)) true _ A5.out).mono ?_); rintro e w' ⟨rfl, ⟨nd, rfl⟩⟩; have p236 : 0 ≤ (a1 : Int) := of_decide_eq_true (by first | (with_reducible assumption) | assumption); have q236 : a1 < (l0_0.length : Int) := of_decide_eq_true (by first | (with_reducible assumption) | assumption); obtain ⟨ad236, A236_2, c236_2, e236, hx236_0, hx236_1, hx236_2, hl236_2, hi236_2⟩ := at_T39 HR0_0.out a1 p236 q236; cases e236; replace hx236_0 := (HB.out.cell (World.block_lt_of_cell? w _ hx236_0)).trans hx236_0; replace hx236_1 := (HB.out.cell (World.block_lt_of_cell? w _ hx236_1)).trans hx236_1; replace hx236_2 := (HB.out.cell (World.block_lt_of_cell? w _ hx236_2)).trans hx236_2; have HR236_2 := Aside0.mk hi236_2; have HC236_2 := Aside0.mk hl236_2; clear hi236_2 hl236_2; replace p236 := eq_true p236; replace q236 := eq_true q236))
          go_ret
          exact ⟨by first | rfl | (simp [errW_none, errW_some] <;> rfl) | (simp [*, errW_none, errW_some] <;> rfl), by repeat (first | (with_reducible first | exact HB.out | apply below_alloc | apply pw_below_drewN | apply below_drew1 | refine below_set ?_ GE233.out) | exact HB.out)⟩
        · rw [if_neg c8] at H
          exact absurd H (by simp)
      · rw [if_neg c7] at H
        exact absurd H (by simp)
    · replace c6 := Bool.eq_false_iff.mpr c6
      subst c6
      have H1 : (some false) = some r := by rw [if_neg (show ¬ (false = true) by decide)] at H; exact H
      clear H
      have H := H1
      clear H1
      obtain rfl := Option.some.inj H
      go_enter Try.func76, Try.ntmps76
      go_wp2_with (first | ((with_reducible refine gate_dst (N := 2) rfl ?_); (try (refine gate_guard (by rfl) ?_; dsimp only)); refine box_event ?hg (N := 2) ?hd (cs := #[.slice A0_0 l0_0.length c0_0]) (t := 29) ?hr ?_; (case hd => rfl); (case hg => rfl); (case hr => first | (go_simp; done) | (go_simp; rfl)); intro gb233 hg w13 hbox hb; have n0_ := Aside0.mk (below_step (by repeat (first | (with_reducible first | exact HB.out | apply below_alloc | apply pw_below_drewN | apply below_drew1) | exact HB.out)) hb); have n1_ := Aside0.mk (hbox); have n2_ := Aside0.mk ((by rw [hg]; exact (below_size (by repeat (first | (with_reducible first | exact HB.out | apply below_alloc | apply pw_below_drewN | apply below_drew1) | exact HB.out))) : w.heap.size ≤ gb233)); have n3_ := Aside0.mk ((by rw [hg]; exact (below_size (by repeat (first | (with_reducible first | exact HB.out | apply below_alloc | apply pw_below_drewN | apply below_drew1) | exact HB.out))) : w.heap.size ≤ gb233)); clear HB; have HB := n0_; have BK233 := n1_; have GW233 := n2_; have GE233 := n3_; clear n0_ n1_ n2_ n3_; clear hb hbox hg; have hcz14_0 : w13.cell? ⟨gb233, 0, none⟩ = some (.slice A0_0 l0_0.length c0_0) := (blk_cell BK233.out 0).trans rfl; have hfz14_0 := blk_frozen BK233.out 0) | ((with_reducible refine gate_callee (f := 31) rfl ?_); refine goesL_ (some 6) rfl rfl Try.func31 (by kernel_rfl) rfl #[.agg #[.slice A0_0 l0_0.length c0_0]] rfl (by (try simp only [List.map_toArray, List.map_cons, List.map_nil]); first | done | rfl | (simp only [List.length_drop, List.length_take]; rfl)) ?_; (with_reducible refine (impl_FlashOk.calls k _ _ l0_0 true _ ?side1 ?side2 A3.out).mono ?_); (case side1 => repeat (first | exact (Kd.C_below HR0_0.out HB.out) | (with_reducible refine Kd.C_alloc ?_ _) | (with_reducible refine Kd.C_drewN ?_ _) | (with_reducible refine Kd.C_drew ?_))); (case side2 => exact HC0_0.out); rintro e w15 ⟨rfl, hb⟩; refine ⟨_, rfl, ?_⟩; have n0_ := Aside0.mk (blk_below (g := gb233) (o := .cells #[.slice A0_0 l0_0.length c0_0] 29 (0, 0)) (by (with_reducible repeat (first | refine blk_drewN ?_ _ | refine blk_drew ?_ | refine blk_alloc ?_ _)); exact BK233.out) hb); have n1_ := Aside0.mk (below_step (by repeat (first | (with_reducible first | exact HB.out | apply below_alloc | apply pw_below_drewN | apply below_drew1 | refine below_set ?_ GE233.out) | exact HB.out)) hb); clear BK233; clear HB; have BK233 := n0_; have HB := n1_; clear n0_ n1_; (try clear hb); (try clear hb2); (try clear hk); (try clear hi); have hcz16_0 : w15.cell? ⟨gb233, 0, none⟩ = some (.slice A0_0 l0_0.length c0_0) := (blk_cell BK233.out 0).trans rfl; have hfz16_0 := blk_frozen BK233.out 0) | (go_at_call 66; (with_reducible refine (impl_in.calls a1 0 (wrap64 ((l0_0.length : Int) - 1)) false _ A5.out).mono ?_); rintro e w' ⟨rfl, ⟨nd, rfl⟩⟩))
      go_ret
      exact ⟨by first | rfl | (simp [errW_none, errW_some] <;> rfl) | (simp [*, errW_none, errW_some] <;> rfl), by repeat (first | (with_reducible first | exact HB.out | apply below_alloc | apply pw_below_drewN | apply below_drew1 | refine below_set ?_ GE233.out) | exact HB.out)⟩
  · replace c4 := Bool.eq_false_iff.mpr c4
    subst c4
    have H1 : (some false) = some r := by rw [if_neg (show ¬ (false = true) by decide)] at H; exact H
    clear H
    have H := H1
    clear H1
    obtain rfl := Option.some.inj H
    go_enter Try.func76, Try.ntmps76
    go_wp2_with (first | ((with_reducible refine gate_dst (N := 2) rfl ?_); (try (refine gate_guard (by rfl) ?_; dsimp only)); refine box_event ?hg (N := 2) ?hd (cs := #[.slice A0_0 l0_0.length c0_0]) (t := 29) ?hr ?_; (case hd => rfl); (case hg => rfl); (case hr => first | (go_simp; done) | (go_simp; rfl)); intro gb233 hg w17 hbox hb; have n0_ := Aside0.mk (below_step (by repeat (first | (with_reducible first | exact HB.out | apply below_alloc | apply pw_below_drewN | apply below_drew1) | exact HB.out)) hb); have n1_ := Aside0.mk (hbox); have n2_ := Aside0.mk ((by rw [hg]; exact (below_size (by repeat (first | (with_reducible first | exact HB.out | apply below_alloc | apply pw_below_drewN | apply below_drew1) | exact HB.out))) : w.heap.size ≤ gb233)); have n3_ := Aside0.mk ((by rw [hg]; exact (below_size (by repeat (first | (with_reducible first | exact HB.out | apply below_alloc | apply pw_below_drewN | apply below_drew1) | exact HB.out))) : w.heap.size ≤ gb233)); clear HB; have HB := n0_; have BK233 := n1_; have GW233 := n2_; have GE233 := n3_; clear n0_ n1_ n2_ n3_; clear hb hbox hg; have hcz18_0 : w17.cell? ⟨gb233, 0, none⟩ = some (.slice A0_0 l0_0.length c0_0) := (blk_cell BK233.out 0).trans rfl; have hfz18_0 := blk_frozen BK233.out 0) | ((with_reducible refine gate_callee (f := 31) rfl ?_); refine goesL_ (some 6) rfl rfl Try.func31 (by kernel_rfl) rfl #[.agg #[.slice A0_0 l0_0.length c0_0]] rfl (by (try simp only [List.map_toArray, List.map_cons, List.map_nil]); first | done | rfl | (simp only [List.length_drop, List.length_take]; rfl)) ?_; (with_reducible refine (impl_FlashOk.calls k _ _ l0_0 false _ ?side1 ?side2 A3.out).mono ?_); (case side1 => repeat (first | exact (Kd.C_below HR0_0.out HB.out) | (with_reducible refine Kd.C_alloc ?_ _) | (with_reducible refine Kd.C_drewN ?_ _) | (with_reducible refine Kd.C_drew ?_))); (case side2 => exact HC0_0.out); rintro e w19 ⟨rfl, hb⟩; refine ⟨_, rfl, ?_⟩; have n0_ := Aside0.mk (blk_below (g := gb233) (o := .cells #[.slice A0_0 l0_0.length c0_0] 29 (0, 0)) (by (with_reducible repeat (first | refine blk_drewN ?_ _ | refine blk_drew ?_ | refine blk_alloc ?_ _)); exact BK233.out) hb); have n1_ := Aside0.mk (below_step (by repeat (first | (with_reducible first | exact HB.out | apply below_alloc | apply pw_below_drewN | apply below_drew1 | refine below_set ?_ GE233.out) | exact HB.out)) hb); clear BK233; clear HB; have BK233 := n0_; have HB := n1_; clear n0_ n1_; (try clear hb); (try clear hb2); (try clear hk); (try clear hi); (try have hcygb233_0 : _ = some (.slice A0_0 l0_0.length c0_0) := (blk_cell BK233.out 0).trans rfl)))
    go_ret
    exact ⟨by first | rfl | (simp [errW_none, errW_some] <;> rfl) | (simp [*, errW_none, errW_some] <;> rfl), by repeat (first | (with_reducible first | exact HB.out | apply below_alloc | apply pw_below_drewN | apply below_drew1 | refine below_set ?_ GE233.out) | exact HB.out)⟩

/-! ### impl_blankLeaves: function 79 -/
def impl_blankLeaves.f  : Option ((List (S63))) := if 4 ≤ 11728124029610 then (some (List.replicate 4 z63)) else (none)
set_option maxHeartbeats 8000000 in
set_option maxRecDepth 100000 in
theorem impl_blankLeaves.calls  (r : List (S63)) (w : World) (h : impl_blankLeaves.f  = some r) :
    Calls Try.prog 79 #[] w fun e w' => ∃ v0_ : Value, e = .returned (v0_) ∧ Kd.R k63 63 w' w.heap.size (fun _ => True) v0_ r ∧ Below w.heap.size w w' := by
  have HB := Aside0.mk (Below.refl w.heap.size w)
  have H : (if 4 ≤ 11728124029610 then (some (List.replicate 4 z63)) else (none)) = some r := h
  clear h
  by_cases c1 : 4 ≤ 11728124029610
  · rw [if_pos c1] at H
    have c1b0 := eq_true c1
    have c1b1 : decide (4 ≤ 11728124029610) = true := decide_eq_true c1
    clear c1
    obtain ⟨y237, hy237⟩ : ∃ y_ : List (S63), y_ = (List.replicate 4 z63) := ⟨_, rfl⟩
    replace H : (some y237) = some r := by first | (rw [hy237]; with_reducible exact H) | (have H2_ := (Option.bind_some _ _).symm.trans H; rw [hy237]; with_reducible exact H2_) | (have H2_ := (Option.bind_some _ _).symm.trans H; with_reducible exact H2_) | with_reducible exact H | (rw [hy237]; exact H) | exact H
    have Ny237 := Aside0.mk hy237
    clear hy237
    obtain rfl := Option.some.inj H
    go_enter Try.func79, Try.ntmps79
    go_wp2_with (first | ((with_reducible refine gate_dst (N := 1) rfl ?_); refine Kd.R_make k63 _ 63 rfl (N := 1) rfl 37 _ _ rfl 4 rfl rfl Try.underlying37 (.agg #[(.int .i64 0), (.string ⟨#[]⟩)]) 24 info63 rfl (by decide) (by omega) z63 (ok := fun _ => True) (okp := fun _ => True) (k63_mkM _ _ _ z63 ) (fun _ hk => hk) trivial (by omega) (by omega) (Below.refl _ _) (Nat.le_refl _) ?_; intro v238 w2 ho3 hb hg_ hnew_; clear hg_ hnew_; (first | rw [← Ny237.out] at ho3 | (simp only [Int.reduceToNat] at ho3; rw [← Ny237.out] at ho3)); have n0_ := Aside0.mk (Kd.R_lower ho3 (below_size (by repeat (first | (with_reducible first | exact HB.out | apply below_alloc | apply pw_below_drewN | apply below_drew1) | exact HB.out)))); have n1_ := Aside0.mk (below_step (by repeat (first | (with_reducible first | exact HB.out | apply below_alloc | apply pw_below_drewN | apply below_drew1) | exact HB.out)) hb); clear HB; have HO239 := n0_; have HB := n1_; clear n0_ n1_; clear hb ho3))
    go_ret
    exact ⟨_, by first | rfl | (simp [errW_none, errW_some] <;> rfl) | (simp [*, errW_none, errW_some] <;> rfl), by (with_reducible repeat (first | apply Kd.R_alloc | apply Kd.R_drewN | apply Kd.R_drew)); exact HO239.out, by repeat (first | (with_reducible first | exact HB.out | apply below_alloc | apply pw_below_drewN | apply below_drew1) | exact HB.out)⟩
  · rw [if_neg c1] at H
    exact absurd H (by simp)

/-! ### impl_Wipe: function 49 -/
/-- A flash of the call's own in a variable: the variable's block, the flash, whose blocks lie from lo on and below hi. -/
structure Ok (w : World) (g : Nat) (A : Option Addr) (n c : Nat) (xs : List S39) (lo hi : Nat) (W : World) : Prop where
  b : W.heap[g]? = some (.cells #[.slice A n c] 29 (0, 0))
  s : Kd.S k39 39 W w.heap.size (fun k => lo ≤ k ∧ k < hi) (.slice A n c) xs
  hg : hi ≤ g
  hl : lo ≤ hi
section
variable {w W W' W1 W2 : World} {g g' : Nat} {A A' : Option Addr} {n c n' c' : Nat} {xs ys : List S39} {lo hi lo' hi' : Nat}
theorem Ok.below (h : Ok w g A n c xs lo hi W) (hb : Below W.heap.size W W') : Ok w g A n c xs lo hi W' := ⟨blk_below h.b hb, Kd.S_below h.s hb, h.hg, h.hl⟩
theorem Ok.kept (h : Ok w g A n c xs lo hi W) (hk : Kept W W' (fun k => lo' ≤ k ∧ k < hi')) (hd : g < lo' ∨ hi' ≤ lo) : Ok w g A n c xs lo hi W' :=
  ⟨blk_kept h.b hk (fun k => by have := h.hg; have := h.hl; omega), Kd.S_kept h.s hk (fun k hk h2 => by have := h.hg; have := h.hl; omega), h.hg, h.hl⟩
theorem Ok.marked (h : Ok w g A n c xs lo hi W) (hk : Kept W W' (fun k => lo ≤ k ∧ k < hi)) (hS : Kd.S k39 39 W' w.heap.size (fun k => lo ≤ k ∧ k < hi) (.slice A n c) ys) : Ok w g A n c ys lo hi W' :=
  ⟨blk_kept h.b hk (fun k => by have := h.hg; omega), hS, h.hg, h.hl⟩
theorem Ok.row (h : Ok w g A n c xs lo hi W) (hg : g < g') (cs : Array Value) : Ok w g A n c xs lo hi (W.setRow g' cs) :=
  ⟨(setRow_other W g' g cs (by omega)).trans h.b, Kd.S_step h.s (fun k hk _ => setRow_other W g' k cs (by have := h.hg; omega)), h.hg, h.hl⟩
theorem Ok.make (hS : Kd.S k39 39 W1 W.heap.size (fun _ => True) (.slice A n c) xs) (hlo : w.heap.size ≤ W.heap.size ∧ W.heap.size ≤ W1.heap.size) (hg : g = W1.heap.size) {old : Array Value} (hbox : W2.heap[g]? = some (.cells old 29 (0, 0))) (hb : Below W1.heap.size W1 W2) :
    Ok w g A n c xs W.heap.size W1.heap.size (W2.setRow g #[.slice A n c]) :=
  ⟨setRow_heap W2 g old _ 29 (0, 0) hbox, Kd.S_step (Kd.S_lower (Kd.S_mono (Kd.S_bound (Kd.S_below (Kd.S_mono (Kd.S_bound hS) (fun k hk => (⟨hk.2.1, hk.2.2.1⟩ : W.heap.size ≤ k ∧ k < W1.heap.size))) hb)) (fun k hk => hk.1)) hlo.1) (fun k hk _ => setRow_other W2 g k _ (by omega)), Nat.le_of_eq hg.symm, hlo.2⟩
theorem below_row39 (h : Below w.heap.size w W) (ha : w.heap.size ≤ g) (cs : Array Value) : Below w.heap.size w (W.setRow g cs) :=
  ⟨h.os, h.tape, h.output, by have := h.size; rw [setRow_size]; exact this, fun k hk => (setRow_other W g k cs (by omega)).trans (h.block k hk)⟩
theorem row_event39 {P : Program} {ops : Array Oper} {rest : List Oper} {o : Oper} {a : Act} {Q : Exit → Act → World → Prop} (hgd : o.guard = none) (ty : TypeId) (x y : Operand) (ho : o.op = .store ty x y)
    (g : Nat) (cells : Array Value) (hx : a.eval x = .pointer (some ⟨g, 0, none⟩)) (hy : a.eval y = .agg cells)
    (t : TypeId) (old : Array Value) (hg : W.heap[g]? = some (.cells old t (0, 0))) (hi : (P.info? ty).map (·.size) = some cells.size)
    (hold : old.size = cells.size) (h1 : cells.all (·.oneCell') = true)
    (h : ∀ w', w' = W.setRow g cells → wpList P ops Q rest (a.put o.dst undef) w') : wpList P ops Q (o :: rest) a W :=
  wpList_store_row hgd ty x y ho g cells hx hy t old hg hi hold h1 (h _ rfl)
end
theorem results_row_tmp39 {P : Program} {fn : Func} {p u : Tmp} {ty : TypeId} (h : fn.results = #[.cell p ty, .tmp u]) (tmps : Array Value) (w : World) (g : Nat) (t : TypeId) (cs : Array Value) (fr : Nat × Nat) (d : TypeDesc) (v : Value)
    (hp : tmps.getD p undef = .pointer (some ⟨g, 0, none⟩)) (hv : tmps.getD u undef = v) (hg : w.heap[g]? = some (.cells cs t fr))
    (hu : P.underlying ty = some d) (hd : (match d with | .struct _ | .array _ _ => true | _ => false) = true) (hi : (P.info? ty).map (·.size) = some cs.size) :
    (results fn tmps).run P w = .ok (.tuple #[.agg cs, v]) w := by
  have hp' : tmps[p]?.getD undef = .pointer (some ⟨g, 0, none⟩) := by simpa using hp
  have hv' : tmps[u]?.getD undef = v := by simpa using hv
  have hr : (results fn tmps).run P w = ((asAddr (tmps.getD p undef)).run P w).andThen fun a w₁ => ((loadVar ty a).run P w₁).andThen fun v w₂ => .ok (.tuple #[v, tmps.getD u undef]) w₂ := by
    simp only [results, h]
    simp [Sem.run_bind, Result.andThen]
  rw [hr]
  simp [hp', hv', asAddr, Result.andThen, run_loadVar_row w g t ty cs fr d hg hu hd hi]
theorem frozen_kept39 {W W' : World} (hb : Below W.heap.size W W') {a : Addr} (hlt : a.block < W.heap.size) (h : W.frozen? a = false) : W'.frozen? a = false := by
  simp only [World.frozen?, hb.block _ hlt] at *
  exact h
/-- New leaves are put into element i. -/
theorem put_leaves {W : World} {B : Nat} {P okp : Nat → Prop} {g n cap : Nat} {xs : List S39} (h : Kd.S k39 39 W B P (.slice (some ⟨g, 0, none⟩) n cap) xs) (i : Int) (h0 : 0 ≤ i) (h1 : i < n) (v : Value) (ls : List S63) (hR : k63.R 63 W B okp v ls) (hd : ∀ k, P k → ¬ okp k) :
    Kd.S k39 39 (W.setCell ⟨g, i.toNat * 3 + 2, none⟩ v) B (fun k => P k ∨ okp k) (.slice (some ⟨g, 0, none⟩) n cap) (xs.set i.toNat ⟨(rd_T39 xs i).f0, (rd_T39 xs i).f1, ls⟩) := by
  have hPg : P g := (Kd.S_R h).1 g (by simp [Value.ownBlock])
  have hS' : Kd.S k39 39 W B (fun k => (P k ∨ okp k) ∧ ¬ okp k) (.slice (some ⟨g, 0, none⟩) n cap) xs := Kd.S_mono h (fun k hk => ⟨.inl hk, hd k hk⟩)
  obtain ⟨oki, c, hcl, hM, _, _, hoki, hH⟩ := Kd.S_elem hS' z39 i h0 h1
  obtain ⟨v2, rfl, g2⟩ := k39_openM hM
  exact (Kd.S_seg (ok := fun k => P k ∨ okp k) (okg := okp) (okp := okp) hH h0 h1 (seg := [v]) (j := 2) (show 3 ≤ 3 from by decide) (x' := (⟨(rd_T39 xs i).f0, (rd_T39 xs i).f1, ls⟩ : S39)) (k39_mkM _ _ _ (⟨(rd_T39 xs i).f0, (rd_T39 xs i).f1, ls⟩ : S39) hR) (fun _ hk => .inr hk) (fun k hk => ⟨.inr hk, fun e => hd g hPg (e ▸ hk)⟩)).1
theorem at_elem_ {W : World} {B : Nat} {P : Nat → Prop} {g n cap : Nat} {xs : List S39} (h : Kd.S k39 39 W B P (.slice (some ⟨g, 0, none⟩) n cap) xs) (i : Int) (h0 : 0 ≤ i) (h1 : i < n) :
    ∃ v2, W.cell? ⟨g, i.toNat * 3, none⟩ = some (.bool (rd_T39 xs i).f0) ∧ W.cell? ⟨g, i.toNat * 3 + 1, none⟩ = some (.int .i64 (rd_T39 xs i).f1) ∧ W.cell? ⟨g, i.toNat * 3 + 2, none⟩ = some v2 ∧ (∀ j, W.frozen? ⟨g, i.toNat * 3 + j, none⟩ = false) ∧ P g ∧ B ≤ g ∧
      (∀ b, Kd.S k39 39 (W.setCell ⟨g, i.toNat * 3, none⟩ (.bool b)) B P (.slice (some ⟨g, 0, none⟩) n cap) (xs.set i.toNat ⟨b, (rd_T39 xs i).f1, (rd_T39 xs i).f2⟩) ∧ W.grownBy (W.setCell ⟨g, i.toNat * 3, none⟩ (.bool b)) (some g)) ∧
      (∀ y, Kd.S k39 39 (W.setCell ⟨g, i.toNat * 3 + 1, none⟩ (.int .i64 y)) B P (.slice (some ⟨g, 0, none⟩) n cap) (xs.set i.toNat ⟨(rd_T39 xs i).f0, y, (rd_T39 xs i).f2⟩) ∧ W.grownBy (W.setCell ⟨g, i.toNat * 3 + 1, none⟩ (.int .i64 y)) (some g)) ∧
      k63.R 63 W B (fun k => some k = v2.ownBlock) v2 (rd_T39 xs i).f2 ∧ (∀ k, some k = v2.ownBlock → P k) ∧
      (∀ (W' : World) (l' : List S63), k63.R 63 W' B (fun k => some k = v2.ownBlock) v2 l' → Kept W W' (fun k => some k = v2.ownBlock) → Kd.S k39 39 W' B P (.slice (some ⟨g, 0, none⟩) n cap) (xs.set i.toNat ⟨(rd_T39 xs i).f0, (rd_T39 xs i).f1, l'⟩)) := by
  obtain ⟨oki, c, hcl, hM, hcc, hfr, hoki, hH⟩ := Kd.S_elem h z39 i h0 h1
  obtain ⟨v2, rfl, g2⟩ := k39_openM hM
  have hPg : P g := (Kd.S_R h).1 g (by simp [Value.ownBlock])
  have hBg : B ≤ g := Kd.S_base h g (by simp [Value.ownBlock])
  have hS' : Kd.S k39 39 W B (fun k => P k ∧ ¬ (fun _ => False) k) (.slice (some ⟨g, 0, none⟩) n cap) xs := Kd.S_mono h (fun k hk => ⟨hk, fun e => e⟩)
  obtain ⟨oki2, c2, hcl2, hM2, _, _, hoki2, hH2⟩ := Kd.S_elem hS' z39 i h0 h1
  obtain ⟨v3, rfl, g3⟩ := k39_openM hM2
  refine ⟨v2, hcc 0 _ rfl, hcc 1 _ rfl, hcc 2 _ rfl, hfr, hPg, hBg, fun b => ?_, fun y => ?_, Kd.R_tight rfl g2, fun k hk => (hoki k (g2.1 k hk.symm)).1, fun W' l' hR hK => ?_⟩
  · exact Kd.S_seg hH2 h0 h1 (seg := [.bool b]) (j := 0) (show 1 ≤ 3 from by decide) (x' := (⟨b, (rd_T39 xs i).f1, (rd_T39 xs i).f2⟩ : S39)) (k39_mkM _ _ _ (⟨b, (rd_T39 xs i).f1, (rd_T39 xs i).f2⟩ : S39) (Kd.R_mono g3 (fun _ h_ => Or.inl h_))) (fun _ hk => hk) (fun k_ hk_ => hk_.elim)
  · exact Kd.S_seg hH2 h0 h1 (seg := [.int .i64 y]) (j := 1) (show 2 ≤ 3 from by decide) (x' := (⟨(rd_T39 xs i).f0, y, (rd_T39 xs i).f2⟩ : S39)) (k39_mkM _ _ _ (⟨(rd_T39 xs i).f0, y, (rd_T39 xs i).f2⟩ : S39) (Kd.R_mono g3 (fun _ h_ => Or.inl h_))) (fun _ hk => hk) (fun k_ hk_ => hk_.elim)
  · exact Kd.H_back (Kd.H_kept hH hK (fun k _ hno he => hno (g2.1 k he.symm))) (x' := (⟨(rd_T39 xs i).f0, (rd_T39 xs i).f1, l'⟩ : S39)) (k39_mkM _ _ _ (⟨(rd_T39 xs i).f0, (rd_T39 xs i).f1, l'⟩ : S39) hR) (fun k hk => g2.1 k hk.symm)
theorem rd_set_elem_ (xs : List S39) (i : Int) (x : S39) (h0 : 0 ≤ i) (h1 : i < (xs.length : Int)) : rd_T39 (xs.set i.toNat x) i = x := by
  unfold rd_T39
  rw [List.getD_eq_getElem?_getD, List.getElem?_set_self (by omega)]
  rfl
set_option maxHeartbeats 4000000 in
set_option maxRecDepth 1000000 in
theorem impl_Wipe.no_ (k : Nat) (A0_0 : Option Addr) (c0_0 : Nat) (l0_0 t_ : List (S39)) (a1 : Int) (w : World) (hr0_0 : Kd.C k39 w A0_0 l0_0.length l0_0) (hc0_0 : l0_0.length ≤ c0_0) (hcp : impl_copyFlash.f k l0_0 = some t_) (hu : impl_usable.f k l0_0 a1 = some false) :
    Calls Try.prog 49 #[.agg #[.slice A0_0 l0_0.length c0_0], .int .i64 a1] w fun e w' => ∃ v0_ : Value, e = .returned (.tuple #[.agg #[v0_], .bool false]) ∧ Kd.S k39 39 w' w.heap.size (fun _ => True) v0_ t_ ∧ Below w.heap.size w w' := by
  have hu29 := Try.underlying29
  have HI29 : Aside0 ((Try.prog.info? 29).map (·.size) = some 1) := ⟨by kernel_rfl⟩
  have HB := Aside0.mk (Below.refl w.heap.size w)
  have HR := Aside0.mk hr0_0
  have HC := Aside0.mk hc0_0
  have HCP := Aside0.mk hcp
  have HU := Aside0.mk hu
  clear hr0_0 hc0_0 hcp hu
  go_enter Try.func49, Try.ntmps49
  go_wp2_with (first | ((with_reducible refine gate_dst (N := 2) rfl ?_); refine box_event ?hg (N := 2) ?hd (cs := #[.slice A0_0 l0_0.length c0_0]) (t := 29) ?hr ?_; (case hd => rfl); (case hg => rfl); (case hr => first | (go_simp; done) | (go_simp; rfl)); intro gA hg w1 hbox hb; have HB1 := Aside0.mk (below_step HB.out hb); have BA1 := Aside0.mk hbox; clear hg hbox hb HB) | ((with_reducible refine gate_dst (N := 4) rfl ?_); refine box_event ?hg (N := 4) ?hd (cs := #[.slice none 0 0]) (t := 29) ?hr ?_; (case hd => rfl); (case hg => rfl); (case hr => first | (go_simp; done) | (go_simp; rfl)); intro gR hg w2 hbox hb; have GR := Aside0.mk ((by rw [hg]; exact HB1.out.size) : w.heap.size ≤ gR); have HB2 := Aside0.mk (below_step HB1.out hb); have BA2 := Aside0.mk (blk_below BA1.out hb); have BR2 := Aside0.mk hbox; have NA := Aside0.mk ((by rw [hg]; exact blk_lt BA1.out) : gA < gR); clear hg hbox hb HB1 BA1) | ((with_reducible refine gate_dst (N := 7) rfl ?_); refine wpList_load_row rfl 29 (.tmp 2) rfl gA rfl 29 _ (0, 0) _ BA2.out hu29 rfl HI29.out ?_) | ((with_reducible refine gate_callee (f := 75) rfl ?_); (with_reducible refine gate_dst (N := 8) rfl ?_); refine goesL_ (some 8) rfl rfl Try.func75 (by kernel_rfl) rfl #[.agg #[.slice A0_0 l0_0.length c0_0]] rfl (by (try simp only [List.map_toArray, List.map_cons, List.map_nil]); first | done | rfl) ?_; (with_reducible refine (impl_copyFlash.calls k A0_0 c0_0 l0_0 t_ _ (Kd.C_below HR.out HB2.out) HC.out HCP.out).mono ?_); rintro e w3 ⟨v_, rfl, hS, hb⟩; refine ⟨_, rfl, ?_⟩; obtain ⟨A6, c6, e_⟩ := Kd.S_slice hS; subst e_; have S3 := Aside0.mk hS; have LO := Aside0.mk (⟨HB2.out.size, hb.size⟩ : w.heap.size ≤ w2.heap.size ∧ w2.heap.size ≤ w3.heap.size); have LA := Aside0.mk (blk_lt BA2.out); have LR := Aside0.mk (blk_lt BR2.out); have HB3 := Aside0.mk (below_step HB2.out hb); have BA3 := Aside0.mk (blk_below BA2.out hb); have BR3 := Aside0.mk (blk_below BR2.out hb); clear hS hb HB2 BA2 BR2) | ((with_reducible refine gate_dst (N := 6) rfl ?_); refine box_event ?hg (N := 6) ?hd (cs := #[.slice none 0 0]) (t := 29) ?hr ?_; (case hd => rfl); (case hg => rfl); (case hr => first | (go_simp; done) | (go_simp; rfl)); intro g6 hg w4 hbox hb; have G6 := Aside0.mk ((by rw [hg]; exact HB3.out.size) : w.heap.size ≤ g6); have N6A := Aside0.mk ((by rw [hg]; exact blk_lt BA3.out) : gA < g6); have N6R := Aside0.mk ((by rw [hg]; exact blk_lt BR3.out) : gR < g6); have HB4 := Aside0.mk (below_step HB3.out hb); have BA4 := Aside0.mk (blk_below BA3.out hb); have BR4 := Aside0.mk (blk_below BR3.out hb); have MK := Aside0.mk (fun W' (e_ : W' = World.setRow w4 g6 #[.slice A6 t_.length c6]) => (by rw [e_]; exact Ok.make S3.out LO.out hg hbox hb : Ok w g6 A6 t_.length c6 t_ w2.heap.size w3.heap.size W')); have BX := Aside0.mk hbox; clear hg hbox hb S3 HB3 BA3 BR3) | ((with_reducible refine gate_store (t := 29) (p := 6) rfl ?_); refine row_event39 rfl 29 (.tmp 6) (.tmp 8) rfl g6 #[.slice A6 t_.length c6] rfl (by first | rfl | (go_simp; done) | (go_simp; rfl)) 29 _ BX.out HI29.out rfl (by simp [Value.oneCell']) ?_; intro w5 hw; have O5 := Aside0.mk (MK.out _ hw); have HB5 := Aside0.mk (by rw [hw]; exact below_row39 HB4.out G6.out _ : Below w.heap.size w w5); have BA5 := Aside0.mk (by rw [hw]; exact (setRow_other _ _ _ _ (by have := N6A.out; omega)).trans BA4.out : w5.heap[gA]? = some (.cells #[.slice A0_0 l0_0.length c0_0] 29 (0, 0))); have BR5 := Aside0.mk (by rw [hw]; exact (setRow_other _ _ _ _ (by have := N6R.out; omega)).trans BR4.out : w5.heap[gR]? = some (.cells #[.slice none 0 0] 29 (0, 0))); clear hw MK BX HB4 BA4 BR4) | ((with_reducible refine gate_dst (N := 9) rfl ?_); refine wpList_load_row rfl 29 (.tmp 2) rfl gA rfl 29 _ (0, 0) _ BA5.out hu29 rfl HI29.out ?_) | ((with_reducible refine gate_callee (f := 76) rfl ?_); (with_reducible refine gate_dst (N := 11) rfl ?_); refine goesL_ (some 11) rfl rfl Try.func76 (by kernel_rfl) rfl #[.agg #[.slice A0_0 l0_0.length c0_0], .int .i64 a1] rfl (by (try simp only [List.map_toArray, List.map_cons, List.map_nil]); first | done | rfl) ?_; (with_reducible refine (impl_usable.calls k A0_0 c0_0 l0_0 a1 _ _ (Kd.C_below HR.out HB5.out) HC.out HU.out).mono ?_); rintro e w6 ⟨rfl, hb⟩; refine ⟨_, rfl, ?_⟩; have O6 := Aside0.mk (O5.out.below hb); have HB6 := Aside0.mk (below_step HB5.out hb); have BA6 := Aside0.mk (blk_below BA5.out hb); have BR6 := Aside0.mk (blk_below BR5.out hb); clear hb O5 HB5 BA5 BR5) | ((with_reducible refine gate_dst (N := 22) rfl ?_); refine wpList_load_row rfl 29 (.tmp 6) rfl g6 rfl 29 _ (0, 0) _ O6.out.b hu29 rfl HI29.out ?_) | ((with_reducible refine gate_store (t := 29) (p := 4) rfl ?_); refine row_event39 rfl 29 (.tmp 4) (.tmp 22) rfl gR #[.slice A6 t_.length c6] rfl (by first | rfl | (go_simp; done) | (go_simp; rfl)) 29 _ BR6.out HI29.out rfl (by simp [Value.oneCell']) ?_; intro w7 hw; have RZ := Aside0.mk (by rw [hw]; exact setRow_heap _ _ _ _ _ _ BR6.out : w7.heap[gR]? = some (.cells #[.slice A6 t_.length c6] 29 (0, 0))); have HZ := Aside0.mk (by rw [hw]; exact below_row39 HB6.out GR.out _ : Below w.heap.size w w7); have SZ := Aside0.mk (by rw [hw]; exact Kd.S_mono (Kd.S_step O6.out.s (fun k hk _ => setRow_other _ _ k _ (by have := LR.out; omega))) (fun _ _ => trivial) : Kd.S k39 39 w7 w.heap.size (fun _ => True) (.slice A6 t_.length c6) t_); clear hw))
  refine bodyPost_ret (results_row_tmp39 rfl _ _ gR 29 _ (0, 0) _ _ rfl rfl RZ.out hu29 rfl HI29.out) rfl ?_
  exact ⟨_, rfl, SZ.out, HZ.out⟩
set_option maxHeartbeats 4000000 in
set_option maxRecDepth 1000000 in
theorem impl_Wipe.full_ (k : Nat) (A0_0 : Option Addr) (c0_0 : Nat) (l0_0 t_ : List (S39)) (a1 : Int) (w : World) (hr0_0 : Kd.C k39 w A0_0 l0_0.length l0_0) (hc0_0 : l0_0.length ≤ c0_0) (hcp : impl_copyFlash.f k l0_0 = some t_) (hu : impl_usable.f k l0_0 a1 = some true) (hb0 : 0 ≤ a1) (hb1 : a1 < (l0_0.length : Int)) (hm : (rd_T39 l0_0 a1).f1 = 1000000000) :
    Calls Try.prog 49 #[.agg #[.slice A0_0 l0_0.length c0_0], .int .i64 a1] w fun e w' => ∃ v0_ : Value, e = .returned (.tuple #[.agg #[v0_], .bool false]) ∧ Kd.S k39 39 w' w.heap.size (fun _ => True) v0_ t_ ∧ Below w.heap.size w w' := by
  have hu29 := Try.underlying29
  have HI29 : Aside0 ((Try.prog.info? 29).map (·.size) = some 1) := ⟨by kernel_rfl⟩
  have HB := Aside0.mk (Below.refl w.heap.size w)
  have HR := Aside0.mk hr0_0
  have HC := Aside0.mk hc0_0
  have HCP := Aside0.mk hcp
  have HU := Aside0.mk hu
  have P0 := Aside0.mk hb0
  have P1 := Aside0.mk hb1
  have hp0 := eq_true hb0
  have hp1 : decide (a1 < (l0_0.length : Int)) = true := decide_eq_true hb1
  have hp2 := eq_true hb1
  have hp3 : decide (0 ≤ a1) = true := decide_eq_true hb0
  have hm1 : decide ((rd_T39 l0_0 a1).f1 = 1000000000) = true := decide_eq_true hm
  have hm2 : ((rd_T39 l0_0 a1).f1 == 1000000000) = true := beq_iff_eq.mpr hm
  clear hr0_0 hc0_0 hcp hu hb0 hb1
  go_enter Try.func49, Try.ntmps49
  go_wp2_with (first | ((with_reducible refine gate_dst (N := 2) rfl ?_); refine box_event ?hg (N := 2) ?hd (cs := #[.slice A0_0 l0_0.length c0_0]) (t := 29) ?hr ?_; (case hd => rfl); (case hg => rfl); (case hr => first | (go_simp; done) | (go_simp; rfl)); intro gA hg w1 hbox hb; have HB1 := Aside0.mk (below_step HB.out hb); have BA1 := Aside0.mk hbox; clear hg hbox hb HB) | ((with_reducible refine gate_dst (N := 4) rfl ?_); refine box_event ?hg (N := 4) ?hd (cs := #[.slice none 0 0]) (t := 29) ?hr ?_; (case hd => rfl); (case hg => rfl); (case hr => first | (go_simp; done) | (go_simp; rfl)); intro gR hg w2 hbox hb; have GR := Aside0.mk ((by rw [hg]; exact HB1.out.size) : w.heap.size ≤ gR); have HB2 := Aside0.mk (below_step HB1.out hb); have BA2 := Aside0.mk (blk_below BA1.out hb); have BR2 := Aside0.mk hbox; have NA := Aside0.mk ((by rw [hg]; exact blk_lt BA1.out) : gA < gR); clear hg hbox hb HB1 BA1) | ((with_reducible refine gate_dst (N := 7) rfl ?_); refine wpList_load_row rfl 29 (.tmp 2) rfl gA rfl 29 _ (0, 0) _ BA2.out hu29 rfl HI29.out ?_) | ((with_reducible refine gate_callee (f := 75) rfl ?_); (with_reducible refine gate_dst (N := 8) rfl ?_); refine goesL_ (some 8) rfl rfl Try.func75 (by kernel_rfl) rfl #[.agg #[.slice A0_0 l0_0.length c0_0]] rfl (by (try simp only [List.map_toArray, List.map_cons, List.map_nil]); first | done | rfl) ?_; (with_reducible refine (impl_copyFlash.calls k A0_0 c0_0 l0_0 t_ _ (Kd.C_below HR.out HB2.out) HC.out HCP.out).mono ?_); rintro e w3 ⟨v_, rfl, hS, hb⟩; refine ⟨_, rfl, ?_⟩; obtain ⟨A6, c6, e_⟩ := Kd.S_slice hS; subst e_; have S3 := Aside0.mk hS; have LO := Aside0.mk (⟨HB2.out.size, hb.size⟩ : w.heap.size ≤ w2.heap.size ∧ w2.heap.size ≤ w3.heap.size); have LA := Aside0.mk (blk_lt BA2.out); have LR := Aside0.mk (blk_lt BR2.out); have HB3 := Aside0.mk (below_step HB2.out hb); have BA3 := Aside0.mk (blk_below BA2.out hb); have BR3 := Aside0.mk (blk_below BR2.out hb); clear hS hb HB2 BA2 BR2) | ((with_reducible refine gate_dst (N := 6) rfl ?_); refine box_event ?hg (N := 6) ?hd (cs := #[.slice none 0 0]) (t := 29) ?hr ?_; (case hd => rfl); (case hg => rfl); (case hr => first | (go_simp; done) | (go_simp; rfl)); intro g6 hg w4 hbox hb; have G6 := Aside0.mk ((by rw [hg]; exact HB3.out.size) : w.heap.size ≤ g6); have N6A := Aside0.mk ((by rw [hg]; exact blk_lt BA3.out) : gA < g6); have N6R := Aside0.mk ((by rw [hg]; exact blk_lt BR3.out) : gR < g6); have HB4 := Aside0.mk (below_step HB3.out hb); have BA4 := Aside0.mk (blk_below BA3.out hb); have BR4 := Aside0.mk (blk_below BR3.out hb); have MK := Aside0.mk (fun W' (e_ : W' = World.setRow w4 g6 #[.slice A6 t_.length c6]) => (by rw [e_]; exact Ok.make S3.out LO.out hg hbox hb : Ok w g6 A6 t_.length c6 t_ w2.heap.size w3.heap.size W')); have BX := Aside0.mk hbox; clear hg hbox hb S3 HB3 BA3 BR3) | ((with_reducible refine gate_store (t := 29) (p := 6) rfl ?_); refine row_event39 rfl 29 (.tmp 6) (.tmp 8) rfl g6 #[.slice A6 t_.length c6] rfl (by first | rfl | (go_simp; done) | (go_simp; rfl)) 29 _ BX.out HI29.out rfl (by simp [Value.oneCell']) ?_; intro w5 hw; have O5 := Aside0.mk (MK.out _ hw); have HB5 := Aside0.mk (by rw [hw]; exact below_row39 HB4.out G6.out _ : Below w.heap.size w w5); have BA5 := Aside0.mk (by rw [hw]; exact (setRow_other _ _ _ _ (by have := N6A.out; omega)).trans BA4.out : w5.heap[gA]? = some (.cells #[.slice A0_0 l0_0.length c0_0] 29 (0, 0))); have BR5 := Aside0.mk (by rw [hw]; exact (setRow_other _ _ _ _ (by have := N6R.out; omega)).trans BR4.out : w5.heap[gR]? = some (.cells #[.slice none 0 0] 29 (0, 0))); clear hw MK BX HB4 BA4 BR4) | ((with_reducible refine gate_dst (N := 9) rfl ?_); refine wpList_load_row rfl 29 (.tmp 2) rfl gA rfl 29 _ (0, 0) _ BA5.out hu29 rfl HI29.out ?_) | ((with_reducible refine gate_callee (f := 76) rfl ?_); (with_reducible refine gate_dst (N := 11) rfl ?_); refine goesL_ (some 11) rfl rfl Try.func76 (by kernel_rfl) rfl #[.agg #[.slice A0_0 l0_0.length c0_0], .int .i64 a1] rfl (by (try simp only [List.map_toArray, List.map_cons, List.map_nil]); first | done | rfl) ?_; (with_reducible refine (impl_usable.calls k A0_0 c0_0 l0_0 a1 _ _ (Kd.C_below HR.out HB5.out) HC.out HU.out).mono ?_); rintro e w6 ⟨rfl, hb⟩; refine ⟨_, rfl, ?_⟩; have O6 := Aside0.mk (O5.out.below hb); have HB6 := Aside0.mk (below_step HB5.out hb); have BA6 := Aside0.mk (blk_below BA5.out hb); have BR6 := Aside0.mk (blk_below BR5.out hb); clear hb O5 HB5 BA5 BR5; have hcA : w6.cell? ⟨gA, 0, none⟩ = some (.slice A0_0 l0_0.length c0_0) := (blk_cell BA6.out 0).trans rfl; obtain ⟨ad, A2, c2, e_, _, hx1, _, _, _⟩ := at_T39 (Kd.C_below HR.out HB6.out) a1 P0.out P1.out; cases e_) | ((with_reducible refine gate_dst (N := 22) rfl ?_); refine wpList_load_row rfl 29 (.tmp 6) rfl g6 rfl 29 _ (0, 0) _ O6.out.b hu29 rfl HI29.out ?_) | ((with_reducible refine gate_store (t := 29) (p := 4) rfl ?_); refine row_event39 rfl 29 (.tmp 4) (.tmp 22) rfl gR #[.slice A6 t_.length c6] rfl (by first | rfl | (go_simp; done) | (go_simp; rfl)) 29 _ BR6.out HI29.out rfl (by simp [Value.oneCell']) ?_; intro w7 hw; have RZ := Aside0.mk (by rw [hw]; exact setRow_heap _ _ _ _ _ _ BR6.out : w7.heap[gR]? = some (.cells #[.slice A6 t_.length c6] 29 (0, 0))); have HZ := Aside0.mk (by rw [hw]; exact below_row39 HB6.out GR.out _ : Below w.heap.size w w7); have SZ := Aside0.mk (by rw [hw]; exact Kd.S_mono (Kd.S_step O6.out.s (fun k hk _ => setRow_other _ _ k _ (by have := LR.out; omega))) (fun _ _ => trivial) : Kd.S k39 39 w7 w.heap.size (fun _ => True) (.slice A6 t_.length c6) t_); clear hw))
  refine bodyPost_ret (results_row_tmp39 rfl _ _ gR 29 _ (0, 0) _ _ rfl rfl RZ.out hu29 rfl HI29.out) rfl ?_
  exact ⟨_, rfl, SZ.out, HZ.out⟩
set_option maxHeartbeats 4000000 in
set_option maxRecDepth 1000000 in
theorem impl_Wipe.yes_ (k : Nat) (A0_0 : Option Addr) (c0_0 : Nat) (l0_0 t_ : List (S39)) (a1 : Int) (w : World) (hr0_0 : Kd.C k39 w A0_0 l0_0.length l0_0) (hc0_0 : l0_0.length ≤ c0_0) (hcp : impl_copyFlash.f k l0_0 = some t_) (hu : impl_usable.f k l0_0 a1 = some true) (hb0 : 0 ≤ a1) (hb1 : a1 < (l0_0.length : Int)) (hb2 : a1 < (t_.length : Int)) (hm : ¬ (rd_T39 l0_0 a1).f1 = 1000000000) :
    Calls Try.prog 49 #[.agg #[.slice A0_0 l0_0.length c0_0], .int .i64 a1] w fun e w' => ∃ v0_ : Value, e = .returned (.tuple #[.agg #[v0_], .bool true]) ∧ Kd.S k39 39 w' w.heap.size (fun _ => True) v0_ (t_.set a1.toNat ⟨(rd_T39 t_ a1).f0, wrap64 ((rd_T39 t_ a1).f1 + 1), List.replicate 4 z63⟩) ∧ Below w.heap.size w w' := by
  have hu29 := Try.underlying29
  have HI29 : Aside0 ((Try.prog.info? 29).map (·.size) = some 1) := ⟨by kernel_rfl⟩
  have HB := Aside0.mk (Below.refl w.heap.size w)
  have HR := Aside0.mk hr0_0
  have HC := Aside0.mk hc0_0
  have HCP := Aside0.mk hcp
  have HU := Aside0.mk hu
  have P0 := Aside0.mk hb0
  have P1 := Aside0.mk hb1
  have hp0 := eq_true hb0
  have hp1 : decide (a1 < (l0_0.length : Int)) = true := decide_eq_true hb1
  have hp2 := eq_true hb1
  have hp3 : decide (0 ≤ a1) = true := decide_eq_true hb0
  have P2 := Aside0.mk hb2
  have HBL : Aside0 (impl_blankLeaves.f = some (List.replicate 4 z63)) := ⟨by unfold impl_blankLeaves.f; exact if_pos (by decide)⟩
  have hp4 : decide (a1 < (t_.length : Int)) = true := decide_eq_true hb2
  have hp5 := eq_true hb2
  have hm1 : decide ((rd_T39 l0_0 a1).f1 = 1000000000) = false := decide_eq_false hm
  have hm2 : ((rd_T39 l0_0 a1).f1 == 1000000000) = false := beq_eq_false_iff_ne.mpr hm
  clear hr0_0 hc0_0 hcp hu hb0 hb1 hb2 hm
  go_enter Try.func49, Try.ntmps49
  go_wp2_with (first | ((with_reducible refine gate_dst (N := 2) rfl ?_); refine box_event ?hg (N := 2) ?hd (cs := #[.slice A0_0 l0_0.length c0_0]) (t := 29) ?hr ?_; (case hd => rfl); (case hg => rfl); (case hr => first | (go_simp; done) | (go_simp; rfl)); intro gA hg w1 hbox hb; have HB1 := Aside0.mk (below_step HB.out hb); have BA1 := Aside0.mk hbox; clear hg hbox hb HB) | ((with_reducible refine gate_dst (N := 4) rfl ?_); refine box_event ?hg (N := 4) ?hd (cs := #[.slice none 0 0]) (t := 29) ?hr ?_; (case hd => rfl); (case hg => rfl); (case hr => first | (go_simp; done) | (go_simp; rfl)); intro gR hg w2 hbox hb; have GR := Aside0.mk ((by rw [hg]; exact HB1.out.size) : w.heap.size ≤ gR); have HB2 := Aside0.mk (below_step HB1.out hb); have BA2 := Aside0.mk (blk_below BA1.out hb); have BR2 := Aside0.mk hbox; have NA := Aside0.mk ((by rw [hg]; exact blk_lt BA1.out) : gA < gR); clear hg hbox hb HB1 BA1) | ((with_reducible refine gate_dst (N := 7) rfl ?_); refine wpList_load_row rfl 29 (.tmp 2) rfl gA rfl 29 _ (0, 0) _ BA2.out hu29 rfl HI29.out ?_) | ((with_reducible refine gate_callee (f := 75) rfl ?_); (with_reducible refine gate_dst (N := 8) rfl ?_); refine goesL_ (some 8) rfl rfl Try.func75 (by kernel_rfl) rfl #[.agg #[.slice A0_0 l0_0.length c0_0]] rfl (by (try simp only [List.map_toArray, List.map_cons, List.map_nil]); first | done | rfl) ?_; (with_reducible refine (impl_copyFlash.calls k A0_0 c0_0 l0_0 t_ _ (Kd.C_below HR.out HB2.out) HC.out HCP.out).mono ?_); rintro e w3 ⟨v_, rfl, hS, hb⟩; refine ⟨_, rfl, ?_⟩; obtain ⟨A6, c6, e_⟩ := Kd.S_slice hS; subst e_; have S3 := Aside0.mk hS; have LO := Aside0.mk (⟨HB2.out.size, hb.size⟩ : w.heap.size ≤ w2.heap.size ∧ w2.heap.size ≤ w3.heap.size); have LA := Aside0.mk (blk_lt BA2.out); have LR := Aside0.mk (blk_lt BR2.out); have HB3 := Aside0.mk (below_step HB2.out hb); have BA3 := Aside0.mk (blk_below BA2.out hb); have BR3 := Aside0.mk (blk_below BR2.out hb); clear hS hb HB2 BA2 BR2) | ((with_reducible refine gate_dst (N := 6) rfl ?_); refine box_event ?hg (N := 6) ?hd (cs := #[.slice none 0 0]) (t := 29) ?hr ?_; (case hd => rfl); (case hg => rfl); (case hr => first | (go_simp; done) | (go_simp; rfl)); intro g6 hg w4 hbox hb; have G6 := Aside0.mk ((by rw [hg]; exact HB3.out.size) : w.heap.size ≤ g6); have N6A := Aside0.mk ((by rw [hg]; exact blk_lt BA3.out) : gA < g6); have N6R := Aside0.mk ((by rw [hg]; exact blk_lt BR3.out) : gR < g6); have HB4 := Aside0.mk (below_step HB3.out hb); have BA4 := Aside0.mk (blk_below BA3.out hb); have BR4 := Aside0.mk (blk_below BR3.out hb); have MK := Aside0.mk (fun W' (e_ : W' = World.setRow w4 g6 #[.slice A6 t_.length c6]) => (by rw [e_]; exact Ok.make S3.out LO.out hg hbox hb : Ok w g6 A6 t_.length c6 t_ w2.heap.size w3.heap.size W')); have BX := Aside0.mk hbox; clear hg hbox hb S3 HB3 BA3 BR3) | ((with_reducible refine gate_store (t := 29) (p := 6) rfl ?_); refine row_event39 rfl 29 (.tmp 6) (.tmp 8) rfl g6 #[.slice A6 t_.length c6] rfl (by first | rfl | (go_simp; done) | (go_simp; rfl)) 29 _ BX.out HI29.out rfl (by simp [Value.oneCell']) ?_; intro w5 hw; have O5 := Aside0.mk (MK.out _ hw); have HB5 := Aside0.mk (by rw [hw]; exact below_row39 HB4.out G6.out _ : Below w.heap.size w w5); have BA5 := Aside0.mk (by rw [hw]; exact (setRow_other _ _ _ _ (by have := N6A.out; omega)).trans BA4.out : w5.heap[gA]? = some (.cells #[.slice A0_0 l0_0.length c0_0] 29 (0, 0))); have BR5 := Aside0.mk (by rw [hw]; exact (setRow_other _ _ _ _ (by have := N6R.out; omega)).trans BR4.out : w5.heap[gR]? = some (.cells #[.slice none 0 0] 29 (0, 0))); clear hw MK BX HB4 BA4 BR4) | ((with_reducible refine gate_dst (N := 9) rfl ?_); refine wpList_load_row rfl 29 (.tmp 2) rfl gA rfl 29 _ (0, 0) _ BA5.out hu29 rfl HI29.out ?_) | ((with_reducible refine gate_callee (f := 76) rfl ?_); (with_reducible refine gate_dst (N := 11) rfl ?_); refine goesL_ (some 11) rfl rfl Try.func76 (by kernel_rfl) rfl #[.agg #[.slice A0_0 l0_0.length c0_0], .int .i64 a1] rfl (by (try simp only [List.map_toArray, List.map_cons, List.map_nil]); first | done | rfl) ?_; (with_reducible refine (impl_usable.calls k A0_0 c0_0 l0_0 a1 _ _ (Kd.C_below HR.out HB5.out) HC.out HU.out).mono ?_); rintro e w6 ⟨rfl, hb⟩; refine ⟨_, rfl, ?_⟩; have O6 := Aside0.mk (O5.out.below hb); have HB6 := Aside0.mk (below_step HB5.out hb); have BA6 := Aside0.mk (blk_below BA5.out hb); have BR6 := Aside0.mk (blk_below BR5.out hb); clear hb O5 HB5 BA5 BR5; have hcA : w6.cell? ⟨gA, 0, none⟩ = some (.slice A0_0 l0_0.length c0_0) := (blk_cell BA6.out 0).trans rfl; obtain ⟨ad, A2, c2, e_, _, hx1, _, _, _⟩ := at_T39 (Kd.C_below HR.out HB6.out) a1 P0.out P1.out; cases e_))
  clear hcA hx1 BA6
  obtain ⟨gg, cg, eg, _, _, _⟩ := Kd.S_form O6.out.s (by have := P0.out; have := P2.out; omega)
  injection eg with eg1 eg2 eg3
  subst eg1
  clear eg2 eg3
  have IN := Aside0.mk ((Kd.S_R O6.out.s).1 gg (by simp [Value.ownBlock]))
  obtain ⟨v2, _, _, x2, xf, _⟩ := at_elem_ O6.out.s a1 P0.out P2.out
  have xf2 := xf 2
  clear xf
  refine start_ (n := 7) (S := fun w' => w'.cell? ⟨g6, 0, none⟩ = some (.slice (some ⟨gg, 0, none⟩) t_.length c6) ∧ w'.cell? ⟨gg, a1.toNat * 3 + 2, none⟩ = some v2 ∧ w'.frozen? ⟨gg, a1.toNat * 3 + 2, none⟩ = false ∧ Below w.heap.size w w' ∧ w'.heap[gR]? = some (.cells #[.slice none 0 0] 29 (0, 0)) ∧ Ok w g6 (some ⟨gg, 0, none⟩) t_.length c6 t_ w2.heap.size w3.heap.size w') (ds := [6]) #[false, false, false, false, false, false, false] (by kernel_rfl) rfl rfl ⟨(blk_cell O6.out.b 0).trans rfl, x2, xf2, below_drew1 HB6.out, BR6.out, O6.out.below (below_drew1 (Below.refl _ _))⟩ (fun hHeld => ?_)
  refine pure_ (i := 0) (N := some 23) (v := ?_) (a' := ?_) #[true, false, false, false, false, false, false] rfl rfl (by kernel_rfl) (fun _ _ _ h => h) (Or.inl ⟨by rfl, ?_⟩) ?_ ?_
  rotate_left
  · intro w'
    go_simp
    with_reducible rfl
  rotate_left
  · simp only [Act.put, List.setIfInBounds_toArray, List.set_cons_zero, List.set_cons_succ, i64_w, i32_w]
    rfl
  refine pure_ (i := 2) (N := some 25) (v := ?_) (a' := ?_) #[true, false, true, false, false, false, false] rfl rfl (by kernel_rfl) (fun _ _ _ h => h) (Or.inl ⟨by rfl, ?_⟩) ?_ ?_
  rotate_left
  · intro w'
    go_simp
    with_reducible rfl
  rotate_left
  · simp only [Act.put, List.setIfInBounds_toArray, List.set_cons_zero, List.set_cons_succ, i64_w, i32_w]
    rfl
  refine take_ (i := 1) (N := some 24) (v := ?_) (a' := ?_) #[true, true, true, false, false, false, false] rfl rfl (by kernel_rfl) (fun _ _ _ h => h) (Or.inl ⟨by rfl, ?_⟩) hHeld ?_ ?_
  rotate_left
  · rintro w' ⟨s0, s1, s2, s3, s4, s5⟩
    go_simp
    with_reducible rfl
  rotate_left
  · simp only [Act.put, List.setIfInBounds_toArray, List.set_cons_zero, List.set_cons_succ, i64_w, i32_w]
    rfl
  refine one_ (i := 3) (N := some 26) #[true, true, true, true, false, false, false] rfl rfl (by kernel_rfl) (by decide) (fun K hK => ?_)
  refine goes_ Try.func79 (by kernel_rfl) rfl #[] (by rfl) rfl rfl (by simp only [List.map_toArray, List.map_cons, List.map_nil]) ?_
  with_reducible refine (impl_blankLeaves.calls (List.replicate 4 z63) _ HBL.out).mono ?_
  rintro e w40 ⟨vl, rfl, hL, hb⟩
  refine ⟨_, rfl, ?_⟩
  obtain ⟨Al, cl, e_⟩ := Kd.R_slice hL
  have e_ : vl = .slice Al 4 cl := e_
  subst e_
  have HLV := Aside0.mk hL
  have LLV := Aside0.mk (⟨hHeld.2.2.2.1.size, blk_lt hHeld.2.2.2.2.2.b⟩ : w.heap.size ≤ _ ∧ g6 < _)
  refine hK.out _ _ ⟨pw_cell_below hb hHeld.1, pw_cell_below hb hHeld.2.1, frozen_kept39 hb (World.block_lt_of_cell? _ _ hHeld.2.1) hHeld.2.2.1, below_step hHeld.2.2.2.1 hb, blk_below hHeld.2.2.2.2.1 hb, hHeld.2.2.2.2.2.below hb⟩ (fun hHeld => ?_)
  clear hK K
  refine norm_ (a' := ?_) ?_ ?_
  rotate_left
  · show Act.put _ (some 26) _ = _
    simp only [Act.put, List.setIfInBounds_toArray, List.set_cons_zero, List.set_cons_succ, i64_w, i32_w]
    rfl
  refine pure_ (i := 4) (N := some 27) (v := ?_) (a' := ?_) #[true, true, true, true, true, false, false] rfl rfl (by kernel_rfl) (fun _ _ _ h => h) (Or.inl ⟨by rfl, ?_⟩) ?_ ?_
  rotate_left
  · intro w'
    go_simp
    with_reducible rfl
  rotate_left
  · simp only [Act.put, List.setIfInBounds_toArray, List.set_cons_zero, List.set_cons_succ, i64_w, i32_w]
    rfl
  refine pure_ (i := 5) (N := some 28) (v := ?_) (a' := ?_) #[true, true, true, true, true, true, false] rfl rfl (by kernel_rfl) (fun _ _ _ h => h) (Or.inl ⟨by rfl, ?_⟩) ?_ ?_
  rotate_left
  · intro w'
    go_simp
    with_reducible rfl
  rotate_left
  · simp only [Act.put, List.setIfInBounds_toArray, List.set_cons_zero, List.set_cons_succ, i64_w, i32_w]
    rfl
  refine last_ (i := 6) (N := none) #[true, true, true, true, true, true, true] rfl rfl (by kernel_rfl) (by decide) (fun K hK => ?_)
  refine skip_ (w1 := ?_) (by rfl) rfl ?_ ?_
  rotate_left
  · go_simp
    rfl
  refine hK.out _ _ ?_
  clear hK K
  refine done_ (by kernel_rfl) ?_

  have O7 := hHeld.2.2.2.2.2
  have NG := Aside0.mk (⟨(by have h1 := IN.out.2; have h2 := O7.hg; omega), (by have h1 := IN.out.1; have h2 := LR.out; omega), Kd.S_base O7.s gg (by simp [Value.ownBlock])⟩ : g6 ≠ gg ∧ gR ≠ gg ∧ w.heap.size ≤ gg)
  have SL := Aside0.mk (put_leaves O7.s a1 P0.out P2.out (.slice Al 4 cl) _ (Kd.R_lower (Kd.R_mono (Kd.R_bound HLV.out) (fun k hk => hk.2.1)) LLV.out.1) (fun k hk hk2 => by have h1 := hk.2; have h2 := O7.hg; have h3 := LLV.out.2; omega))
  have B6 := Aside0.mk (blk_far O7.b (p := ⟨gg, a1.toNat * 3 + 2, none⟩) NG.out.1 (.slice Al 4 cl))
  have BR := Aside0.mk (blk_far hHeld.2.2.2.2.1 (p := ⟨gg, a1.toNat * 3 + 2, none⟩) NG.out.2.1 (.slice Al 4 cl))
  have HB7 := Aside0.mk (below_set (j := a1.toNat * 3 + 2) (v := .slice Al 4 cl) hHeld.2.2.2.1 NG.out.2.2)
  have RR := Aside0.mk (⟨LR.out, (by have h1 := N6R.out; have h2 := LLV.out.2; omega)⟩ : gR < w2.heap.size ∧ gR < w6.drew.heap.size)
  clear hHeld O7 HLV LLV hL hb x2 xf2 O6 HB6 BR6 IN
  show Exit.then _ _ _ _ (w40.setCell ⟨gg, a1.toNat * 3 + 2, none⟩ (.slice Al 4 cl))
  generalize w40.setCell ⟨gg, a1.toNat * 3 + 2, none⟩ (.slice Al 4 cl) = w41 at SL B6 BR HB7 ⊢
  have NL := Aside0.mk (show a1 < (t_.length : Int) from P2.out)
  obtain ⟨v3, _, y1, _, yf, _, _, _, yW, _, _, _⟩ := at_elem_ SL.out a1 P0.out P2.out
  rw [rd_set_elem_ t_ a1 _ P0.out NL.out] at y1 yW
  have yf1 := yf 1
  have YW := Aside0.mk yW
  clear yf yW
  have hc6 : w41.cell? ⟨g6, 0, none⟩ = some (.slice (some ⟨gg, 0, none⟩) t_.length c6) := (blk_cell B6.out 0).trans rfl
  go_wp2_with (first | ((with_reducible refine gate_store (t := 3) (p := 37) rfl ?_); refine store_event (t := 3) (p := 37) (v := ?vo_37) (w1 := (w41.setCell ⟨gg, a1.toNat * 3 + 1, none⟩ (.int .i64 (wrap64 ((rd_T39 t_ a1).f1 + 1))))) ?hg ?ho ?hn ?hr ?_; (case ho => rfl); (case hg => rfl); (case hn => rfl); (case hr => first | (go_simp; done) | (go_simp; rfl)); intro w42 hw; have S42 := Aside0.mk (by rw [hw]; have e := (YW.out (wrap64 ((rd_T39 t_ a1).f1 + 1))).1; rw [List.set_set] at e; exact e : Kd.S k39 39 w42 w.heap.size (fun k => (w2.heap.size ≤ k ∧ k < w3.heap.size) ∨ w6.drew.heap.size ≤ k) (.slice (some ⟨gg, 0, none⟩) t_.length c6) (t_.set a1.toNat ⟨(rd_T39 t_ a1).f0, wrap64 ((rd_T39 t_ a1).f1 + 1), List.replicate 4 z63⟩)); have B42 := Aside0.mk (by rw [hw]; exact blk_far B6.out (p := ⟨gg, a1.toNat * 3 + 1, none⟩) NG.out.1 _ : w42.heap[g6]? = some (.cells #[.slice (some ⟨gg, 0, none⟩) t_.length c6] 29 (0, 0))); have BR42 := Aside0.mk (by rw [hw]; exact blk_far BR.out (p := ⟨gg, a1.toNat * 3 + 1, none⟩) NG.out.2.1 _ : w42.heap[gR]? = some (.cells #[.slice none 0 0] 29 (0, 0))); have HB42 := Aside0.mk (by rw [hw]; exact below_set HB7.out NG.out.2.2 : Below w.heap.size w w42); clear hw y1 yf1 hc6 YW SL B6 BR HB7) | ((with_reducible refine gate_dst (N := 38) rfl ?_); refine wpList_load_row rfl 29 (.tmp 6) rfl g6 rfl 29 _ (0, 0) _ B42.out hu29 rfl HI29.out ?_) | ((with_reducible refine gate_store (t := 29) (p := 4) rfl ?_); refine row_event39 rfl 29 (.tmp 4) (.tmp 38) rfl gR #[.slice (some ⟨gg, 0, none⟩) t_.length c6] rfl (by first | rfl | (go_simp; done) | (go_simp; rfl)) 29 _ BR42.out HI29.out rfl (by simp [Value.oneCell']) ?_; intro w43 hw; have RZ := Aside0.mk (by rw [hw]; exact setRow_heap _ _ _ _ _ _ BR42.out : w43.heap[gR]? = some (.cells #[.slice (some ⟨gg, 0, none⟩) t_.length c6] 29 (0, 0))); have HZ := Aside0.mk (by rw [hw]; exact below_row39 HB42.out GR.out _ : Below w.heap.size w w43); have SZ := Aside0.mk (by rw [hw]; exact Kd.S_mono (Kd.S_step S42.out (fun k hk _ => setRow_other _ _ k _ (by have h1 := RR.out; rcases hk with h2 | h2 <;> omega))) (fun _ _ => trivial) : Kd.S k39 39 w43 w.heap.size (fun _ => True) (.slice (some ⟨gg, 0, none⟩) t_.length c6) (t_.set a1.toNat ⟨(rd_T39 t_ a1).f0, wrap64 ((rd_T39 t_ a1).f1 + 1), List.replicate 4 z63⟩)); clear hw))
  refine bodyPost_ret (results_row_tmp39 rfl _ _ gR 29 _ (0, 0) _ _ rfl rfl RZ.out hu29 rfl HI29.out) rfl ?_
  exact ⟨_, rfl, SZ.out, HZ.out⟩
def impl_Wipe.f (k : Nat) (l0_0 : List (S39)) (a1 : Int) : Option ((List (S39)) × Bool) :=
  (impl_copyFlash.f k l0_0).bind fun t => (impl_usable.f k l0_0 a1).bind fun u => if u = true then (if 0 ≤ a1 ∧ a1 < (l0_0.length : Int) ∧ a1 < (t.length : Int) then (if (rd_T39 l0_0 a1).f1 = 1000000000 then some (t, false) else some (t.set a1.toNat ⟨(rd_T39 t a1).f0, wrap64 ((rd_T39 t a1).f1 + 1), List.replicate 4 z63⟩, true)) else none) else some (t, false)
theorem impl_Wipe.mono : ∀ a0 a1 k, LeO (impl_Wipe.f k a0 a1) (impl_Wipe.f (k + 1) a0 a1) := fun a0 a1 k => by
  unfold impl_Wipe.f
  exact LeO.bind (impl_copyFlash.mono _ _) (fun _ => LeO.bind (impl_usable.mono _ _ _) (fun _ => LeO.refl _))
theorem impl_Wipe.calls (k : Nat) (A0_0 : Option Addr) (c0_0 : Nat) (l0_0 : List (S39)) (a1 : Int) (r1 : List (S39)) (r2 : Bool) (w : World) (hr0_0 : Kd.C k39 w A0_0 l0_0.length l0_0) (hc0_0 : l0_0.length ≤ c0_0) (h : impl_Wipe.f k l0_0 a1 = some (r1, r2)) :
    Calls Try.prog 49 #[.agg #[.slice A0_0 l0_0.length c0_0], .int .i64 a1] w fun e w' => ∃ v0_ : Value, e = .returned (.tuple #[.agg #[v0_], .bool r2]) ∧ Kd.S k39 39 w' w.heap.size (fun _ => True) v0_ r1 ∧ Below w.heap.size w w' := by
  unfold impl_Wipe.f at h
  obtain ⟨t, ht, h⟩ := Option.bind_eq_some_iff.mp h
  obtain ⟨u, hu, h⟩ := Option.bind_eq_some_iff.mp h
  cases u with
  | false =>
    rw [if_neg (by decide)] at h
    simp only [Option.some.injEq, Prod.mk.injEq] at h
    obtain ⟨rfl, rfl⟩ := h
    exact impl_Wipe.no_ k A0_0 c0_0 l0_0 t a1 w hr0_0 hc0_0 ht hu
  | true =>
    rw [if_pos rfl] at h
    split at h
    · rename_i hc
      split at h
      · rename_i hm
        simp only [Option.some.injEq, Prod.mk.injEq] at h
        obtain ⟨rfl, rfl⟩ := h
        exact impl_Wipe.full_ k A0_0 c0_0 l0_0 t a1 w hr0_0 hc0_0 ht hu hc.1 hc.2.1 hm
      · rename_i hm
        simp only [Option.some.injEq, Prod.mk.injEq] at h
        obtain ⟨rfl, rfl⟩ := h
        exact impl_Wipe.yes_ k A0_0 c0_0 l0_0 t a1 w hr0_0 hc0_0 ht hu hc.1 hc.2.1 hc.2.2 hm
    · cases h

end Go.Proofs.Ytbafmoggckeaeaa.QFnExactWipe
