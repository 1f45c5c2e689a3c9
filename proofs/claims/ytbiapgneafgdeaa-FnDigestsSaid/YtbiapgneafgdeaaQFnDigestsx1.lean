/- What is proved here: contracts of functions that the law FnDigests reaches, each told as a plain function. Conditions: those of each contract. (Written by a program of ours.) -/
import Derived.Test.YtbiapgneafgdeaaQFnDigestsx0
namespace Go.Proofs.Ytbiapgneafgdeaa.QFnDigests
open Go.RowKit Go.Proofs.YtbiapgneafgdeaaW.PrintWords Go.Proofs.YtbiapgneafgdeaaW.PrintLast Go.Proofs.YtbiapgneafgdeaaW.PrintMore
attribute [local go_sem] max2_int min2_int max_two min_two max_three min_three max_four min_four   -- for this text's walks alone
set_option linter.unusedVariables false
set_option linter.unusedSimpArgs false

/-! ### impl_in: function 48 -/
def impl_in.f (a0 : Int) (a1 : Int) (a2 : Int) : Option (Bool) := if a0 ≥ a1 then (some (decide (a0 ≤ a2))) else (some false)
set_option maxHeartbeats 8000000 in
set_option maxRecDepth 100000 in
theorem impl_in.calls (a0 : Int) (a1 : Int) (a2 : Int) (r : Bool) (w : World) (h : impl_in.f a0 a1 a2 = some r) :
    Calls Try.prog 48 #[.int .i64 a0, .int .i64 a1, .int .i64 a2] w fun e w' => e = .returned (.bool r) ∧ Drawn0 w w' := by
  have H : (if a0 ≥ a1 then (some (decide (a0 ≤ a2))) else (some false)) = some r := h
  clear h
  by_cases c4 : a0 ≥ a1
  · rw [if_pos c4] at H
    have c4b0 : decide (a1 ≤ a0) = true := decide_eq_true c4
    clear c4
    obtain rfl := Option.some.inj H
    go_enter Try.func48, Try.ntmps48
    go_wp2
    go_ret
    exact ⟨by first | rfl | (simp; done) | (simp [*]; done), by repeat (first | exact Drawn0.refl _ | apply Drawn0.step)⟩
  · rw [if_neg c4] at H
    have c4b0 : decide (a1 ≤ a0) = false := decide_eq_false c4
    clear c4
    obtain rfl := Option.some.inj H
    go_enter Try.func48, Try.ntmps48
    go_wp2
    go_ret
    exact ⟨by first | rfl | (simp; done) | (simp [*]; done), by repeat (first | exact Drawn0.refl _ | apply Drawn0.step)⟩

/-! ### impl_HasherOk: function 21 -/
def impl_HasherOk.f (a0_0 : ByteArray) (a0_1 : ByteArray) (a0_2 : Int) : Option (Bool) := if (a0_0.size : Int) = 32 then (if (a0_1.size : Int) < 64 then ((impl_in.f a0_2 0 1000000000).bind fun t102 => (if t102 = true then (some ((a0_1.size : Int) == (Int.tmod a0_2 64))) else (some false))) else (some false)) else (some false)
set_option maxHeartbeats 8000000 in
set_option maxRecDepth 100000 in
theorem impl_HasherOk.calls (a0_0 : ByteArray) (a0_1 : ByteArray) (a0_2 : Int) (r : Bool) (w : World) (h : impl_HasherOk.f a0_0 a0_1 a0_2 = some r) :
    Calls Try.prog 21 #[.agg #[.string a0_0, .string a0_1, .int .i64 a0_2]] w fun e w' => e = .returned (.bool r) ∧ Below w.heap.size w w' := by
  have hu25 := Try.underlying25
  have HB := Aside0.mk (Below.refl w.heap.size w)
  have H : (if (a0_0.size : Int) = 32 then (if (a0_1.size : Int) < 64 then ((impl_in.f a0_2 0 1000000000).bind fun t102 => (if t102 = true then (some ((a0_1.size : Int) == (Int.tmod a0_2 64))) else (some false))) else (some false)) else (some false)) = some r := h
  clear h
  by_cases c2 : (a0_0.size : Int) = 32
  · rw [if_pos c2] at H
    have c2b0 : ((a0_0.size : Int) == 32) = true := beq_iff_eq.mpr c2
    have c2b1 : ((a0_0.size : Int) != 32) = false := bne_eq_false_iff_eq.mpr c2
    clear c2
    by_cases c3 : (a0_1.size : Int) < 64
    · rw [if_pos c3] at H
      have c3b0 : decide ((a0_1.size : Int) < 64) = true := decide_eq_true c3
      have c3b1 : decide (a0_1.size < 64) = true := decide_eq_true (by omega)
      clear c3
      replace H := Option.bind_eq_some_iff.mp H
      obtain ⟨t102, A40, H⟩ := H
      replace H : (if t102 = true then (some ((a0_1.size : Int) == (Int.tmod a0_2 64))) else (some false)) = some r := H
      have A4 := Aside0.mk A40
      clear A40
      by_cases c5 : t102 = true
      · subst c5
        have H1 : (some ((a0_1.size : Int) == (Int.tmod a0_2 64))) = some r := by rw [if_pos rfl] at H; exact H
        clear H
        have H := H1
        clear H1
        obtain rfl := Option.some.inj H
        go_enter Try.func21, Try.ntmps21
        go_wp2_with (first | ((with_reducible refine gate_dst (N := 1) rfl ?_); (try (refine gate_guard (by rfl) ?_; dsimp only)); refine box_event ?hg (N := 1) ?hd (cs := #[.string a0_0, .string a0_1, .int .i64 a0_2]) (t := 25) ?hr ?_; (case hd => rfl); (case hg => rfl); (case hr => first | (go_simp; done) | (go_simp; rfl)); intro gb101 hg w6 hbox hb; have n0_ := Aside0.mk (below_step (by repeat (first | (with_reducible first | exact HB.out | apply below_alloc | apply pw_below_drewN | apply below_drew1) | exact HB.out)) hb); have n1_ := Aside0.mk (hbox); have n2_ := Aside0.mk ((by rw [hg]; exact (below_size (by repeat (first | (with_reducible first | exact HB.out | apply below_alloc | apply pw_below_drewN | apply below_drew1) | exact HB.out))) : w.heap.size ≤ gb101)); have n3_ := Aside0.mk ((by rw [hg]; exact (below_size (by repeat (first | (with_reducible first | exact HB.out | apply below_alloc | apply pw_below_drewN | apply below_drew1) | exact HB.out))) : w.heap.size ≤ gb101)); clear HB; have HB := n0_; have BK101 := n1_; have GW101 := n2_; have GE101 := n3_; clear n0_ n1_ n2_ n3_; clear hb hbox hg; have hcz7_0 : w6.cell? ⟨gb101, 0, none⟩ = some (.string a0_0) := (blk_cell BK101.out 0).trans rfl; have hcz7_1 : w6.cell? ⟨gb101, 1, none⟩ = some (.string a0_1) := (blk_cell BK101.out 1).trans rfl; have hcz7_2 : w6.cell? ⟨gb101, 2, none⟩ = some (.int .i64 a0_2) := (blk_cell BK101.out 2).trans rfl; have hfz7_0 := blk_frozen BK101.out 0; have hfz7_1 := blk_frozen BK101.out 1; have hfz7_2 := blk_frozen BK101.out 2) | (go_at_call 48; (with_reducible refine (impl_in.calls a0_2 0 1000000000 true _ A4.out).mono ?_); rintro e w' ⟨rfl, ⟨nd, rfl⟩⟩))
        go_ret
        exact ⟨by first | rfl | (simp [errW_none, errW_some] <;> rfl) | (simp [*, errW_none, errW_some] <;> rfl), by repeat (first | (with_reducible first | exact HB.out | apply below_alloc | apply pw_below_drewN | apply below_drew1 | refine below_set ?_ GE101.out) | exact HB.out)⟩
      · replace c5 := Bool.eq_false_iff.mpr c5
        subst c5
        have H1 : (some false) = some r := by rw [if_neg (show ¬ (false = true) by decide)] at H; exact H
        clear H
        have H := H1
        clear H1
        obtain rfl := Option.some.inj H
        go_enter Try.func21, Try.ntmps21
        go_wp2_with (first | ((with_reducible refine gate_dst (N := 1) rfl ?_); (try (refine gate_guard (by rfl) ?_; dsimp only)); refine box_event ?hg (N := 1) ?hd (cs := #[.string a0_0, .string a0_1, .int .i64 a0_2]) (t := 25) ?hr ?_; (case hd => rfl); (case hg => rfl); (case hr => first | (go_simp; done) | (go_simp; rfl)); intro gb101 hg w8 hbox hb; have n0_ := Aside0.mk (below_step (by repeat (first | (with_reducible first | exact HB.out | apply below_alloc | apply pw_below_drewN | apply below_drew1) | exact HB.out)) hb); have n1_ := Aside0.mk (hbox); have n2_ := Aside0.mk ((by rw [hg]; exact (below_size (by repeat (first | (with_reducible first | exact HB.out | apply below_alloc | apply pw_below_drewN | apply below_drew1) | exact HB.out))) : w.heap.size ≤ gb101)); have n3_ := Aside0.mk ((by rw [hg]; exact (below_size (by repeat (first | (with_reducible first | exact HB.out | apply below_alloc | apply pw_below_drewN | apply below_drew1) | exact HB.out))) : w.heap.size ≤ gb101)); clear HB; have HB := n0_; have BK101 := n1_; have GW101 := n2_; have GE101 := n3_; clear n0_ n1_ n2_ n3_; clear hb hbox hg; have hcz9_0 : w8.cell? ⟨gb101, 0, none⟩ = some (.string a0_0) := (blk_cell BK101.out 0).trans rfl; have hcz9_1 : w8.cell? ⟨gb101, 1, none⟩ = some (.string a0_1) := (blk_cell BK101.out 1).trans rfl; have hcz9_2 : w8.cell? ⟨gb101, 2, none⟩ = some (.int .i64 a0_2) := (blk_cell BK101.out 2).trans rfl; have hfz9_0 := blk_frozen BK101.out 0; have hfz9_1 := blk_frozen BK101.out 1; have hfz9_2 := blk_frozen BK101.out 2) | (go_at_call 48; (with_reducible refine (impl_in.calls a0_2 0 1000000000 false _ A4.out).mono ?_); rintro e w' ⟨rfl, ⟨nd, rfl⟩⟩))
        go_ret
        exact ⟨by first | rfl | (simp [errW_none, errW_some] <;> rfl) | (simp [*, errW_none, errW_some] <;> rfl), by repeat (first | (with_reducible first | exact HB.out | apply below_alloc | apply pw_below_drewN | apply below_drew1 | refine below_set ?_ GE101.out) | exact HB.out)⟩
    · rw [if_neg c3] at H
      have c3b0 : decide ((a0_1.size : Int) < 64) = false := decide_eq_false c3
      have c3b1 : decide (a0_1.size < 64) = false := decide_eq_false (by omega)
      clear c3
      obtain rfl := Option.some.inj H
      go_enter Try.func21, Try.ntmps21
      go_wp2_with (first | ((with_reducible refine gate_dst (N := 1) rfl ?_); (try (refine gate_guard (by rfl) ?_; dsimp only)); refine box_event ?hg (N := 1) ?hd (cs := #[.string a0_0, .string a0_1, .int .i64 a0_2]) (t := 25) ?hr ?_; (case hd => rfl); (case hg => rfl); (case hr => first | (go_simp; done) | (go_simp; rfl)); intro gb101 hg w10 hbox hb; have n0_ := Aside0.mk (below_step (by repeat (first | (with_reducible first | exact HB.out | apply below_alloc | apply pw_below_drewN | apply below_drew1) | exact HB.out)) hb); have n1_ := Aside0.mk (hbox); have n2_ := Aside0.mk ((by rw [hg]; exact (below_size (by repeat (first | (with_reducible first | exact HB.out | apply below_alloc | apply pw_below_drewN | apply below_drew1) | exact HB.out))) : w.heap.size ≤ gb101)); have n3_ := Aside0.mk ((by rw [hg]; exact (below_size (by repeat (first | (with_reducible first | exact HB.out | apply below_alloc | apply pw_below_drewN | apply below_drew1) | exact HB.out))) : w.heap.size ≤ gb101)); clear HB; have HB := n0_; have BK101 := n1_; have GW101 := n2_; have GE101 := n3_; clear n0_ n1_ n2_ n3_; clear hb hbox hg; have hcz11_0 : w10.cell? ⟨gb101, 0, none⟩ = some (.string a0_0) := (blk_cell BK101.out 0).trans rfl; have hcz11_1 : w10.cell? ⟨gb101, 1, none⟩ = some (.string a0_1) := (blk_cell BK101.out 1).trans rfl; have hcz11_2 : w10.cell? ⟨gb101, 2, none⟩ = some (.int .i64 a0_2) := (blk_cell BK101.out 2).trans rfl; have hfz11_0 := blk_frozen BK101.out 0; have hfz11_1 := blk_frozen BK101.out 1; have hfz11_2 := blk_frozen BK101.out 2))
      go_ret
      exact ⟨by first | rfl | (simp [errW_none, errW_some] <;> rfl) | (simp [*, errW_none, errW_some] <;> rfl), by repeat (first | (with_reducible first | exact HB.out | apply below_alloc | apply pw_below_drewN | apply below_drew1 | refine below_set ?_ GE101.out) | exact HB.out)⟩
  · rw [if_neg c2] at H
    have c2b0 : ((a0_0.size : Int) == 32) = false := beq_eq_false_iff_ne.mpr c2
    have c2b1 : ((a0_0.size : Int) != 32) = true := bne_iff_ne.mpr c2
    obtain rfl := Option.some.inj H
    go_enter Try.func21, Try.ntmps21
    go_wp2_with (first | ((with_reducible refine gate_dst (N := 1) rfl ?_); (try (refine gate_guard (by rfl) ?_; dsimp only)); refine box_event ?hg (N := 1) ?hd (cs := #[.string a0_0, .string a0_1, .int .i64 a0_2]) (t := 25) ?hr ?_; (case hd => rfl); (case hg => rfl); (case hr => first | (go_simp; done) | (go_simp; rfl)); intro gb101 hg w12 hbox hb; have n0_ := Aside0.mk (below_step (by repeat (first | (with_reducible first | exact HB.out | apply below_alloc | apply pw_below_drewN | apply below_drew1) | exact HB.out)) hb); have n1_ := Aside0.mk (hbox); have n2_ := Aside0.mk ((by rw [hg]; exact (below_size (by repeat (first | (with_reducible first | exact HB.out | apply below_alloc | apply pw_below_drewN | apply below_drew1) | exact HB.out))) : w.heap.size ≤ gb101)); have n3_ := Aside0.mk ((by rw [hg]; exact (below_size (by repeat (first | (with_reducible first | exact HB.out | apply below_alloc | apply pw_below_drewN | apply below_drew1) | exact HB.out))) : w.heap.size ≤ gb101)); clear HB; have HB := n0_; have BK101 := n1_; have GW101 := n2_; have GE101 := n3_; clear n0_ n1_ n2_ n3_; clear hb hbox hg; have hcz13_0 : w12.cell? ⟨gb101, 0, none⟩ = some (.string a0_0) := (blk_cell BK101.out 0).trans rfl; have hcz13_1 : w12.cell? ⟨gb101, 1, none⟩ = some (.string a0_1) := (blk_cell BK101.out 1).trans rfl; have hcz13_2 : w12.cell? ⟨gb101, 2, none⟩ = some (.int .i64 a0_2) := (blk_cell BK101.out 2).trans rfl; have hfz13_0 := blk_frozen BK101.out 0; have hfz13_1 := blk_frozen BK101.out 1; have hfz13_2 := blk_frozen BK101.out 2))
    go_ret
    exact ⟨by first | rfl | (simp [errW_none, errW_some] <;> rfl) | (simp [*, errW_none, errW_some] <;> rfl), by repeat (first | (with_reducible first | exact HB.out | apply below_alloc | apply pw_below_drewN | apply below_drew1 | refine below_set ?_ GE101.out) | exact HB.out)⟩

/-! ### impl_wordBytes: function 66 -/
def impl_wordBytes.l0 : Nat → List Int → List Int → Int → Int → Option (ByteArray)
  | 0, _, _, _, _ => none
  | k + 1, x3, x6, x7, x8 => if x8 < x7 then (if 0 ≤ x8 then (if x8 < (x6.length : Int) then ((some (([((rd x6 x8) / 16777216) % 256, ((rd x6 x8) / 65536) % 256, ((rd x6 x8) / 256) % 256, (rd x6 x8) % 256] : List Int) : List Int)).bind fun y104 => (if x3.length + y104.length < 140737488355328 then (impl_wordBytes.l0 k (x3 ++ y104) x6 x7 (wrap64 (x8 + 1))) else (none))) else (none)) else (none)) else (some (strOfNums x3))
def impl_wordBytes.f (k : Nat) (l0 : List Int) : Option (ByteArray) := impl_wordBytes.l0 k ([] : List Int) l0 (l0.length : Int) 0
theorem impl_wordBytes.mono_l : ∀ k, (∀ y0 y1 y2 y3, LeO (impl_wordBytes.l0 k y0 y1 y2 y3) (impl_wordBytes.l0 (k + 1) y0 y1 y2 y3))
  | 0 => fun _ _ _ _ r h => by simp [impl_wordBytes.l0] at h
  | k + 1 => by
    have ih0 := impl_wordBytes.mono_l k
    · intro y0 y1 y2 y3
      unfold impl_wordBytes.l0
      repeat' first
      | (with_reducible exact ih0 _ _ _ _)
      | (with_reducible exact LeO.refl _)
      | (with_reducible exact LeO.none _)
      | (with_reducible refine LeO.ite ?_ ?_)
      | (with_reducible refine LeO.bind ?_ (fun _ => ?_))
      | exact ih0 _ _ _ _
      | exact LeO.none _
      | refine LeO.ite ?_ ?_
      | refine LeO.bind ?_ (fun _ => ?_)
theorem impl_wordBytes.mono : ∀ a0 k, LeO (impl_wordBytes.f k a0) (impl_wordBytes.f (k + 1) a0) := by
  intro a0 k
  have ih0 := impl_wordBytes.mono_l k
  unfold impl_wordBytes.f
  repeat' first
      | (with_reducible exact ih0 _ _ _ _)
      | (with_reducible exact LeO.refl _)
      | (with_reducible exact LeO.none _)
      | (with_reducible refine LeO.ite ?_ ?_)
      | (with_reducible refine LeO.bind ?_ (fun _ => ?_))
      | exact ih0 _ _ _ _
      | exact LeO.none _
      | refine LeO.ite ?_ ?_
      | refine LeO.bind ?_ (fun _ => ?_)
set_option maxHeartbeats 8000000 in
set_option maxRecDepth 100000 in
theorem impl_wordBytes.calls (k : Nat) (A0 : Option Addr) (c0 : Nat) (l0 : List Int) (r : ByteArray) (w : World) (hr0 : Kd.C (Kd.int .u32) w A0 l0.length l0) (hc0 : l0.length ≤ c0) (h : impl_wordBytes.f k l0 = some r) :
    Calls Try.prog 66 #[.slice A0 l0.length c0] w fun e w' => e = .returned (.string r) ∧ Below w.heap.size w w' := by
  have HR0 := Aside0.mk hr0
  have HC0 := Aside0.mk hc0
  clear hr0 hc0
  have HB := Aside0.mk (Below.refl w.heap.size w)
  have H : (impl_wordBytes.l0 k ([] : List Int) l0 (l0.length : Int) 0) = some r := h
  clear h
  have H' := Aside0.mk H
  clear H
  go_enter Try.func66, Try.ntmps66
  go_wp2
  go_loopg [3, 8] k (fun kq v3 v8 w' => ∃ (x3_1 : List Int) (x8_1 : Int), v8 = .int .i64 x8_1 ∧ Aside0 (impl_wordBytes.l0 kq x3_1 l0 (l0.length : Int) x8_1 = some r) ∧ Aside0 (kq ≤ k) ∧ Aside0 (Kd.R (Kd.int .u8) 5 w' w.heap.size (fun _ => True) v3 x3_1) ∧ Aside0 (Below w.heap.size w w'))
  case atStart => exact ⟨(([] : List Int)), (0), (by first | rfl | (simp; done) | (simp [*]; done)), H', ⟨Nat.le_refl _⟩, ⟨by first | exact Kd.R_nil _ _ _ _ _ | exact Kd.N_nil _ _ _ _ _ | exact Kd.V_nil _ _ _ _ _ | exact Kd.Q_nil _ _ _ _ _ | exact Kd.S_nil _ _ _ _ _⟩, ⟨by repeat (first | (with_reducible first | exact HB.out | apply below_alloc | apply pw_below_drewN | apply below_drew1) | exact HB.out)⟩⟩
  case round =>
    clear H'
    obtain ⟨x3_1, x8_1, rfl, HA, HK1, HO_3, HB⟩ := hrel
    cases gk with
    | zero => exact absurd HA.out (by simp [impl_wordBytes.l0])
    | succ k1 =>
      have H := HA.out
      clear HA
      simp only [impl_wordBytes.l0] at H
      by_cases c2 : x8_1 < (l0.length : Int)
      · rw [if_pos c2] at H
        have c2b0 : decide (x8_1 < (l0.length : Int)) = true := decide_eq_true c2
        clear c2
        by_cases c3 : 0 ≤ x8_1
        · rw [if_pos c3] at H
          have c3b0 : decide (0 ≤ x8_1) = true := decide_eq_true c3
          clear c3
          by_cases c4 : x8_1 < (l0.length : Int)
          · rw [if_pos c4] at H
            have c4b0 : decide (x8_1 < (l0.length : Int)) = true := decide_eq_true c4
            clear c4
            obtain ⟨y104, hy104⟩ : ∃ y_ : List Int, y_ = (([((rd l0 x8_1) / 16777216) % 256, ((rd l0 x8_1) / 65536) % 256, ((rd l0 x8_1) / 256) % 256, (rd l0 x8_1) % 256] : List Int)) := ⟨_, rfl⟩
            replace H : (if x3_1.length + y104.length < 140737488355328 then (impl_wordBytes.l0 k1 (x3_1 ++ y104) l0 (l0.length : Int) (wrap64 (x8_1 + 1))) else (none)) = some r := by first | (rw [hy104]; with_reducible exact H) | (have H2_ := (Option.bind_some _ _).symm.trans H; rw [hy104]; with_reducible exact H2_) | (have H2_ := (Option.bind_some _ _).symm.trans H; with_reducible exact H2_) | with_reducible exact H | (rw [hy104]; exact H) | exact H
            have Ny104 := Aside0.mk hy104
            clear hy104
            by_cases c5 : x3_1.length + y104.length < 140737488355328
            · rw [if_pos c5] at H
              have LMc5 := Aside0.mk c5
              clear c5
              obtain ⟨y107, hy107⟩ : ∃ y_ : List Int, y_ = (x3_1 ++ y104) := ⟨_, rfl⟩
              replace H : (impl_wordBytes.l0 k1 y107 l0 (l0.length : Int) (wrap64 (x8_1 + 1))) = some r := by first | (rw [hy107]; with_reducible exact H) | (have H2_ := (Option.bind_some _ _).symm.trans H; rw [hy107]; with_reducible exact H2_) | (have H2_ := (Option.bind_some _ _).symm.trans H; with_reducible exact H2_) | with_reducible exact H | (rw [hy107]; exact H) | exact H
              have Ny107 := Aside0.mk hy107
              clear hy107
              have H' := Aside0.mk H
              clear H
              have p103 : 0 ≤ (x8_1 : Int) := of_decide_eq_true (by first | (with_reducible assumption) | assumption)
              have q103 : x8_1 < (l0.length : Int) := of_decide_eq_true (by first | (with_reducible assumption) | assumption)
              obtain ⟨ad103, e103, hx103_0⟩ := Kd.at_int HR0.out x8_1 p103 q103
              cases e103
              replace hx103_0 := (HB.out.cell (World.block_lt_of_cell? w _ hx103_0)).trans hx103_0
              replace p103 := eq_true p103
              replace q103 := eq_true q103
              go_wp2_with (first | ((with_reducible refine gate_dst (N := 24) rfl ?_); refine Kd.R_lit (Kd.int .u8) _ 5 ?hg (N := 24) ?hd (xs := ([((rd l0 x8_1) / 16777216) % 256, ((rd l0 x8_1) / 65536) % 256, ((rd l0 x8_1) / 256) % 256, (rd l0 x8_1) % 256] : List Int)) (inner := [.int .u8 (((rd l0 x8_1) / 16777216) % 256), .int .u8 (((rd l0 x8_1) / 65536) % 256), .int .u8 (((rd l0 x8_1) / 256) % 256), .int .u8 ((rd l0 x8_1) % 256)]) (ok := fun _ => True) (okp := fun _ => True) ?hr ?hp (fun _ hk => hk) trivial (Below.refl _ _) (Nat.le_refl _) (by simp) ?_; (case hd => rfl); (case hg => rfl); (case hr => first | (go_simp; done) | (go_simp; rfl)); (case hp => exact (Reps.one (show Kd.M (Kd.int .u8) _ _ _ (((rd l0 x8_1) / 16777216) % 256) [.int .u8 (((rd l0 x8_1) / 16777216) % 256)] from rfl) (Reps.one (show Kd.M (Kd.int .u8) _ _ _ (((rd l0 x8_1) / 65536) % 256) [.int .u8 (((rd l0 x8_1) / 65536) % 256)] from rfl) (Reps.one (show Kd.M (Kd.int .u8) _ _ _ (((rd l0 x8_1) / 256) % 256) [.int .u8 (((rd l0 x8_1) / 256) % 256)] from rfl) (Reps.one (show Kd.M (Kd.int .u8) _ _ _ ((rd l0 x8_1) % 256) [.int .u8 ((rd l0 x8_1) % 256)] from rfl) (Reps.none _ _)))))); intro v105 w6 ho7 hb hg_ hnew_; clear hg_ hnew_; (first | rw [← Ny104.out] at ho7 | (simp only [Int.reduceToNat] at ho7; rw [← Ny104.out] at ho7)); have n0_ := Aside0.mk (Kd.R_elder' (by (with_reducible repeat (first | apply Kd.R_alloc | apply Kd.R_drewN | apply Kd.R_drew)); exact HO_3.out) (Kd.R_base ho7) hb); have n1_ := Aside0.mk (Kd.R_lower (Kd.R_new' ho7 (Kd.R_lt (by (with_reducible repeat (first | apply Kd.R_alloc | apply Kd.R_drewN | apply Kd.R_drew)); exact HO_3.out))) (below_size (by repeat (first | (with_reducible first | exact HB.out | apply below_alloc | apply pw_below_drewN | apply below_drew1) | exact HB.out)))); have n2_ := Aside0.mk (below_step (by repeat (first | (with_reducible first | exact HB.out | apply below_alloc | apply pw_below_drewN | apply below_drew1) | exact HB.out)) hb); clear HO_3; clear HB; have HO_3 := n0_; have HO106 := n1_; have HB := n2_; clear n0_ n1_ n2_; clear hb ho7; obtain ⟨Ao9, co9, eo9⟩ := Kd.R_slice HO106.out; subst eo9) | ((with_reducible refine gate_builtin (b := .append) (xs := #[.tmp 12, .tmp 24]) rfl ?_); at_builtin; refine Kd.R_append_rows (Kd.int .u8) (w0 := w) w.heap.size rfl (.tmp 12) (.tmp 24) 34 5 (.int .u8 0) 1 rfl Try.underlying34 info5 rfl (by decide) (by omega) u3 x3_1 y104 _ _ _ (fun k_ => some k_ ≠ (.slice Ao9 y104.length co9 : Value).ownBlock) (fun _ => False) rfl rfl ?aO ?aR (fun _ _ h => h) (fun _ h => h.elim) ?aF ?aB ?aS ?aL ?_; (case aR => repeat (first | exact (Kd.R_reads' HO106.out).2.2 | (with_reducible refine Kd.C_alloc ?_ _) | (with_reducible refine Kd.C_drewN ?_ _) | (with_reducible refine Kd.C_drew ?_))); (case aB => exact (by repeat (first | (with_reducible first | exact HB.out | apply below_alloc | apply pw_below_drewN | apply below_drew1) | exact HB.out))); (case aF => exact (fun k_ hk => Kd.fresh' (Kd.R_lt (by (with_reducible repeat (first | apply Kd.R_alloc | apply Kd.R_drewN | apply Kd.R_drew)); exact HO106.out)) k_ hk)); (case aO => exact (by (with_reducible repeat (first | apply Kd.R_alloc | apply Kd.R_drewN | apply Kd.R_drew)); exact Kd.R_mono HO_3.out (fun _ hk => hk.2))); (case aS => exact (below_size (by repeat (first | (with_reducible first | exact HB.out | apply below_alloc | apply pw_below_drewN | apply below_drew1) | exact HB.out)))); (case aL => have := LMc5.out; omega); intro v108 w8 ho hb hg hat; rw [← Ny107.out] at ho; have n0_ := Aside0.mk (Kd.R_after (ok := (fun _ => True)) (by (with_reducible repeat (first | apply Kd.R_alloc | apply Kd.R_drewN | apply Kd.R_drew)); exact HO106.out) hg hat); have n1_ := Aside0.mk (hb); have n2_ := Aside0.mk (ho); clear HO106; clear HB; clear HO_3; have HO106 := n0_; have HB := n1_; have HO109 := n2_; clear n0_ n1_ n2_; clear ho hb hg hat))
              go_roundg k1
              case measure => have := HK1.out; omega
              case rel => exact ⟨(y107), (wrap64 (x8_1 + 1)), (by first | rfl | (simp; done) | (simp [*]; done)), H', ⟨by have := HK1.out; omega⟩, ⟨by (with_reducible repeat (first | apply Kd.R_alloc | apply Kd.R_drewN | apply Kd.R_drew)); exact Kd.R_mono HO109.out (fun _ hk => trivial)⟩, ⟨by repeat (first | (with_reducible first | exact HB.out | apply below_alloc | apply pw_below_drewN | apply below_drew1) | exact HB.out)⟩⟩
            · rw [if_neg c5] at H
              exact absurd H (by simp)
          · rw [if_neg c4] at H
            exact absurd H (by simp)
        · rw [if_neg c3] at H
          exact absurd H (by simp)
      · rw [if_neg c2] at H
        have c2b0 : decide (x8_1 < (l0.length : Int)) = false := decide_eq_false c2
        clear c2
        obtain rfl := Option.some.inj H
        have hcv10 := own_string (P := Try.prog) Try.underlying34 Try.underlying5 Try.underlying9 (Kd.own_of_R HO_3.out)
        go_wp2
        go_ret
        exact ⟨by first | rfl | (simp [errW_none, errW_some] <;> rfl) | (simp [*, errW_none, errW_some] <;> rfl), by repeat (first | (with_reducible first | exact HB.out | apply below_alloc | apply pw_below_drewN | apply below_drew1) | exact HB.out)⟩

/-! ### impl_wordAt: function 78 -/
def impl_wordAt.f (a0 : ByteArray) (a1 : Int) : Option (Int) := if 0 ≤ a1 then (if a1 < (a0.size : Int) then (if 0 ≤ (wrap64 (a1 + 1)) then (if (wrap64 (a1 + 1)) < (a0.size : Int) then (if 0 ≤ (wrap64 (a1 + 2)) then (if (wrap64 (a1 + 2)) < (a0.size : Int) then (if 0 ≤ (wrap64 (a1 + 3)) then (if (wrap64 (a1 + 3)) < (a0.size : Int) then (some (Go.bits .or .u32 (Go.bits .or .u32 (Go.bits .or .u32 ((((bt a0 a1) % 4294967296) * 16777216) % 4294967296) ((((bt a0 (wrap64 (a1 + 1))) % 4294967296) * 65536) % 4294967296)) ((((bt a0 (wrap64 (a1 + 2))) % 4294967296) * 256) % 4294967296)) ((bt a0 (wrap64 (a1 + 3))) % 4294967296))) else (none)) else (none)) else (none)) else (none)) else (none)) else (none)) else (none)) else (none)
set_option maxHeartbeats 8000000 in
set_option maxRecDepth 100000 in
theorem impl_wordAt.calls (a0 : ByteArray) (a1 : Int) (r : Int) (w : World) (h : impl_wordAt.f a0 a1 = some r) :
    Calls Try.prog 78 #[.string a0, .int .i64 a1] w fun e w' => e = .returned (.int .u32 r) ∧ Drawn0 w w' := by
  have H : (if 0 ≤ a1 then (if a1 < (a0.size : Int) then (if 0 ≤ (wrap64 (a1 + 1)) then (if (wrap64 (a1 + 1)) < (a0.size : Int) then (if 0 ≤ (wrap64 (a1 + 2)) then (if (wrap64 (a1 + 2)) < (a0.size : Int) then (if 0 ≤ (wrap64 (a1 + 3)) then (if (wrap64 (a1 + 3)) < (a0.size : Int) then (some (Go.bits .or .u32 (Go.bits .or .u32 (Go.bits .or .u32 ((((bt a0 a1) % 4294967296) * 16777216) % 4294967296) ((((bt a0 (wrap64 (a1 + 1))) % 4294967296) * 65536) % 4294967296)) ((((bt a0 (wrap64 (a1 + 2))) % 4294967296) * 256) % 4294967296)) ((bt a0 (wrap64 (a1 + 3))) % 4294967296))) else (none)) else (none)) else (none)) else (none)) else (none)) else (none)) else (none)) else (none)) = some r := h
  clear h
  by_cases c3 : 0 ≤ a1
  · rw [if_pos c3] at H
    have c3b0 : decide (0 ≤ a1) = true := decide_eq_true c3
    clear c3
    by_cases c4 : a1 < (a0.size : Int)
    · rw [if_pos c4] at H
      have c4b0 : decide (a1 < (a0.size : Int)) = true := decide_eq_true c4
      clear c4
      obtain ⟨ji6, hji6⟩ : ∃ j_ : Int, (wrap64 (a1 + 1)) = j_ := ⟨_, rfl⟩
      replace H : (if 0 ≤ (ji6) then (if (ji6) < (a0.size : Int) then (if 0 ≤ (wrap64 (a1 + 2)) then (if (wrap64 (a1 + 2)) < (a0.size : Int) then (if 0 ≤ (wrap64 (a1 + 3)) then (if (wrap64 (a1 + 3)) < (a0.size : Int) then (some (Go.bits .or .u32 (Go.bits .or .u32 (Go.bits .or .u32 ((((bt a0 a1) % 4294967296) * 16777216) % 4294967296) ((((bt a0 (ji6)) % 4294967296) * 65536) % 4294967296)) ((((bt a0 (wrap64 (a1 + 2))) % 4294967296) * 256) % 4294967296)) ((bt a0 (wrap64 (a1 + 3))) % 4294967296))) else (none)) else (none)) else (none)) else (none)) else (none)) else (none)) = some r := by first | (rw [hji6] at H; exact H) | (simp only [hji6] at H ⊢; exact H)
      have hji6w : (IntKind.i64.wrap (a1 + 1)) = ji6 := (i64_w _).trans hji6
      by_cases c7 : 0 ≤ (ji6)
      · rw [if_pos c7] at H
        have c7b0 : decide (0 ≤ (ji6)) = true := decide_eq_true c7
        clear c7
        by_cases c8 : (ji6) < (a0.size : Int)
        · rw [if_pos c8] at H
          have c8b0 : decide ((ji6) < (a0.size : Int)) = true := decide_eq_true c8
          clear c8
          obtain ⟨ji10, hji10⟩ : ∃ j_ : Int, (wrap64 (a1 + 2)) = j_ := ⟨_, rfl⟩
          replace H : (if 0 ≤ (ji10) then (if (ji10) < (a0.size : Int) then (if 0 ≤ (wrap64 (a1 + 3)) then (if (wrap64 (a1 + 3)) < (a0.size : Int) then (some (Go.bits .or .u32 (Go.bits .or .u32 (Go.bits .or .u32 ((((bt a0 a1) % 4294967296) * 16777216) % 4294967296) ((((bt a0 (ji6)) % 4294967296) * 65536) % 4294967296)) ((((bt a0 (ji10)) % 4294967296) * 256) % 4294967296)) ((bt a0 (wrap64 (a1 + 3))) % 4294967296))) else (none)) else (none)) else (none)) else (none)) = some r := by first | (rw [hji10] at H; exact H) | (simp only [hji10] at H ⊢; exact H)
          have hji10w : (IntKind.i64.wrap (a1 + 2)) = ji10 := (i64_w _).trans hji10
          by_cases c11 : 0 ≤ (ji10)
          · rw [if_pos c11] at H
            have c11b0 : decide (0 ≤ (ji10)) = true := decide_eq_true c11
            clear c11
            by_cases c12 : (ji10) < (a0.size : Int)
            · rw [if_pos c12] at H
              have c12b0 : decide ((ji10) < (a0.size : Int)) = true := decide_eq_true c12
              clear c12
              obtain ⟨ji14, hji14⟩ : ∃ j_ : Int, (wrap64 (a1 + 3)) = j_ := ⟨_, rfl⟩
              replace H : (if 0 ≤ (ji14) then (if (ji14) < (a0.size : Int) then (some (Go.bits .or .u32 (Go.bits .or .u32 (Go.bits .or .u32 ((((bt a0 a1) % 4294967296) * 16777216) % 4294967296) ((((bt a0 (ji6)) % 4294967296) * 65536) % 4294967296)) ((((bt a0 (ji10)) % 4294967296) * 256) % 4294967296)) ((bt a0 (ji14)) % 4294967296))) else (none)) else (none)) = some r := by first | (rw [hji14] at H; exact H) | (simp only [hji14] at H ⊢; exact H)
              have hji14w : (IntKind.i64.wrap (a1 + 3)) = ji14 := (i64_w _).trans hji14
              by_cases c15 : 0 ≤ (ji14)
              · rw [if_pos c15] at H
                have c15b0 : decide (0 ≤ (ji14)) = true := decide_eq_true c15
                clear c15
                by_cases c16 : (ji14) < (a0.size : Int)
                · rw [if_pos c16] at H
                  have c16b0 : decide ((ji14) < (a0.size : Int)) = true := decide_eq_true c16
                  clear c16
                  obtain rfl := Option.some.inj H
                  have p5 : 0 ≤ (a1 : Int) := of_decide_eq_true (by first | (with_reducible assumption) | assumption)
                  have q5 : a1 < (a0.size : Int) := of_decide_eq_true (by first | (with_reducible assumption) | assumption)
                  have hx5 := bt_at a0 a1
                  replace p5 := eq_true p5
                  replace q5 := eq_true q5
                  have p9 : 0 ≤ ((ji6) : Int) := of_decide_eq_true (by first | (with_reducible assumption) | assumption)
                  have q9 : (ji6) < (a0.size : Int) := of_decide_eq_true (by first | (with_reducible assumption) | assumption)
                  have hx9 := bt_at a0 (ji6)
                  replace p9 := eq_true p9
                  replace q9 := eq_true q9
                  have p13 : 0 ≤ ((ji10) : Int) := of_decide_eq_true (by first | (with_reducible assumption) | assumption)
                  have q13 : (ji10) < (a0.size : Int) := of_decide_eq_true (by first | (with_reducible assumption) | assumption)
                  have hx13 := bt_at a0 (ji10)
                  replace p13 := eq_true p13
                  replace q13 := eq_true q13
                  have p17 : 0 ≤ ((ji14) : Int) := of_decide_eq_true (by first | (with_reducible assumption) | assumption)
                  have q17 : (ji14) < (a0.size : Int) := of_decide_eq_true (by first | (with_reducible assumption) | assumption)
                  have hx17 := bt_at a0 (ji14)
                  replace p17 := eq_true p17
                  replace q17 := eq_true q17
                  go_enter Try.func78, Try.ntmps78
                  go_wp2
                  repeat (go_quiet (fail); try go_wp2)
                  go_ret
                  exact ⟨by first | rfl | (simp; done) | (simp only [← hji6, ← hji10, ← hji14] <;> (first | rfl | simp)) | (simp [*]; done), by repeat (first | exact Drawn0.refl _ | apply Drawn0.step)⟩
                · rw [if_neg c16] at H
                  exact absurd H (by simp)
              · rw [if_neg c15] at H
                exact absurd H (by simp)
            · rw [if_neg c12] at H
              exact absurd H (by simp)
          · rw [if_neg c11] at H
            exact absurd H (by simp)
        · rw [if_neg c8] at H
          exact absurd H (by simp)
      · rw [if_neg c7] at H
        exact absurd H (by simp)
    · rw [if_neg c4] at H
      exact absurd H (by simp)
  · rw [if_neg c3] at H
    exact absurd H (by simp)

/-! ### bits_RotateLeft32: function 84 -/
def bits_RotateLeft32.f (a0 : Int) (a1 : Int) : Option (Int) := if 0 ≤ (Go.bits .and .u64 (IntKind.u64.wrap (a1)) 31) then (if 0 ≤ (IntKind.u64.wrap (32 - (Go.bits .and .u64 (IntKind.u64.wrap (a1)) 31))) then (some (Go.bits .or .u32 (shl .u32 a0 (Go.bits .and .u64 (IntKind.u64.wrap (a1)) 31)) (shr .u32 a0 (IntKind.u64.wrap (32 - (Go.bits .and .u64 (IntKind.u64.wrap (a1)) 31)))))) else (none)) else (none)
set_option maxHeartbeats 8000000 in
set_option maxRecDepth 100000 in
theorem bits_RotateLeft32.calls (a0 : Int) (a1 : Int) (r : Int) (w : World) (h : bits_RotateLeft32.f a0 a1 = some r) :
    Calls Try.prog 84 #[.int .u32 a0, .int .i64 a1] w fun e w' => e = .returned (.int .u32 r) ∧ Drawn0 w w' := by
  have H : (if 0 ≤ (Go.bits .and .u64 (IntKind.u64.wrap (a1)) 31) then (if 0 ≤ (IntKind.u64.wrap (32 - (Go.bits .and .u64 (IntKind.u64.wrap (a1)) 31))) then (some (Go.bits .or .u32 (shl .u32 a0 (Go.bits .and .u64 (IntKind.u64.wrap (a1)) 31)) (shr .u32 a0 (IntKind.u64.wrap (32 - (Go.bits .and .u64 (IntKind.u64.wrap (a1)) 31)))))) else (none)) else (none)) = some r := h
  clear h
  obtain ⟨ji3, hji3⟩ : ∃ j_ : Int, (Go.bits .and .u64 (IntKind.u64.wrap (a1)) 31) = j_ := ⟨_, rfl⟩
  replace H : (if 0 ≤ (ji3) then (if 0 ≤ (IntKind.u64.wrap (32 - (ji3))) then (some (Go.bits .or .u32 (shl .u32 a0 (ji3)) (shr .u32 a0 (IntKind.u64.wrap (32 - (ji3)))))) else (none)) else (none)) = some r := by first | (rw [hji3] at H; exact H) | (simp only [hji3] at H ⊢; exact H)
  by_cases c4 : 0 ≤ (ji3)
  · rw [if_pos c4] at H
    have c4b0 := eq_true c4
    have c4b1 : decide (0 ≤ (ji3)) = true := decide_eq_true c4
    clear c4
    obtain ⟨ji5, hji5⟩ : ∃ j_ : Int, (shl .u32 a0 (ji3)) = j_ := ⟨_, rfl⟩
    replace H : (if 0 ≤ (IntKind.u64.wrap (32 - (ji3))) then (some (Go.bits .or .u32 (ji5) (shr .u32 a0 (IntKind.u64.wrap (32 - (ji3)))))) else (none)) = some r := by first | (rw [hji5] at H; exact H) | (simp only [hji5] at H ⊢; exact H)
    have hji5_ : (IntKind.u32.wrap (a0 * 2 ^ min (ji3).toNat 32)) = ji5 := hji5
    have hji5z : (ji3) ≤ 32 → (IntKind.u32.wrap (a0 * 2 ^ (ji3).toNat)) = ji5 := shl_small hji5
    obtain ⟨ji6, hji6⟩ : ∃ j_ : Int, (IntKind.u64.wrap (32 - (ji3))) = j_ := ⟨_, rfl⟩
    replace H : (if 0 ≤ (ji6) then (some (Go.bits .or .u32 (ji5) (shr .u32 a0 (ji6)))) else (none)) = some r := by first | (rw [hji6] at H; exact H) | (simp only [hji6] at H ⊢; exact H)
    by_cases c7 : 0 ≤ (ji6)
    · rw [if_pos c7] at H
      have c7b0 := eq_true c7
      have c7b1 : decide (0 ≤ (ji6)) = true := decide_eq_true c7
      clear c7
      obtain ⟨ji8, hji8⟩ : ∃ j_ : Int, (shr .u32 a0 (ji6)) = j_ := ⟨_, rfl⟩
      replace H : (some (Go.bits .or .u32 (ji5) (ji8))) = some r := by first | (rw [hji8] at H; exact H) | (simp only [hji8] at H ⊢; exact H)
      have hji8_ : (a0 / 2 ^ min (ji6).toNat 32) = ji8 := hji8
      have hji8z : (ji6) ≤ 32 → (a0 / 2 ^ (ji6).toNat) = ji8 := shr_small hji8
      obtain rfl := Option.some.inj H
      go_enter Try.func84, Try.ntmps84
      go_wp2
      go_ret
      exact ⟨by first | rfl | (simp; done) | (simp only [← hji3, ← hji5, ← hji6, ← hji8] <;> (first | rfl | simp)) | (simp [*]; done), by repeat (first | exact Drawn0.refl _ | apply Drawn0.step)⟩
    · rw [if_neg c7] at H
      exact absurd H (by simp)
  · rw [if_neg c4] at H
    exact absurd H (by simp)

/-! ### impl_right: function 81 -/
def impl_right.f (a0 : Int) (a1 : Int) : Option (Int) := (bits_RotateLeft32.f a0 (wrap64 (-a1))).bind fun t110 => (some t110)
set_option maxHeartbeats 8000000 in
set_option maxRecDepth 100000 in
theorem impl_right.calls (a0 : Int) (a1 : Int) (r : Int) (w : World) (h : impl_right.f a0 a1 = some r) :
    Calls Try.prog 81 #[.int .u32 a0, .int .i64 a1] w fun e w' => e = .returned (.int .u32 r) ∧ Drawn0 w w' := by
  have H : ((bits_RotateLeft32.f a0 (wrap64 (-a1))).bind fun t110 => (some t110)) = some r := h
  clear h
  replace H := Option.bind_eq_some_iff.mp H
  obtain ⟨t110, A30, H⟩ := H
  replace H : (some t110) = some r := H
  have A3 := Aside0.mk A30
  clear A30
  obtain rfl := Option.some.inj H
  go_enter Try.func81, Try.ntmps81
  go_wp2_with (first | ((with_reducible refine gate_callee (f := 84) rfl ?_); refine goesL_ (some 8) rfl rfl Try.func84 (by kernel_rfl) rfl #[.int .u32 a0, .int .i64 (wrap64 (-a1))] rfl (by (try simp only [List.map_toArray, List.map_cons, List.map_nil]); first | done | rfl | (simp only [List.length_drop, List.length_take]; rfl)) ?_; (with_reducible refine (bits_RotateLeft32.calls a0 (wrap64 (-a1)) t110 _ A3.out).mono ?_); rintro e w' ⟨rfl, ⟨nd, rfl⟩⟩; refine ⟨_, rfl, ?_⟩))
  go_ret
  exact ⟨by first | rfl | (simp; done) | (simp [*]; done), by repeat (first | exact Drawn0.refl _ | apply Drawn0.step)⟩

-- NOT PRINTED: function 79 (impl_schedule)

-- NOT PRINTED: function 80 (impl_constants)

/-! ### impl_round: function 64: the rounds over words -/
def sha_r (x n : Int) : Int := (impl_right.f x n).getD 0
def sha_at (s : ByteArray) (i : Int) : Int := (impl_wordAt.f s i).getD 0
theorem sha_r_is (x n : Int) : impl_right.f x n = some (sha_r x n) := by
  unfold sha_r impl_right.f bits_RotateLeft32.f
  have h1 : 0 ≤ Go.bits .and .u64 (IntKind.u64.wrap (wrap64 (-n))) 31 := by simp only [Go.bits, IntKind.wrap_u64]; omega
  have h2 : 0 ≤ IntKind.u64.wrap (32 - (Go.bits .and .u64 (IntKind.u64.wrap (wrap64 (-n))) 31)) := by rw [IntKind.wrap_u64]; omega
  rw [if_pos h1, if_pos h2]
  rfl
theorem sha_at_is (s : ByteArray) (i : Int) (h0 : 0 ≤ i) (h : i + 4 ≤ (s.size : Int)) (hs : s.size ≤ 4611686018427387904) : impl_wordAt.f s i = some (sha_at s i) := by
  unfold sha_at impl_wordAt.f
  have e1 : wrap64 (i + 1) = i + 1 := by unfold wrap64; omega
  have e2 : wrap64 (i + 2) = i + 2 := by unfold wrap64; omega
  have e3 : wrap64 (i + 3) = i + 3 := by unfold wrap64; omega
  rw [e1, e2, e3, if_pos h0, if_pos (by omega), if_pos (by omega), if_pos (by omega), if_pos (by omega), if_pos (by omega), if_pos (by omega), if_pos (by omega)]
  rfl
theorem rot_same (a0 a1 r : Int) (w : World) (H : bits_RotateLeft32.f a0 a1 = some r) : Calls Try.prog 84 #[.int .u32 a0, .int .i64 a1] w fun e w' => e = .returned (.int .u32 r) ∧ w' = w := by
  unfold bits_RotateLeft32.f at H
  obtain ⟨j3, hj3⟩ : ∃ j_ : Int, (Go.bits .and .u64 (IntKind.u64.wrap (a1)) 31) = j_ := ⟨_, rfl⟩
  rw [hj3] at H
  by_cases c4 : 0 ≤ j3
  · rw [if_pos c4] at H
    have c4b0 := eq_true c4
    have c4b1 : decide (0 ≤ j3) = true := decide_eq_true c4
    clear c4
    obtain ⟨j5, hj5⟩ : ∃ j_ : Int, (shl .u32 a0 j3) = j_ := ⟨_, rfl⟩
    rw [hj5] at H
    have hj5_ : (IntKind.u32.wrap (a0 * 2 ^ min j3.toNat 32)) = j5 := hj5
    have hj5z : j3 ≤ 32 → (IntKind.u32.wrap (a0 * 2 ^ j3.toNat)) = j5 := shl_small hj5
    obtain ⟨j6, hj6⟩ : ∃ j_ : Int, (IntKind.u64.wrap (32 - j3)) = j_ := ⟨_, rfl⟩
    rw [hj6] at H
    by_cases c7 : 0 ≤ j6
    · rw [if_pos c7] at H
      have c7b0 := eq_true c7
      have c7b1 : decide (0 ≤ j6) = true := decide_eq_true c7
      clear c7
      obtain ⟨j8, hj8⟩ : ∃ j_ : Int, (shr .u32 a0 j6) = j_ := ⟨_, rfl⟩
      rw [hj8] at H
      have hj8_ : (a0 / 2 ^ min j6.toNat 32) = j8 := hj8
      have hj8z : j6 ≤ 32 → (a0 / 2 ^ j6.toNat) = j8 := shr_small hj8
      obtain rfl := Option.some.inj H
      go_enter Try.func84, Try.ntmps84
      go_wp2
      go_ret
      exact ⟨by first | rfl | (simp; done) | (simp only [← hj3, ← hj5, ← hj6, ← hj8] <;> (first | rfl | simp)) | (simp [*]; done), rfl⟩
    · rw [if_neg c7] at H
      exact absurd H (by simp)
  · rw [if_neg c4] at H
    exact absurd H (by simp)
theorem right_same (a0 a1 r : Int) (w : World) (h : impl_right.f a0 a1 = some r) : Calls Try.prog 81 #[.int .u32 a0, .int .i64 a1] w fun e w' => e = .returned (.int .u32 r) ∧ w' = w := by
  have H : ((bits_RotateLeft32.f a0 (wrap64 (-a1))).bind fun t198 => (some t198)) = some r := h
  clear h
  replace H := Option.bind_eq_some_iff.mp H
  obtain ⟨t198, A30, H⟩ := H
  replace H : (some t198) = some r := H
  have A3 := Aside0.mk A30
  clear A30
  obtain rfl := Option.some.inj H
  go_enter Try.func81, Try.ntmps81
  go_wp2_with (go_at_call 84; refine (rot_same a0 (wrap64 (-a1)) t198 _ A3.out).mono ?_; rintro e w' ⟨rfl, rfl⟩)
  go_ret
  exact ⟨rfl, rfl⟩
theorem sha_right (x n : Int) (w : World) : Calls Try.prog 81 #[.int .u32 x, .int .i64 n] w fun e w' => e = .returned (.int .u32 (sha_r x n)) ∧ w' = w := right_same x n _ w (sha_r_is x n)
def sha_nx (l : List Int) (t : Nat) : Int :=
  (((((Go.bits .xor .u32 (Go.bits .xor .u32 (sha_r (rd l (t - 2 : Nat)) 17) (sha_r (rd l (t - 2 : Nat)) 19)) ((rd l (t - 2 : Nat)) / 1024)) + rd l (t - 7 : Nat)) % 4294967296) + (Go.bits .xor .u32 (Go.bits .xor .u32 (sha_r (rd l (t - 15 : Nat)) 7) (sha_r (rd l (t - 15 : Nat)) 18)) ((rd l (t - 15 : Nat)) / 8))) % 4294967296 + rd l (t - 16 : Nat)) % 4294967296
/-- The words as they stand before round t: 64 of them. -/
def sha_w (b : ByteArray) : Nat → List Int
  | 0 => List.replicate 64 0
  | t + 1 => (sha_w b t).set t (if t < 16 then sha_at b ((4 * t : Nat) : Int) else sha_nx (sha_w b t) t)
theorem sha_w_len (b : ByteArray) (t : Nat) : (sha_w b t).length = 64 := by
  induction t with
  | zero => rfl
  | succ t ih => rw [sha_w, List.length_set, ih]

theorem nums_set_get (l : List Int) (t : Nat) (x : Int) : (nums .u32 l).toArray.setIfInBounds t (.int .u32 x) = (nums .u32 (l.set t x)).toArray := by
  simp [nums, List.map_set]
theorem nums_at (l : List Int) (t : Nat) (h : t < l.length) : (nums .u32 l).toArray[t]? = some (.int .u32 (rd l (t : Int))) := by
  unfold rd
  simp [nums, List.getD_eq_getElem?_getD, h]
theorem arr_cell {W : World} {g t : Nat} {l : List Int} {T : TypeId} (hg : W.heap[g]? = some (.cells (nums .u32 l).toArray T (0, 0))) (h : t < l.length) : W.cell? ⟨g, t, none⟩ = some (.int .u32 (rd l (t : Int))) ∧ W.frozen? ⟨g, t, none⟩ = false := by
  refine ⟨?_, frozen_of_row W g t _ T hg⟩
  rw [cell_of_row W g t _ T (0, 0) hg, nums_at l t h]
theorem arr_set {W : World} {g t : Nat} {l : List Int} {T : TypeId} (hg : W.heap[g]? = some (.cells (nums .u32 l).toArray T (0, 0))) (x : Int) : (W.setCell ⟨g, t, none⟩ (.int .u32 x)).heap[g]? = some (.cells (nums .u32 (l.set t x)).toArray T (0, 0)) := by
  rw [heap_setCell_same W g t _ T _ hg, nums_set_get]

theorem below_row {B : Nat} {w W : World} (h : Below B w W) {g : Nat} (hg : B ≤ g) (cs : Array Value) : Below B w (W.setRow g cs) :=
  ⟨h.os, h.tape, h.output, by rw [setRow_size]; exact h.size, fun k hk => by rw [setRow_other W g k cs (by omega)]; exact h.block k hk⟩
theorem below_cell {B : Nat} {w W : World} (h : Below B w W) {p : Addr} (hg : B ≤ p.block) (v : Value) : Below B w (W.setCell p v) :=
  ⟨h.os, h.tape, h.output, by simpa [World.setCell] using h.size, fun k hk => by rw [heap_setCell_other W p k v (by omega)]; exact h.block k hk⟩
theorem nums_all (l : List Int) : (nums .u32 l).toArray.all (·.oneCell') = true := by
  simp [nums, Value.oneCell']
theorem sha_arr_size (b : ByteArray) (t : Nat) : (nums .u32 (sha_w b t)).toArray.size = 64 := by
  simp [nums, sha_w_len]
set_option maxHeartbeats 4000000 in
set_option maxRecDepth 1000000 in
theorem impl_schedule.calls (b : ByteArray) (w : World) (hb : 64 ≤ b.size) (hs : b.size ≤ 4611686018427387904) :
    Calls Try.prog 79 #[.string b] w fun e w' => e = .returned (.agg (nums .u32 (sha_w b 64)).toArray) ∧ Below w.heap.size w w' := by
  have HBs := Aside0.mk hb
  have HSs := Aside0.mk hs
  clear hb hs
  go_enter Try.func79, Try.ntmps79
  go_wp2_with (fail)
  go_loopg [7] 64 (fun kq v7 w' => ∃ t : Nat, v7 = .int .i64 t ∧ Aside0 (t + kq = 64) ∧ Aside0 (∃ z, z.size = 64 ∧ w'.heap[w.heap.size]? = some (.cells z 97 (0, 0))) ∧ Aside0 (w'.heap[w.heap.size + 1]? = some (.cells (nums .u32 (sha_w b t)).toArray 97 (0, 0))) ∧ Aside0 (Below w.heap.size w w'))
  case atStart =>
    exact ⟨0, rfl, ⟨rfl⟩, ⟨_, rfl, heap_alloc2_old w _ _⟩, ⟨heap_alloc2_new w _ _⟩, ⟨below_alloc (below_alloc (Below.refl _ _) _) _⟩⟩
  case round =>
    obtain ⟨t, rfl, HT, HZ, HW, HB⟩ := hrel
    cases gk with
    | zero =>
      obtain rfl : t = 64 := by have := HT.out; omega
      obtain ⟨z, hz, hz2⟩ := HZ.out
      have HZ1 := Aside0.mk hz
      have HZ2 := Aside0.mk hz2
      clear HZ hz hz2
      have hi : (Try.prog.info? 97).map (·.size) = some 64 := by kernel_rfl
      have HI := Aside0.mk (show (Try.prog.info? 97).map (·.size) = some (nums .u32 (sha_w b 64)).toArray.size from by rw [sha_arr_size]; exact hi)
      clear hi
      go_wp2_with (first | (refine wpList_load_row rfl 97 (.tmp 3) rfl (w.heap.size + 1) rfl 97 _ (0, 0) _ HW.out Try.underlying97 rfl HI.out ?_) | (refine wpList_store_row rfl 97 (.tmp 2) (.tmp 56) rfl w.heap.size _ rfl rfl 97 z HZ2.out HI.out (HZ1.out.trans (sha_arr_size b 64).symm) (nums_all _) ?_))
      refine bodyPost_ret (results_cell_row rfl _ _ w.heap.size 97 _ (0, 0) _ rfl (setRow_heap _ _ _ _ _ _ HZ2.out) Try.underlying97 rfl HI.out) rfl ?_
      exact ⟨rfl, below_row HB.out (Nat.le_refl _) _⟩
    | succ k1 =>
      have ht := HT.out
      have hc := arr_cell HW.out (t := t) (by rw [sha_w_len]; omega)
      have hc1 := hc.1
      have hc2 := hc.2
      clear hc
      by_cases h16 : t < 16
      · have HA := Aside0.mk (sha_at_is b (4 * (t : Int)) (by omega) (by have := HBs.out; omega) HSs.out)
        have HN := Aside0.mk h16
        have ht2 : (t : Int) < 64 := by omega
        go_wp2_with (go_at_call 78; refine (impl_wordAt.calls b (4 * (t : Int)) _ _ HA.out).mono ?_; rintro e w' ⟨rfl, ⟨nd, rfl⟩⟩)
        go_roundg k1
        case measure => omega
        case rel =>
          refine ⟨t + 1, by go_num, ⟨by omega⟩, ?_, ⟨?_⟩, ⟨below_cell (pw_below_drewN HB.out nd) (Nat.le_succ _) _⟩⟩
          · obtain ⟨z, hz, hz2⟩ := HZ.out
            exact ⟨z, hz, (heap_setCell_other _ _ _ _ (by simp)).trans hz2⟩
          · rw [sha_w, if_pos HN.out]
            have e := arr_set (W := wr.drewN nd) (t := t) HW.out (sha_at b ((4 * t : Nat) : Int))
            simpa using e
      · have HN := Aside0.mk h16
        have hI : ∀ (j : Nat) (J : Int), J = (j : Int) → j ≤ 16 → ∃ i : Int, IntKind.i64.wrap ((t : Int) - J) = i ∧ 0 ≤ i ∧ i < 64 ∧ i = ((t - j : Nat) : Int) ∧ wr.cell? ⟨w.heap.size + 1, i.toNat, none⟩ = some (.int .u32 (rd (sha_w b t) ((t - j : Nat) : Int))) := fun j J hJ hj => by
          refine ⟨((t - j : Nat) : Int), ?_, by omega, by omega, rfl, ?_⟩
          · rw [i64_w]; unfold wrap64; omega
          · rw [show (((t - j : Nat) : Int)).toNat = t - j from by omega]
            exact (arr_cell HW.out (t := t - j) (by rw [sha_w_len]; omega)).1
        obtain ⟨i2, q2, b2, l2, e2, hI2⟩ := hI 2 2 rfl (by omega)
        obtain ⟨i7, q7, b7, l7, e7, hI7⟩ := hI 7 7 rfl (by omega)
        obtain ⟨i15, q15, b15, l15, e15, hI15⟩ := hI 15 15 rfl (by omega)
        obtain ⟨i16, q16, b16, l16, e16, hI16⟩ := hI 16 16 rfl (by omega)
        clear hI e2 e7 e15 e16
        have ht2 : (t : Int) < 64 := by omega
        have hJ7 : ∀ ta d o u, ({ heap := wr.heap, tape := ta, drawn := d, os := o, output := u } : World).cell? ⟨w.heap.size + 1, i7.toNat, none⟩ = some (.int .u32 (rd (sha_w b t) ((t - 7 : Nat) : Int))) := fun _ _ _ _ => hI7
        have hJ16 : ∀ ta d o u, ({ heap := wr.heap, tape := ta, drawn := d, os := o, output := u } : World).cell? ⟨w.heap.size + 1, i16.toNat, none⟩ = some (.int .u32 (rd (sha_w b t) ((t - 16 : Nat) : Int))) := fun _ _ _ _ => hI16
        go_wp2_with (fail)
        go_quiet (fail)
        go_wp2_with (fail)
        go_still_tail 29, (by kernel_rfl)
        still_call (sha_right _ _ _)
        repeat still_step
        still_call (sha_right _ _ _)
        repeat still_step
        still_call (sha_right _ _ _)
        repeat still_step
        still_call (sha_right _ _ _)
        repeat still_step
        try refine wpStill_nil ?_
        change wpList _ _ _ _ _ ((wr.drewN nq).drew)
        have HW2 := Aside0.mk (show ((wr.drewN nq).drew).heap[w.heap.size + 1]? = some (.cells (nums .u32 (sha_w b t)).toArray 97 (0, 0)) from HW.out)
        have HZ2 := Aside0.mk (show ∃ z, z.size = 64 ∧ ((wr.drewN nq).drew).heap[w.heap.size]? = some (.cells z 97 (0, 0)) from HZ.out)
        have HB2 := Aside0.mk (below_drew (pw_below_drewN HB.out nq))
        generalize (wr.drewN nq).drew = w2 at HW2 HZ2 HB2 ⊢
        have hd := arr_cell HW2.out (t := t) (by rw [sha_w_len]; omega)
        have hd1 := hd.1
        have hd2 := hd.2
        clear hd
        go_wp2_with (fail)
        go_roundg k1
        case measure => have := HT.out; omega
        case rel =>
          have hT := HT.out
          refine ⟨t + 1, by go_num, ⟨by omega⟩, ?_, ⟨?_⟩, ⟨below_cell HB2.out (Nat.le_succ _) _⟩⟩
          · obtain ⟨z, hz, hz2⟩ := HZ2.out
            exact ⟨z, hz, (heap_setCell_other _ _ _ _ (by simp)).trans hz2⟩
          · rw [sha_w, if_neg HN.out]
            have e := arr_set (W := w2) (t := t) HW2.out (sha_nx (sha_w b t) t)
            simpa [sha_nx] using e
def sha_K : List Int := [1116352408, 1899447441, 3049323471, 3921009573, 961987163, 1508970993, 2453635748, 2870763221, 3624381080, 310598401, 607225278, 1426881987, 1925078388, 2162078206, 2614888103, 3248222580, 3835390401, 4022224774, 264347078, 604807628, 770255983, 1249150122, 1555081692, 1996064986, 2554220882, 2821834349, 2952996808, 3210313671, 3336571891, 3584528711, 113926993, 338241895, 666307205, 773529912, 1294757372, 1396182291, 1695183700, 1986661051, 2177026350, 2456956037, 2730485921, 2820302411, 3259730800, 3345764771, 3516065817, 3600352804, 4094571909, 275423344, 430227734, 506948616, 659060556, 883997877, 958139571, 1322822218, 1537002063, 1747873779, 1955562222, 2024104815, 2227730452, 2361852424, 2428436474, 2756734187, 3204031479, 3329325298]
theorem wpList_build2 {P : Program} {ops : Array Oper} {rest : List Oper} {o : Oper} {a : Act} {w : World} {Q : Exit → Act → World → Prop} (hg : o.guard = none) (t : TypeId) (parts : Array (Nat × Operand)) (ho : o.op = .build t parts)
    (cells : Array Value) (hf : P.built t (parts.map fun (i, x) => (i, a.eval x)).toList = some cells)
    (h : wpList P ops Q rest (a.put o.dst (.agg cells)) w) : wpList P ops Q (o :: rest) a w :=
  wpList_build hg t parts ho (by rw [hf]; rfl) (by rw [hf]; exact h)
set_option maxHeartbeats 4000000 in
set_option maxRecDepth 1000000 in
theorem impl_constants.calls (w : World) : Calls Try.prog 80 #[] w fun e w' => e = .returned (.agg (nums .u32 sha_K).toArray) ∧ Below w.heap.size w w' := by
  have hi : (Try.prog.info? 97).map (·.size) = some 64 := by kernel_rfl
  have HI := Aside0.mk (show (Try.prog.info? 97).map (·.size) = some (nums .u32 sha_K).toArray.size from hi)
  clear hi
  obtain ⟨K, hK⟩ : ∃ K, K = sha_K := ⟨_, rfl⟩
  have HK := Aside0.mk hK
  have hb : ∀ a : Act, Try.prog.built 97 ((#[(0, .const (.int .u32 1116352408))] : Array (Nat × Operand)).map fun (i, x) => (i, a.eval x)).toList = Try.prog.built 97 ((#[(0, .const (.int .u32 1116352408))] : Array (Nat × Operand)).map fun (i, x) => (i, a.eval x)).toList := fun _ => rfl
  clear hb
  go_enter Try.func80, Try.ntmps80
  go_wp2_with (first | ((with_reducible refine gate_dst (N := 1) rfl ?_); refine wpList_build2 rfl 97 _ rfl (nums .u32 sha_K).toArray (by kernel_rfl) ?_; rw [← HK.out]) | (refine wpList_store_row rfl 97 (.tmp 0) (.tmp 1) rfl w.heap.size _ rfl rfl 97 _ (heap_alloc_new w _) (by rw [HK.out]; exact HI.out) (by rw [HK.out]; rfl) (nums_all _) ?_))
  refine bodyPost_ret (results_cell_row rfl _ _ w.heap.size 97 _ (0, 0) _ rfl (setRow_heap _ _ _ _ _ _ (heap_alloc_new w _)) Try.underlying97 rfl (by rw [HK.out]; exact HI.out)) rfl ?_
  exact ⟨by rw [HK.out], below_row (below_alloc (Below.refl _ _) _) (Nat.le_refl _) _⟩
/-- The state's words as they stand before round t. -/
def sha_s (st : ByteArray) : Nat → List Int
  | 0 => List.replicate 8 0
  | t + 1 => (sha_s st t).set t (sha_at st ((4 * t : Nat) : Int))
theorem sha_s_len (b : ByteArray) (t : Nat) : (sha_s b t).length = 8 := by
  induction t with
  | zero => rfl
  | succ t ih => rw [sha_s, List.length_set, ih]
theorem sha_s_size (b : ByteArray) (t : Nat) : (nums .u32 (sha_s b t)).toArray.size = 8 := by
  simp [nums, sha_s_len]
def sha_step (K W : List Int) (t : Nat) (v : List Int) : List Int :=
  let t1 := (((((((rd v 7) + (Go.bits .xor .u32 (Go.bits .xor .u32 (sha_r (rd v 4) 6) (sha_r (rd v 4) 11)) (sha_r (rd v 4) 25))) % 4294967296 + (Go.bits .xor .u32 (Go.bits .and .u32 (rd v 4) (rd v 5)) (Go.bits .and .u32 (Go.bits .xor .u32 IntKind.u32.max (rd v 4)) (rd v 6)))) % 4294967296) + rd K (t : Int)) % 4294967296) + rd W (t : Int)) % 4294967296
  let t2 := ((Go.bits .xor .u32 (Go.bits .xor .u32 (sha_r (rd v 0) 2) (sha_r (rd v 0) 13)) (sha_r (rd v 0) 22)) + (Go.bits .xor .u32 (Go.bits .xor .u32 (Go.bits .and .u32 (rd v 0) (rd v 1)) (Go.bits .and .u32 (rd v 0) (rd v 2))) (Go.bits .and .u32 (rd v 1) (rd v 2)))) % 4294967296
  [(t1 + t2) % 4294967296, rd v 0, rd v 1, rd v 2, (rd v 3 + t1) % 4294967296, rd v 4, rd v 5, rd v 6]
def sha_v (s0 K W : List Int) : Nat → List Int
  | 0 => s0
  | t + 1 => sha_step K W t (sha_v s0 K W t)
/-- What stands at two blocks, and below. -/
structure Two (n : Nat) (w : World) (a b : Array Value) (W : World) : Prop where
  h0 : W.heap[n]? = some (.cells a 96 (0, 0))
  h1 : W.heap[n + 1]? = some (.cells b 96 (0, 0))
  hb : Below n w W
theorem Two.lt {n : Nat} {w : World} {a b : Array Value} {W : World} (h : Two n w a b W) : n + 1 < W.heap.size := (Array.getElem?_eq_some_iff.1 h.h1).1
theorem Two.below {n : Nat} {w : World} {a b : Array Value} {W W' : World} (h : Two n w a b W) (k : Below W.heap.size W W') : Two n w a b W' :=
  ⟨(k.block _ (by have := h.lt; omega)).trans h.h0, (k.block _ h.lt).trans h.h1, h.hb.trans ⟨k.os, k.tape, k.output, k.size, fun i hi => k.block i (by have := h.lt; omega)⟩⟩
theorem Two.row {n : Nat} {w : World} {a b : Array Value} {W : World} (h : Two n w a b W) {g : Nat} (hg : n + 1 < g) (cs : Array Value) : Two n w a b (W.setRow g cs) :=
  ⟨(setRow_other W g n cs (by omega)).trans h.h0, (setRow_other W g (n + 1) cs (by omega)).trans h.h1, below_row h.hb (by omega) cs⟩
def sha_o (S V : List Int) : Nat → List Int
  | 0 => S
  | t + 1 => (sha_o S V t).set t ((rd (sha_o S V t) (t : Int) + rd V (t : Int)) % 4294967296)
theorem sha_o_len (S V : List Int) (h : S.length = 8) (t : Nat) : (sha_o S V t).length = 8 := by
  induction t with
  | zero => exact h
  | succ t ih => rw [sha_o, List.length_set, ih]
def sha_out (L : List Int) : ByteArray := (impl_wordBytes.f 9 L).getD ⟨#[]⟩
theorem sha_out_is (L : List Int) (h : L.length = 8) : impl_wordBytes.f 9 L = some (sha_out L) := by
  have key : ∃ r, impl_wordBytes.f 9 L = some r := by
    match L, h with
    | [a, b, c, d, e, f, g, i], _ => exact ⟨_, by simp [impl_wordBytes.f, impl_wordBytes.l0, wrap64]; rfl⟩
  obtain ⟨r, hr⟩ := key
  unfold sha_out
  rw [hr]
  rfl
theorem wb_call (L : List Int) (hL : L.length = 8) (W : World) (g : Nat) (hg : W.heap[g]? = some (.cells (nums .u32 L).toArray 96 (0, 0))) :
    Calls Try.prog 66 #[.slice (some ⟨g, 0, none⟩) 8 8] W fun e w' => e = .returned (.string (sha_out L)) ∧ Below W.heap.size W w' := by
  have hC : Kd.C (Kd.int .u32) W (some ⟨g, 0, none⟩) L.length L := by
    refine Kd.C_of_reads (d := (0 : Int)) (h1 := fun _ => rfl) ⟨rfl, by omega, fun _ => ⟨_, rfl, fun j hj => ?_⟩⟩
    rw [add_plain, (arr_cell hg hj).1]
    rfl
  have h := impl_wordBytes.calls 9 (some ⟨g, 0, none⟩) 8 L (sha_out L) W hC (by omega) (sha_out_is L hL)
  rw [hL] at h
  exact h
theorem sha_v_len (s0 K W : List Int) (h : s0.length = 8) (t : Nat) : (sha_v s0 K W t).length = 8 := by
  cases t with
  | zero => exact h
  | succ t => rfl
theorem eight {V : List Int} {W : World} {g : Nat} (hV : V.length = 8) (h : W.heap[g]? = some (.cells (nums .u32 V).toArray 96 (0, 0))) :
    W.cell? ⟨g, 0, none⟩ = some (.int .u32 (rd V 0)) ∧ W.cell? ⟨g, 1, none⟩ = some (.int .u32 (rd V 1)) ∧ W.cell? ⟨g, 2, none⟩ = some (.int .u32 (rd V 2)) ∧ W.cell? ⟨g, 3, none⟩ = some (.int .u32 (rd V 3)) ∧
    W.cell? ⟨g, 4, none⟩ = some (.int .u32 (rd V 4)) ∧ W.cell? ⟨g, 5, none⟩ = some (.int .u32 (rd V 5)) ∧ W.cell? ⟨g, 6, none⟩ = some (.int .u32 (rd V 6)) ∧ W.cell? ⟨g, 7, none⟩ = some (.int .u32 (rd V 7)) :=
  ⟨(arr_cell h (t := 0) (by omega)).1, (arr_cell h (t := 1) (by omega)).1, (arr_cell h (t := 2) (by omega)).1, (arr_cell h (t := 3) (by omega)).1, (arr_cell h (t := 4) (by omega)).1, (arr_cell h (t := 5) (by omega)).1, (arr_cell h (t := 6) (by omega)).1, (arr_cell h (t := 7) (by omega)).1⟩
set_option maxHeartbeats 4000000 in
set_option maxRecDepth 1000000 in
theorem impl_round.walk_ (s b : ByteArray) (w : World) (hs : 32 ≤ s.size) (hs2 : s.size ≤ 4611686018427387904) (hb : 64 ≤ b.size) (hb2 : b.size ≤ 4611686018427387904) :
    Calls Try.prog 64 #[.string s, .string b] w fun e w' => e = .returned (.string (sha_out (sha_o (sha_s s 8) (sha_v (sha_s s 8) sha_K (sha_w b 64) 64) 8))) ∧ Below w.heap.size w w' := by
  have HS := Aside0.mk hs
  have HS2 := Aside0.mk hs2
  have HBs := Aside0.mk hb
  have HB2 := Aside0.mk hb2
  clear hb hs hs2 hb2
  go_enter Try.func64, Try.ntmps64
  go_wp2_with (fail)
  go_loopg [16] 8 (fun kq v16 w' => ∃ t : Nat, v16 = .int .i64 t ∧ Aside0 (t + kq = 8) ∧ Aside0 (∃ z, z.size = 8 ∧ w'.heap[w.heap.size + 1]? = some (.cells z 96 (0, 0))) ∧ Aside0 (w'.heap[w.heap.size]? = some (.cells (nums .u32 (sha_s s t)).toArray 96 (0, 0))) ∧ Aside0 (Below w.heap.size w w'))
  case atStart =>
    exact ⟨0, rfl, ⟨rfl⟩, ⟨_, rfl, heap_alloc2_new w _ _⟩, ⟨heap_alloc2_old w _ _⟩, ⟨below_alloc (below_alloc (Below.refl _ _) _) _⟩⟩
  case round =>
    obtain ⟨t, rfl, HT, HZ, HW, HB⟩ := hrel
    cases gk with
    | zero =>
      obtain rfl : t = 8 := by have := HT.out; omega
      obtain ⟨z, hz, hz2⟩ := HZ.out
      have HZ1 := Aside0.mk hz
      have HZ2 := Aside0.mk hz2
      clear HZ hz hz2
      have hi : (Try.prog.info? 96).map (·.size) = some 8 := by kernel_rfl
      have HI := Aside0.mk (show (Try.prog.info? 96).map (·.size) = some (nums .u32 (sha_s s 8)).toArray.size from by rw [sha_s_size]; exact hi)
      clear hi
      have HT2 := Aside0.mk (show Two w.heap.size w (nums .u32 (sha_s s 8)).toArray (nums .u32 (sha_s s 8)).toArray (wr.setRow (w.heap.size + 1) (nums .u32 (sha_s s 8)).toArray) from
        ⟨(setRow_other _ _ _ _ (by omega)).trans HW.out, setRow_heap _ _ _ _ _ _ HZ2.out, below_row HB.out (Nat.le_succ _) _⟩)
      have hi7 : (Try.prog.info? 97).map (·.size) = some 64 := by kernel_rfl
      have HI7 := Aside0.mk (show ∀ t, (Try.prog.info? 97).map (·.size) = some (nums .u32 (sha_w b t)).toArray.size from fun t => by rw [sha_arr_size]; exact hi7)
      have HI8 := Aside0.mk (show (Try.prog.info? 97).map (·.size) = some (nums .u32 sha_K).toArray.size from hi7)
      clear hi7
      go_wp2_with (first | (refine wpList_load_row rfl 96 (.tmp 5) rfl w.heap.size rfl 96 _ (0, 0) _ HW.out Try.underlying96 rfl HI.out ?_) | (refine wpList_store_row rfl 96 (.tmp 6) (.tmp 26) rfl (w.heap.size + 1) _ rfl rfl 96 z HZ2.out HI.out (HZ1.out.trans (sha_s_size s 8).symm) (nums_all _) ?_) | (go_at_call 79; refine (impl_schedule.calls b _ HBs.out HB2.out).mono ?_; rintro e w1 ⟨rfl, hb1⟩; have HT3 := Aside0.mk (HT2.out.below hb1); clear hb1 HT2) | (go_at_call 80; refine (impl_constants.calls _).mono ?_; rintro e w2 ⟨rfl, hb2⟩; have HT4 := Aside0.mk (HT3.out.below hb2); clear hb2 HT3) | (refine wpList_store_row rfl 97 (.tmp 8) (.tmp 28) rfl w2.heap.size _ rfl rfl 97 _ (heap_alloc2_old w2 _ _) (HI7.out 64) (sha_arr_size b 64).symm (nums_all _) ?_) | (refine wpList_store_row rfl 97 (.tmp 9) (.tmp 29) rfl (w2.heap.size + 1) _ rfl rfl 97 _ ((setRow_other _ _ _ _ (by omega)).trans (heap_alloc2_new w2 _ _)) HI8.out rfl (nums_all _) ?_))
      have HLT := Aside0.mk HT4.out.lt
      have HF := Aside0.mk (show ∀ W' : World, W' = ((((w2.alloc (.cells (Array.replicate 64 (.int .u32 0)) 97)).alloc (.cells (Array.replicate 64 (.int .u32 0)) 97)).setRow w2.heap.size (nums .u32 (sha_w b 64)).toArray).setRow (w2.heap.size + 1) (nums .u32 sha_K).toArray) →
        Two w.heap.size w (nums .u32 (sha_s s 8)).toArray (nums .u32 (sha_s s 8)).toArray W' ∧ W'.heap[w2.heap.size]? = some (.cells (nums .u32 (sha_w b 64)).toArray 97 (0, 0)) ∧ W'.heap[w2.heap.size + 1]? = some (.cells (nums .u32 sha_K).toArray 97 (0, 0)) from by
          rintro W' rfl
          have hlt := HLT.out
          refine ⟨(((HT4.out.below (below_alloc (below_alloc (Below.refl _ _) _) _)).row (by omega) _).row (by omega) _), ?_, ?_⟩
          · rw [setRow_other _ _ _ _ (by omega)]
            exact setRow_heap _ _ _ _ _ _ (heap_alloc2_old w2 _ _)
          · exact setRow_heap _ _ _ _ _ _ ((setRow_other _ _ _ _ (by omega)).trans (heap_alloc2_new w2 _ _)))
      go_loopg [30] 64 (fun kq v30 w' => ∃ t : Nat, v30 = .int .i64 t ∧ Aside0 (t + kq = 64) ∧ Aside0 (Two w.heap.size w (nums .u32 (sha_s s 8)).toArray (nums .u32 (sha_v (sha_s s 8) sha_K (sha_w b 64) t)).toArray w') ∧ Aside0 (w'.heap[w2.heap.size]? = some (.cells (nums .u32 (sha_w b 64)).toArray 97 (0, 0))) ∧ Aside0 (w'.heap[w2.heap.size + 1]? = some (.cells (nums .u32 sha_K).toArray 97 (0, 0))))
      case atStart =>
        obtain ⟨f1, f2, f3⟩ := HF.out _ rfl
        exact ⟨0, rfl, ⟨rfl⟩, ⟨f1⟩, ⟨f2⟩, ⟨f3⟩⟩
      case round =>
        clear HF HW HZ1 HZ2 HB HT HI7 HI8 HT4
        obtain ⟨t, rfl, HT, HV, HA, HC⟩ := hrel
        cases gk with
        | zero =>
          obtain rfl : t = 64 := by have := HT.out; omega
          obtain ⟨V, hV⟩ : ∃ V, sha_v (sha_s s 8) sha_K (sha_w b 64) 64 = V := ⟨_, rfl⟩
          have HVL := Aside0.mk (show V.length = 8 from by rw [← hV]; exact sha_v_len _ _ _ (sha_s_len s 8) 64)
          rw [hV] at HV
          have HVD := Aside0.mk hV
          clear hV HA HC HT
          go_wp2_with (fail)
          go_loopg [112] 8 (fun kq v112 w' => ∃ t : Nat, v112 = .int .i64 t ∧ Aside0 (t + kq = 8) ∧ Aside0 (Two w.heap.size w (nums .u32 (sha_o (sha_s s 8) V t)).toArray (nums .u32 V).toArray w'))
          case atStart => exact ⟨0, rfl, ⟨rfl⟩, HV⟩
          case round =>
            clear HV
            obtain ⟨t, rfl, HT, HV⟩ := hrel
            cases gk with
            | zero =>
              obtain rfl : t = 8 := by have := HT.out; omega
              go_wp2_with (go_at_call 66; refine (wb_call _ (sha_o_len _ _ (sha_s_len s 8) 8) _ w.heap.size HV.out.h0).mono ?_; rintro e w6 ⟨rfl, hb6⟩)
              go_ret
              exact ⟨by rw [HVD.out]; rfl, (HV.out.below hb6).hb⟩
            | succ k3 =>
              have ht := HT.out
              have hc := arr_cell HV.out.h0 (t := t) (by rw [sha_o_len _ _ (sha_s_len s 8)]; omega)
              have hc1 := hc.1
              have hc2 := hc.2
              clear hc
              have hd1 := (arr_cell HV.out.h1 (t := t) (by rw [HVL.out]; omega)).1
              have ht2 : (t : Int) < 8 := by omega
              have HTL := Aside0.mk (show t < (sha_o (sha_s s 8) V t).length from by rw [sha_o_len _ _ (sha_s_len s 8)]; omega)
              have hJ0 : ∀ ta d o u, ({ heap := wr.heap, tape := ta, drawn := d, os := o, output := u } : World).cell? ⟨w.heap.size, t, none⟩ = some (.int .u32 (rd (sha_o (sha_s s 8) V t) (t : Int))) := fun _ _ _ _ => hc1
              have hJ1 : ∀ ta d o u, ({ heap := wr.heap, tape := ta, drawn := d, os := o, output := u } : World).cell? ⟨w.heap.size + 1, t, none⟩ = some (.int .u32 (rd V (t : Int))) := fun _ _ _ _ => hd1
              clear ht
              go_wp2_with (fail)
              go_still_tail 8, (by kernel_rfl)
              try refine wpStill_nil ?_
              change wpList _ _ _ _ _ (wr.drew)
              have HV2 := Aside0.mk (HV.out.below (below_drew (Below.refl _ _)))
              clear hc1 hc2 hd1 hJ0 hJ1
              generalize wr.drew = w7 at HV2 ⊢
              have hc := arr_cell HV2.out.h0 HTL.out
              have hc1 := hc.1
              have hc2 := hc.2
              clear hc
              go_wp2_with (fail)
              go_roundg k3
              case measure => have := HT.out; omega
              case rel =>
                have hT := HT.out
                refine ⟨t + 1, by go_num, ⟨by omega⟩, ⟨⟨?_, (heap_setCell_other _ _ _ _ (by simp)).trans HV2.out.h1, below_cell HV2.out.hb (Nat.le_refl _) _⟩⟩⟩
                have e := arr_set (t := t) HV2.out.h0 ((rd (sha_o (sha_s s 8) V t) (t : Int) + rd V (t : Int)) % 4294967296)
                simpa [sha_o] using e
        | succ k2 =>
          have ht := HT.out
          have HVL := Aside0.mk (sha_v_len (sha_s s 8) sha_K (sha_w b 64) (sha_s_len s 8) t)
          obtain ⟨V, hV⟩ : ∃ V, sha_v (sha_s s 8) sha_K (sha_w b 64) t = V := ⟨_, rfl⟩
          rw [hV] at HV HVL
          have HVD := Aside0.mk hV
          clear hV
          have ht2 : (t : Int) < 64 := by omega
          have HAL := Aside0.mk (show t < (sha_w b 64).length from by rw [sha_w_len]; omega)
          have HCL := Aside0.mk (show t < sha_K.length from by show t < 64; omega)
          clear ht
          obtain ⟨c0, c1, c2, c3, c4, c5, c6, c7⟩ := eight HVL.out HV.out.h1
          go_wp2_with (fail)
          go_quiet (fail)
          replace HV := Aside0.mk (HV.out.below (pw_below_drewN (Below.refl _ _) nq))
          replace HA := Aside0.mk (show (wr.drewN nq).heap[w2.heap.size]? = _ from HA.out)
          replace HC := Aside0.mk (show (wr.drewN nq).heap[w2.heap.size + 1]? = _ from HC.out)
          clear c0 c1 c2 c3 c4 c5 c6 c7
          generalize wr.drewN nq = w3 at HV HA HC ⊢
          obtain ⟨c0, c1, c2, c3, c4, c5, c6, c7⟩ := eight HVL.out HV.out.h1
          have a1 := (arr_cell HA.out HAL.out).1
          have a2 := (arr_cell HC.out HCL.out).1
          go_wp2_with (fail)
          go_quiet ((go_at_call 81; exact Calls.quiet_of_same (sha_right _ _ _)))
          clear a1 a2
          replace HV := Aside0.mk (HV.out.below (pw_below_drewN (Below.refl _ _) nq))
          replace HA := Aside0.mk (show (w3.drewN nq).heap[w2.heap.size]? = _ from HA.out)
          replace HC := Aside0.mk (show (w3.drewN nq).heap[w2.heap.size + 1]? = _ from HC.out)
          clear c0 c1 c2 c3 c4 c5 c6 c7
          generalize w3.drewN nq = w4 at HV HA HC ⊢
          obtain ⟨c0, c1, c2, c3, c4, c5, c6, c7⟩ := eight HVL.out HV.out.h1
          go_wp2_with (fail)
          go_quiet ((go_at_call 81; exact Calls.quiet_of_same (sha_right _ _ _)))
          replace HV := Aside0.mk (HV.out.below (pw_below_drewN (Below.refl _ _) nq))
          replace HA := Aside0.mk (show (w4.drewN nq).heap[w2.heap.size]? = _ from HA.out)
          replace HC := Aside0.mk (show (w4.drewN nq).heap[w2.heap.size + 1]? = _ from HC.out)
          clear c0 c1 c2 c3 c4 c5 c6 c7
          generalize w4.drewN nq = w5 at HV HA HC ⊢
          obtain ⟨c0, c1, c2, c3, c4, c5, c6, c7⟩ := eight HVL.out HV.out.h1
          have hi6 : (Try.prog.info? 96).map (·.size) = some 8 := by kernel_rfl
          have HI6 := Aside0.mk hi6
          clear hi6
          have HVS := Aside0.mk (show (nums .u32 V).toArray.size = 8 from by rw [List.size_toArray, nums_length, HVL.out])
          go_wp2_with (refine wpList_store_row rfl 96 (.tmp 6) (.tmp 110) rfl (w.heap.size + 1) _ rfl rfl 96 _ HV.out.h1 ?hi ?ho ?ha ?_; (case hi => exact HI6.out); (case ho => exact HVS.out); (case ha => simp [Value.oneCell']))
          go_roundg k2
          case measure => have := HT.out; omega
          case rel =>
            have hT := HT.out
            have hlt := HLT.out
            refine ⟨t + 1, by go_num, ⟨by omega⟩, ⟨⟨(setRow_other _ _ _ _ (by omega)).trans HV.out.h0, ?_, below_row HV.out.hb (Nat.le_succ _) _⟩⟩, ⟨(setRow_other _ _ _ _ (by omega)).trans HA.out⟩, ⟨(setRow_other _ _ _ _ (by omega)).trans HC.out⟩⟩
            have e := setRow_heap w5 (w.heap.size + 1) _ (nums .u32 (sha_step sha_K (sha_w b 64) t V)).toArray 96 (0, 0) HV.out.h1
            rw [sha_v, HVD.out]
            simpa [sha_step, nums] using e
    | succ k1 =>
      have ht := HT.out
      have hc := arr_cell HW.out (t := t) (by rw [sha_s_len]; omega)
      have hc1 := hc.1
      have hc2 := hc.2
      clear hc
      have HA := Aside0.mk (sha_at_is s (4 * (t : Int)) (by omega) (by have := HS.out; omega) HS2.out)
      have ht2 : (t : Int) < 8 := by omega
      go_wp2_with (go_at_call 78; refine (impl_wordAt.calls s (4 * (t : Int)) _ _ HA.out).mono ?_; rintro e w' ⟨rfl, ⟨nd, rfl⟩⟩)
      go_roundg k1
      case measure => omega
      case rel =>
        refine ⟨t + 1, by go_num, ⟨by omega⟩, ?_, ⟨?_⟩, ⟨below_cell (pw_below_drewN HB.out nd) (Nat.le_refl _) _⟩⟩
        · obtain ⟨z, hz, hz2⟩ := HZ.out
          exact ⟨z, hz, (heap_setCell_other _ _ _ _ (by simp)).trans hz2⟩
        · rw [sha_s]
          have e := arr_set (W := wr.drewN nd) (t := t) HW.out (sha_at s ((4 * t : Nat) : Int))
          simpa using e
def impl_round.f (a0 a1 : ByteArray) : Option ByteArray := if (32 ≤ a0.size ∧ a0.size ≤ 4611686018427387904) ∧ (64 ≤ a1.size ∧ a1.size ≤ 4611686018427387904) then some (sha_out (sha_o (sha_s a0 8) (sha_v (sha_s a0 8) sha_K (sha_w a1 64) 64) 8)) else none
theorem impl_round.calls (a0 a1 : ByteArray) (r : ByteArray) (w : World) (h : impl_round.f a0 a1 = some r) :
    Calls Try.prog 64 #[.string a0, .string a1] w fun e w' => e = .returned (.string r) ∧ Below w.heap.size w w' := by
  unfold impl_round.f at h
  split at h
  · rename_i hc
    obtain rfl := Option.some.inj h
    exact impl_round.walk_ a0 a1 w hc.1.1 hc.1.2 hc.2.1 hc.2.2
  · cases h

/-! ### impl_blocks: function 39 -/
def impl_blocks.l0 : Nat → ByteArray → ByteArray → Option (ByteArray × ByteArray)
  | 0, _, _ => none
  | k + 1, x0, x1 => if (x1.size : Int) ≥ 64 then (if 0 ≤ 64 then (if 64 ≤ (x1.size : Int) then ((impl_round.f x0 (x1.extract 0 64)).bind fun t112 => (impl_blocks.l0 k t112 (x1.extract 64 x1.size))) else (none)) else (none)) else (some (x0, x1))
def impl_blocks.f (k : Nat) (a0 : ByteArray) (a1 : ByteArray) : Option (ByteArray × ByteArray) := impl_blocks.l0 k a0 a1
theorem impl_blocks.mono_l : ∀ k, (∀ y0 y1, LeO (impl_blocks.l0 k y0 y1) (impl_blocks.l0 (k + 1) y0 y1))
  | 0 => fun _ _ r h => by simp [impl_blocks.l0] at h
  | k + 1 => by
    have ih0 := impl_blocks.mono_l k
    · intro y0 y1
      unfold impl_blocks.l0
      repeat' first
      | (with_reducible exact ih0 _ _)
      | (with_reducible exact LeO.refl _)
      | (with_reducible exact LeO.none _)
      | (with_reducible refine LeO.ite ?_ ?_)
      | (with_reducible refine LeO.bind ?_ (fun _ => ?_))
      | exact ih0 _ _
      | exact LeO.none _
      | refine LeO.ite ?_ ?_
      | refine LeO.bind ?_ (fun _ => ?_)
theorem impl_blocks.mono : ∀ a0 a1 k, LeO (impl_blocks.f k a0 a1) (impl_blocks.f (k + 1) a0 a1) := by
  intro a0 a1 k
  have ih0 := impl_blocks.mono_l k
  unfold impl_blocks.f
  repeat' first
      | (with_reducible exact ih0 _ _)
      | (with_reducible exact LeO.refl _)
      | (with_reducible exact LeO.none _)
      | (with_reducible refine LeO.ite ?_ ?_)
      | (with_reducible refine LeO.bind ?_ (fun _ => ?_))
      | exact ih0 _ _
      | exact LeO.none _
      | refine LeO.ite ?_ ?_
      | refine LeO.bind ?_ (fun _ => ?_)
set_option maxHeartbeats 8000000 in
set_option maxRecDepth 100000 in
theorem impl_blocks.calls (k : Nat) (a0 : ByteArray) (a1 : ByteArray) (r1 : ByteArray) (r2 : ByteArray) (w : World) (h : impl_blocks.f k a0 a1 = some (r1, r2)) :
    Calls Try.prog 39 #[.string a0, .string a1] w fun e w' => e = .returned (.agg #[.string r1, .string r2]) ∧ Below w.heap.size w w' := by
  have hu59 := Try.underlying59
  have HB := Aside0.mk (Below.refl w.heap.size w)
  have H : (impl_blocks.l0 k a0 a1) = some (r1, r2) := h
  clear h
  have H' := Aside0.mk H
  clear H
  go_enter Try.func39, Try.ntmps39
  go_wp2_with (first | ((with_reducible refine gate_dst (N := 4) rfl ?_); refine box_event ?hg (N := 4) ?hd (cs := #[.string (⟨#[]⟩ : ByteArray), .string (⟨#[]⟩ : ByteArray)]) (t := 59) ?hr ?_; (case hd => rfl); (case hg => rfl); (case hr => first | (go_simp; done) | (go_simp; rfl)); intro gb111 hg w3 hbox hb; have n0_ := Aside0.mk (below_step (by repeat (first | (with_reducible first | exact HB.out | apply below_alloc | apply pw_below_drewN | apply below_drew1) | exact HB.out)) hb); have n1_ := Aside0.mk (hbox); have n2_ := Aside0.mk ((by rw [hg]; exact (below_size (by repeat (first | (with_reducible first | exact HB.out | apply below_alloc | apply pw_below_drewN | apply below_drew1) | exact HB.out))) : w.heap.size ≤ gb111)); have n3_ := Aside0.mk ((by rw [hg]; exact (below_size (by repeat (first | (with_reducible first | exact HB.out | apply below_alloc | apply pw_below_drewN | apply below_drew1) | exact HB.out))) : w.heap.size ≤ gb111)); clear HB; have HB := n0_; have BK111 := n1_; have GW111 := n2_; have GE111 := n3_; clear n0_ n1_ n2_ n3_; clear hb hbox hg))
  try go_simp
  go_loopg [0, 1] k (fun kq v0 v1 w' => ∃ (x0_1 : ByteArray) (x1_1 : ByteArray), v0 = .string x0_1 ∧ v1 = .string x1_1 ∧ Aside0 (impl_blocks.l0 kq x0_1 x1_1 = some (r1, r2)) ∧ Aside0 (kq ≤ k) ∧ Aside0 (w'.heap[gb111]? = some (.cells #[.string (⟨#[]⟩ : ByteArray), .string (⟨#[]⟩ : ByteArray)] 59 (0, 0))) ∧ Aside0 (Below w.heap.size w w'))
  case atStart => exact ⟨(a0), (a1), (by first | rfl | (simp; done) | (simp [*]; done)), (by first | rfl | (simp; done) | (simp [*]; done)), H', ⟨Nat.le_refl _⟩, ⟨by (with_reducible repeat (first | refine blk_drewN ?_ _ | refine blk_drew ?_ | refine blk_alloc ?_ _)); exact BK111.out⟩, ⟨by repeat (first | (with_reducible first | exact HB.out | apply below_alloc | apply pw_below_drewN | apply below_drew1 | refine below_set ?_ GE111.out) | exact HB.out)⟩⟩
  case round =>
    clear H'
    try clear p2
    try clear c3
    obtain ⟨x0_1, x1_1, rfl, rfl, HA, HK1, BK111, HB⟩ := hrel
    cases gk with
    | zero => exact absurd HA.out (by simp [impl_blocks.l0])
    | succ k1 =>
      have H := HA.out
      clear HA
      simp only [impl_blocks.l0] at H
      by_cases c4 : (x1_1.size : Int) ≥ 64
      · rw [if_pos c4] at H
        have c4b0 : decide (64 ≤ (x1_1.size : Int)) = true := decide_eq_true c4
        have c4b1 : decide (64 ≤ x1_1.size) = true := decide_eq_true (by omega)
        clear c4
        by_cases c5 : 0 ≤ 64
        · rw [if_pos c5] at H
          have c5b0 := eq_true c5
          have c5b1 : decide (0 ≤ 64) = true := decide_eq_true c5
          clear c5
          by_cases c6 : 64 ≤ (x1_1.size : Int)
          · rw [if_pos c6] at H
            have c6b0 := eq_true c6
            have c6b1 : decide (64 ≤ (x1_1.size : Int)) = true := decide_eq_true c6
            clear c6
            replace H := Option.bind_eq_some_iff.mp H
            obtain ⟨t112, A70, H⟩ := H
            replace H : (impl_blocks.l0 k1 t112 (x1_1.extract 64 x1_1.size)) = some (r1, r2) := H
            have A7 := Aside0.mk A70
            clear A70
            have c8b0 := eq_true (of_decide_eq_true (by first | (with_reducible assumption) | assumption) : 64 ≤ (x1_1.size : Int))
            have H' := Aside0.mk H
            clear H
            go_wp2_with (first | ((with_reducible refine gate_callee (f := 64) rfl ?_); refine goesL_ (some 11) rfl rfl Try.func64 (by kernel_rfl) rfl #[.string x0_1, .string (x1_1.extract 0 64)] rfl (by (try simp only [List.map_toArray, List.map_cons, List.map_nil]); first | done | rfl | (simp only [List.length_drop, List.length_take]; rfl)) ?_; (with_reducible refine (impl_round.calls x0_1 (x1_1.extract 0 64) t112 _ A7.out).mono ?_); rintro e w9 ⟨rfl, hb⟩; refine ⟨_, rfl, ?_⟩; have n0_ := Aside0.mk (blk_below (g := gb111) (o := .cells #[.string (⟨#[]⟩ : ByteArray), .string (⟨#[]⟩ : ByteArray)] 59 (0, 0)) (by (with_reducible repeat (first | refine blk_drewN ?_ _ | refine blk_drew ?_ | refine blk_alloc ?_ _)); exact BK111.out) hb); have n1_ := Aside0.mk (below_step (by repeat (first | (with_reducible first | exact HB.out | apply below_alloc | apply pw_below_drewN | apply below_drew1 | refine below_set ?_ GE111.out) | exact HB.out)) hb); clear BK111; clear HB; have BK111 := n0_; have HB := n1_; clear n0_ n1_; (try clear hb); (try clear hb2); (try clear hk); (try clear hi); (try have hcygb111_0 : _ = some (.string (⟨#[]⟩ : ByteArray)) := (blk_cell BK111.out 0).trans rfl); (try have hcygb111_1 : _ = some (.string (⟨#[]⟩ : ByteArray)) := (blk_cell BK111.out 1).trans rfl)))
            go_roundg k1
            case measure => have := HK1.out; omega
            case rel => exact ⟨(t112), (x1_1.extract 64 x1_1.size), (by first | rfl | (simp; done) | (simp [*]; done)), (by first | rfl | (simp; done) | (simp [*]; done)), H', ⟨by have := HK1.out; omega⟩, ⟨by (with_reducible repeat (first | refine blk_drewN ?_ _ | refine blk_drew ?_ | refine blk_alloc ?_ _)); exact BK111.out⟩, ⟨by repeat (first | (with_reducible first | exact HB.out | apply below_alloc | apply pw_below_drewN | apply below_drew1 | refine below_set ?_ GE111.out) | exact HB.out)⟩⟩
          · rw [if_neg c6] at H
            exact absurd H (by simp)
        · rw [if_neg c5] at H
          exact absurd H (by simp)
      · rw [if_neg c4] at H
        have c4b0 : decide (64 ≤ (x1_1.size : Int)) = false := decide_eq_false c4
        have c4b1 : decide (64 ≤ x1_1.size) = false := decide_eq_false (by omega)
        clear c4
        simp only [Option.some.injEq, Prod.mk.injEq] at H
        obtain ⟨rfl, rfl⟩ := H
        have hcz10_0 : wr.cell? ⟨gb111, 0, none⟩ = some (.string (⟨#[]⟩ : ByteArray)) := (blk_cell BK111.out 0).trans rfl
        have hcz10_1 : wr.cell? ⟨gb111, 1, none⟩ = some (.string (⟨#[]⟩ : ByteArray)) := (blk_cell BK111.out 1).trans rfl
        have hfz10_0 := blk_frozen BK111.out 0
        have hfz10_1 := blk_frozen BK111.out 1
        go_wp2
        refine bodyPost_ret (results_cell_row rfl _ _ gb111 59 #[.string x0_1, .string x1_1] (0, 0) _ rfl (by (with_reducible repeat (first | refine blk_drewN ?_ _ | refine blk_drew ?_ | refine blk_alloc ?_ _)); refine blk_put (cs := #[.string x0_1, .string (⟨#[]⟩ : ByteArray)]) ?_ 1 _ rfl; (with_reducible repeat (first | refine blk_drewN ?_ _ | refine blk_drew ?_ | refine blk_alloc ?_ _)); refine blk_put (cs := #[.string (⟨#[]⟩ : ByteArray), .string (⟨#[]⟩ : ByteArray)]) ?_ 0 _ rfl; (with_reducible repeat (first | refine blk_drewN ?_ _ | refine blk_drew ?_ | refine blk_alloc ?_ _)); exact BK111.out) Try.underlying59 rfl (by kernel_rfl)) rfl ?_
        exact ⟨by first | rfl | (simp [errW_none, errW_some] <;> rfl) | (simp [*, errW_none, errW_some] <;> rfl), by repeat (first | (with_reducible first | exact HB.out | apply below_alloc | apply pw_below_drewN | apply below_drew1 | refine below_set ?_ GE111.out) | exact HB.out)⟩

end Go.Proofs.Ytbiapgneafgdeaa.QFnDigests
