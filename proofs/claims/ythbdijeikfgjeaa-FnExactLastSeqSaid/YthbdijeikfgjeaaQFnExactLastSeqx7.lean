/- What is proved here: contracts of functions that the law FnExactLastSeq reaches, each told as a plain function. Conditions: those of each contract. (Written by a program of ours.) -/
import Derived.Test.YthbdijeikfgjeaaQFnExactLastSeqx0
import Derived.Test.YthbdijeikfgjeaaQFnExactLastSeqx6
namespace Go.Proofs.Ythbdijeikfgjeaa.QFnExactLastSeq
open Go.RowKit Go.Proofs.YthbdijeikfgjeaaW.PrintWords Go.Proofs.YthbdijeikfgjeaaW.PrintLast Go.Proofs.YthbdijeikfgjeaaW.PrintMore
attribute [local go_sem] max2_int min2_int max_two min_two max_three min_three max_four min_four   -- for this text's walks alone
set_option linter.unusedVariables false
set_option linter.unusedSimpArgs false

/-! ### impl_PageOk: function 48 -/
def impl_PageOk.f (a0_0 : Int) (a0_1 : Int) (a0_2 : Int) (a0_3 : Int) (a0_4 : Int) (a0_5 : ByteArray) : Option (Bool) := (impl_in.f a0_1 1 1000000000).bind fun t228 => (if t228 = true then ((impl_in.f a0_2 1 1000000000).bind fun t229 => (if t229 = true then ((impl_in.f a0_4 1 9).bind fun t230 => (if t230 = true then ((impl_in.f a0_3 0 (wrap64 (a0_4 - 1))).bind fun t231 => (if t231 = true then (if (a0_5.size : Int) > 90 then (some false) else (if a0_0 = 2 then (some true) else (if a0_0 = 1 then (some (a0_4 == 1)) else (some false)))) else (some false))) else (some false))) else (some false))) else (some false))
set_option maxHeartbeats 8000000 in
set_option maxRecDepth 100000 in
theorem impl_PageOk.calls (a0_0 : Int) (a0_1 : Int) (a0_2 : Int) (a0_3 : Int) (a0_4 : Int) (a0_5 : ByteArray) (r : Bool) (w : World) (h : impl_PageOk.f a0_0 a0_1 a0_2 a0_3 a0_4 a0_5 = some r) :
    Calls Try.prog 48 #[.agg #[.int .i64 a0_0, .int .i64 a0_1, .int .i64 a0_2, .int .i64 a0_3, .int .i64 a0_4, .string a0_5]] w fun e w' => e = .returned (.bool r) ∧ Below w.heap.size w w' := by
  have hu41 := Try.underlying41; have HB := Aside0.mk (Below.refl w.heap.size w); have H : ((impl_in.f a0_1 1 1000000000).bind fun t228 => (if t228 = true then ((impl_in.f a0_2 1 1000000000).bind fun t229 => (if t229 = true then ((impl_in.f a0_4 1 9).bind fun t230 => (if t230 = true then ((impl_in.f a0_3 0 (wrap64 (a0_4 - 1))).bind fun t231 => (if t231 = true then (if (a0_5.size : Int) > 90 then (some false) else (if a0_0 = 2 then (some true) else (if a0_0 = 1 then (some (a0_4 == 1)) else (some false)))) else (some false))) else (some false))) else (some false))) else (some false))) = some r := h; clear h; replace H := Option.bind_eq_some_iff.mp H; obtain ⟨t228, A20, H⟩ := H; replace H : (if t228 = true then ((impl_in.f a0_2 1 1000000000).bind fun t229 => (if t229 = true then ((impl_in.f a0_4 1 9).bind fun t230 => (if t230 = true then ((impl_in.f a0_3 0 (wrap64 (a0_4 - 1))).bind fun t231 => (if t231 = true then (if (a0_5.size : Int) > 90 then (some false) else (if a0_0 = 2 then (some true) else (if a0_0 = 1 then (some (a0_4 == 1)) else (some false)))) else (some false))) else (some false))) else (some false))) else (some false)) = some r := H; have A2 := Aside0.mk A20; clear A20
  by_cases c3 : t228 = true
  · subst c3
    have H1 : ((impl_in.f a0_2 1 1000000000).bind fun t229 => (if t229 = true then ((impl_in.f a0_4 1 9).bind fun t230 => (if t230 = true then ((impl_in.f a0_3 0 (wrap64 (a0_4 - 1))).bind fun t231 => (if t231 = true then (if (a0_5.size : Int) > 90 then (some false) else (if a0_0 = 2 then (some true) else (if a0_0 = 1 then (some (a0_4 == 1)) else (some false)))) else (some false))) else (some false))) else (some false))) = some r := by rw [if_pos rfl] at H; exact H
    clear H; have H := H1; clear H1; replace H := Option.bind_eq_some_iff.mp H; obtain ⟨t229, A40, H⟩ := H; replace H : (if t229 = true then ((impl_in.f a0_4 1 9).bind fun t230 => (if t230 = true then ((impl_in.f a0_3 0 (wrap64 (a0_4 - 1))).bind fun t231 => (if t231 = true then (if (a0_5.size : Int) > 90 then (some false) else (if a0_0 = 2 then (some true) else (if a0_0 = 1 then (some (a0_4 == 1)) else (some false)))) else (some false))) else (some false))) else (some false)) = some r := H; have A4 := Aside0.mk A40; clear A40
    by_cases c5 : t229 = true
    · subst c5
      have H1 : ((impl_in.f a0_4 1 9).bind fun t230 => (if t230 = true then ((impl_in.f a0_3 0 (wrap64 (a0_4 - 1))).bind fun t231 => (if t231 = true then (if (a0_5.size : Int) > 90 then (some false) else (if a0_0 = 2 then (some true) else (if a0_0 = 1 then (some (a0_4 == 1)) else (some false)))) else (some false))) else (some false))) = some r := by rw [if_pos rfl] at H; exact H
      clear H; have H := H1; clear H1; replace H := Option.bind_eq_some_iff.mp H; obtain ⟨t230, A60, H⟩ := H; replace H : (if t230 = true then ((impl_in.f a0_3 0 (wrap64 (a0_4 - 1))).bind fun t231 => (if t231 = true then (if (a0_5.size : Int) > 90 then (some false) else (if a0_0 = 2 then (some true) else (if a0_0 = 1 then (some (a0_4 == 1)) else (some false)))) else (some false))) else (some false)) = some r := H; have A6 := Aside0.mk A60; clear A60
      by_cases c7 : t230 = true
      · subst c7
        have H1 : ((impl_in.f a0_3 0 (wrap64 (a0_4 - 1))).bind fun t231 => (if t231 = true then (if (a0_5.size : Int) > 90 then (some false) else (if a0_0 = 2 then (some true) else (if a0_0 = 1 then (some (a0_4 == 1)) else (some false)))) else (some false))) = some r := by rw [if_pos rfl] at H; exact H
        clear H; have H := H1; clear H1; replace H := Option.bind_eq_some_iff.mp H; obtain ⟨t231, A80, H⟩ := H; replace H : (if t231 = true then (if (a0_5.size : Int) > 90 then (some false) else (if a0_0 = 2 then (some true) else (if a0_0 = 1 then (some (a0_4 == 1)) else (some false)))) else (some false)) = some r := H; have A8 := Aside0.mk A80; clear A80
        by_cases c9 : t231 = true
        · subst c9
          have H1 : (if (a0_5.size : Int) > 90 then (some false) else (if a0_0 = 2 then (some true) else (if a0_0 = 1 then (some (a0_4 == 1)) else (some false)))) = some r := by rw [if_pos rfl] at H; exact H
          clear H; have H := H1; clear H1
          by_cases c10 : (a0_5.size : Int) > 90
          · rw [if_pos c10] at H; have c10b0 : decide (90 < (a0_5.size : Int)) = true := decide_eq_true c10; have c10b1 : decide (90 < a0_5.size) = true := decide_eq_true (by omega); clear c10; obtain rfl := Option.some.inj H
            go_enter Try.func48, Try.ntmps48
            go_wp2_with (first | ((with_reducible refine gate_dst (N := 1) rfl ?_); (try (refine gate_guard (by rfl) ?_; dsimp only)); refine Sh.bx (N := 1) (cs := #[.int .i64 a0_0, .int .i64 a0_1, .int .i64 a0_2, .int .i64 a0_3, .int .i64 a0_4, .string a0_5]) (t := 41) ?_; intro gb227 hg w11 hbox hb; have BK227 := Aside0.mk (hbox); have GW227 := Aside0.mk ((by rw [hg]; exact (below_size (Sh.hb HB.out)) : w.heap.size ≤ gb227)); have GE227 := Aside0.mk ((by rw [hg]; exact (below_size (Sh.hb HB.out)) : w.heap.size ≤ gb227)); replace HB := Aside0.mk (below_step (Sh.hb HB.out) hb); clear hb hbox hg; have hcz12_0 : w11.cell? ⟨gb227, 0, none⟩ = some (.int .i64 a0_0) := (blk_cell BK227.out 0).trans rfl; have hcz12_1 : w11.cell? ⟨gb227, 1, none⟩ = some (.int .i64 a0_1) := (blk_cell BK227.out 1).trans rfl; have hcz12_2 : w11.cell? ⟨gb227, 2, none⟩ = some (.int .i64 a0_2) := (blk_cell BK227.out 2).trans rfl; have hcz12_3 : w11.cell? ⟨gb227, 3, none⟩ = some (.int .i64 a0_3) := (blk_cell BK227.out 3).trans rfl; have hcz12_4 : w11.cell? ⟨gb227, 4, none⟩ = some (.int .i64 a0_4) := (blk_cell BK227.out 4).trans rfl; have hcz12_5 : w11.cell? ⟨gb227, 5, none⟩ = some (.string a0_5) := (blk_cell BK227.out 5).trans rfl; have hfz12_0 := blk_frozen BK227.out 0; have hfz12_1 := blk_frozen BK227.out 1; have hfz12_2 := blk_frozen BK227.out 2; have hfz12_3 := blk_frozen BK227.out 3; have hfz12_4 := blk_frozen BK227.out 4; have hfz12_5 := blk_frozen BK227.out 5) | ((with_reducible refine gate_callee (f := 73) rfl ?_); refine goesL_ (some 5) rfl rfl Try.func73 (by kernel_rfl) rfl #[.int .i64 a0_1, .int .i64 1, .int .i64 1000000000] rfl Sh.al ?_; (with_reducible refine (impl_in.calls a0_1 1 1000000000 true _ A2.out).mono ?_); rintro e w' ⟨rfl, ⟨nd, rfl⟩⟩; refine ⟨_, rfl, ?_⟩) | (go_at_call 73; (with_reducible refine (impl_in.calls a0_2 1 1000000000 true _ A4.out).mono ?_); rintro e w' ⟨rfl, ⟨nd, rfl⟩⟩) | (go_at_call 73; (with_reducible refine (impl_in.calls a0_4 1 9 true _ A6.out).mono ?_); rintro e w' ⟨rfl, ⟨nd, rfl⟩⟩) | (go_at_call 73; (with_reducible refine (impl_in.calls a0_3 0 (wrap64 (a0_4 - 1)) true _ A8.out).mono ?_); rintro e w' ⟨rfl, ⟨nd, rfl⟩⟩))
            go_ret; exact ⟨by first | rfl | (simp [errW_none, errW_some] <;> rfl) | (simp [*, errW_none, errW_some] <;> rfl), by exact Sh.hs HB.out GE227.out⟩
          · rw [if_neg c10] at H; have c10b0 : decide (90 < (a0_5.size : Int)) = false := decide_eq_false c10; have c10b1 : decide (90 < a0_5.size) = false := decide_eq_false (by omega); clear c10
            by_cases c13 : a0_0 = 2
            · rw [if_pos c13] at H; have c13b0 : (a0_0 == 2) = true := beq_iff_eq.mpr c13; have c13b1 : (a0_0 != 2) = false := bne_eq_false_iff_eq.mpr c13; clear c13; obtain rfl := Option.some.inj H
              go_enter Try.func48, Try.ntmps48
              go_wp2_with (first | ((with_reducible refine gate_dst (N := 1) rfl ?_); (try (refine gate_guard (by rfl) ?_; dsimp only)); refine Sh.bx (N := 1) (cs := #[.int .i64 a0_0, .int .i64 a0_1, .int .i64 a0_2, .int .i64 a0_3, .int .i64 a0_4, .string a0_5]) (t := 41) ?_; intro gb227 hg w14 hbox hb; have BK227 := Aside0.mk (hbox); have GW227 := Aside0.mk ((by rw [hg]; exact (below_size (Sh.hb HB.out)) : w.heap.size ≤ gb227)); have GE227 := Aside0.mk ((by rw [hg]; exact (below_size (Sh.hb HB.out)) : w.heap.size ≤ gb227)); replace HB := Aside0.mk (below_step (Sh.hb HB.out) hb); clear hb hbox hg; have hcz15_0 : w14.cell? ⟨gb227, 0, none⟩ = some (.int .i64 a0_0) := (blk_cell BK227.out 0).trans rfl; have hcz15_1 : w14.cell? ⟨gb227, 1, none⟩ = some (.int .i64 a0_1) := (blk_cell BK227.out 1).trans rfl; have hcz15_2 : w14.cell? ⟨gb227, 2, none⟩ = some (.int .i64 a0_2) := (blk_cell BK227.out 2).trans rfl; have hcz15_3 : w14.cell? ⟨gb227, 3, none⟩ = some (.int .i64 a0_3) := (blk_cell BK227.out 3).trans rfl; have hcz15_4 : w14.cell? ⟨gb227, 4, none⟩ = some (.int .i64 a0_4) := (blk_cell BK227.out 4).trans rfl; have hcz15_5 : w14.cell? ⟨gb227, 5, none⟩ = some (.string a0_5) := (blk_cell BK227.out 5).trans rfl; have hfz15_0 := blk_frozen BK227.out 0; have hfz15_1 := blk_frozen BK227.out 1; have hfz15_2 := blk_frozen BK227.out 2; have hfz15_3 := blk_frozen BK227.out 3; have hfz15_4 := blk_frozen BK227.out 4; have hfz15_5 := blk_frozen BK227.out 5) | ((with_reducible refine gate_callee (f := 73) rfl ?_); refine goesL_ (some 5) rfl rfl Try.func73 (by kernel_rfl) rfl #[.int .i64 a0_1, .int .i64 1, .int .i64 1000000000] rfl Sh.al ?_; (with_reducible refine (impl_in.calls a0_1 1 1000000000 true _ A2.out).mono ?_); rintro e w' ⟨rfl, ⟨nd, rfl⟩⟩; refine ⟨_, rfl, ?_⟩) | (go_at_call 73; (with_reducible refine (impl_in.calls a0_2 1 1000000000 true _ A4.out).mono ?_); rintro e w' ⟨rfl, ⟨nd, rfl⟩⟩) | (go_at_call 73; (with_reducible refine (impl_in.calls a0_4 1 9 true _ A6.out).mono ?_); rintro e w' ⟨rfl, ⟨nd, rfl⟩⟩) | (go_at_call 73; (with_reducible refine (impl_in.calls a0_3 0 (wrap64 (a0_4 - 1)) true _ A8.out).mono ?_); rintro e w' ⟨rfl, ⟨nd, rfl⟩⟩))
              go_ret; exact ⟨by first | rfl | (simp [errW_none, errW_some] <;> rfl) | (simp [*, errW_none, errW_some] <;> rfl), by exact Sh.hs HB.out GE227.out⟩
            · rw [if_neg c13] at H; have c13b0 : (a0_0 == 2) = false := beq_eq_false_iff_ne.mpr c13; have c13b1 : (a0_0 != 2) = true := bne_iff_ne.mpr c13
              by_cases c16 : a0_0 = 1
              · rw [if_pos c16] at H; have c16b0 : (a0_0 == 1) = true := beq_iff_eq.mpr c16; have c16b1 : (a0_0 != 1) = false := bne_eq_false_iff_eq.mpr c16; clear c16; obtain rfl := Option.some.inj H
                go_enter Try.func48, Try.ntmps48
                go_wp2_with (first | ((with_reducible refine gate_dst (N := 1) rfl ?_); (try (refine gate_guard (by rfl) ?_; dsimp only)); refine Sh.bx (N := 1) (cs := #[.int .i64 a0_0, .int .i64 a0_1, .int .i64 a0_2, .int .i64 a0_3, .int .i64 a0_4, .string a0_5]) (t := 41) ?_; intro gb227 hg w17 hbox hb; have BK227 := Aside0.mk (hbox); have GW227 := Aside0.mk ((by rw [hg]; exact (below_size (Sh.hb HB.out)) : w.heap.size ≤ gb227)); have GE227 := Aside0.mk ((by rw [hg]; exact (below_size (Sh.hb HB.out)) : w.heap.size ≤ gb227)); replace HB := Aside0.mk (below_step (Sh.hb HB.out) hb); clear hb hbox hg; have hcz18_0 : w17.cell? ⟨gb227, 0, none⟩ = some (.int .i64 a0_0) := (blk_cell BK227.out 0).trans rfl; have hcz18_1 : w17.cell? ⟨gb227, 1, none⟩ = some (.int .i64 a0_1) := (blk_cell BK227.out 1).trans rfl; have hcz18_2 : w17.cell? ⟨gb227, 2, none⟩ = some (.int .i64 a0_2) := (blk_cell BK227.out 2).trans rfl; have hcz18_3 : w17.cell? ⟨gb227, 3, none⟩ = some (.int .i64 a0_3) := (blk_cell BK227.out 3).trans rfl; have hcz18_4 : w17.cell? ⟨gb227, 4, none⟩ = some (.int .i64 a0_4) := (blk_cell BK227.out 4).trans rfl; have hcz18_5 : w17.cell? ⟨gb227, 5, none⟩ = some (.string a0_5) := (blk_cell BK227.out 5).trans rfl; have hfz18_0 := blk_frozen BK227.out 0; have hfz18_1 := blk_frozen BK227.out 1; have hfz18_2 := blk_frozen BK227.out 2; have hfz18_3 := blk_frozen BK227.out 3; have hfz18_4 := blk_frozen BK227.out 4; have hfz18_5 := blk_frozen BK227.out 5) | ((with_reducible refine gate_callee (f := 73) rfl ?_); refine goesL_ (some 5) rfl rfl Try.func73 (by kernel_rfl) rfl #[.int .i64 a0_1, .int .i64 1, .int .i64 1000000000] rfl Sh.al ?_; (with_reducible refine (impl_in.calls a0_1 1 1000000000 true _ A2.out).mono ?_); rintro e w' ⟨rfl, ⟨nd, rfl⟩⟩; refine ⟨_, rfl, ?_⟩) | (go_at_call 73; (with_reducible refine (impl_in.calls a0_2 1 1000000000 true _ A4.out).mono ?_); rintro e w' ⟨rfl, ⟨nd, rfl⟩⟩) | (go_at_call 73; (with_reducible refine (impl_in.calls a0_4 1 9 true _ A6.out).mono ?_); rintro e w' ⟨rfl, ⟨nd, rfl⟩⟩) | (go_at_call 73; (with_reducible refine (impl_in.calls a0_3 0 (wrap64 (a0_4 - 1)) true _ A8.out).mono ?_); rintro e w' ⟨rfl, ⟨nd, rfl⟩⟩))
                go_ret; exact ⟨by first | rfl | (simp [errW_none, errW_some] <;> rfl) | (simp [*, errW_none, errW_some] <;> rfl), by exact Sh.hs HB.out GE227.out⟩
              · rw [if_neg c16] at H; have c16b0 : (a0_0 == 1) = false := beq_eq_false_iff_ne.mpr c16; have c16b1 : (a0_0 != 1) = true := bne_iff_ne.mpr c16; obtain rfl := Option.some.inj H
                go_enter Try.func48, Try.ntmps48
                go_wp2_with (first | ((with_reducible refine gate_dst (N := 1) rfl ?_); (try (refine gate_guard (by rfl) ?_; dsimp only)); refine Sh.bx (N := 1) (cs := #[.int .i64 a0_0, .int .i64 a0_1, .int .i64 a0_2, .int .i64 a0_3, .int .i64 a0_4, .string a0_5]) (t := 41) ?_; intro gb227 hg w19 hbox hb; have BK227 := Aside0.mk (hbox); have GW227 := Aside0.mk ((by rw [hg]; exact (below_size (Sh.hb HB.out)) : w.heap.size ≤ gb227)); have GE227 := Aside0.mk ((by rw [hg]; exact (below_size (Sh.hb HB.out)) : w.heap.size ≤ gb227)); replace HB := Aside0.mk (below_step (Sh.hb HB.out) hb); clear hb hbox hg; have hcz20_0 : w19.cell? ⟨gb227, 0, none⟩ = some (.int .i64 a0_0) := (blk_cell BK227.out 0).trans rfl; have hcz20_1 : w19.cell? ⟨gb227, 1, none⟩ = some (.int .i64 a0_1) := (blk_cell BK227.out 1).trans rfl; have hcz20_2 : w19.cell? ⟨gb227, 2, none⟩ = some (.int .i64 a0_2) := (blk_cell BK227.out 2).trans rfl; have hcz20_3 : w19.cell? ⟨gb227, 3, none⟩ = some (.int .i64 a0_3) := (blk_cell BK227.out 3).trans rfl; have hcz20_4 : w19.cell? ⟨gb227, 4, none⟩ = some (.int .i64 a0_4) := (blk_cell BK227.out 4).trans rfl; have hcz20_5 : w19.cell? ⟨gb227, 5, none⟩ = some (.string a0_5) := (blk_cell BK227.out 5).trans rfl; have hfz20_0 := blk_frozen BK227.out 0; have hfz20_1 := blk_frozen BK227.out 1; have hfz20_2 := blk_frozen BK227.out 2; have hfz20_3 := blk_frozen BK227.out 3; have hfz20_4 := blk_frozen BK227.out 4; have hfz20_5 := blk_frozen BK227.out 5) | ((with_reducible refine gate_callee (f := 73) rfl ?_); refine goesL_ (some 5) rfl rfl Try.func73 (by kernel_rfl) rfl #[.int .i64 a0_1, .int .i64 1, .int .i64 1000000000] rfl Sh.al ?_; (with_reducible refine (impl_in.calls a0_1 1 1000000000 true _ A2.out).mono ?_); rintro e w' ⟨rfl, ⟨nd, rfl⟩⟩; refine ⟨_, rfl, ?_⟩) | (go_at_call 73; (with_reducible refine (impl_in.calls a0_2 1 1000000000 true _ A4.out).mono ?_); rintro e w' ⟨rfl, ⟨nd, rfl⟩⟩) | (go_at_call 73; (with_reducible refine (impl_in.calls a0_4 1 9 true _ A6.out).mono ?_); rintro e w' ⟨rfl, ⟨nd, rfl⟩⟩) | (go_at_call 73; (with_reducible refine (impl_in.calls a0_3 0 (wrap64 (a0_4 - 1)) true _ A8.out).mono ?_); rintro e w' ⟨rfl, ⟨nd, rfl⟩⟩))
                go_ret; exact ⟨by first | rfl | (simp [errW_none, errW_some] <;> rfl) | (simp [*, errW_none, errW_some] <;> rfl), by exact Sh.hs HB.out GE227.out⟩
        · replace c9 := Bool.eq_false_iff.mpr c9; subst c9
          have H1 : (some false) = some r := by rw [if_neg (show ¬ (false = true) by decide)] at H; exact H
          clear H; have H := H1; clear H1; obtain rfl := Option.some.inj H
          go_enter Try.func48, Try.ntmps48
          go_wp2_with (first | ((with_reducible refine gate_dst (N := 1) rfl ?_); (try (refine gate_guard (by rfl) ?_; dsimp only)); refine Sh.bx (N := 1) (cs := #[.int .i64 a0_0, .int .i64 a0_1, .int .i64 a0_2, .int .i64 a0_3, .int .i64 a0_4, .string a0_5]) (t := 41) ?_; intro gb227 hg w21 hbox hb; have BK227 := Aside0.mk (hbox); have GW227 := Aside0.mk ((by rw [hg]; exact (below_size (Sh.hb HB.out)) : w.heap.size ≤ gb227)); have GE227 := Aside0.mk ((by rw [hg]; exact (below_size (Sh.hb HB.out)) : w.heap.size ≤ gb227)); replace HB := Aside0.mk (below_step (Sh.hb HB.out) hb); clear hb hbox hg; have hcz22_0 : w21.cell? ⟨gb227, 0, none⟩ = some (.int .i64 a0_0) := (blk_cell BK227.out 0).trans rfl; have hcz22_1 : w21.cell? ⟨gb227, 1, none⟩ = some (.int .i64 a0_1) := (blk_cell BK227.out 1).trans rfl; have hcz22_2 : w21.cell? ⟨gb227, 2, none⟩ = some (.int .i64 a0_2) := (blk_cell BK227.out 2).trans rfl; have hcz22_3 : w21.cell? ⟨gb227, 3, none⟩ = some (.int .i64 a0_3) := (blk_cell BK227.out 3).trans rfl; have hcz22_4 : w21.cell? ⟨gb227, 4, none⟩ = some (.int .i64 a0_4) := (blk_cell BK227.out 4).trans rfl; have hcz22_5 : w21.cell? ⟨gb227, 5, none⟩ = some (.string a0_5) := (blk_cell BK227.out 5).trans rfl; have hfz22_0 := blk_frozen BK227.out 0; have hfz22_1 := blk_frozen BK227.out 1; have hfz22_2 := blk_frozen BK227.out 2; have hfz22_3 := blk_frozen BK227.out 3; have hfz22_4 := blk_frozen BK227.out 4; have hfz22_5 := blk_frozen BK227.out 5) | ((with_reducible refine gate_callee (f := 73) rfl ?_); refine goesL_ (some 5) rfl rfl Try.func73 (by kernel_rfl) rfl #[.int .i64 a0_1, .int .i64 1, .int .i64 1000000000] rfl Sh.al ?_; (with_reducible refine (impl_in.calls a0_1 1 1000000000 true _ A2.out).mono ?_); rintro e w' ⟨rfl, ⟨nd, rfl⟩⟩; refine ⟨_, rfl, ?_⟩) | (go_at_call 73; (with_reducible refine (impl_in.calls a0_2 1 1000000000 true _ A4.out).mono ?_); rintro e w' ⟨rfl, ⟨nd, rfl⟩⟩) | (go_at_call 73; (with_reducible refine (impl_in.calls a0_4 1 9 true _ A6.out).mono ?_); rintro e w' ⟨rfl, ⟨nd, rfl⟩⟩) | (go_at_call 73; (with_reducible refine (impl_in.calls a0_3 0 (wrap64 (a0_4 - 1)) false _ A8.out).mono ?_); rintro e w' ⟨rfl, ⟨nd, rfl⟩⟩))
          go_ret; exact ⟨by first | rfl | (simp [errW_none, errW_some] <;> rfl) | (simp [*, errW_none, errW_some] <;> rfl), by exact Sh.hs HB.out GE227.out⟩
      · replace c7 := Bool.eq_false_iff.mpr c7; subst c7
        have H1 : (some false) = some r := by rw [if_neg (show ¬ (false = true) by decide)] at H; exact H
        clear H; have H := H1; clear H1; obtain rfl := Option.some.inj H
        go_enter Try.func48, Try.ntmps48
        go_wp2_with (first | ((with_reducible refine gate_dst (N := 1) rfl ?_); (try (refine gate_guard (by rfl) ?_; dsimp only)); refine Sh.bx (N := 1) (cs := #[.int .i64 a0_0, .int .i64 a0_1, .int .i64 a0_2, .int .i64 a0_3, .int .i64 a0_4, .string a0_5]) (t := 41) ?_; intro gb227 hg w23 hbox hb; have BK227 := Aside0.mk (hbox); have GW227 := Aside0.mk ((by rw [hg]; exact (below_size (Sh.hb HB.out)) : w.heap.size ≤ gb227)); have GE227 := Aside0.mk ((by rw [hg]; exact (below_size (Sh.hb HB.out)) : w.heap.size ≤ gb227)); replace HB := Aside0.mk (below_step (Sh.hb HB.out) hb); clear hb hbox hg; have hcz24_0 : w23.cell? ⟨gb227, 0, none⟩ = some (.int .i64 a0_0) := (blk_cell BK227.out 0).trans rfl; have hcz24_1 : w23.cell? ⟨gb227, 1, none⟩ = some (.int .i64 a0_1) := (blk_cell BK227.out 1).trans rfl; have hcz24_2 : w23.cell? ⟨gb227, 2, none⟩ = some (.int .i64 a0_2) := (blk_cell BK227.out 2).trans rfl; have hcz24_3 : w23.cell? ⟨gb227, 3, none⟩ = some (.int .i64 a0_3) := (blk_cell BK227.out 3).trans rfl; have hcz24_4 : w23.cell? ⟨gb227, 4, none⟩ = some (.int .i64 a0_4) := (blk_cell BK227.out 4).trans rfl; have hcz24_5 : w23.cell? ⟨gb227, 5, none⟩ = some (.string a0_5) := (blk_cell BK227.out 5).trans rfl; have hfz24_0 := blk_frozen BK227.out 0; have hfz24_1 := blk_frozen BK227.out 1; have hfz24_2 := blk_frozen BK227.out 2; have hfz24_3 := blk_frozen BK227.out 3; have hfz24_4 := blk_frozen BK227.out 4; have hfz24_5 := blk_frozen BK227.out 5) | ((with_reducible refine gate_callee (f := 73) rfl ?_); refine goesL_ (some 5) rfl rfl Try.func73 (by kernel_rfl) rfl #[.int .i64 a0_1, .int .i64 1, .int .i64 1000000000] rfl Sh.al ?_; (with_reducible refine (impl_in.calls a0_1 1 1000000000 true _ A2.out).mono ?_); rintro e w' ⟨rfl, ⟨nd, rfl⟩⟩; refine ⟨_, rfl, ?_⟩) | (go_at_call 73; (with_reducible refine (impl_in.calls a0_2 1 1000000000 true _ A4.out).mono ?_); rintro e w' ⟨rfl, ⟨nd, rfl⟩⟩) | (go_at_call 73; (with_reducible refine (impl_in.calls a0_4 1 9 false _ A6.out).mono ?_); rintro e w' ⟨rfl, ⟨nd, rfl⟩⟩))
        go_ret; exact ⟨by first | rfl | (simp [errW_none, errW_some] <;> rfl) | (simp [*, errW_none, errW_some] <;> rfl), by exact Sh.hs HB.out GE227.out⟩
    · replace c5 := Bool.eq_false_iff.mpr c5; subst c5
      have H1 : (some false) = some r := by rw [if_neg (show ¬ (false = true) by decide)] at H; exact H
      clear H; have H := H1; clear H1; obtain rfl := Option.some.inj H
      go_enter Try.func48, Try.ntmps48
      go_wp2_with (first | ((with_reducible refine gate_dst (N := 1) rfl ?_); (try (refine gate_guard (by rfl) ?_; dsimp only)); refine Sh.bx (N := 1) (cs := #[.int .i64 a0_0, .int .i64 a0_1, .int .i64 a0_2, .int .i64 a0_3, .int .i64 a0_4, .string a0_5]) (t := 41) ?_; intro gb227 hg w25 hbox hb; have BK227 := Aside0.mk (hbox); have GW227 := Aside0.mk ((by rw [hg]; exact (below_size (Sh.hb HB.out)) : w.heap.size ≤ gb227)); have GE227 := Aside0.mk ((by rw [hg]; exact (below_size (Sh.hb HB.out)) : w.heap.size ≤ gb227)); replace HB := Aside0.mk (below_step (Sh.hb HB.out) hb); clear hb hbox hg; have hcz26_0 : w25.cell? ⟨gb227, 0, none⟩ = some (.int .i64 a0_0) := (blk_cell BK227.out 0).trans rfl; have hcz26_1 : w25.cell? ⟨gb227, 1, none⟩ = some (.int .i64 a0_1) := (blk_cell BK227.out 1).trans rfl; have hcz26_2 : w25.cell? ⟨gb227, 2, none⟩ = some (.int .i64 a0_2) := (blk_cell BK227.out 2).trans rfl; have hcz26_3 : w25.cell? ⟨gb227, 3, none⟩ = some (.int .i64 a0_3) := (blk_cell BK227.out 3).trans rfl; have hcz26_4 : w25.cell? ⟨gb227, 4, none⟩ = some (.int .i64 a0_4) := (blk_cell BK227.out 4).trans rfl; have hcz26_5 : w25.cell? ⟨gb227, 5, none⟩ = some (.string a0_5) := (blk_cell BK227.out 5).trans rfl; have hfz26_0 := blk_frozen BK227.out 0; have hfz26_1 := blk_frozen BK227.out 1; have hfz26_2 := blk_frozen BK227.out 2; have hfz26_3 := blk_frozen BK227.out 3; have hfz26_4 := blk_frozen BK227.out 4; have hfz26_5 := blk_frozen BK227.out 5) | ((with_reducible refine gate_callee (f := 73) rfl ?_); refine goesL_ (some 5) rfl rfl Try.func73 (by kernel_rfl) rfl #[.int .i64 a0_1, .int .i64 1, .int .i64 1000000000] rfl Sh.al ?_; (with_reducible refine (impl_in.calls a0_1 1 1000000000 true _ A2.out).mono ?_); rintro e w' ⟨rfl, ⟨nd, rfl⟩⟩; refine ⟨_, rfl, ?_⟩) | (go_at_call 73; (with_reducible refine (impl_in.calls a0_2 1 1000000000 false _ A4.out).mono ?_); rintro e w' ⟨rfl, ⟨nd, rfl⟩⟩))
      go_ret; exact ⟨by first | rfl | (simp [errW_none, errW_some] <;> rfl) | (simp [*, errW_none, errW_some] <;> rfl), by exact Sh.hs HB.out GE227.out⟩
  · replace c3 := Bool.eq_false_iff.mpr c3; subst c3
    have H1 : (some false) = some r := by rw [if_neg (show ¬ (false = true) by decide)] at H; exact H
    clear H; have H := H1; clear H1; obtain rfl := Option.some.inj H
    go_enter Try.func48, Try.ntmps48
    go_wp2_with (first | ((with_reducible refine gate_dst (N := 1) rfl ?_); (try (refine gate_guard (by rfl) ?_; dsimp only)); refine Sh.bx (N := 1) (cs := #[.int .i64 a0_0, .int .i64 a0_1, .int .i64 a0_2, .int .i64 a0_3, .int .i64 a0_4, .string a0_5]) (t := 41) ?_; intro gb227 hg w27 hbox hb; have BK227 := Aside0.mk (hbox); have GW227 := Aside0.mk ((by rw [hg]; exact (below_size (Sh.hb HB.out)) : w.heap.size ≤ gb227)); have GE227 := Aside0.mk ((by rw [hg]; exact (below_size (Sh.hb HB.out)) : w.heap.size ≤ gb227)); replace HB := Aside0.mk (below_step (Sh.hb HB.out) hb); clear hb hbox hg; have hcz28_0 : w27.cell? ⟨gb227, 0, none⟩ = some (.int .i64 a0_0) := (blk_cell BK227.out 0).trans rfl; have hcz28_1 : w27.cell? ⟨gb227, 1, none⟩ = some (.int .i64 a0_1) := (blk_cell BK227.out 1).trans rfl; have hcz28_2 : w27.cell? ⟨gb227, 2, none⟩ = some (.int .i64 a0_2) := (blk_cell BK227.out 2).trans rfl; have hcz28_3 : w27.cell? ⟨gb227, 3, none⟩ = some (.int .i64 a0_3) := (blk_cell BK227.out 3).trans rfl; have hcz28_4 : w27.cell? ⟨gb227, 4, none⟩ = some (.int .i64 a0_4) := (blk_cell BK227.out 4).trans rfl; have hcz28_5 : w27.cell? ⟨gb227, 5, none⟩ = some (.string a0_5) := (blk_cell BK227.out 5).trans rfl; have hfz28_0 := blk_frozen BK227.out 0; have hfz28_1 := blk_frozen BK227.out 1; have hfz28_2 := blk_frozen BK227.out 2; have hfz28_3 := blk_frozen BK227.out 3; have hfz28_4 := blk_frozen BK227.out 4; have hfz28_5 := blk_frozen BK227.out 5) | ((with_reducible refine gate_callee (f := 73) rfl ?_); refine goesL_ (some 5) rfl rfl Try.func73 (by kernel_rfl) rfl #[.int .i64 a0_1, .int .i64 1, .int .i64 1000000000] rfl Sh.al ?_; (with_reducible refine (impl_in.calls a0_1 1 1000000000 false _ A2.out).mono ?_); rintro e w' ⟨rfl, ⟨nd, rfl⟩⟩; refine ⟨_, rfl, ?_⟩))
    go_ret; exact ⟨by first | rfl | (simp [errW_none, errW_some] <;> rfl) | (simp [*, errW_none, errW_some] <;> rfl), by exact Sh.hs HB.out GE227.out⟩

/-! ### impl_ReadPage: function 26 -/
open Go.Proofs.Ythbdijeikfgjeaa.Rp
def impl_ReadPage.fin (s : ByteArray) (l : List Int) (x : Int) : Option (Int × Int × Int × Int × Int × ByteArray × Bool) :=
  if 0 < s.size ∧ 0 ≤ x ∧ x ≤ (s.size : Int) then
    ((impl_PageOk.f (bt s 0) (rd l 0) (rd l 1) (rd l 2) (rd l 3) (s.extract x.toNat s.size)).bind fun o =>
      if o = true then some (bt s 0, rd l 0, rd l 1, rd l 2, rd l 3, s.extract x.toNat s.size, true) else some noPage_)
  else none
def impl_ReadPage.lp (k : Nat) (s : ByteArray) : Nat → List Int → Int → Option (Int × Int × Int × Int × Int × ByteArray × Bool)
  | 0, l, x => impl_ReadPage.fin s l x
  | q + 1, l, x => (impl_ReadVar.f k s x).bind fun r => if r.2.2 = true then impl_ReadPage.lp k s q (l.set (3 - q) r.1) r.2.1 else some noPage_
set_option maxHeartbeats 4000000 in
set_option maxRecDepth 1000000 in
theorem impl_ReadPage.bad_ (k : Nat) (t s : ByteArray) (ok : Bool) (w : World) (hu : impl_Unsealed.f k t = some (s, ok)) (hs : ok = false ∨ s = (⟨#[]⟩ : ByteArray)) :
    Calls Try.prog 26 #[.string t] w fun e w' => e = .returned (.tuple #[.agg #[.int .i64 0, .int .i64 0, .int .i64 0, .int .i64 0, .int .i64 0, .string (⟨#[]⟩ : ByteArray)], .bool false]) ∧ Below w.heap.size w w' := by
  have hu41 := Try.underlying41; have HB := Aside0.mk (Below.refl w.heap.size w); have HU := Aside0.mk hu; clear hu
  have hi44 : (Try.prog.info? 41).map (·.size) = some 6 := by kernel_rfl
  have HI := Aside0.mk hi44; clear hi44
  cases ok with
  | false =>
    clear hs
    go_enter Try.func26, Try.ntmps26
    go_wp2_with (first | ((with_reducible refine gate_dst (N := 2) rfl ?_); refine Sh.bx (N := 2) (cs := #[.int .i64 0, .int .i64 0, .int .i64 0, .int .i64 0, .int .i64 0, .string (⟨#[]⟩ : ByteArray)]) (t := 41) ?_; intro a hg w1 hbox hb; have BA := Aside0.mk hbox; have HB1 := Aside0.mk (below_step HB.out hb); have GA := Aside0.mk ((by rw [hg]; exact below_size HB.out) : w.heap.size ≤ a); clear hg hbox hb HB) | ((with_reducible refine gate_callee (f := 46) rfl ?_); (with_reducible refine gate_dst (N := 15) rfl ?_); refine goesL_ (some 15) rfl rfl Try.func46 (by kernel_rfl) rfl #[.string t] rfl Sh.al ?_; (with_reducible refine (impl_Unsealed.calls k t _ _ _ HU.out).mono ?_); rintro e w2 ⟨rfl, hb⟩; refine ⟨_, rfl, ?_⟩; have IB := Aside0.mk (⟨blk_below BA.out hb, GA.out, below_step HB1.out hb⟩ : w2.heap[a]? = some (.cells zeroPage 41 (0, 0)) ∧ w.heap.size ≤ a ∧ Below w.heap.size w w2); clear hb BA HB1) | ((with_reducible refine gate_store (t := 41) (p := 2) rfl ?_); refine row_event rfl 41 (.tmp 2) (.tmp 24) rfl a #[.int .i64 0, .int .i64 0, .int .i64 0, .int .i64 0, .int .i64 0, .string (⟨#[]⟩ : ByteArray)] rfl (by first | rfl | (go_simp; done) | (go_simp; rfl)) 41 _ IB.out.1 HI.out rfl (by simp [Value.oneCell']) ?_; intro w3 hw; have RZ := Aside0.mk (show w3.heap[a]? = _ ∧ Below w.heap.size w w3 from by rw [hw]; exact ⟨setRow_heap _ a _ _ 41 (0, 0) IB.out.1, below_row_ IB.out.2.2 IB.out.2.1 _⟩); clear hw))
    refine bodyPost_ret (results_row_tmp rfl _ _ a 41 #[.int .i64 0, .int .i64 0, .int .i64 0, .int .i64 0, .int .i64 0, .string (⟨#[]⟩ : ByteArray)] (0, 0) _ _ rfl rfl RZ.out.1 hu41 rfl HI.out) rfl ?_
    exact ⟨rfl, RZ.out.2⟩
  | true =>
    have hs2 : s = (⟨#[]⟩ : ByteArray) := hs.resolve_left (by simp); subst hs2; clear hs
    have he : (⟨#[]⟩ : ByteArray).toList.isEmpty = true := by rw [ByteArray.toList_eq]; rfl
    have he2 : ((⟨#[]⟩ : ByteArray).toList == (⟨#[]⟩ : ByteArray).toList) = true := beq_self_eq_true _
    go_enter Try.func26, Try.ntmps26
    go_wp2_with (first | ((with_reducible refine gate_dst (N := 2) rfl ?_); refine Sh.bx (N := 2) (cs := #[.int .i64 0, .int .i64 0, .int .i64 0, .int .i64 0, .int .i64 0, .string (⟨#[]⟩ : ByteArray)]) (t := 41) ?_; intro a hg w1 hbox hb; have BA := Aside0.mk hbox; have HB1 := Aside0.mk (below_step HB.out hb); have GA := Aside0.mk ((by rw [hg]; exact below_size HB.out) : w.heap.size ≤ a); clear hg hbox hb HB) | ((with_reducible refine gate_callee (f := 46) rfl ?_); (with_reducible refine gate_dst (N := 15) rfl ?_); refine goesL_ (some 15) rfl rfl Try.func46 (by kernel_rfl) rfl #[.string t] rfl Sh.al ?_; (with_reducible refine (impl_Unsealed.calls k t _ _ _ HU.out).mono ?_); rintro e w2 ⟨rfl, hb⟩; refine ⟨_, rfl, ?_⟩; have IB := Aside0.mk (⟨blk_below BA.out hb, GA.out, below_step HB1.out hb⟩ : w2.heap[a]? = some (.cells zeroPage 41 (0, 0)) ∧ w.heap.size ≤ a ∧ Below w.heap.size w w2); clear hb BA HB1) | ((with_reducible refine gate_store (t := 41) (p := 2) rfl ?_); refine row_event rfl 41 (.tmp 2) (.tmp 24) rfl a #[.int .i64 0, .int .i64 0, .int .i64 0, .int .i64 0, .int .i64 0, .string (⟨#[]⟩ : ByteArray)] rfl (by first | rfl | (go_simp; done) | (go_simp; rfl)) 41 _ IB.out.1 HI.out rfl (by simp [Value.oneCell']) ?_; intro w3 hw; have RZ := Aside0.mk (show w3.heap[a]? = _ ∧ Below w.heap.size w w3 from by rw [hw]; exact ⟨setRow_heap _ a _ _ 41 (0, 0) IB.out.1, below_row_ IB.out.2.2 IB.out.2.1 _⟩); clear hw))
    refine bodyPost_ret (results_row_tmp rfl _ _ a 41 #[.int .i64 0, .int .i64 0, .int .i64 0, .int .i64 0, .int .i64 0, .string (⟨#[]⟩ : ByteArray)] (0, 0) _ _ rfl rfl RZ.out.1 hu41 rfl HI.out) rfl ?_
    exact ⟨rfl, RZ.out.2⟩
set_option maxHeartbeats 4000000 in
set_option maxRecDepth 1000000 in
theorem impl_ReadPage.walk_ (k : Nat) (t s : ByteArray) (r1 r2 r3 r4 r5 : Int) (r6 : ByteArray) (r7 : Bool) (w : World)
    (hu : impl_Unsealed.f k t = some (s, true)) (hs : s ≠ (⟨#[]⟩ : ByteArray)) (hf : impl_ReadPage.lp k s 4 [0, 0, 0, 0] 1 = some (r1, r2, r3, r4, r5, r6, r7)) :
    Calls Try.prog 26 #[.string t] w fun e w' => e = .returned (.tuple #[.agg #[.int .i64 r1, .int .i64 r2, .int .i64 r3, .int .i64 r4, .int .i64 r5, .string r6], .bool r7]) ∧ Below w.heap.size w w' := by
  have hu41 := Try.underlying41; have HB := Aside0.mk (Below.refl w.heap.size w); have HU := Aside0.mk hu; have HF := Aside0.mk hf; have hne0 : (s.toList == (⟨#[]⟩ : ByteArray).toList) = false := beq_eq_false_iff_ne.mpr (fun k => hs (toList_inj_ k))
  have hne2 : s.toList.isEmpty = false := by rw [Bool.eq_false_iff]; intro k; exact hs (toList_inj_ (by rw [List.isEmpty_iff.mp k, ByteArray.toList_eq]))
  have hne1 : s.toList ≠ (⟨#[]⟩ : ByteArray).toList := fun k => hs (toList_inj_ k)
  clear hu hf
  have hi44 : (Try.prog.info? 41).map (·.size) = some 6 := by kernel_rfl
  have HI := Aside0.mk hi44; clear hi44
  go_enter Try.func26, Try.ntmps26
  go_wp2_with (first | ((with_reducible refine gate_dst (N := 2) rfl ?_); refine Sh.bx (N := 2) (cs := #[.int .i64 0, .int .i64 0, .int .i64 0, .int .i64 0, .int .i64 0, .string (⟨#[]⟩ : ByteArray)]) (t := 41) ?_; intro a hg w1 hbox hb; have BA := Aside0.mk hbox; have HB1 := Aside0.mk (below_step HB.out hb); have GA := Aside0.mk ((by rw [hg]; exact below_size HB.out) : w.heap.size ≤ a); clear hg hbox hb HB) | ((with_reducible refine gate_callee (f := 46) rfl ?_); (with_reducible refine gate_dst (N := 15) rfl ?_); refine goesL_ (some 15) rfl rfl Try.func46 (by kernel_rfl) rfl #[.string t] rfl Sh.al ?_; (with_reducible refine (impl_Unsealed.calls k t s _ _ HU.out).mono ?_); rintro e w2 ⟨rfl, hb⟩; refine ⟨_, rfl, ?_⟩; have BA2 := Aside0.mk (blk_below BA.out hb); have HB2 := Aside0.mk (below_step HB1.out hb); clear hb BA HB1) | ((with_reducible refine gate_dst (N := 6) rfl ?_); refine Sh.bx (N := 6) (cs := #[.int .i64 0, .int .i64 0, .int .i64 0, .int .i64 0]) (t := 87) ?_; intro gl hg w3 hbox hb; have I3 := Aside0.mk (⟨blk_below BA2.out hb, hbox, (by rw [hg]; exact Nat.ne_of_lt (blk_lt BA2.out)), GA.out, (by rw [hg]; exact below_size HB2.out), below_step HB2.out hb⟩ : IA w a gl zeroPage (nums .i64 [0, 0, 0, 0]).toArray w3); clear hg hbox hb BA2 HB2 GA))
  go_loopg [7, 25] 4 (fun kq v7 v25 w' => ∃ (l : List Int) (x : Int) (t : Nat), v7 = .int .i64 x ∧ v25 = .int .i64 t ∧ Aside0 (t + kq = 4) ∧ Aside0 (l.length = 4) ∧ Aside0 (impl_ReadPage.lp k s kq l x = some (r1, r2, r3, r4, r5, r6, r7)) ∧ Aside0 (IA w a gl zeroPage (nums .i64 l).toArray w'))
  case atStart => exact ⟨_, _, 0, rfl, rfl, ⟨rfl⟩, ⟨rfl⟩, HF, I3⟩
  case round =>
    clear HF I3; obtain ⟨l, x, t, rfl, rfl, HT, HL, HA, IL⟩ := hrel
    cases gk with
    | zero =>
      obtain rfl : t = 4 := by have := HT.out; omega
      have hl := HL.out
      match l, hl with
      | [n0, n1, n2, n3], _ =>
      have hr := HA.out; clear HA HL hl; unfold impl_ReadPage.lp impl_ReadPage.fin at hr
      split at hr
      case isFalse => cases hr
      rename_i hs
      obtain ⟨o, hp, hr⟩ := Option.bind_eq_some_iff.mp hr; have HP := Aside0.mk (show impl_PageOk.f (bt s 0) n0 n1 n2 n3 (s.extract x.toNat s.size) = some o from hp); clear hp; have hs0 := hs.1; have hs1 : decide (0 < s.size) = true := decide_eq_true hs0
      have hx : ∀ h : 0 < s.size, ((s[0]'h).toNat : Int) = bt s 0 := bt_at s 0
      have hxw : wrap64 (bt s 0) = bt s 0 := by have := bt_range s 0; unfold wrap64; omega
      have hl0 : decide (0 ≤ x) = true := decide_eq_true hs.2.1; have hl1 : decide (x ≤ (s.size : Int)) = true := decide_eq_true hs.2.2; have hl2 := eq_true hs.2.1; have hl3 := eq_true hs.2.2; clear hs
      try go_wp2
      refine start_ (n := 17) (S := fun w' => w'.cell? ⟨gl, 0, none⟩ = some (.int .i64 n0) ∧ w'.cell? ⟨gl, 1, none⟩ = some (.int .i64 n1) ∧ w'.cell? ⟨gl, 2, none⟩ = some (.int .i64 n2) ∧ w'.cell? ⟨gl, 3, none⟩ = some (.int .i64 n3) ∧ IA w a gl zeroPage #[.int .i64 n0, .int .i64 n1, .int .i64 n2, .int .i64 n3] w') (ds := [16]) #[false, false, false, false, false, false, false, false, false, false, false, false, false, false, false, false, false] (by kernel_rfl) rfl rfl ⟨(blk_cell IL.out.arr 0).trans rfl, (blk_cell IL.out.arr 1).trans rfl, (blk_cell IL.out.arr 2).trans rfl, (blk_cell IL.out.arr 3).trans rfl, IL.out.drew⟩ (fun hHeld => ?_)
      refine Sh.ky 0 43 ?_
      refine Sh.ky 3 46 ?_
      refine Sh.ky 5 48 ?_
      refine Sh.ky 7 50 ?_
      refine Sh.ky 9 52 ?_
      refine Sh.ky 11 54 ?_
      refine Sh.ky 12 55 ?_
      refine Sh.ky 13 56 ?_
      refine Sh.tk 1 44 hHeld ?_ (hv := by rintro w' ⟨s0, s1, s2, s3, s4⟩; go_simp; with_reducible rfl)
      refine Sh.ky 2 45 ?_
      refine Sh.tk 4 47 hHeld ?_ (hv := by rintro w' ⟨s0, s1, s2, s3, s4⟩; go_simp; with_reducible rfl)
      refine Sh.tk 6 49 hHeld ?_ (hv := by rintro w' ⟨s0, s1, s2, s3, s4⟩; go_simp; with_reducible rfl)
      refine Sh.tk 8 51 hHeld ?_ (hv := by rintro w' ⟨s0, s1, s2, s3, s4⟩; go_simp; with_reducible rfl)
      refine Sh.tk 10 53 hHeld ?_ (hv := by rintro w' ⟨s0, s1, s2, s3, s4⟩; go_simp; with_reducible rfl)
      refine Sh.ky 14 57 ?_
      refine one_ (i := 15) (N := some 12) #[true, true, true, true, true, true, true, true, true, true, true, true, true, true, true, true, false] rfl rfl (by kernel_rfl) (by decide) (fun K hK => ?_); refine value_ (w1 := ?_) (v := ?_) (by rfl) rfl ?_ ?_; rotate_left 2
      · go_simp; constructor
        · rfl
        · rfl
      refine hK.out _ _ ⟨(blk_cell (hHeld.2.2.2.2.alloc _).arr 0).trans rfl, (blk_cell (hHeld.2.2.2.2.alloc _).arr 1).trans rfl, (blk_cell (hHeld.2.2.2.2.alloc _).arr 2).trans rfl, (blk_cell (hHeld.2.2.2.2.alloc _).arr 3).trans rfl, (hHeld.2.2.2.2.alloc _)⟩ (fun hHeld => ?_); clear hK K; refine norm_ (a' := ?_) ?_ ?_; rotate_left
      · show Act.put _ (some 12) _ = _; simp only [Act.put, List.setIfInBounds_toArray, List.set_cons_zero, List.set_cons_succ, i64_w, i32_w]; rfl
      refine last_ (i := 16) (N := none) #[true, true, true, true, true, true, true, true, true, true, true, true, true, true, true, true, true] rfl rfl (by kernel_rfl) (by decide) (fun K hK => ?_); rw [if_pos (by rfl)]
      refine wp_store_row 41 (.tmp 12) (.tmp 57) rfl wr.drew.heap.size #[.int .i64 (bt s 0), .int .i64 n0, .int .i64 n1, .int .i64 n2, .int .i64 n3, .string (s.extract x.toNat s.size)] (by rfl) (by rfl) 41 _ (heap_alloc_new _ _) HI.out rfl (by simp [Value.oneCell']) ?_
      refine hK.out _ _ ?_; clear hK K; refine norm_ (a' := ?_) ?_ ?_; rotate_left
      · show Act.put _ none _ = _; simp only [Act.put]; rfl
      refine done_ (by kernel_rfl) ?_; obtain ⟨gp, hgp, HG_, HI_⟩ := IL.out.page #[.int .i64 0, .int .i64 0, .int .i64 0, .int .i64 0, .int .i64 0, .string (⟨#[]⟩ : ByteArray)] #[.int .i64 (bt s 0), .int .i64 n0, .int .i64 n1, .int .i64 n2, .int .i64 n3, .string (s.extract x.toNat s.size)]; clear hHeld IL; have e1_ : wr.drew.heap.size = gp := hgp.symm; have e2_ : wr.heap.size = gp := hgp.symm
      simp only [e1_, e2_]
      clear e1_ e2_; have HG := Aside0.mk HG_; have IL := Aside0.mk HI_; clear HG_ HI_
      generalize (wr.alloc _).drew.setRow gp _ = w9 at HG IL ⊢
      clear hgp
      cases o with
      | false =>
        rw [if_neg (show ¬ (false = true) by decide)] at hr
        simp only [noPage_, Option.some.injEq, Prod.mk.injEq] at hr
        obtain ⟨rfl, rfl, rfl, rfl, rfl, rfl, rfl⟩ := hr; go_wp2_with (first | ((with_reducible refine gate_dst (N := 58) rfl ?_); refine wpList_load_row rfl 41 (.tmp 12) rfl gp rfl 41 _ (0, 0) _ HG.out hu41 rfl HI.out ?_) | ((with_reducible refine gate_callee (f := 48) rfl ?_); (with_reducible refine gate_dst (N := 59) rfl ?_); refine goesL_ (some 59) rfl rfl Try.func48 (by kernel_rfl) rfl #[.agg #[.int .i64 (bt s 0), .int .i64 n0, .int .i64 n1, .int .i64 n2, .int .i64 n3, .string (s.extract x.toNat s.size)]] rfl Sh.al ?_; (with_reducible refine (impl_PageOk.calls (bt s 0) n0 n1 n2 n3 (s.extract x.toNat s.size) false _ HP.out).mono ?_); rintro e w10 ⟨rfl, hb⟩; refine ⟨_, rfl, ?_⟩; have HG2 := Aside0.mk (blk_below HG.out hb); have IL2 := Aside0.mk (IL.out.kept hb); clear hb HG IL) | ((with_reducible refine gate_store (t := 41) (p := 2) rfl ?_); refine row_event rfl 41 (.tmp 2) (.tmp 61) rfl a #[.int .i64 0, .int .i64 0, .int .i64 0, .int .i64 0, .int .i64 0, .string (⟨#[]⟩ : ByteArray)] rfl (by first | rfl | (go_simp; done) | (go_simp; rfl)) 41 _ IL2.out.res HI.out rfl (by simp [Value.oneCell']) ?_; intro w11 hw; have RZ := Aside0.mk (show w11.heap[a]? = _ ∧ Below w.heap.size w w11 from by rw [hw]; exact IL2.out.res_row _); clear hw))
        refine bodyPost_ret (results_row_tmp rfl _ _ a 41 #[.int .i64 0, .int .i64 0, .int .i64 0, .int .i64 0, .int .i64 0, .string (⟨#[]⟩ : ByteArray)] (0, 0) _ _ rfl rfl RZ.out.1 hu41 rfl HI.out) rfl ?_
        exact ⟨rfl, RZ.out.2⟩
      | true =>
        rw [if_pos rfl] at hr
        simp only [Option.some.injEq, Prod.mk.injEq] at hr
        obtain ⟨rfl, rfl, rfl, rfl, rfl, rfl, rfl⟩ := hr; go_wp2_with (first | ((with_reducible refine gate_dst (N := 58) rfl ?_); refine wpList_load_row rfl 41 (.tmp 12) rfl gp rfl 41 _ (0, 0) _ HG.out hu41 rfl HI.out ?_) | ((with_reducible refine gate_callee (f := 48) rfl ?_); (with_reducible refine gate_dst (N := 59) rfl ?_); refine goesL_ (some 59) rfl rfl Try.func48 (by kernel_rfl) rfl #[.agg #[.int .i64 (bt s 0), .int .i64 n0, .int .i64 n1, .int .i64 n2, .int .i64 n3, .string (s.extract x.toNat s.size)]] rfl Sh.al ?_; (with_reducible refine (impl_PageOk.calls (bt s 0) n0 n1 n2 n3 (s.extract x.toNat s.size) true _ HP.out).mono ?_); rintro e w10 ⟨rfl, hb⟩; refine ⟨_, rfl, ?_⟩; have HG2 := Aside0.mk (blk_below HG.out hb); have IL2 := Aside0.mk (IL.out.kept hb); clear hb HG IL) | ((with_reducible refine gate_dst (N := 62) rfl ?_); refine wpList_load_row rfl 41 (.tmp 12) rfl gp rfl 41 _ (0, 0) _ HG2.out hu41 rfl HI.out ?_) | ((with_reducible refine gate_store (t := 41) (p := 2) rfl ?_); refine row_event rfl 41 (.tmp 2) (.tmp 62) rfl a #[.int .i64 (bt s 0), .int .i64 n0, .int .i64 n1, .int .i64 n2, .int .i64 n3, .string (s.extract x.toNat s.size)] rfl (by first | rfl | (go_simp; done) | (go_simp; rfl)) 41 _ IL2.out.res HI.out rfl (by simp [Value.oneCell']) ?_; intro w11 hw; have RZ := Aside0.mk (show w11.heap[a]? = _ ∧ Below w.heap.size w w11 from by rw [hw]; exact IL2.out.res_row _); clear hw))
        refine bodyPost_ret (results_row_tmp rfl _ _ a 41 #[.int .i64 (bt s 0), .int .i64 n0, .int .i64 n1, .int .i64 n2, .int .i64 n3, .string (s.extract x.toNat s.size)] (0, 0) _ _ rfl rfl RZ.out.1 hu41 rfl HI.out) rfl ?_
        exact ⟨rfl, RZ.out.2⟩
    | succ q =>
      have hr := HA.out; clear HA; rw [impl_ReadPage.lp] at hr; obtain ⟨⟨n, nx, fine⟩, hv, hr⟩ := Option.bind_eq_some_iff.mp hr; have HV := Aside0.mk hv; clear hv; have ht := HT.out
      obtain rfl : q = 3 - t := by omega
      have ht2 : (t : Int) < 4 := by omega
      have hv2 : wr.cell? ⟨gl, t, none⟩ = some (.int .i64 (rd l (t : Int))) := by
        rw [blk_cell IL.out.arr t]; unfold rd
        simp [nums, List.getD_eq_getElem?_getD, show t < l.length from by have := HL.out; omega]
      cases fine with
      | false =>
        rw [if_neg (show ¬ (false = true) by decide)] at hr
        simp only [noPage_, Option.some.injEq, Prod.mk.injEq] at hr
        obtain ⟨rfl, rfl, rfl, rfl, rfl, rfl, rfl⟩ := hr; clear ht; go_wp2_with (first | ((with_reducible refine gate_callee (f := 47) rfl ?_); (with_reducible refine gate_dst (N := 31) rfl ?_); refine goesL_ (some 31) rfl rfl Try.func47 (by kernel_rfl) rfl #[.string s, .int .i64 x] rfl Sh.al ?_; (with_reducible refine (impl_ReadVar.calls k s x _ _ _ _ HV.out).mono ?_); rintro e w10 ⟨rfl, ⟨nd, rfl⟩⟩; refine ⟨_, rfl, ?_⟩; have IL2 := Aside0.mk (IL.out.kept (pw_below_drewN (Below.refl _ _) nd)); clear IL) | ((with_reducible refine gate_store (t := 41) (p := 2) rfl ?_); refine row_event rfl 41 (.tmp 2) (.tmp 37) rfl a #[.int .i64 0, .int .i64 0, .int .i64 0, .int .i64 0, .int .i64 0, .string (⟨#[]⟩ : ByteArray)] rfl (by first | rfl | (go_simp; done) | (go_simp; rfl)) 41 _ IL2.out.res HI.out rfl (by simp [Value.oneCell']) ?_; intro w11 hw; have RZ := Aside0.mk (show w11.heap[a]? = _ ∧ Below w.heap.size w w11 from by rw [hw]; exact IL2.out.res_row _); clear hw))
        refine bodyPost_ret (results_row_tmp rfl _ _ a 41 #[.int .i64 0, .int .i64 0, .int .i64 0, .int .i64 0, .int .i64 0, .string (⟨#[]⟩ : ByteArray)] (0, 0) _ _ rfl rfl RZ.out.1 hu41 rfl HI.out) rfl ?_
        exact ⟨rfl, RZ.out.2⟩
      | true =>
        rw [if_pos rfl] at hr; have HR := Aside0.mk hr; clear hr ht; go_wp2_with (first | ((with_reducible refine gate_callee (f := 47) rfl ?_); (with_reducible refine gate_dst (N := 31) rfl ?_); refine goesL_ (some 31) rfl rfl Try.func47 (by kernel_rfl) rfl #[.string s, .int .i64 x] rfl Sh.al ?_; (with_reducible refine (impl_ReadVar.calls k s x _ _ _ _ HV.out).mono ?_); rintro e w10 ⟨rfl, ⟨nd, rfl⟩⟩; refine ⟨_, rfl, ?_⟩; have IL2 := Aside0.mk (IL.out.kept (pw_below_drewN (Below.refl _ _) nd)); clear IL; have hf2 := blk_frozen IL2.out.arr t))
        go_roundg (3 - t)
        case measure => have := HT.out; omega
        case rel =>
          have hT := HT.out
          refine ⟨l.set t n, nx, t + 1, rfl, by go_num, ⟨by omega⟩, ⟨by rw [List.length_set]; exact HL.out⟩, ⟨?_⟩, ⟨IL2.out.put t _ (nums_set_get_ l t n)⟩⟩
          have e := HR.out
          rwa [show 3 - (3 - t) = t from by omega] at e
theorem impl_ReadPage.fin_refl (s : ByteArray) (l : List Int) (x : Int) : LeO (impl_ReadPage.fin s l x) (impl_ReadPage.fin s l x) := LeO.refl _
theorem impl_ReadPage.lp_mono (k : Nat) (s : ByteArray) : ∀ (q : Nat) (l : List Int) (x : Int), LeO (impl_ReadPage.lp k s q l x) (impl_ReadPage.lp (k + 1) s q l x)
  | 0, _, _ => LeO.refl _
  | q + 1, l, x => by
    unfold impl_ReadPage.lp; exact LeO.bind (impl_ReadVar.mono _ _ _) (fun _ => LeO.ite (impl_ReadPage.lp_mono k s q _ _) (LeO.refl _))
def impl_ReadPage.f (k : Nat) (a0 : ByteArray) : Option (Int × Int × Int × Int × Int × ByteArray × Bool) :=
  (impl_Unsealed.f k a0).bind fun u => if u.2 = true ∧ u.1.size ≠ 0 then impl_ReadPage.lp k u.1 4 [0, 0, 0, 0] 1 else some noPage_
theorem impl_ReadPage.mono : ∀ a0 k, LeO (impl_ReadPage.f k a0) (impl_ReadPage.f (k + 1) a0) := fun a0 k => by
  unfold impl_ReadPage.f; exact LeO.bind (impl_Unsealed.mono _ _) (fun _ => LeO.ite (impl_ReadPage.lp_mono _ _ _ _ _) (LeO.refl _))
theorem impl_ReadPage.calls (k : Nat) (a0 : ByteArray) (r1 r2 r3 r4 r5 : Int) (r6 : ByteArray) (r7 : Bool) (w : World) (h : impl_ReadPage.f k a0 = some (r1, r2, r3, r4, r5, r6, r7)) :
    Calls Try.prog 26 #[.string a0] w fun e w' => e = .returned (.tuple #[.agg #[.int .i64 r1, .int .i64 r2, .int .i64 r3, .int .i64 r4, .int .i64 r5, .string r6], .bool r7]) ∧ Below w.heap.size w w' := by
  unfold impl_ReadPage.f at h; obtain ⟨⟨s, ok⟩, hu, h⟩ := Option.bind_eq_some_iff.mp h
  dsimp only at h
  split at h
  · rename_i hc
    obtain ⟨rfl, hs⟩ := hc; exact impl_ReadPage.walk_ k a0 s r1 r2 r3 r4 r5 r6 r7 w hu (fun e => hs (by rw [e]; rfl)) h
  · rename_i hc
    simp only [noPage_, Option.some.injEq, Prod.mk.injEq] at h
    obtain ⟨rfl, rfl, rfl, rfl, rfl, rfl, rfl⟩ := h
    refine impl_ReadPage.bad_ k a0 s ok w hu ?_
    cases ok with
    | false => exact .inl rfl
    | true => exact .inr (size0_ (by by_cases hz : s.size = 0 <;> simp_all))

-- NOT PRINTED: function 49 (reflectlite_ValueOf)

-- NOT PRINTED: function 50 (reflectlite_Swapper)

-- NOT PRINTED: function 83 (sort_insertionSort_func)

-- NOT PRINTED: function 95 (sort_swapRange_func)

-- NOT PRINTED: function 93 (sort_rotate_func)

-- NOT PRINTED: function 84 (sort_symMerge_func)

-- NOT PRINTED: function 51 (sort_stable_func)

-- NOT PRINTED: function 52 (reflectlite_Value_Len)

-- NOT PRINTED: function 27 (sort_SliceStable)

end Go.Proofs.Ythbdijeikfgjeaa.QFnExactLastSeq
