/- What is proved here: contracts of functions that the law FnScans reaches, each told as a plain function. Conditions: those of each contract. (Written by a program of ours.) -/
import Derived.Test.YthbdijeikfgjeaaQFnScansx0
import Derived.Test.YthbdijeikfgjeaaQFnScansx5
namespace Go.Proofs.Ythbdijeikfgjeaa.QFnScans
open Go.RowKit Go.Proofs.YthbdijeikfgjeaaW.PrintWords Go.Proofs.YthbdijeikfgjeaaW.PrintLast Go.Proofs.YthbdijeikfgjeaaW.PrintMore
attribute [local go_sem] max2_int min2_int max_two min_two max_three min_three max_four min_four   -- for this text's walks alone
set_option linter.unusedVariables false
set_option linter.unusedSimpArgs false

/-! ### spec_ReadVar: function 55 -/
mutual
def spec_ReadVar.l0 : Nat → ByteArray → Int → Int → Int → Int → Option (Int × Int × Bool)
  | 0, _, _, _, _, _ => none
  | k + 1, x0, x1, x7, x8, x9 => if x9 < (x0.size : Int) then (spec_ReadVar.j1 k x0 x1 x7 x8 x9 (decide (x9 < (wrap64 (x1 + 5))))) else (spec_ReadVar.j1 k x0 x1 x7 x8 x9 false)
def spec_ReadVar.j1 : Nat → ByteArray → Int → Int → Int → Int → Bool → Option (Int × Int × Bool)
  | 0, _, _, _, _, _, _ => none
  | k + 1, x0, x1, x7, x8, x9, x25 => if x25 = true then (if 0 ≤ x9 then (if x9 < (x0.size : Int) then (if (bt x0 x9) < 128 then (if (wrap64 (x7 + (wrap64 ((Int.tmod (wrap64 (bt x0 x9)) 128) * x8)))) > 1000000000 then (some (0, 0, false)) else ((spec_l01Var.f k (wrap64 (x7 + (wrap64 ((Int.tmod (wrap64 (bt x0 x9)) 128) * x8))))).bind fun t297 => (if 0 ≤ x1 then (if x1 ≤ (wrap64 (x9 + 1)) then (if (wrap64 (x9 + 1)) ≤ (x0.size : Int) then (if t297.toList = (x0.extract (x1 : Int).toNat ((wrap64 (x9 + 1)) : Int).toNat).toList then (some (wrap64 (x7 + (wrap64 ((Int.tmod (wrap64 (bt x0 x9)) 128) * x8))), wrap64 (x9 + 1), true)) else (some (0, 0, false))) else (none)) else (none)) else (none)))) else (spec_ReadVar.l0 k x0 x1 (wrap64 (x7 + (wrap64 ((Int.tmod (wrap64 (bt x0 x9)) 128) * x8)))) (wrap64 (x8 * 128)) (wrap64 (x9 + 1)))) else (none)) else (none)) else (some (0, 0, false))
end
def spec_ReadVar.f (k : Nat) (a0 : ByteArray) (a1 : Int) : Option (Int × Int × Bool) := (spec_l01In.f a1 0 (a0.size : Int)).bind fun t296 => (if t296 = true then (spec_ReadVar.l0 k a0 a1 0 1 a1) else (some (0, 0, false)))
theorem spec_ReadVar.mono_l : ∀ k, (∀ y0 y1 y2 y3 y4, LeO (spec_ReadVar.l0 k y0 y1 y2 y3 y4) (spec_ReadVar.l0 (k + 1) y0 y1 y2 y3 y4)) ∧ (∀ y0 y1 y2 y3 y4 y5, LeO (spec_ReadVar.j1 k y0 y1 y2 y3 y4 y5) (spec_ReadVar.j1 (k + 1) y0 y1 y2 y3 y4 y5))
  | 0 => ⟨fun _ _ _ _ _ r h => by simp [spec_ReadVar.l0] at h, fun _ _ _ _ _ _ r h => by simp [spec_ReadVar.j1] at h⟩
  | k + 1 => by
    obtain ⟨ih0, ih1⟩ := spec_ReadVar.mono_l k
    refine ⟨?_, ?_⟩
    · intro y0 y1 y2 y3 y4; unfold spec_ReadVar.l0
      repeat' first | (with_reducible exact ih0 _ _ _ _ _) | (with_reducible exact ih1 _ _ _ _ _ _) | (with_reducible exact spec_l01Var.mono _ _) | (with_reducible exact LeO.refl _) | (with_reducible exact LeO.none _) | (with_reducible refine LeO.ite ?_ ?_) | (with_reducible refine LeO.bind ?_ (fun _ => ?_))
    · intro y0 y1 y2 y3 y4 y5; unfold spec_ReadVar.j1
      repeat' first | (with_reducible exact ih0 _ _ _ _ _) | (with_reducible exact ih1 _ _ _ _ _ _) | (with_reducible exact spec_l01Var.mono _ _) | (with_reducible exact LeO.refl _) | (with_reducible exact LeO.none _) | (with_reducible refine LeO.ite ?_ ?_) | (with_reducible refine LeO.bind ?_ (fun _ => ?_))
theorem spec_ReadVar.mono : ∀ a0 a1 k, LeO (spec_ReadVar.f k a0 a1) (spec_ReadVar.f (k + 1) a0 a1) := by
  intro a0 a1 k; obtain ⟨ih0, ih1⟩ := spec_ReadVar.mono_l k; unfold spec_ReadVar.f
  repeat' first | (with_reducible exact ih0 _ _ _ _ _) | (with_reducible exact ih1 _ _ _ _ _ _) | (with_reducible exact spec_l01Var.mono _ _) | (with_reducible exact LeO.refl _) | (with_reducible exact LeO.none _) | (with_reducible refine LeO.ite ?_ ?_) | (with_reducible refine LeO.bind ?_ (fun _ => ?_))
def spec_ReadVar.T11 : Bool × List (List Nat × List Nat) := (true, [([], []), ([0], [0]), ([1], [1]), ([2], [2]), ([3, 2, 2], [2, 3]), ([2], [2]), ([2], [2]), ([2], [2]), ([7, 2], [2, 7]), ([5, 6, 8, 2], [2, 5, 6, 8]), ([4, 9, 2], [2, 4, 9]), ([2, 10], [2, 10])])
def spec_ReadVar.B11 : List Nat := [0, 1, 3, 7, 15, 7, 7, 7, 135, 487, 1023, 2047]
theorem spec_ReadVar.tab11 : rtab .any (opsOf Try.f55 11) = spec_ReadVar.T11 := by kernel_rfl
theorem spec_ReadVar.bits11 : waitsOk spec_ReadVar.T11.2 spec_ReadVar.B11 = true := by kernel_rfl
set_option maxHeartbeats 8000000 in
set_option maxRecDepth 100000 in
theorem spec_ReadVar.calls (k : Nat) (a0 : ByteArray) (a1 : Int) (r1 : Int) (r2 : Int) (r3 : Bool) (w : World) (h : spec_ReadVar.f k a0 a1 = some (r1, r2, r3)) :
    Calls Try.prog 55 #[.string a0, .int .i64 a1] w fun e w' => e = .returned (.tuple #[.int .i64 r1, .int .i64 r2, .bool r3]) ∧ Below w.heap.size w w' := by
  have HB := Aside0.mk (Below.refl w.heap.size w); have H : ((spec_l01In.f a1 0 (a0.size : Int)).bind fun t296 => (if t296 = true then (spec_ReadVar.l0 k a0 a1 0 1 a1) else (some (0, 0, false)))) = some (r1, r2, r3) := h; clear h; replace H := Option.bind_eq_some_iff.mp H; obtain ⟨t296, A30, H⟩ := H; replace H : (if t296 = true then (spec_ReadVar.l0 k a0 a1 0 1 a1) else (some (0, 0, false))) = some (r1, r2, r3) := H; have A3 := Aside0.mk A30; clear A30
  by_cases c4 : t296 = true
  · subst c4
    have H1 : (spec_ReadVar.l0 k a0 a1 0 1 a1) = some (r1, r2, r3) := by rw [if_pos rfl] at H; exact H
    clear H; have H := H1; clear H1; have H' := Aside0.mk H; clear H
    go_enter Try.func55, Try.ntmps55
    go_wp2_with (first | ((with_reducible refine gate_callee (f := 29) rfl ?_); refine goesL_ (some 13) rfl rfl Try.func29 (by kernel_rfl) rfl #[.int .i64 a1, .int .i64 0, .int .i64 (a0.size : Int)] rfl Sh.al ?_; (with_reducible refine (spec_l01In.calls a1 0 (a0.size : Int) true _ A3.out).mono ?_); rintro e w' ⟨rfl, ⟨nd, rfl⟩⟩; refine ⟨_, rfl, ?_⟩))
    go_loopg [7, 8, 9] k (fun kq v7 v8 v9 w' => ∃ (x7_1 : Int) (x8_1 : Int) (x9_1 : Int), v7 = .int .i64 x7_1 ∧ v8 = .int .i64 x8_1 ∧ v9 = .int .i64 x9_1 ∧ Aside0 (spec_ReadVar.l0 kq a0 a1 x7_1 x8_1 x9_1 = some (r1, r2, r3)) ∧ Aside0 (kq ≤ k) ∧ Aside0 (Below w.heap.size w w'))
    case atStart => exact ⟨(0), (1), (a1), (by first | rfl | (simp; done) | (simp [*]; done)), (by first | rfl | (simp; done) | (simp [*]; done)), (by first | rfl | (simp; done) | (simp [*]; done)), H', ⟨Nat.le_refl _⟩, ⟨by exact Sh.hb HB.out⟩⟩
    case round =>
      clear H'; (try clear c2); (try clear p2); (try clear c4); obtain ⟨x7_1, x8_1, x9_1, rfl, rfl, rfl, HA, HK1, HB⟩ := hrel
      cases gk with
      | zero => exact absurd HA.out (by simp [spec_ReadVar.l0])
      | succ k1 =>
        have H := HA.out; clear HA
        simp only [spec_ReadVar.l0] at H
        have HC5 := Aside0.mk H; clear H
        go_upto_region 6 with (fail)
        go_cut [25] (fun v25 wc => ∃ (kq : Nat) (x25_4 : Bool), v25 = .bool x25_4 ∧ Aside0 (spec_ReadVar.j1 kq a0 a1 x7_1 x8_1 x9_1 x25_4 = some (r1, r2, r3)) ∧ Aside0 (kq ≤ k1) ∧ Aside0 (Below w.heap.size w wc))
        case first =>
          have H := HC5.out; clear HC5
          by_cases c6 : x9_1 < (a0.size : Int)
          · rw [if_pos c6] at H; have c6b0 : decide (x9_1 < (a0.size : Int)) = true := decide_eq_true c6; clear c6
            (first | rw [c6b0] | (simp only [i64_w, i32_w]; rw [c6b0]) | skip)
            have H' := Aside0.mk H; clear H; go_wp2
            go_meet
            case rel => exact ⟨_, (decide (x9_1 < (wrap64 (a1 + 5)))), (by first | rfl | (simp; done) | (simp [*]; done)), H', ⟨by have := HK1.out; first | omega | exact Nat.le_refl _⟩, ⟨by exact Sh.hb HB.out⟩⟩
          · rw [if_neg c6] at H; have c6b0 : decide (x9_1 < (a0.size : Int)) = false := decide_eq_false c6; clear c6
            (first | rw [c6b0] | (simp only [i64_w, i32_w]; rw [c6b0]) | skip)
            have H' := Aside0.mk H; clear H; go_wp2
            go_meet
            case rel => exact ⟨_, (false), (by first | rfl | (simp; done) | (simp [*]; done)), H', ⟨by have := HK1.out; first | omega | exact Nat.le_refl _⟩, ⟨by exact Sh.hb HB.out⟩⟩
        case rest =>
          clear HC5; (try clear c2); (try clear p2); (try clear c4); (try clear c5); (try clear c6); (try clear c6b0); (try clear p6); (try clear p2); obtain ⟨kq, x25_4, rfl, HA, HJ4, HB⟩ := hcut
          cases kq with
          | zero => exact absurd HA.out (by simp [spec_ReadVar.j1])
          | succ kj4 =>
            have H := HA.out; clear HA
            simp only [spec_ReadVar.j1] at H
            by_cases c7 : x25_4 = true
            · subst c7
              have H1 : (if 0 ≤ x9_1 then (if x9_1 < (a0.size : Int) then (if (bt a0 x9_1) < 128 then (if (wrap64 (x7_1 + (wrap64 ((Int.tmod (wrap64 (bt a0 x9_1)) 128) * x8_1)))) > 1000000000 then (some (0, 0, false)) else ((spec_l01Var.f kj4 (wrap64 (x7_1 + (wrap64 ((Int.tmod (wrap64 (bt a0 x9_1)) 128) * x8_1))))).bind fun t297 => (if 0 ≤ a1 then (if a1 ≤ (wrap64 (x9_1 + 1)) then (if (wrap64 (x9_1 + 1)) ≤ (a0.size : Int) then (if t297.toList = (a0.extract (a1 : Int).toNat ((wrap64 (x9_1 + 1)) : Int).toNat).toList then (some (wrap64 (x7_1 + (wrap64 ((Int.tmod (wrap64 (bt a0 x9_1)) 128) * x8_1))), wrap64 (x9_1 + 1), true)) else (some (0, 0, false))) else (none)) else (none)) else (none)))) else (spec_ReadVar.l0 kj4 a0 a1 (wrap64 (x7_1 + (wrap64 ((Int.tmod (wrap64 (bt a0 x9_1)) 128) * x8_1)))) (wrap64 (x8_1 * 128)) (wrap64 (x9_1 + 1)))) else (none)) else (none)) = some (r1, r2, r3) := by rw [if_pos rfl] at H; exact H
              clear H; have H := H1; clear H1
              by_cases c8 : 0 ≤ x9_1
              · rw [if_pos c8] at H; have c8b0 : decide (0 ≤ x9_1) = true := decide_eq_true c8; clear c8
                by_cases c9 : x9_1 < (a0.size : Int)
                · rw [if_pos c9] at H; have c9b0 : decide (x9_1 < (a0.size : Int)) = true := decide_eq_true c9; clear c9
                  by_cases c12 : (bt a0 x9_1) < 128
                  · rw [if_pos c12] at H; have c12b0 : decide ((bt a0 x9_1) < 128) = true := decide_eq_true c12; clear c12
                    by_cases c13 : (wrap64 (x7_1 + (wrap64 ((Int.tmod (wrap64 (bt a0 x9_1)) 128) * x8_1)))) > 1000000000
                    · rw [if_pos c13] at H; have c13b0 : decide (1000000000 < (wrap64 (x7_1 + (wrap64 ((Int.tmod (wrap64 (bt a0 x9_1)) 128) * x8_1))))) = true := decide_eq_true c13; clear c13
                      simp only [Option.some.injEq, Prod.mk.injEq] at H
                      obtain ⟨rfl, rfl, rfl⟩ := H; have p10 : 0 ≤ (x9_1 : Int) := of_decide_eq_true Sh.as; have q10 : x9_1 < (a0.size : Int) := of_decide_eq_true Sh.as; have hx10 := bt_at a0 x9_1; replace p10 := eq_true p10; replace q10 := eq_true q10; have p11 : 0 ≤ (x9_1 : Int) := of_decide_eq_true Sh.as; have q11 : x9_1 < (a0.size : Int) := of_decide_eq_true Sh.as; have hx11 := bt_at a0 x9_1; replace p11 := eq_true p11; replace q11 := eq_true q11
                      try go_wp2
                      replace HB := Aside0.mk (below_drew1 HB.out)
                      refine start_ (n := 12) (S := fun w' => True) (ds := []) #[false, false, false, false, false, false, false, false, false, false, false, false] (by kernel_rfl) rfl rfl trivial (fun hHeld => ?_); refine with_tabW spec_ReadVar.tab11 spec_ReadVar.bits11 (fun HT_ HW_ => ?_)
                      generalize wc.drew = w14 at HB hHeld ⊢
                      refine Sh.py 0 43 HT_ ?_
                      refine Sh.py 1 44 HT_ ?_
                      refine Sh.py 2 45 HT_ ?_
                      refine Sh.pu 3 46 HT_ ?_
                      refine Sh.pu 4 47 HT_ ?_
                      refine Sh.pu 5 48 HT_ ?_
                      refine Sh.pu 6 49 HT_ ?_
                      refine Sh.pu 7 50 HT_ ?_
                      refine Sh.pu 8 51 HT_ ?_
                      refine Sh.pu 9 52 HT_ ?_
                      refine Sh.pu 10 53 HT_ ?_
                      refine Sh.py 11 54 HT_ ?_
                      refine done_ (done_of HT_.out (by kernel_rfl)) ?_
                      try go_wp2
                      go_ret3; exact ⟨by first | rfl | (simp [errW_none, errW_some] <;> rfl) | (simp [*, errW_none, errW_some] <;> rfl), by exact Sh.hb HB.out⟩
                    · rw [if_neg c13] at H; have c13b0 : decide (1000000000 < (wrap64 (x7_1 + (wrap64 ((Int.tmod (wrap64 (bt a0 x9_1)) 128) * x8_1))))) = false := decide_eq_false c13; clear c13; replace H := Option.bind_eq_some_iff.mp H; obtain ⟨t297, A150, H⟩ := H; replace H : (if 0 ≤ a1 then (if a1 ≤ (wrap64 (x9_1 + 1)) then (if (wrap64 (x9_1 + 1)) ≤ (a0.size : Int) then (if t297.toList = (a0.extract (a1 : Int).toNat ((wrap64 (x9_1 + 1)) : Int).toNat).toList then (some (wrap64 (x7_1 + (wrap64 ((Int.tmod (wrap64 (bt a0 x9_1)) 128) * x8_1))), wrap64 (x9_1 + 1), true)) else (some (0, 0, false))) else (none)) else (none)) else (none)) = some (r1, r2, r3) := H; have A15 := Aside0.mk A150; clear A150
                      by_cases c16 : 0 ≤ a1
                      · rw [if_pos c16] at H; have c16b0 := eq_true c16; have c16b1 : decide (0 ≤ a1) = true := decide_eq_true c16; clear c16
                        by_cases c17 : a1 ≤ (wrap64 (x9_1 + 1))
                        · rw [if_pos c17] at H; have c17b0 := eq_true c17; have c17b1 : decide (a1 ≤ (wrap64 (x9_1 + 1))) = true := decide_eq_true c17
                          by_cases c18 : (wrap64 (x9_1 + 1)) ≤ (a0.size : Int)
                          · rw [if_pos c18] at H; have c18b0 := eq_true c18; have c18b1 : decide ((wrap64 (x9_1 + 1)) ≤ (a0.size : Int)) = true := decide_eq_true c18
                            by_cases c19 : t297.toList = (a0.extract (a1 : Int).toNat ((wrap64 (x9_1 + 1)) : Int).toNat).toList
                            · rw [if_pos c19] at H; have c19b0 : (t297.toList == (a0.extract (a1 : Int).toNat ((wrap64 (x9_1 + 1)) : Int).toNat).toList) = true := beq_iff_eq.mpr c19; have c19b1 : (t297.toList != (a0.extract (a1 : Int).toNat ((wrap64 (x9_1 + 1)) : Int).toNat).toList) = false := bne_eq_false_iff_eq.mpr c19; clear c19
                              simp only [Option.some.injEq, Prod.mk.injEq] at H
                              obtain ⟨rfl, rfl, rfl⟩ := H; have p10 : 0 ≤ (x9_1 : Int) := of_decide_eq_true Sh.as; have q10 : x9_1 < (a0.size : Int) := of_decide_eq_true Sh.as; have hx10 := bt_at a0 x9_1; replace p10 := eq_true p10; replace q10 := eq_true q10; have p11 : 0 ≤ (x9_1 : Int) := of_decide_eq_true Sh.as; have q11 : x9_1 < (a0.size : Int) := of_decide_eq_true Sh.as; have hx11 := bt_at a0 x9_1; replace p11 := eq_true p11; replace q11 := eq_true q11
                              try go_wp2
                              replace HB := Aside0.mk (below_drew1 HB.out)
                              refine start_ (n := 12) (S := fun w' => True) (ds := []) #[false, false, false, false, false, false, false, false, false, false, false, false] (by kernel_rfl) rfl rfl trivial (fun hHeld => ?_); refine with_tabW spec_ReadVar.tab11 spec_ReadVar.bits11 (fun HT_ HW_ => ?_)
                              generalize wc.drew = w20 at HB hHeld ⊢
                              refine Sh.py 0 43 HT_ ?_
                              refine Sh.py 1 44 HT_ ?_
                              refine Sh.py 2 45 HT_ ?_
                              refine Sh.py 3 46 HT_ ?_
                              refine Sh.py 5 48 HT_ ?_
                              refine Sh.py 6 49 HT_ ?_
                              refine Sh.py 7 50 HT_ ?_
                              refine Sh.py 8 51 HT_ ?_
                              refine Sh.py 9 52 HT_ ?_
                              refine one_ (i := 4) (N := some 47) #[true, true, true, true, true, true, true, true, true, true, false, false] rfl rfl (one_of HT_.out (by kernel_rfl)) (by decide) (fun K hK => ?_)
                              refine goes_ Try.func59 (by kernel_rfl) rfl #[.int .i64 (wrap64 (x7_1 + (wrap64 ((Int.tmod (wrap64 (bt a0 x9_1)) 128) * x8_1))))] (by rfl) rfl rfl Sh.al ?_
                              with_reducible refine (spec_l01Var.calls kj4 (wrap64 (x7_1 + (wrap64 ((Int.tmod (wrap64 (bt a0 x9_1)) 128) * x8_1)))) t297 _ A15.out).mono ?_
                              rintro e w21 ⟨rfl, hb⟩; refine ⟨_, rfl, ?_⟩; replace HB := Aside0.mk (below_step (Sh.hb HB.out) hb); (try clear hb); (try clear hb2); (try clear hk); (try clear hi); refine hK.out _ _ trivial (fun hHeld => ?_); clear hK K; refine norm_ (a' := ?_) ?_ ?_; rotate_left
                              · show Act.put _ (some 47) _ = _; simp only [Act.put, List.setIfInBounds_toArray, List.set_cons_zero, List.set_cons_succ, i64_w, i32_w]; rfl
                              refine Sh.py 10 53 HT_ ?_
                              refine Sh.py 11 54 HT_ ?_
                              refine done_ (done_of HT_.out (by kernel_rfl)) ?_
                              try go_wp2
                              go_ret3; exact ⟨by first | rfl | (simp [errW_none, errW_some] <;> rfl) | (simp [*, errW_none, errW_some] <;> rfl), by exact Sh.hb HB.out⟩
                            · rw [if_neg c19] at H; have c19b0 : (t297.toList == (a0.extract (a1 : Int).toNat ((wrap64 (x9_1 + 1)) : Int).toNat).toList) = false := beq_eq_false_iff_ne.mpr c19; have c19b1 : (t297.toList != (a0.extract (a1 : Int).toNat ((wrap64 (x9_1 + 1)) : Int).toNat).toList) = true := bne_iff_ne.mpr c19
                              simp only [Option.some.injEq, Prod.mk.injEq] at H
                              obtain ⟨rfl, rfl, rfl⟩ := H; have p10 : 0 ≤ (x9_1 : Int) := of_decide_eq_true Sh.as; have q10 : x9_1 < (a0.size : Int) := of_decide_eq_true Sh.as; have hx10 := bt_at a0 x9_1; replace p10 := eq_true p10; replace q10 := eq_true q10; have p11 : 0 ≤ (x9_1 : Int) := of_decide_eq_true Sh.as; have q11 : x9_1 < (a0.size : Int) := of_decide_eq_true Sh.as; have hx11 := bt_at a0 x9_1; replace p11 := eq_true p11; replace q11 := eq_true q11
                              try go_wp2
                              replace HB := Aside0.mk (below_drew1 HB.out)
                              refine start_ (n := 12) (S := fun w' => True) (ds := []) #[false, false, false, false, false, false, false, false, false, false, false, false] (by kernel_rfl) rfl rfl trivial (fun hHeld => ?_); refine with_tabW spec_ReadVar.tab11 spec_ReadVar.bits11 (fun HT_ HW_ => ?_)
                              generalize wc.drew = w22 at HB hHeld ⊢
                              refine Sh.py 0 43 HT_ ?_
                              refine Sh.py 1 44 HT_ ?_
                              refine Sh.py 2 45 HT_ ?_
                              refine Sh.py 3 46 HT_ ?_
                              refine Sh.py 5 48 HT_ ?_
                              refine Sh.py 6 49 HT_ ?_
                              refine Sh.py 7 50 HT_ ?_
                              refine Sh.py 8 51 HT_ ?_
                              refine Sh.py 9 52 HT_ ?_
                              refine one_ (i := 4) (N := some 47) #[true, true, true, true, true, true, true, true, true, true, false, false] rfl rfl (one_of HT_.out (by kernel_rfl)) (by decide) (fun K hK => ?_)
                              refine goes_ Try.func59 (by kernel_rfl) rfl #[.int .i64 (wrap64 (x7_1 + (wrap64 ((Int.tmod (wrap64 (bt a0 x9_1)) 128) * x8_1))))] (by rfl) rfl rfl Sh.al ?_
                              with_reducible refine (spec_l01Var.calls kj4 (wrap64 (x7_1 + (wrap64 ((Int.tmod (wrap64 (bt a0 x9_1)) 128) * x8_1)))) t297 _ A15.out).mono ?_
                              rintro e w23 ⟨rfl, hb⟩; refine ⟨_, rfl, ?_⟩; replace HB := Aside0.mk (below_step (Sh.hb HB.out) hb); (try clear hb); (try clear hb2); (try clear hk); (try clear hi); refine hK.out _ _ trivial (fun hHeld => ?_); clear hK K; refine norm_ (a' := ?_) ?_ ?_; rotate_left
                              · show Act.put _ (some 47) _ = _; simp only [Act.put, List.setIfInBounds_toArray, List.set_cons_zero, List.set_cons_succ, i64_w, i32_w]; rfl
                              refine Sh.py 10 53 HT_ ?_
                              refine Sh.py 11 54 HT_ ?_
                              refine done_ (done_of HT_.out (by kernel_rfl)) ?_
                              try go_wp2
                              go_ret3; exact ⟨by first | rfl | (simp [errW_none, errW_some] <;> rfl) | (simp [*, errW_none, errW_some] <;> rfl), by exact Sh.hb HB.out⟩
                          · rw [if_neg c18] at H; exact absurd H (by simp)
                        · rw [if_neg c17] at H; exact absurd H (by simp)
                      · rw [if_neg c16] at H; exact absurd H (by simp)
                  · rw [if_neg c12] at H; have c12b0 : decide ((bt a0 x9_1) < 128) = false := decide_eq_false c12; clear c12; have H' := Aside0.mk H; clear H; have p10 : 0 ≤ (x9_1 : Int) := of_decide_eq_true Sh.as; have q10 : x9_1 < (a0.size : Int) := of_decide_eq_true Sh.as; have hx10 := bt_at a0 x9_1; replace p10 := eq_true p10; replace q10 := eq_true q10; have p11 : 0 ≤ (x9_1 : Int) := of_decide_eq_true Sh.as; have q11 : x9_1 < (a0.size : Int) := of_decide_eq_true Sh.as; have hx11 := bt_at a0 x9_1; replace p11 := eq_true p11; replace q11 := eq_true q11; go_wp2
                    go_roundg kj4
                    case measure => have := HK1.out; have := HJ4.out; omega
                    case rel => exact ⟨(wrap64 (x7_1 + (wrap64 ((Int.tmod (wrap64 (bt a0 x9_1)) 128) * x8_1)))), (wrap64 (x8_1 * 128)), (wrap64 (x9_1 + 1)), (by first | rfl | (simp; done) | (simp [*]; done)), (by first | rfl | (simp; done) | (simp [*]; done)), (by first | rfl | (simp; done) | (simp [*]; done)), H', ⟨by have := HK1.out; have := HJ4.out; omega⟩, ⟨by exact Sh.hb HB.out⟩⟩
                · rw [if_neg c9] at H; exact absurd H (by simp)
              · rw [if_neg c8] at H; exact absurd H (by simp)
            · replace c7 := Bool.eq_false_iff.mpr c7; subst c7
              have H1 : (some (0, 0, false)) = some (r1, r2, r3) := by rw [if_neg (show ¬ (false = true) by decide)] at H; exact H
              clear H; have H := H1; clear H1
              simp only [Option.some.injEq, Prod.mk.injEq] at H
              obtain ⟨rfl, rfl, rfl⟩ := H; go_wp2; go_ret3; exact ⟨by first | rfl | (simp [errW_none, errW_some] <;> rfl) | (simp [*, errW_none, errW_some] <;> rfl), by exact Sh.hb HB.out⟩
  · replace c4 := Bool.eq_false_iff.mpr c4; subst c4
    have H1 : (some (0, 0, false)) = some (r1, r2, r3) := by rw [if_neg (show ¬ (false = true) by decide)] at H; exact H
    clear H; have H := H1; clear H1
    simp only [Option.some.injEq, Prod.mk.injEq] at H
    obtain ⟨rfl, rfl, rfl⟩ := H
    go_enter Try.func55, Try.ntmps55
    go_wp2_with (first | ((with_reducible refine gate_callee (f := 29) rfl ?_); refine goesL_ (some 13) rfl rfl Try.func29 (by kernel_rfl) rfl #[.int .i64 a1, .int .i64 0, .int .i64 (a0.size : Int)] rfl Sh.al ?_; (with_reducible refine (spec_l01In.calls a1 0 (a0.size : Int) false _ A3.out).mono ?_); rintro e w' ⟨rfl, ⟨nd, rfl⟩⟩; refine ⟨_, rfl, ?_⟩)); go_ret3; exact ⟨by first | rfl | (simp [errW_none, errW_some] <;> rfl) | (simp [*, errW_none, errW_some] <;> rfl), by exact Sh.hb HB.out⟩

-- NOT PRINTED: function 31 (spec_l06Var)

end Go.Proofs.Ythbdijeikfgjeaa.QFnScans
