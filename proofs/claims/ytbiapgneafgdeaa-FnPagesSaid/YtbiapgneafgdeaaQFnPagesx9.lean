/- What is proved here: contracts of functions that the law FnPages reaches, each told as a plain function. Conditions: those of each contract. (Written by a program of ours.) -/
import Derived.Test.YtbiapgneafgdeaaQFnPagesx0
import Derived.Test.YtbiapgneafgdeaaQFnPagesx1
import Derived.Test.YtbiapgneafgdeaaQFnPagesx2
import Derived.Test.YtbiapgneafgdeaaQFnPagesx3
import Derived.Test.YtbiapgneafgdeaaQFnPagesx4
import Derived.Test.YtbiapgneafgdeaaQFnPagesx5
import Derived.Test.YtbiapgneafgdeaaQFnPagesx6
import Derived.Test.YtbiapgneafgdeaaQFnPagesx7
import Derived.Test.YtbiapgneafgdeaaQFnPagesx8
namespace Go.Proofs.Ytbiapgneafgdeaa.QFnPages
open Go.RowKit Go.Proofs.YtbiapgneafgdeaaW.PrintWords Go.Proofs.YtbiapgneafgdeaaW.PrintLast Go.Proofs.YtbiapgneafgdeaaW.PrintMore
attribute [local go_sem] max2_int min2_int max_two min_two max_three min_three max_four min_four   -- for this text's walks alone
set_option linter.unusedVariables false
set_option linter.unusedSimpArgs false

/-! ### spec_l02Spoilt: function 61 -/
def spec_l02Spoilt.j0 : Nat → ByteArray → Bool → List Int → Int → Int → Option (ByteArray × Int × Int)
  | 0, _, _, _, _, _ => none
  | k + 1, x1, x23, x1000, x1001, x1002 => if x23 = true then (if (x1.size : Int) > 0 then ((spec_l01Below.f x1000 x1001 x1002 (x1.size : Int)).bind fun bt317 => (if 0 ≤ bt317.1 then (if bt317.1 ≤ (x1.size : Int) then ((spec_l01Text.f k x1000 bt317.2.1 bt317.2.2 1).bind fun bt320 => (if (x1.extract 0 (bt317.1 : Int).toNat).size + bt320.1.size ≤ 9223372036854775807 then (if 0 ≤ (wrap64 (bt317.1 + 1)) then (if (wrap64 (bt317.1 + 1)) ≤ (x1.size : Int) then (if ((x1.extract 0 (bt317.1 : Int).toNat) ++ bt320.1).size + (x1.extract ((wrap64 (bt317.1 + 1)) : Int).toNat x1.size).size ≤ 9223372036854775807 then (some (((x1.extract 0 (bt317.1 : Int).toNat) ++ bt320.1) ++ (x1.extract ((wrap64 (bt317.1 + 1)) : Int).toNat x1.size), bt320.2.1, bt320.2.2)) else (none)) else (none)) else (none)) else (none))) else (none)) else (none))) else (some (x1, x1001, x1002))) else (some (x1, x1001, x1002))
def spec_l02Spoilt.f (k : Nat) (s0_0 : List Int) (s0_1 : Int) (s0_2 : Int) (a1 : ByteArray) : Option (ByteArray × Int × Int) := (spec_l01Below.f s0_0 s0_1 s0_2 12).bind fun bt308 => (if bt308.1 = 0 then ((spec_l01Text.f k s0_0 bt308.2.1 bt308.2.2 1).bind fun bt311 => (if a1.size + bt311.1.size ≤ 9223372036854775807 then (some (a1 ++ bt311.1, bt311.2.1, bt311.2.2)) else (none))) else (if bt308.1 = 1 then ((spec_l01Below.f s0_0 bt308.2.1 bt308.2.2 (wrap64 ((a1.size : Int) + 1))).bind fun bt314 => (if 0 ≤ bt314.1 then (if bt314.1 ≤ (a1.size : Int) then (some (a1.extract 0 (bt314.1 : Int).toNat, bt314.2.1, bt314.2.2)) else (none)) else (none))) else (if bt308.1 = 2 then (spec_l02Spoilt.j0 k a1 (bt308.1 == 2) s0_0 bt308.2.1 bt308.2.2) else (spec_l02Spoilt.j0 k a1 (bt308.1 == 3) s0_0 bt308.2.1 bt308.2.2))))
theorem spec_l02Spoilt.mono_l : ∀ k, (∀ y0 y1 y2 y3 y4, LeO (spec_l02Spoilt.j0 k y0 y1 y2 y3 y4) (spec_l02Spoilt.j0 (k + 1) y0 y1 y2 y3 y4))
  | 0 => fun _ _ _ _ _ r h => by simp [spec_l02Spoilt.j0] at h
  | k + 1 => by
    have ih0 := spec_l02Spoilt.mono_l k
    · intro y0 y1 y2 y3 y4
      unfold spec_l02Spoilt.j0
      repeat' first
      | (with_reducible exact ih0 _ _ _ _ _)
      | (with_reducible exact spec_l01Text.mono _ _ _ _ _)
      | (with_reducible exact LeO.refl _)
      | (with_reducible exact LeO.none _)
      | (with_reducible refine LeO.ite ?_ ?_)
      | (with_reducible refine LeO.bind ?_ (fun _ => ?_))
      | exact ih0 _ _ _ _ _
      | exact spec_l01Text.mono _ _ _ _ _
      | exact LeO.none _
      | refine LeO.ite ?_ ?_
      | refine LeO.bind ?_ (fun _ => ?_)
theorem spec_l02Spoilt.mono : ∀ a0 a1 a2 a3 k, LeO (spec_l02Spoilt.f k a0 a1 a2 a3) (spec_l02Spoilt.f (k + 1) a0 a1 a2 a3) := by
  intro a0 a1 a2 a3 k
  have ih0 := spec_l02Spoilt.mono_l k
  unfold spec_l02Spoilt.f
  repeat' first
      | (with_reducible exact ih0 _ _ _ _ _)
      | (with_reducible exact spec_l01Text.mono _ _ _ _ _)
      | (with_reducible exact LeO.refl _)
      | (with_reducible exact LeO.none _)
      | (with_reducible refine LeO.ite ?_ ?_)
      | (with_reducible refine LeO.bind ?_ (fun _ => ?_))
      | exact ih0 _ _ _ _ _
      | exact spec_l01Text.mono _ _ _ _ _
      | exact LeO.none _
      | refine LeO.ite ?_ ?_
      | refine LeO.bind ?_ (fun _ => ?_)
def spec_l02Spoilt.T10 : Bool × List (List Nat × List Nat) := (true, [([], []), ([], []), ([0, 1], [0, 1]), ([], []), ([3], [3]), ([2, 4], [2, 4]), ([], []), ([], []), ([7], [7]), ([6, 8], [6, 8]), ([5, 9], [5, 9]), ([10, 4, 0, 1, 2, 3, 4, 5, 6, 7, 8, 9, 10], [10])])
def spec_l02Spoilt.B10 : List Nat := [0, 0, 3, 0, 8, 31, 0, 0, 128, 448, 1023, 2047]
theorem spec_l02Spoilt.tab10 : rtab .any (opsOf Try.f61 10) = spec_l02Spoilt.T10 := by kernel_rfl
theorem spec_l02Spoilt.bits10 : waitsOk spec_l02Spoilt.T10.2 spec_l02Spoilt.B10 = true := by kernel_rfl
set_option maxHeartbeats 8000000 in
set_option maxRecDepth 100000 in
theorem spec_l02Spoilt.calls (k : Nat) (g : Nat) (s0_0 : List Int) (s0_1 : Int) (s0_2 : Int) (a1 : ByteArray) (r1 : ByteArray) (r2 : Int) (r3 : Int) (w0 w : World) (hI : IsS88 w0 w g s0_0 s0_1 s0_2) (hB : Below w0.heap.size w0 w) (h : spec_l02Spoilt.f k s0_0 s0_1 s0_2 a1 = some (r1, r2, r3)) :
    Calls Try.prog 61 #[.pointer (some ⟨g, 0, none⟩), .string a1] w fun e w' => e = .returned (.string r1) ∧ IsS88 w0 w' g s0_0 r2 r3 ∧ Below w0.heap.size w0 w' ∧ KeepBut w w' g none := by
  have HI0 := Aside0.mk hI
  have HK := Aside0.mk (KeepBut.refl w g none)
  have HL := Aside0.mk hB.size
  clear hI
  have HW0 := Aside0.mk hB.size
  have HB := Aside0.mk hB
  clear hB
  have H : ((spec_l01Below.f s0_0 s0_1 s0_2 12).bind fun bt308 => (if bt308.1 = 0 then ((spec_l01Text.f k s0_0 bt308.2.1 bt308.2.2 1).bind fun bt311 => (if a1.size + bt311.1.size ≤ 9223372036854775807 then (some (a1 ++ bt311.1, bt311.2.1, bt311.2.2)) else (none))) else (if bt308.1 = 1 then ((spec_l01Below.f s0_0 bt308.2.1 bt308.2.2 (wrap64 ((a1.size : Int) + 1))).bind fun bt314 => (if 0 ≤ bt314.1 then (if bt314.1 ≤ (a1.size : Int) then (some (a1.extract 0 (bt314.1 : Int).toNat, bt314.2.1, bt314.2.2)) else (none)) else (none))) else (if bt308.1 = 2 then (spec_l02Spoilt.j0 k a1 (bt308.1 == 2) s0_0 bt308.2.1 bt308.2.2) else (spec_l02Spoilt.j0 k a1 (bt308.1 == 3) s0_0 bt308.2.1 bt308.2.2))))) = some (r1, r2, r3) := h
  clear h
  replace H := Option.bind_eq_some_iff.mp H
  obtain ⟨⟨t308, t309, t310⟩, A30, H⟩ := H
  replace H : (if t308 = 0 then ((spec_l01Text.f k s0_0 t309 t310 1).bind fun bt311 => (if a1.size + bt311.1.size ≤ 9223372036854775807 then (some (a1 ++ bt311.1, bt311.2.1, bt311.2.2)) else (none))) else (if t308 = 1 then ((spec_l01Below.f s0_0 t309 t310 (wrap64 ((a1.size : Int) + 1))).bind fun bt314 => (if 0 ≤ bt314.1 then (if bt314.1 ≤ (a1.size : Int) then (some (a1.extract 0 (bt314.1 : Int).toNat, bt314.2.1, bt314.2.2)) else (none)) else (none))) else (if t308 = 2 then (spec_l02Spoilt.j0 k a1 (t308 == 2) s0_0 t309 t310) else (spec_l02Spoilt.j0 k a1 (t308 == 3) s0_0 t309 t310)))) = some (r1, r2, r3) := H
  have A3 := Aside0.mk A30
  clear A30
  by_cases c4 : t308 = 0
  · rw [if_pos c4] at H
    have c4b0 : (t308 == 0) = true := beq_iff_eq.mpr c4
    have c4b1 : (t308 != 0) = false := bne_eq_false_iff_eq.mpr c4
    clear c4
    replace H := Option.bind_eq_some_iff.mp H
    obtain ⟨⟨t311, t312, t313⟩, A50, H⟩ := H
    replace H : (if a1.size + t311.size ≤ 9223372036854775807 then (some (a1 ++ t311, t312, t313)) else (none)) = some (r1, r2, r3) := H
    have A5 := Aside0.mk A50
    clear A50
    by_cases c6 : a1.size + t311.size ≤ 9223372036854775807
    · rw [if_pos c6] at H
      have c6b0 := eq_true c6
      have c6b1 : decide (a1.size + t311.size ≤ 9223372036854775807) = true := decide_eq_true c6
      try have c6b2 : (9223372036854775807 < a1.size + t311.size) = False := eq_false (Nat.not_lt.2 c6)
      have c6b3 := c6
      (try simp only [ByteArray.size_append] at c6b3)
      replace c6b3 := eq_false (Nat.not_lt.mpr c6b3)
      simp only [Option.some.injEq, Prod.mk.injEq] at H
      obtain ⟨rfl, rfl, rfl⟩ := H
      go_enter Try.func61, Try.ntmps61
      go_wp2_with (first | ((with_reducible refine gate_callee (f := 51) rfl ?_); refine goesL_ (some 7) rfl rfl Try.func51 (by kernel_rfl) rfl #[.pointer (some ⟨g, 0, none⟩), .int .i64 12] rfl Sh.al ?_; (with_reducible refine (spec_l01Below.calls g s0_0 s0_1 s0_2 12 t308 t309 t310 w0 _ ?side1 ?side2 A3.out).mono ?_); (case side1 => repeat (first | (with_reducible first | exact HI0.out | apply IsS88.alloc | apply IsS88.drewN | apply IsS88.drew | apply IsS88.set_1 | apply IsS88.set_2) | exact HI0.out)); (case side2 => exact Sh.hs HB.out (IsS88.ge HI0.out)); rintro e w7 ⟨rfl, hi, hb, hk⟩; refine ⟨_, rfl, ?_⟩; have n0_ := Aside0.mk (KeepBut.trans (by repeat (first | (with_reducible first | exact HK.out | apply KeepBut.set_ | apply keep_drewN | apply keep_drew | apply keep_alloc) | exact HK.out)) hk (.inl rfl)); have n1_ := Aside0.mk (hb); have n2_ := Aside0.mk (hi); clear HK; clear HB; clear HI0; have HK := n0_; have HB := n1_; have HI0 := n2_; clear n0_ n1_ n2_; (try clear hb); (try clear hb2); (try clear hk); (try clear hi)) | ((with_reducible refine gate_callee (f := 67) rfl ?_); refine goesL_ (some 12) rfl rfl Try.func67 (by kernel_rfl) rfl #[.pointer (some ⟨g, 0, none⟩), .int .i64 1] rfl Sh.al ?_; (with_reducible refine (spec_l01Text.calls k g s0_0 t309 t310 1 t311 t312 t313 w0 _ ?side1 ?side2 A5.out).mono ?_); (case side1 => repeat (first | (with_reducible first | exact HI0.out | apply IsS88.alloc | apply IsS88.drewN | apply IsS88.drew | apply IsS88.set_1 | apply IsS88.set_2) | exact HI0.out)); (case side2 => exact Sh.hs HB.out (IsS88.ge HI0.out)); rintro e w8 ⟨rfl, hi, hb, hk⟩; refine ⟨_, rfl, ?_⟩; have n0_ := Aside0.mk (KeepBut.trans (by repeat (first | (with_reducible first | exact HK.out | apply KeepBut.set_ | apply keep_drewN | apply keep_drew | apply keep_alloc) | exact HK.out)) hk (.inl rfl)); have n1_ := Aside0.mk (hb); have n2_ := Aside0.mk (hi); clear HK; clear HB; clear HI0; have HK := n0_; have HB := n1_; have HI0 := n2_; clear n0_ n1_ n2_; (try clear hb); (try clear hb2); (try clear hk); (try clear hi)))
      go_ret
      exact ⟨by first | rfl | (simp [errW_none, errW_some] <;> rfl) | (simp [*, errW_none, errW_some] <;> rfl), by repeat (first | (with_reducible first | exact HI0.out | apply IsS88.alloc | apply IsS88.drewN | apply IsS88.drew | apply IsS88.set_1 | apply IsS88.set_2) | exact HI0.out), by exact Sh.hs HB.out (IsS88.ge HI0.out), by repeat (first | (with_reducible first | exact HK.out | apply KeepBut.set_ | apply keep_drewN | apply keep_drew | apply keep_alloc) | exact HK.out)⟩
    · rw [if_neg c6] at H
      exact absurd H (by simp)
  · rw [if_neg c4] at H
    have c4b0 : (t308 == 0) = false := beq_eq_false_iff_ne.mpr c4
    have c4b1 : (t308 != 0) = true := bne_iff_ne.mpr c4
    by_cases c9 : t308 = 1
    · rw [if_pos c9] at H
      have c9b0 : (t308 == 1) = true := beq_iff_eq.mpr c9
      have c9b1 : (t308 != 1) = false := bne_eq_false_iff_eq.mpr c9
      clear c9
      replace H := Option.bind_eq_some_iff.mp H
      obtain ⟨⟨t314, t315, t316⟩, A100, H⟩ := H
      replace H : (if 0 ≤ t314 then (if t314 ≤ (a1.size : Int) then (some (a1.extract 0 (t314 : Int).toNat, t315, t316)) else (none)) else (none)) = some (r1, r2, r3) := H
      have A10 := Aside0.mk A100
      clear A100
      by_cases c11 : 0 ≤ t314
      · rw [if_pos c11] at H
        have c11b0 := eq_true c11
        have c11b1 : decide (0 ≤ t314) = true := decide_eq_true c11
        clear c11
        by_cases c12 : t314 ≤ (a1.size : Int)
        · rw [if_pos c12] at H
          have c12b0 := eq_true c12
          have c12b1 : decide (t314 ≤ (a1.size : Int)) = true := decide_eq_true c12
          clear c12
          simp only [Option.some.injEq, Prod.mk.injEq] at H
          obtain ⟨rfl, rfl, rfl⟩ := H
          go_enter Try.func61, Try.ntmps61
          go_wp2_with (first | ((with_reducible refine gate_callee (f := 51) rfl ?_); refine goesL_ (some 7) rfl rfl Try.func51 (by kernel_rfl) rfl #[.pointer (some ⟨g, 0, none⟩), .int .i64 12] rfl Sh.al ?_; (with_reducible refine (spec_l01Below.calls g s0_0 s0_1 s0_2 12 t308 t309 t310 w0 _ ?side1 ?side2 A3.out).mono ?_); (case side1 => repeat (first | (with_reducible first | exact HI0.out | apply IsS88.alloc | apply IsS88.drewN | apply IsS88.drew | apply IsS88.set_1 | apply IsS88.set_2) | exact HI0.out)); (case side2 => exact Sh.hs HB.out (IsS88.ge HI0.out)); rintro e w13 ⟨rfl, hi, hb, hk⟩; refine ⟨_, rfl, ?_⟩; have n0_ := Aside0.mk (KeepBut.trans (by repeat (first | (with_reducible first | exact HK.out | apply KeepBut.set_ | apply keep_drewN | apply keep_drew | apply keep_alloc) | exact HK.out)) hk (.inl rfl)); have n1_ := Aside0.mk (hb); have n2_ := Aside0.mk (hi); clear HK; clear HB; clear HI0; have HK := n0_; have HB := n1_; have HI0 := n2_; clear n0_ n1_ n2_; (try clear hb); (try clear hb2); (try clear hk); (try clear hi)) | ((with_reducible refine gate_callee (f := 51) rfl ?_); refine goesL_ (some 21) rfl rfl Try.func51 (by kernel_rfl) rfl #[.pointer (some ⟨g, 0, none⟩), .int .i64 (wrap64 ((a1.size : Int) + 1))] rfl Sh.al ?_; (with_reducible refine (spec_l01Below.calls g s0_0 t309 t310 (wrap64 ((a1.size : Int) + 1)) t314 t315 t316 w0 _ ?side1 ?side2 A10.out).mono ?_); (case side1 => repeat (first | (with_reducible first | exact HI0.out | apply IsS88.alloc | apply IsS88.drewN | apply IsS88.drew | apply IsS88.set_1 | apply IsS88.set_2) | exact HI0.out)); (case side2 => exact Sh.hs HB.out (IsS88.ge HI0.out)); rintro e w14 ⟨rfl, hi, hb, hk⟩; refine ⟨_, rfl, ?_⟩; have n0_ := Aside0.mk (KeepBut.trans (by repeat (first | (with_reducible first | exact HK.out | apply KeepBut.set_ | apply keep_drewN | apply keep_drew | apply keep_alloc) | exact HK.out)) hk (.inl rfl)); have n1_ := Aside0.mk (hb); have n2_ := Aside0.mk (hi); clear HK; clear HB; clear HI0; have HK := n0_; have HB := n1_; have HI0 := n2_; clear n0_ n1_ n2_; (try clear hb); (try clear hb2); (try clear hk); (try clear hi)))
          go_ret
          exact ⟨by first | rfl | (simp [errW_none, errW_some] <;> rfl) | (simp [*, errW_none, errW_some] <;> rfl), by repeat (first | (with_reducible first | exact HI0.out | apply IsS88.alloc | apply IsS88.drewN | apply IsS88.drew | apply IsS88.set_1 | apply IsS88.set_2) | exact HI0.out), by exact Sh.hs HB.out (IsS88.ge HI0.out), by repeat (first | (with_reducible first | exact HK.out | apply KeepBut.set_ | apply keep_drewN | apply keep_drew | apply keep_alloc) | exact HK.out)⟩
        · rw [if_neg c12] at H
          exact absurd H (by simp)
      · rw [if_neg c11] at H
        exact absurd H (by simp)
    · rw [if_neg c9] at H
      have c9b0 : (t308 == 1) = false := beq_eq_false_iff_ne.mpr c9
      have c9b1 : (t308 != 1) = true := bne_iff_ne.mpr c9
      have HC15 := Aside0.mk H
      clear H
      go_enter Try.func61, Try.ntmps61
      go_upto_if 23 with (first | ((with_reducible refine gate_callee (f := 51) rfl ?_); refine goesL_ (some 7) rfl rfl Try.func51 (by kernel_rfl) rfl #[.pointer (some ⟨g, 0, none⟩), .int .i64 12] rfl Sh.al ?_; (with_reducible refine (spec_l01Below.calls g s0_0 s0_1 s0_2 12 t308 t309 t310 w0 _ ?side1 ?side2 A3.out).mono ?_); (case side1 => repeat (first | (with_reducible first | exact HI0.out | apply IsS88.alloc | apply IsS88.drewN | apply IsS88.drew | apply IsS88.set_1 | apply IsS88.set_2) | exact HI0.out)); (case side2 => exact Sh.hs HB.out (IsS88.ge HI0.out)); rintro e w16 ⟨rfl, hi, hb, hk⟩; refine ⟨_, rfl, ?_⟩; have n0_ := Aside0.mk (KeepBut.trans (by repeat (first | (with_reducible first | exact HK.out | apply KeepBut.set_ | apply keep_drewN | apply keep_drew | apply keep_alloc) | exact HK.out)) hk (.inl rfl)); have n1_ := Aside0.mk (hb); have n2_ := Aside0.mk (hi); clear HK; clear HB; clear HI0; have HK := n0_; have HB := n1_; have HI0 := n2_; clear n0_ n1_ n2_; (try clear hb); (try clear hb2); (try clear hk); (try clear hi)))
      (try simp only [Act.put, List.setIfInBounds_toArray, List.set_cons_zero, List.set_cons_succ])
      go_cut [23] (fun v23 wc => ∃ (kq : Nat) (x23_14 : Bool), v23 = .bool x23_14 ∧ Aside0 (spec_l02Spoilt.j0 kq a1 x23_14 s0_0 t309 t310 = some (r1, r2, r3)) ∧ Aside0 (kq ≤ k) ∧ Aside0 (IsS88 w0 wc g s0_0 t309 t310) ∧ Aside0 (KeepBut w wc g none) ∧ Aside0 (Below w0.heap.size w0 wc))
      case first =>
        have H := HC15.out
        clear HC15
        by_cases c17 : t308 = 2
        · rw [if_pos c17] at H
          have c17b0 : (t308 == 2) = true := beq_iff_eq.mpr c17
          have c17b1 : (t308 != 2) = false := bne_eq_false_iff_eq.mpr c17
          clear c17
          (first | rw [c17b0] | (simp only [i64_w, i32_w]; rw [c17b0]) | skip)
          have H' := Aside0.mk H
          clear H
          go_wp2
          go_meet
          case rel => exact ⟨_, ((t308 == 2)), (by first | rfl | (simp; done) | (simp [*]; done)), H', ⟨by first | omega | exact Nat.le_refl _⟩, ⟨by repeat (first | (with_reducible first | exact HI0.out | apply IsS88.alloc | apply IsS88.drewN | apply IsS88.drew | apply IsS88.set_1 | apply IsS88.set_2) | exact HI0.out)⟩, ⟨by repeat (first | (with_reducible first | exact HK.out | apply KeepBut.set_ | apply keep_drewN | apply keep_drew | apply keep_alloc) | exact HK.out)⟩, ⟨by exact Sh.hs HB.out (IsS88.ge HI0.out)⟩⟩
        · rw [if_neg c17] at H
          have c17b0 : (t308 == 2) = false := beq_eq_false_iff_ne.mpr c17
          have c17b1 : (t308 != 2) = true := bne_iff_ne.mpr c17
          (first | rw [c17b0] | (simp only [i64_w, i32_w]; rw [c17b0]) | skip)
          have H' := Aside0.mk H
          clear H
          go_wp2
          go_meet
          case rel => exact ⟨_, ((t308 == 3)), (by first | rfl | (simp; done) | (simp [*]; done)), H', ⟨by first | omega | exact Nat.le_refl _⟩, ⟨by repeat (first | (with_reducible first | exact HI0.out | apply IsS88.alloc | apply IsS88.drewN | apply IsS88.drew | apply IsS88.set_1 | apply IsS88.set_2) | exact HI0.out)⟩, ⟨by repeat (first | (with_reducible first | exact HK.out | apply KeepBut.set_ | apply keep_drewN | apply keep_drew | apply keep_alloc) | exact HK.out)⟩, ⟨by exact Sh.hs HB.out (IsS88.ge HI0.out)⟩⟩
      case rest =>
        clear HC15
        try clear c1
        try clear p2
        try clear c4
        try clear c4b0
        try clear c4b1
        try clear c5
        try clear c6
        try clear c6b0
        try clear c6b1
        try clear c6b2
        try clear p6
        try clear c9
        try clear c9b0
        try clear c9b1
        try clear c11
        try clear c11b0
        try clear c11b1
        try clear c12
        try clear c12b0
        try clear c12b1
        try clear c17
        try clear c17b0
        try clear c17b1
        obtain ⟨kq, x23_14, rfl, HA, HJ14, HI0, HK, HB⟩ := hcut
        cases kq with
        | zero => exact absurd HA.out (by simp [spec_l02Spoilt.j0])
        | succ kj14 =>
          have H := HA.out
          clear HA
          simp only [spec_l02Spoilt.j0] at H
          by_cases c18 : x23_14 = true
          · subst c18
            have H1 : (if (a1.size : Int) > 0 then ((spec_l01Below.f s0_0 t309 t310 (a1.size : Int)).bind fun bt317 => (if 0 ≤ bt317.1 then (if bt317.1 ≤ (a1.size : Int) then ((spec_l01Text.f kj14 s0_0 bt317.2.1 bt317.2.2 1).bind fun bt320 => (if (a1.extract 0 (bt317.1 : Int).toNat).size + bt320.1.size ≤ 9223372036854775807 then (if 0 ≤ (wrap64 (bt317.1 + 1)) then (if (wrap64 (bt317.1 + 1)) ≤ (a1.size : Int) then (if ((a1.extract 0 (bt317.1 : Int).toNat) ++ bt320.1).size + (a1.extract ((wrap64 (bt317.1 + 1)) : Int).toNat a1.size).size ≤ 9223372036854775807 then (some (((a1.extract 0 (bt317.1 : Int).toNat) ++ bt320.1) ++ (a1.extract ((wrap64 (bt317.1 + 1)) : Int).toNat a1.size), bt320.2.1, bt320.2.2)) else (none)) else (none)) else (none)) else (none))) else (none)) else (none))) else (some (a1, t309, t310))) = some (r1, r2, r3) := by rw [if_pos rfl] at H; exact H
            clear H
            have H := H1
            clear H1
            by_cases c19 : (a1.size : Int) > 0
            · rw [if_pos c19] at H
              have c19b0 : decide (0 < (a1.size : Int)) = true := decide_eq_true c19
              have c19b1 : decide (0 < a1.size) = true := decide_eq_true (by omega)
              clear c19
              replace H := Option.bind_eq_some_iff.mp H
              obtain ⟨⟨t317, t318, t319⟩, A200, H⟩ := H
              replace H : (if 0 ≤ t317 then (if t317 ≤ (a1.size : Int) then ((spec_l01Text.f kj14 s0_0 t318 t319 1).bind fun bt320 => (if (a1.extract 0 (t317 : Int).toNat).size + bt320.1.size ≤ 9223372036854775807 then (if 0 ≤ (wrap64 (t317 + 1)) then (if (wrap64 (t317 + 1)) ≤ (a1.size : Int) then (if ((a1.extract 0 (t317 : Int).toNat) ++ bt320.1).size + (a1.extract ((wrap64 (t317 + 1)) : Int).toNat a1.size).size ≤ 9223372036854775807 then (some (((a1.extract 0 (t317 : Int).toNat) ++ bt320.1) ++ (a1.extract ((wrap64 (t317 + 1)) : Int).toNat a1.size), bt320.2.1, bt320.2.2)) else (none)) else (none)) else (none)) else (none))) else (none)) else (none)) = some (r1, r2, r3) := H
              have A20 := Aside0.mk A200
              clear A200
              by_cases c21 : 0 ≤ t317
              · rw [if_pos c21] at H
                have c21b0 := eq_true c21
                have c21b1 : decide (0 ≤ t317) = true := decide_eq_true c21
                clear c21
                by_cases c22 : t317 ≤ (a1.size : Int)
                · rw [if_pos c22] at H
                  have c22b0 := eq_true c22
                  have c22b1 : decide (t317 ≤ (a1.size : Int)) = true := decide_eq_true c22
                  clear c22
                  replace H := Option.bind_eq_some_iff.mp H
                  obtain ⟨⟨t320, t321, t322⟩, A230, H⟩ := H
                  replace H : (if (a1.extract 0 (t317 : Int).toNat).size + t320.size ≤ 9223372036854775807 then (if 0 ≤ (wrap64 (t317 + 1)) then (if (wrap64 (t317 + 1)) ≤ (a1.size : Int) then (if ((a1.extract 0 (t317 : Int).toNat) ++ t320).size + (a1.extract ((wrap64 (t317 + 1)) : Int).toNat a1.size).size ≤ 9223372036854775807 then (some (((a1.extract 0 (t317 : Int).toNat) ++ t320) ++ (a1.extract ((wrap64 (t317 + 1)) : Int).toNat a1.size), t321, t322)) else (none)) else (none)) else (none)) else (none)) = some (r1, r2, r3) := H
                  have A23 := Aside0.mk A230
                  clear A230
                  by_cases c24 : (a1.extract 0 (t317 : Int).toNat).size + t320.size ≤ 9223372036854775807
                  · rw [if_pos c24] at H
                    have c24b0 := eq_true c24
                    have c24b1 : decide ((a1.extract 0 (t317 : Int).toNat).size + t320.size ≤ 9223372036854775807) = true := decide_eq_true c24
                    try have c24b2 : (9223372036854775807 < (a1.extract 0 (t317 : Int).toNat).size + t320.size) = False := eq_false (Nat.not_lt.2 c24)
                    have c24b3 := c24
                    (try simp only [ByteArray.size_append] at c24b3)
                    replace c24b3 := eq_false (Nat.not_lt.mpr c24b3)
                    try have c24b5 : (9223372036854775807 < t317.toNat + t320.size) = False := eq_false (Nat.not_lt.mpr (by have h_ := c24; simp only [ByteArray.size_append, ByteArray.size_extract] at h_; (try have hqc6b0_ := of_eq_true c6b0); (try have hqc11b0_ := of_eq_true c11b0); (try have hqc12b0_ := of_eq_true c12b0); (try have hqc21b0_ := of_eq_true c21b0); (try have hqc22b0_ := of_eq_true c22b0); (try have hqc24b0_ := of_eq_true c24b0); omega))
                    obtain ⟨ji25, hji25⟩ : ∃ j_ : Int, (wrap64 (t317 + 1)) = j_ := ⟨_, rfl⟩
                    replace H : (if 0 ≤ (ji25) then (if (ji25) ≤ (a1.size : Int) then (if ((a1.extract 0 (t317 : Int).toNat) ++ t320).size + (a1.extract ((ji25) : Int).toNat a1.size).size ≤ 9223372036854775807 then (some (((a1.extract 0 (t317 : Int).toNat) ++ t320) ++ (a1.extract ((ji25) : Int).toNat a1.size), t321, t322)) else (none)) else (none)) else (none)) = some (r1, r2, r3) := by first | (rw [hji25] at H; exact H) | (simp only [hji25] at H ⊢; exact H)
                    (try rw [hji25] at A20)
                    (try rw [hji25] at A23)
                    have hji25w : (IntKind.i64.wrap (t317 + 1)) = ji25 := (i64_w _).trans hji25
                    by_cases c26 : 0 ≤ (ji25)
                    · rw [if_pos c26] at H
                      have c26b0 := eq_true c26
                      have c26b1 : decide (0 ≤ (ji25)) = true := decide_eq_true c26
                      clear c26
                      by_cases c27 : (ji25) ≤ (a1.size : Int)
                      · rw [if_pos c27] at H
                        have c27b0 := eq_true c27
                        have c27b1 : decide ((ji25) ≤ (a1.size : Int)) = true := decide_eq_true c27
                        clear c27
                        by_cases c28 : ((a1.extract 0 (t317 : Int).toNat) ++ t320).size + (a1.extract ((ji25) : Int).toNat a1.size).size ≤ 9223372036854775807
                        · rw [if_pos c28] at H
                          have c28b0 := eq_true c28
                          have c28b1 : decide (((a1.extract 0 (t317 : Int).toNat) ++ t320).size + (a1.extract ((ji25) : Int).toNat a1.size).size ≤ 9223372036854775807) = true := decide_eq_true c28
                          try have c28b2 : (9223372036854775807 < ((a1.extract 0 (t317 : Int).toNat) ++ t320).size + (a1.extract ((ji25) : Int).toNat a1.size).size) = False := eq_false (Nat.not_lt.2 c28)
                          have c28b3 := c28
                          (try simp only [ByteArray.size_append] at c28b3)
                          replace c28b3 := eq_false (Nat.not_lt.mpr c28b3)
                          try have c28b5 : (9223372036854775807 < t317.toNat + t320.size + (a1.size - ji25.toNat)) = False := eq_false (Nat.not_lt.mpr (by have h_ := c28; simp only [ByteArray.size_append, ByteArray.size_extract] at h_; (try have hqc6b0_ := of_eq_true c6b0); (try have hqc11b0_ := of_eq_true c11b0); (try have hqc12b0_ := of_eq_true c12b0); (try have hqc21b0_ := of_eq_true c21b0); (try have hqc22b0_ := of_eq_true c22b0); (try have hqc24b0_ := of_eq_true c24b0); (try have hqc26b0_ := of_eq_true c26b0); (try have hqc27b0_ := of_eq_true c27b0); (try have hqc28b0_ := of_eq_true c28b0); omega))
                          simp only [Option.some.injEq, Prod.mk.injEq] at H
                          obtain ⟨rfl, rfl, rfl⟩ := H
                          try go_wp2_with (first | ((with_reducible refine gate_callee (f := 51) rfl ?_); refine goesL_ (some 32) rfl rfl Try.func51 (by kernel_rfl) rfl #[.pointer (some ⟨g, 0, none⟩), .int .i64 (a1.size : Int)] rfl Sh.al ?_; (with_reducible refine (spec_l01Below.calls g s0_0 t309 t310 (a1.size : Int) t317 t318 t319 w0 _ ?side1 ?side2 A20.out).mono ?_); (case side1 => repeat (first | (with_reducible first | exact HI0.out | apply IsS88.alloc | apply IsS88.drewN | apply IsS88.drew | apply IsS88.set_1 | apply IsS88.set_2) | exact HI0.out)); (case side2 => exact Sh.hs HB.out (IsS88.ge HI0.out)); rintro e w29 ⟨rfl, hi, hb, hk⟩; refine ⟨_, rfl, ?_⟩; have n0_ := Aside0.mk (KeepBut.trans (by repeat (first | (with_reducible first | exact HK.out | apply KeepBut.set_ | apply keep_drewN | apply keep_drew | apply keep_alloc) | exact HK.out)) hk (.inl rfl)); have n1_ := Aside0.mk (hb); have n2_ := Aside0.mk (hi); clear HK; clear HB; clear HI0; have HK := n0_; have HB := n1_; have HI0 := n2_; clear n0_ n1_ n2_; (try clear hb); (try clear hb2); (try clear hk); (try clear hi)))
                          have n0_ := Aside0.mk (IsS88.drew HI0.out)
                          have n1_ := Aside0.mk (keep_drew HK.out)
                          have n2_ := Aside0.mk (below_drew1 HB.out)
                          clear HI0
                          clear HK
                          clear HB
                          have HI0 := n0_
                          have HK := n1_
                          have HB := n2_
                          clear n0_ n1_ n2_
                          refine start_ (n := 12) (S := fun w' => True) (ds := []) #[false, false, false, false, false, false, false, false, false, false, false, false] (by kernel_rfl) rfl rfl trivial (fun hHeld => ?_); refine with_tabW spec_l02Spoilt.tab10 spec_l02Spoilt.bits10 (fun HT_ HW_ => ?_)
                          generalize w29.drew = w30 at HI0 HK HB hHeld ⊢
                          refine Sh.py 0 33 HT_ ?_
                          refine Sh.py 1 34 HT_ ?_
                          refine Sh.py 2 35 HT_ ?_
                          refine Sh.py 3 36 HT_ ?_
                          refine Sh.py 6 39 HT_ ?_
                          refine Sh.py 7 40 HT_ ?_
                          refine Sh.py 8 41 HT_ ?_
                          refine Sh.py 9 42 HT_ ?_
                          refine one_ (i := 4) (N := some 37) #[true, true, true, true, true, false, true, true, true, true, false, false] rfl rfl (one_of HT_.out (by kernel_rfl)) (by decide) (fun K hK => ?_)
                          refine goes_ Try.func67 (by kernel_rfl) rfl #[.pointer (some ⟨g, 0, none⟩), .int .i64 1] (by rfl) rfl rfl Sh.al ?_
                          with_reducible refine (spec_l01Text.calls kj14 g s0_0 t318 t319 1 t320 t321 t322 w0 _ ?side1 ?side2 A23.out).mono ?_
                          (case side1 => repeat (first | (with_reducible first | exact HI0.out | apply IsS88.alloc | apply IsS88.drewN | apply IsS88.drew | apply IsS88.set_1 | apply IsS88.set_2) | exact HI0.out))
                          (case side2 => exact Sh.hs HB.out (IsS88.ge HI0.out))
                          rintro e w31 ⟨rfl, hi, hb, hk⟩
                          refine ⟨_, rfl, ?_⟩
                          have n0_ := Aside0.mk (KeepBut.trans (by repeat (first | (with_reducible first | exact HK.out | apply KeepBut.set_ | apply keep_drewN | apply keep_drew | apply keep_alloc) | exact HK.out)) hk (.inl rfl))
                          have n1_ := Aside0.mk (hb)
                          have n2_ := Aside0.mk (hi)
                          clear HK
                          clear HB
                          clear HI0
                          have HK := n0_
                          have HB := n1_
                          have HI0 := n2_
                          clear n0_ n1_ n2_
                          (try clear hb)
                          (try clear hb2)
                          (try clear hk)
                          (try clear hi)
                          refine hK.out _ _ trivial (fun hHeld => ?_)
                          clear hK K
                          refine norm_ (a' := ?_) ?_ ?_
                          rotate_left
                          · show Act.put _ (some 37) _ = _
                            simp only [Act.put, List.setIfInBounds_toArray, List.set_cons_zero, List.set_cons_succ, i64_w, i32_w]
                            rfl
                          refine Sh.py 5 38 HT_ ?_
                          refine Sh.py 10 43 HT_ ?_
                          refine Sh.py 11 4 HT_ ?_
                          refine done_ (done_of HT_.out (by kernel_rfl)) ?_
                          try go_wp2
                          go_ret
                          exact ⟨by first | rfl | (simp [errW_none, errW_some] <;> rfl) | (simp only [← hji25]; first | rfl | (simp [errW_none, errW_some] <;> rfl)) | (simp [*, errW_none, errW_some] <;> rfl), by repeat (first | (with_reducible first | exact HI0.out | apply IsS88.alloc | apply IsS88.drewN | apply IsS88.drew | apply IsS88.set_1 | apply IsS88.set_2) | exact HI0.out), by exact Sh.hs HB.out (IsS88.ge HI0.out), by repeat (first | (with_reducible first | exact HK.out | apply KeepBut.set_ | apply keep_drewN | apply keep_drew | apply keep_alloc) | exact HK.out)⟩
                        · rw [if_neg c28] at H
                          exact absurd H (by simp)
                      · rw [if_neg c27] at H
                        exact absurd H (by simp)
                    · rw [if_neg c26] at H
                      exact absurd H (by simp)
                  · rw [if_neg c24] at H
                    exact absurd H (by simp)
                · rw [if_neg c22] at H
                  exact absurd H (by simp)
              · rw [if_neg c21] at H
                exact absurd H (by simp)
            · rw [if_neg c19] at H
              have c19b0 : decide (0 < (a1.size : Int)) = false := decide_eq_false c19
              have c19b1 : decide (0 < a1.size) = false := decide_eq_false (by omega)
              clear c19
              simp only [Option.some.injEq, Prod.mk.injEq] at H
              obtain ⟨rfl, rfl, rfl⟩ := H
              go_wp2
              go_ret
              exact ⟨by first | rfl | (simp [errW_none, errW_some] <;> rfl) | (simp [*, errW_none, errW_some] <;> rfl), by repeat (first | (with_reducible first | exact HI0.out | apply IsS88.alloc | apply IsS88.drewN | apply IsS88.drew | apply IsS88.set_1 | apply IsS88.set_2) | exact HI0.out), by exact Sh.hs HB.out (IsS88.ge HI0.out), by repeat (first | (with_reducible first | exact HK.out | apply KeepBut.set_ | apply keep_drewN | apply keep_drew | apply keep_alloc) | exact HK.out)⟩
          · replace c18 := Bool.eq_false_iff.mpr c18
            subst c18
            have H1 : (some (a1, t309, t310)) = some (r1, r2, r3) := by rw [if_neg (show ¬ (false = true) by decide)] at H; exact H
            clear H
            have H := H1
            clear H1
            simp only [Option.some.injEq, Prod.mk.injEq] at H
            obtain ⟨rfl, rfl, rfl⟩ := H
            go_wp2
            go_ret
            exact ⟨by first | rfl | (simp [errW_none, errW_some] <;> rfl) | (simp [*, errW_none, errW_some] <;> rfl), by repeat (first | (with_reducible first | exact HI0.out | apply IsS88.alloc | apply IsS88.drewN | apply IsS88.drew | apply IsS88.set_1 | apply IsS88.set_2) | exact HI0.out), by exact Sh.hs HB.out (IsS88.ge HI0.out), by repeat (first | (with_reducible first | exact HK.out | apply KeepBut.set_ | apply keep_drewN | apply keep_drew | apply keep_alloc) | exact HK.out)⟩

/-! ### spec_DrawReadPage: function 33 -/
def spec_DrawReadPage.f (k : Nat) (l0 : List Int) : Option (ByteArray) := (spec_l01New.f k l0).bind fun bt323 => ((spec_l06Any.f k bt323.1 bt323.2.1 bt323.2.2).bind fun bt327 => ((spec_PageText.f k bt327.1 bt327.2.1 bt327.2.2.1 bt327.2.2.2.1 bt327.2.2.2.2.1 bt327.2.2.2.2.2.1).bind fun bt335 => ((spec_l01Once.f bt323.1 bt327.2.2.2.2.2.2.1 bt327.2.2.2.2.2.2.2 3).bind fun bt337 => (if bt337.1 = true then ((spec_Unsealed.f k bt335.1).bind fun bt340 => (if bt340.2 = true then ((spec_l02Spoilt.f k bt323.1 bt337.2.1 bt337.2.2 bt340.1).bind fun bt342 => ((spec_Sealed.f k bt342.1).bind fun bt345 => (some bt345.1))) else (some bt335.1))) else ((spec_l02Spoilt.f k bt323.1 bt337.2.1 bt337.2.2 bt335.1).bind fun bt347 => (some bt347.1))))))
theorem spec_DrawReadPage.mono : ∀ a0 k, LeO (spec_DrawReadPage.f k a0) (spec_DrawReadPage.f (k + 1) a0) := by
  intro a0 k
  unfold spec_DrawReadPage.f
  repeat' first
      | (with_reducible exact spec_PageText.mono _ _ _ _ _ _ _)
      | (with_reducible exact spec_Sealed.mono _ _)
      | (with_reducible exact spec_Unsealed.mono _ _)
      | (with_reducible exact spec_l01New.mono _ _)
      | (with_reducible exact spec_l02Spoilt.mono _ _ _ _ _)
      | (with_reducible exact spec_l06Any.mono _ _ _ _)
      | (with_reducible exact LeO.refl _)
      | (with_reducible exact LeO.none _)
      | (with_reducible refine LeO.ite ?_ ?_)
      | (with_reducible refine LeO.bind ?_ (fun _ => ?_))
      | exact spec_PageText.mono _ _ _ _ _ _ _
      | exact spec_Sealed.mono _ _
      | exact spec_Unsealed.mono _ _
      | exact spec_l01New.mono _ _
      | exact spec_l02Spoilt.mono _ _ _ _ _
      | exact spec_l06Any.mono _ _ _ _
      | exact LeO.none _
      | refine LeO.ite ?_ ?_
      | refine LeO.bind ?_ (fun _ => ?_)
set_option maxHeartbeats 8000000 in
set_option maxRecDepth 100000 in
theorem spec_DrawReadPage.calls (k : Nat) (A0 : Option Addr) (c0 : Nat) (l0 : List Int) (r : ByteArray) (w : World) (hr0 : Kd.C (Kd.int .u8) w A0 l0.length l0) (hc0 : l0.length ≤ c0) (h : spec_DrawReadPage.f k l0 = some r) :
    Calls Try.prog 33 #[.slice A0 l0.length c0] w fun e w' => e = .returned (.string r) ∧ Below w.heap.size w w' := by
  have HR0 := Aside0.mk hr0
  have HC0 := Aside0.mk hc0
  clear hr0 hc0
  have HB := Aside0.mk (Below.refl w.heap.size w)
  have H : ((spec_l01New.f k l0).bind fun bt323 => ((spec_l06Any.f k bt323.1 bt323.2.1 bt323.2.2).bind fun bt327 => ((spec_PageText.f k bt327.1 bt327.2.1 bt327.2.2.1 bt327.2.2.2.1 bt327.2.2.2.2.1 bt327.2.2.2.2.2.1).bind fun bt335 => ((spec_l01Once.f bt323.1 bt327.2.2.2.2.2.2.1 bt327.2.2.2.2.2.2.2 3).bind fun bt337 => (if bt337.1 = true then ((spec_Unsealed.f k bt335.1).bind fun bt340 => (if bt340.2 = true then ((spec_l02Spoilt.f k bt323.1 bt337.2.1 bt337.2.2 bt340.1).bind fun bt342 => ((spec_Sealed.f k bt342.1).bind fun bt345 => (some bt345.1))) else (some bt335.1))) else ((spec_l02Spoilt.f k bt323.1 bt337.2.1 bt337.2.2 bt335.1).bind fun bt347 => (some bt347.1))))))) = some r := h
  clear h
  replace H := Option.bind_eq_some_iff.mp H
  obtain ⟨⟨t323, t324, t325⟩, A20, H⟩ := H
  replace H : ((spec_l06Any.f k t323 t324 t325).bind fun bt327 => ((spec_PageText.f k bt327.1 bt327.2.1 bt327.2.2.1 bt327.2.2.2.1 bt327.2.2.2.2.1 bt327.2.2.2.2.2.1).bind fun bt335 => ((spec_l01Once.f t323 bt327.2.2.2.2.2.2.1 bt327.2.2.2.2.2.2.2 3).bind fun bt337 => (if bt337.1 = true then ((spec_Unsealed.f k bt335.1).bind fun bt340 => (if bt340.2 = true then ((spec_l02Spoilt.f k t323 bt337.2.1 bt337.2.2 bt340.1).bind fun bt342 => ((spec_Sealed.f k bt342.1).bind fun bt345 => (some bt345.1))) else (some bt335.1))) else ((spec_l02Spoilt.f k t323 bt337.2.1 bt337.2.2 bt335.1).bind fun bt347 => (some bt347.1)))))) = some r := H
  have A2 := Aside0.mk A20
  clear A20
  replace H := Option.bind_eq_some_iff.mp H
  obtain ⟨⟨t327, t328, t329, t330, t331, t332, t333, t334⟩, A30, H⟩ := H
  replace H : ((spec_PageText.f k t327 t328 t329 t330 t331 t332).bind fun bt335 => ((spec_l01Once.f t323 t333 t334 3).bind fun bt337 => (if bt337.1 = true then ((spec_Unsealed.f k bt335.1).bind fun bt340 => (if bt340.2 = true then ((spec_l02Spoilt.f k t323 bt337.2.1 bt337.2.2 bt340.1).bind fun bt342 => ((spec_Sealed.f k bt342.1).bind fun bt345 => (some bt345.1))) else (some bt335.1))) else ((spec_l02Spoilt.f k t323 bt337.2.1 bt337.2.2 bt335.1).bind fun bt347 => (some bt347.1))))) = some r := H
  have A3 := Aside0.mk A30
  clear A30
  replace H := Option.bind_eq_some_iff.mp H
  obtain ⟨⟨t335, t336⟩, A40, H⟩ := H
  replace H : ((spec_l01Once.f t323 t333 t334 3).bind fun bt337 => (if bt337.1 = true then ((spec_Unsealed.f k t335).bind fun bt340 => (if bt340.2 = true then ((spec_l02Spoilt.f k t323 bt337.2.1 bt337.2.2 bt340.1).bind fun bt342 => ((spec_Sealed.f k bt342.1).bind fun bt345 => (some bt345.1))) else (some t335))) else ((spec_l02Spoilt.f k t323 bt337.2.1 bt337.2.2 t335).bind fun bt347 => (some bt347.1)))) = some r := H
  have A4 := Aside0.mk A40
  clear A40
  replace H := Option.bind_eq_some_iff.mp H
  obtain ⟨⟨t337, t338, t339⟩, A50, H⟩ := H
  replace H : (if t337 = true then ((spec_Unsealed.f k t335).bind fun bt340 => (if bt340.2 = true then ((spec_l02Spoilt.f k t323 t338 t339 bt340.1).bind fun bt342 => ((spec_Sealed.f k bt342.1).bind fun bt345 => (some bt345.1))) else (some t335))) else ((spec_l02Spoilt.f k t323 t338 t339 t335).bind fun bt347 => (some bt347.1))) = some r := H
  have A5 := Aside0.mk A50
  clear A50
  by_cases c6 : t337 = true
  · subst c6
    have H1 : ((spec_Unsealed.f k t335).bind fun bt340 => (if bt340.2 = true then ((spec_l02Spoilt.f k t323 t338 t339 bt340.1).bind fun bt342 => ((spec_Sealed.f k bt342.1).bind fun bt345 => (some bt345.1))) else (some t335))) = some r := by rw [if_pos rfl] at H; exact H
    clear H
    have H := H1
    clear H1
    replace H := Option.bind_eq_some_iff.mp H
    obtain ⟨⟨t340, t341⟩, A70, H⟩ := H
    replace H : (if t341 = true then ((spec_l02Spoilt.f k t323 t338 t339 t340).bind fun bt342 => ((spec_Sealed.f k bt342.1).bind fun bt345 => (some bt345.1))) else (some t335)) = some r := H
    have A7 := Aside0.mk A70
    clear A70
    by_cases c8 : t341 = true
    · subst c8
      have H1 : ((spec_l02Spoilt.f k t323 t338 t339 t340).bind fun bt342 => ((spec_Sealed.f k bt342.1).bind fun bt345 => (some bt345.1))) = some r := by rw [if_pos rfl] at H; exact H
      clear H
      have H := H1
      clear H1
      replace H := Option.bind_eq_some_iff.mp H
      obtain ⟨⟨t342, t343, t344⟩, A90, H⟩ := H
      replace H : ((spec_Sealed.f k t342).bind fun bt345 => (some bt345.1)) = some r := H
      have A9 := Aside0.mk A90
      clear A90
      replace H := Option.bind_eq_some_iff.mp H
      obtain ⟨⟨t345, t346⟩, A100, H⟩ := H
      replace H : (some t345) = some r := H
      have A10 := Aside0.mk A100
      clear A100
      obtain rfl := Option.some.inj H
      go_enter Try.func33, Try.ntmps33
      go_wp2_with (first | ((with_reducible refine gate_callee (f := 43) rfl ?_); refine goesL_ (some 9) rfl rfl Try.func43 (by kernel_rfl) rfl #[.slice A0 l0.length c0] rfl Sh.al ?_; (with_reducible refine (spec_l01New.calls k _ _ l0 t323 t324 t325 w _ ?side1 ?side2 ?side3 A2.out).mono ?_); (case side1 => exact Sh.hb HB.out); (case side2 => exact HR0.out); (case side3 => exact HC0.out); rintro e w11 ⟨g326, rfl, hi, hb, hb2⟩; refine ⟨_, rfl, ?_⟩; have n0_ := Aside0.mk (hb); have n1_ := Aside0.mk (hi); clear HB; have HB := n0_; have HI326 := n1_; clear n0_ n1_; (try clear hb); (try clear hb2); (try clear hk); (try clear hi)) | ((with_reducible refine gate_callee (f := 57) rfl ?_); refine goesL_ (some 12) rfl rfl Try.func57 (by kernel_rfl) rfl #[.pointer (some ⟨g326, 0, none⟩)] rfl Sh.al ?_; (with_reducible refine (spec_l06Any.calls k g326 t323 t324 t325 t327 t328 t329 t330 t331 t332 t333 t334 w _ ?side1 ?side2 A3.out).mono ?_); (case side1 => repeat (first | (with_reducible first | exact HI326.out | apply IsS88.alloc | apply IsS88.drewN | apply IsS88.drew | apply IsS88.set_1 | apply IsS88.set_2) | exact HI326.out)); (case side2 => exact Sh.hs HB.out (IsS88.ge HI326.out)); rintro e w12 ⟨rfl, hi, hb, hk⟩; refine ⟨_, rfl, ?_⟩; have n0_ := Aside0.mk (hb); have n1_ := Aside0.mk (hi); clear HB; clear HI326; have HB := n0_; have HI326 := n1_; clear n0_ n1_; (try clear hb); (try clear hb2); (try clear hk); (try clear hi)) | ((with_reducible refine gate_callee (f := 54) rfl ?_); refine goesL_ (some 13) rfl rfl Try.func54 (by kernel_rfl) rfl #[.agg #[.int .i64 t327, .int .i64 t328, .int .i64 t329, .int .i64 t330, .int .i64 t331, .string t332]] rfl Sh.al ?_; (with_reducible refine (spec_PageText.calls k t327 t328 t329 t330 t331 t332 t335 t336 _ A4.out).mono ?_); rintro e w13 ⟨rfl, hb⟩; refine ⟨_, rfl, ?_⟩; have n0_ := Aside0.mk (IsS88.below (by repeat (first | (with_reducible first | exact HI326.out | apply IsS88.alloc | apply IsS88.drewN | apply IsS88.drew | apply IsS88.set_1 | apply IsS88.set_2) | exact HI326.out)) hb); have n1_ := Aside0.mk (below_step (Sh.hs HB.out (IsS88.ge HI326.out)) hb); clear HI326; clear HB; have HI326 := n0_; have HB := n1_; clear n0_ n1_; (try clear hb); (try clear hb2); (try clear hk); (try clear hi)) | ((with_reducible refine gate_callee (f := 45) rfl ?_); refine goesL_ (some 17) rfl rfl Try.func45 (by kernel_rfl) rfl #[.pointer (some ⟨g326, 0, none⟩), .int .i64 3] rfl Sh.al ?_; (with_reducible refine (spec_l01Once.calls g326 t323 t333 t334 3 true t338 t339 w _ ?side1 ?side2 A5.out).mono ?_); (case side1 => repeat (first | (with_reducible first | exact HI326.out | apply IsS88.alloc | apply IsS88.drewN | apply IsS88.drew | apply IsS88.set_1 | apply IsS88.set_2) | exact HI326.out)); (case side2 => exact Sh.hs HB.out (IsS88.ge HI326.out)); rintro e w14 ⟨rfl, hi, hb, hk⟩; refine ⟨_, rfl, ?_⟩; have n0_ := Aside0.mk (hb); have n1_ := Aside0.mk (hi); clear HB; clear HI326; have HB := n0_; have HI326 := n1_; clear n0_ n1_; (try clear hb); (try clear hb2); (try clear hk); (try clear hi)) | ((with_reducible refine gate_callee (f := 52) rfl ?_); refine goesL_ (some 20) rfl rfl Try.func52 (by kernel_rfl) rfl #[.string t335] rfl Sh.al ?_; (with_reducible refine (spec_Unsealed.calls k t335 t340 true _ A7.out).mono ?_); rintro e w15 ⟨rfl, hb⟩; refine ⟨_, rfl, ?_⟩; have n0_ := Aside0.mk (IsS88.below (by repeat (first | (with_reducible first | exact HI326.out | apply IsS88.alloc | apply IsS88.drewN | apply IsS88.drew | apply IsS88.set_1 | apply IsS88.set_2) | exact HI326.out)) hb); have n1_ := Aside0.mk (below_step (Sh.hs HB.out (IsS88.ge HI326.out)) hb); clear HI326; clear HB; have HI326 := n0_; have HB := n1_; clear n0_ n1_; (try clear hb); (try clear hb2); (try clear hk); (try clear hi)) | ((with_reducible refine gate_callee (f := 61) rfl ?_); refine goesL_ (some 27) rfl rfl Try.func61 (by kernel_rfl) rfl #[.pointer (some ⟨g326, 0, none⟩), .string t340] rfl Sh.al ?_; (with_reducible refine (spec_l02Spoilt.calls k g326 t323 t338 t339 t340 t342 t343 t344 w _ ?side1 ?side2 A9.out).mono ?_); (case side1 => repeat (first | (with_reducible first | exact HI326.out | apply IsS88.alloc | apply IsS88.drewN | apply IsS88.drew | apply IsS88.set_1 | apply IsS88.set_2) | exact HI326.out)); (case side2 => exact Sh.hs HB.out (IsS88.ge HI326.out)); rintro e w16 ⟨rfl, hi, hb, hk⟩; refine ⟨_, rfl, ?_⟩; have n0_ := Aside0.mk (hb); have n1_ := Aside0.mk (hi); clear HB; clear HI326; have HB := n0_; have HI326 := n1_; clear n0_ n1_; (try clear hb); (try clear hb2); (try clear hk); (try clear hi)) | ((with_reducible refine gate_callee (f := 60) rfl ?_); refine goesL_ (some 28) rfl rfl Try.func60 (by kernel_rfl) rfl #[.string t342] rfl Sh.al ?_; (with_reducible refine (spec_Sealed.calls k t342 t345 t346 _ A10.out).mono ?_); rintro e w17 ⟨rfl, hb⟩; refine ⟨_, rfl, ?_⟩; have n0_ := Aside0.mk (IsS88.below (by repeat (first | (with_reducible first | exact HI326.out | apply IsS88.alloc | apply IsS88.drewN | apply IsS88.drew | apply IsS88.set_1 | apply IsS88.set_2) | exact HI326.out)) hb); have n1_ := Aside0.mk (below_step (Sh.hs HB.out (IsS88.ge HI326.out)) hb); clear HI326; clear HB; have HI326 := n0_; have HB := n1_; clear n0_ n1_; (try clear hb); (try clear hb2); (try clear hk); (try clear hi)))
      go_ret
      exact ⟨by first | rfl | (simp [errW_none, errW_some] <;> rfl) | (simp [*, errW_none, errW_some] <;> rfl), by exact Sh.hs HB.out (IsS88.ge HI326.out)⟩
    · replace c8 := Bool.eq_false_iff.mpr c8
      subst c8
      have H1 : (some t335) = some r := by rw [if_neg (show ¬ (false = true) by decide)] at H; exact H
      clear H
      have H := H1
      clear H1
      obtain rfl := Option.some.inj H
      go_enter Try.func33, Try.ntmps33
      go_wp2_with (first | ((with_reducible refine gate_callee (f := 43) rfl ?_); refine goesL_ (some 9) rfl rfl Try.func43 (by kernel_rfl) rfl #[.slice A0 l0.length c0] rfl Sh.al ?_; (with_reducible refine (spec_l01New.calls k _ _ l0 t323 t324 t325 w _ ?side1 ?side2 ?side3 A2.out).mono ?_); (case side1 => exact Sh.hb HB.out); (case side2 => exact HR0.out); (case side3 => exact HC0.out); rintro e w18 ⟨g326, rfl, hi, hb, hb2⟩; refine ⟨_, rfl, ?_⟩; have n0_ := Aside0.mk (hb); have n1_ := Aside0.mk (hi); clear HB; have HB := n0_; have HI326 := n1_; clear n0_ n1_; (try clear hb); (try clear hb2); (try clear hk); (try clear hi)) | ((with_reducible refine gate_callee (f := 57) rfl ?_); refine goesL_ (some 12) rfl rfl Try.func57 (by kernel_rfl) rfl #[.pointer (some ⟨g326, 0, none⟩)] rfl Sh.al ?_; (with_reducible refine (spec_l06Any.calls k g326 t323 t324 t325 t327 t328 t329 t330 t331 t332 t333 t334 w _ ?side1 ?side2 A3.out).mono ?_); (case side1 => repeat (first | (with_reducible first | exact HI326.out | apply IsS88.alloc | apply IsS88.drewN | apply IsS88.drew | apply IsS88.set_1 | apply IsS88.set_2) | exact HI326.out)); (case side2 => exact Sh.hs HB.out (IsS88.ge HI326.out)); rintro e w19 ⟨rfl, hi, hb, hk⟩; refine ⟨_, rfl, ?_⟩; have n0_ := Aside0.mk (hb); have n1_ := Aside0.mk (hi); clear HB; clear HI326; have HB := n0_; have HI326 := n1_; clear n0_ n1_; (try clear hb); (try clear hb2); (try clear hk); (try clear hi)) | ((with_reducible refine gate_callee (f := 54) rfl ?_); refine goesL_ (some 13) rfl rfl Try.func54 (by kernel_rfl) rfl #[.agg #[.int .i64 t327, .int .i64 t328, .int .i64 t329, .int .i64 t330, .int .i64 t331, .string t332]] rfl Sh.al ?_; (with_reducible refine (spec_PageText.calls k t327 t328 t329 t330 t331 t332 t335 t336 _ A4.out).mono ?_); rintro e w20 ⟨rfl, hb⟩; refine ⟨_, rfl, ?_⟩; have n0_ := Aside0.mk (IsS88.below (by repeat (first | (with_reducible first | exact HI326.out | apply IsS88.alloc | apply IsS88.drewN | apply IsS88.drew | apply IsS88.set_1 | apply IsS88.set_2) | exact HI326.out)) hb); have n1_ := Aside0.mk (below_step (Sh.hs HB.out (IsS88.ge HI326.out)) hb); clear HI326; clear HB; have HI326 := n0_; have HB := n1_; clear n0_ n1_; (try clear hb); (try clear hb2); (try clear hk); (try clear hi)) | ((with_reducible refine gate_callee (f := 45) rfl ?_); refine goesL_ (some 17) rfl rfl Try.func45 (by kernel_rfl) rfl #[.pointer (some ⟨g326, 0, none⟩), .int .i64 3] rfl Sh.al ?_; (with_reducible refine (spec_l01Once.calls g326 t323 t333 t334 3 true t338 t339 w _ ?side1 ?side2 A5.out).mono ?_); (case side1 => repeat (first | (with_reducible first | exact HI326.out | apply IsS88.alloc | apply IsS88.drewN | apply IsS88.drew | apply IsS88.set_1 | apply IsS88.set_2) | exact HI326.out)); (case side2 => exact Sh.hs HB.out (IsS88.ge HI326.out)); rintro e w21 ⟨rfl, hi, hb, hk⟩; refine ⟨_, rfl, ?_⟩; have n0_ := Aside0.mk (hb); have n1_ := Aside0.mk (hi); clear HB; clear HI326; have HB := n0_; have HI326 := n1_; clear n0_ n1_; (try clear hb); (try clear hb2); (try clear hk); (try clear hi)) | ((with_reducible refine gate_callee (f := 52) rfl ?_); refine goesL_ (some 20) rfl rfl Try.func52 (by kernel_rfl) rfl #[.string t335] rfl Sh.al ?_; (with_reducible refine (spec_Unsealed.calls k t335 t340 false _ A7.out).mono ?_); rintro e w22 ⟨rfl, hb⟩; refine ⟨_, rfl, ?_⟩; have n0_ := Aside0.mk (IsS88.below (by repeat (first | (with_reducible first | exact HI326.out | apply IsS88.alloc | apply IsS88.drewN | apply IsS88.drew | apply IsS88.set_1 | apply IsS88.set_2) | exact HI326.out)) hb); have n1_ := Aside0.mk (below_step (Sh.hs HB.out (IsS88.ge HI326.out)) hb); clear HI326; clear HB; have HI326 := n0_; have HB := n1_; clear n0_ n1_; (try clear hb); (try clear hb2); (try clear hk); (try clear hi)))
      go_ret
      exact ⟨by first | rfl | (simp [errW_none, errW_some] <;> rfl) | (simp [*, errW_none, errW_some] <;> rfl), by exact Sh.hs HB.out (IsS88.ge HI326.out)⟩
  · replace c6 := Bool.eq_false_iff.mpr c6
    subst c6
    have H1 : ((spec_l02Spoilt.f k t323 t338 t339 t335).bind fun bt347 => (some bt347.1)) = some r := by rw [if_neg (show ¬ (false = true) by decide)] at H; exact H
    clear H
    have H := H1
    clear H1
    replace H := Option.bind_eq_some_iff.mp H
    obtain ⟨⟨t347, t348, t349⟩, A230, H⟩ := H
    replace H : (some t347) = some r := H
    have A23 := Aside0.mk A230
    clear A230
    obtain rfl := Option.some.inj H
    go_enter Try.func33, Try.ntmps33
    go_wp2_with (first | ((with_reducible refine gate_callee (f := 43) rfl ?_); refine goesL_ (some 9) rfl rfl Try.func43 (by kernel_rfl) rfl #[.slice A0 l0.length c0] rfl Sh.al ?_; (with_reducible refine (spec_l01New.calls k _ _ l0 t323 t324 t325 w _ ?side1 ?side2 ?side3 A2.out).mono ?_); (case side1 => exact Sh.hb HB.out); (case side2 => exact HR0.out); (case side3 => exact HC0.out); rintro e w24 ⟨g326, rfl, hi, hb, hb2⟩; refine ⟨_, rfl, ?_⟩; have n0_ := Aside0.mk (hb); have n1_ := Aside0.mk (hi); clear HB; have HB := n0_; have HI326 := n1_; clear n0_ n1_; (try clear hb); (try clear hb2); (try clear hk); (try clear hi)) | ((with_reducible refine gate_callee (f := 57) rfl ?_); refine goesL_ (some 12) rfl rfl Try.func57 (by kernel_rfl) rfl #[.pointer (some ⟨g326, 0, none⟩)] rfl Sh.al ?_; (with_reducible refine (spec_l06Any.calls k g326 t323 t324 t325 t327 t328 t329 t330 t331 t332 t333 t334 w _ ?side1 ?side2 A3.out).mono ?_); (case side1 => repeat (first | (with_reducible first | exact HI326.out | apply IsS88.alloc | apply IsS88.drewN | apply IsS88.drew | apply IsS88.set_1 | apply IsS88.set_2) | exact HI326.out)); (case side2 => exact Sh.hs HB.out (IsS88.ge HI326.out)); rintro e w25 ⟨rfl, hi, hb, hk⟩; refine ⟨_, rfl, ?_⟩; have n0_ := Aside0.mk (hb); have n1_ := Aside0.mk (hi); clear HB; clear HI326; have HB := n0_; have HI326 := n1_; clear n0_ n1_; (try clear hb); (try clear hb2); (try clear hk); (try clear hi)) | ((with_reducible refine gate_callee (f := 54) rfl ?_); refine goesL_ (some 13) rfl rfl Try.func54 (by kernel_rfl) rfl #[.agg #[.int .i64 t327, .int .i64 t328, .int .i64 t329, .int .i64 t330, .int .i64 t331, .string t332]] rfl Sh.al ?_; (with_reducible refine (spec_PageText.calls k t327 t328 t329 t330 t331 t332 t335 t336 _ A4.out).mono ?_); rintro e w26 ⟨rfl, hb⟩; refine ⟨_, rfl, ?_⟩; have n0_ := Aside0.mk (IsS88.below (by repeat (first | (with_reducible first | exact HI326.out | apply IsS88.alloc | apply IsS88.drewN | apply IsS88.drew | apply IsS88.set_1 | apply IsS88.set_2) | exact HI326.out)) hb); have n1_ := Aside0.mk (below_step (Sh.hs HB.out (IsS88.ge HI326.out)) hb); clear HI326; clear HB; have HI326 := n0_; have HB := n1_; clear n0_ n1_; (try clear hb); (try clear hb2); (try clear hk); (try clear hi)) | ((with_reducible refine gate_callee (f := 45) rfl ?_); refine goesL_ (some 17) rfl rfl Try.func45 (by kernel_rfl) rfl #[.pointer (some ⟨g326, 0, none⟩), .int .i64 3] rfl Sh.al ?_; (with_reducible refine (spec_l01Once.calls g326 t323 t333 t334 3 false t338 t339 w _ ?side1 ?side2 A5.out).mono ?_); (case side1 => repeat (first | (with_reducible first | exact HI326.out | apply IsS88.alloc | apply IsS88.drewN | apply IsS88.drew | apply IsS88.set_1 | apply IsS88.set_2) | exact HI326.out)); (case side2 => exact Sh.hs HB.out (IsS88.ge HI326.out)); rintro e w27 ⟨rfl, hi, hb, hk⟩; refine ⟨_, rfl, ?_⟩; have n0_ := Aside0.mk (hb); have n1_ := Aside0.mk (hi); clear HB; clear HI326; have HB := n0_; have HI326 := n1_; clear n0_ n1_; (try clear hb); (try clear hb2); (try clear hk); (try clear hi)) | ((with_reducible refine gate_callee (f := 61) rfl ?_); refine goesL_ (some 34) rfl rfl Try.func61 (by kernel_rfl) rfl #[.pointer (some ⟨g326, 0, none⟩), .string t335] rfl Sh.al ?_; (with_reducible refine (spec_l02Spoilt.calls k g326 t323 t338 t339 t335 t347 t348 t349 w _ ?side1 ?side2 A23.out).mono ?_); (case side1 => repeat (first | (with_reducible first | exact HI326.out | apply IsS88.alloc | apply IsS88.drewN | apply IsS88.drew | apply IsS88.set_1 | apply IsS88.set_2) | exact HI326.out)); (case side2 => exact Sh.hs HB.out (IsS88.ge HI326.out)); rintro e w28 ⟨rfl, hi, hb, hk⟩; refine ⟨_, rfl, ?_⟩; have n0_ := Aside0.mk (hb); have n1_ := Aside0.mk (hi); clear HB; clear HI326; have HB := n0_; have HI326 := n1_; clear n0_ n1_; (try clear hb); (try clear hb2); (try clear hk); (try clear hi)))
    go_ret
    exact ⟨by first | rfl | (simp [errW_none, errW_some] <;> rfl) | (simp [*, errW_none, errW_some] <;> rfl), by exact Sh.hs HB.out (IsS88.ge HI326.out)⟩

/-! ### laws_turned: function 34 -/
def laws_turned.f (a0 : ByteArray) (l1 : List Int) : Option (ByteArray) := if a0.size < 140737488355328 then ((some (bytesOf a0 : List Int)).bind fun y351 => (if (y351.length : Int) = 0 then (some (⟨#[120]⟩ : ByteArray)) else (if 0 < (l1.length : Int) then (if 0 ≤ (Int.tmod (rd l1 0) (y351.length : Int)) then (if (Int.tmod (rd l1 0) (y351.length : Int)) < (y351.length : Int) then (if 1 < (l1.length : Int) then (some (strOfNums (y351.set ((Int.tmod (rd l1 0) (y351.length : Int)) : Int).toNat (Go.bits .xor .u8 (rd y351 (Int.tmod (rd l1 0) (y351.length : Int))) ((wrap64 (1 + (Int.tmod (rd l1 1) 255))) % 256))))) else (none)) else (none)) else (none)) else (none)))) else (none)
def laws_turned.T5 : Bool × List (List Nat × List Nat) := (true, [([], []), ([], []), ([], []), ([], []), ([2, 3], [2, 3]), ([4], [4]), ([], []), ([6], [6]), ([7], [7]), ([8], [8]), ([9], [9]), ([10], [10]), ([5, 11], [5, 11]), ([0, 1, 0, 1, 2, 3, 4, 5, 6, 7, 8, 9, 10, 11, 12], [0, 1]), ([13, 12, 0, 1, 2, 3, 4, 5, 6, 7, 8, 9, 10, 11, 12], [12, 13])])
def laws_turned.B5 : List Nat := [0, 0, 0, 0, 12, 28, 0, 64, 192, 448, 960, 1984, 4092, 8191, 16383]
theorem laws_turned.tab5 : rtab .any (opsOf Try.f34 5) = laws_turned.T5 := by kernel_rfl
theorem laws_turned.bits5 : waitsOk laws_turned.T5.2 laws_turned.B5 = true := by kernel_rfl
set_option maxHeartbeats 8000000 in
set_option maxRecDepth 100000 in
theorem laws_turned.calls (a0 : ByteArray) (A1 : Option Addr) (c1 : Nat) (l1 : List Int) (r : ByteArray) (w : World) (hr1 : Kd.C (Kd.int .i64) w A1 l1.length l1) (hc1 : l1.length ≤ c1) (h : laws_turned.f a0 l1 = some r) :
    Calls Try.prog 34 #[.string a0, .slice A1 l1.length c1] w fun e w' => e = .returned (.string r) ∧ Below w.heap.size w w' := by
  have HR1 := Aside0.mk hr1
  have HC1 := Aside0.mk hc1
  clear hr1 hc1
  have HB := Aside0.mk (Below.refl w.heap.size w)
  have H : (if a0.size < 140737488355328 then ((some (bytesOf a0 : List Int)).bind fun y351 => (if (y351.length : Int) = 0 then (some (⟨#[120]⟩ : ByteArray)) else (if 0 < (l1.length : Int) then (if 0 ≤ (Int.tmod (rd l1 0) (y351.length : Int)) then (if (Int.tmod (rd l1 0) (y351.length : Int)) < (y351.length : Int) then (if 1 < (l1.length : Int) then (some (strOfNums (y351.set ((Int.tmod (rd l1 0) (y351.length : Int)) : Int).toNat (Go.bits .xor .u8 (rd y351 (Int.tmod (rd l1 0) (y351.length : Int))) ((wrap64 (1 + (Int.tmod (rd l1 1) 255))) % 256))))) else (none)) else (none)) else (none)) else (none)))) else (none)) = some r := h
  clear h
  by_cases c3 : a0.size < 140737488355328
  · rw [if_pos c3] at H
    have LMc3 := Aside0.mk c3
    clear c3
    obtain ⟨y351, hy351⟩ : ∃ y_ : List Int, y_ = (bytesOf a0) := ⟨_, rfl⟩
    replace H : (if (y351.length : Int) = 0 then (some (⟨#[120]⟩ : ByteArray)) else (if 0 < (l1.length : Int) then (if 0 ≤ (Int.tmod (rd l1 0) (y351.length : Int)) then (if (Int.tmod (rd l1 0) (y351.length : Int)) < (y351.length : Int) then (if 1 < (l1.length : Int) then (some (strOfNums (y351.set ((Int.tmod (rd l1 0) (y351.length : Int)) : Int).toNat (Go.bits .xor .u8 (rd y351 (Int.tmod (rd l1 0) (y351.length : Int))) ((wrap64 (1 + (Int.tmod (rd l1 1) 255))) % 256))))) else (none)) else (none)) else (none)) else (none))) = some r := by first | (rw [hy351]; with_reducible exact H) | (have H2_ := (Option.bind_some _ _).symm.trans H; rw [hy351]; with_reducible exact H2_) | (have H2_ := (Option.bind_some _ _).symm.trans H; with_reducible exact H2_) | with_reducible exact H | (rw [hy351]; exact H) | exact H
    have Ny351 := Aside0.mk hy351
    clear hy351
    by_cases c4 : (y351.length : Int) = 0
    · rw [if_pos c4] at H
      have c4b0 : ((y351.length : Int) == 0) = true := beq_iff_eq.mpr c4
      have c4b1 : ((y351.length : Int) != 0) = false := bne_eq_false_iff_eq.mpr c4
      clear c4
      obtain rfl := Option.some.inj H
      go_enter Try.func34, Try.ntmps34
      go_wp2_with (first | ((with_reducible refine gate_dst (N := 8) rfl ?_); refine Go.Proofs.Ytbiapgneafgdeaa.Add.RB_conv ?hg (N := 8) ?hd 9 34 5 (.tmp 7) rfl Try.underlying9 Try.underlying34 Try.underlying5 a0 rfl (show Aside0 (a0.size < 140737488355328) from by first | (with_reducible assumption) | assumption).out ?_; (case hd => rfl); (case hg => rfl); intro v352 w5 ho6 hb hg_ hnew_; clear hg_ hnew_; (first | rw [← Ny351.out] at ho6 | (simp only [Int.reduceToNat] at ho6; rw [← Ny351.out] at ho6)); have n0_ := Aside0.mk (Go.Proofs.Ytbiapgneafgdeaa.Add.RB_lower ho6 (below_size (Sh.hb HB.out))); have n1_ := Aside0.mk (below_step (Sh.hb HB.out) hb); clear HB; have HO353 := n0_; have HB := n1_; clear n0_ n1_; clear hb ho6; obtain ⟨Ao7, co7, eo7⟩ := Go.Proofs.Ytbiapgneafgdeaa.Add.RB_slice HO353.out; subst eo7))
      go_ret
      exact ⟨by first | rfl | (simp [errW_none, errW_some] <;> rfl) | (simp [*, errW_none, errW_some] <;> rfl), by exact Sh.hb HB.out⟩
    · rw [if_neg c4] at H
      have c4b0 : ((y351.length : Int) == 0) = false := beq_eq_false_iff_ne.mpr c4
      have c4b1 : ((y351.length : Int) != 0) = true := bne_iff_ne.mpr c4
      have c4b2 : ¬ (y351 = []) := fun h_ => c4 (by rw [h_]; rfl)
      by_cases c8 : 0 < (l1.length : Int)
      · rw [if_pos c8] at H
        have c8b0 : decide (0 < (l1.length : Int)) = true := decide_eq_true c8
        have c8b1 : decide (0 < l1.length) = true := decide_eq_true (by omega)
        clear c8
        obtain ⟨ji9, hji9⟩ : ∃ j_ : Int, (Int.tmod (rd l1 0) (y351.length : Int)) = j_ := ⟨_, rfl⟩
        replace H : (if 0 ≤ (ji9) then (if (ji9) < (y351.length : Int) then (if 1 < (l1.length : Int) then (some (strOfNums (y351.set ((ji9) : Int).toNat (Go.bits .xor .u8 (rd y351 (ji9)) ((wrap64 (1 + (Int.tmod (rd l1 1) 255))) % 256))))) else (none)) else (none)) else (none)) = some r := by first | (rw [hji9] at H; exact H) | (simp only [hji9] at H ⊢; exact H)
        by_cases c10 : 0 ≤ (ji9)
        · rw [if_pos c10] at H
          have c10b0 : decide (0 ≤ (ji9)) = true := decide_eq_true c10
          clear c10
          by_cases c11 : (ji9) < (y351.length : Int)
          · rw [if_pos c11] at H
            have c11b0 : decide ((ji9) < (y351.length : Int)) = true := decide_eq_true c11
            clear c11
            by_cases c12 : 1 < (l1.length : Int)
            · rw [if_pos c12] at H
              have c12b0 : decide (1 < (l1.length : Int)) = true := decide_eq_true c12
              have c12b1 : decide (1 < l1.length) = true := decide_eq_true (by omega)
              clear c12
              obtain ⟨y357, hy357⟩ : ∃ y_ : List Int, y_ = (y351.set ((ji9) : Int).toNat (Go.bits .xor .u8 (rd y351 (ji9)) ((wrap64 (1 + (Int.tmod (rd l1 1) 255))) % 256))) := ⟨_, rfl⟩
              replace H : (some (strOfNums y357)) = some r := by first | (rw [hy357]; with_reducible exact H) | (have H2_ := (Option.bind_some _ _).symm.trans H; rw [hy357]; with_reducible exact H2_) | (have H2_ := (Option.bind_some _ _).symm.trans H; with_reducible exact H2_) | with_reducible exact H | (rw [hy357]; exact H) | exact H
              have Ny357 := Aside0.mk hy357
              clear hy357
              obtain rfl := Option.some.inj H
              go_enter Try.func34, Try.ntmps34
              try go_wp2_with (first | ((with_reducible refine gate_dst (N := 8) rfl ?_); refine Go.Proofs.Ytbiapgneafgdeaa.Add.RB_conv ?hg (N := 8) ?hd 9 34 5 (.tmp 7) rfl Try.underlying9 Try.underlying34 Try.underlying5 a0 rfl (show Aside0 (a0.size < 140737488355328) from by first | (with_reducible assumption) | assumption).out ?_; (case hd => rfl); (case hg => rfl); intro v352 w14 ho15 hb hg_ hnew_; clear hg_ hnew_; (first | rw [← Ny351.out] at ho15 | (simp only [Int.reduceToNat] at ho15; rw [← Ny351.out] at ho15)); have n0_ := Aside0.mk (Go.Proofs.Ytbiapgneafgdeaa.Add.RB_lower ho15 (below_size (Sh.hb HB.out))); have n1_ := Aside0.mk (below_step (Sh.hb HB.out) hb); clear HB; have HO353 := n0_; have HB := n1_; clear n0_ n1_; clear hb ho15; obtain ⟨Ao16, co16, eo16⟩ := Go.Proofs.Ytbiapgneafgdeaa.Add.RB_slice HO353.out; subst eo16; have p354 : 0 ≤ (0 : Int) := (by omega); have q354 : 0 < (l1.length : Int) := of_decide_eq_true (by first | (with_reducible assumption) | assumption); obtain ⟨ad354, e354, hx354_0⟩ := Kd.at_int HR1.out 0 p354 q354; cases e354; have qi354 : (0 < l1.length) = True := eq_true (by omega); (try rw [show ((0 : Int)).toNat = 0 from rfl] at hx354_0); (try rw [Addr.add_zero'] at hx354_0); replace hx354_0 := (HB.out.cell (World.block_lt_of_cell? w _ hx354_0)).trans hx354_0; replace p354 := eq_true p354; replace q354 := eq_true q354))
              have n0_ := Aside0.mk (Go.Proofs.Ytbiapgneafgdeaa.Add.RB_drew HO353.out)
              have n1_ := Aside0.mk (below_drew1 HB.out)
              clear HO353
              clear HB
              have HO353 := n0_
              have HB := n1_
              clear n0_ n1_
              have p355 : 0 ≤ ((ji9) : Int) := of_decide_eq_true (by first | (with_reducible assumption) | assumption)
              have q355 : (ji9) < (y351.length : Int) := of_decide_eq_true (by first | (with_reducible assumption) | assumption)
              obtain ⟨ad355, e355, hx355_0⟩ := Kd.at_int (Go.Proofs.Ytbiapgneafgdeaa.Add.RB_reads' HO353.out).2.2 (ji9) p355 q355
              cases e355
              replace p355 := eq_true p355
              replace q355 := eq_true q355
              have p356 : 0 ≤ (1 : Int) := (by omega)
              have q356 : 1 < (l1.length : Int) := of_decide_eq_true (by first | (with_reducible assumption) | assumption)
              obtain ⟨ad356, e356, hx356_0⟩ := Kd.at_int HR1.out 1 p356 q356
              have hw356_0 := hx356_0
              (try rw [show ((1 : Int)).toNat = 1 from rfl] at hw356_0)
              (try rw [show 1 * 1 = 1 from rfl] at hw356_0)
              (try simp only [Nat.reduceMul, Nat.reduceEqDiff, Go.Addr.add, ↓reduceIte] at hw356_0)
              obtain rfl : ad354 = ad356 := (by injection e356)
              (try simp only [show (1 : Int).toNat = 1 from rfl, Nat.reduceMul, Nat.reduceEqDiff, Go.Addr.add, ↓reduceIte] at hx356_0)
              have qi356 : (1 < l1.length) = True := eq_true (by omega)
              (try rw [show ((1 : Int)).toNat = 1 from rfl] at hx356_0)
              replace hx356_0 := (HB.out.cell (World.block_lt_of_cell? w _ hx356_0)).trans hx356_0
              replace p356 := eq_true p356
              replace q356 := eq_true q356
              have p13 : 0 ≤ ((ji9) : Int) := of_decide_eq_true (by first | (with_reducible assumption) | assumption)
              have q13 : ((ji9) : Int) < ((y351.length : Int) : Int) := of_decide_eq_true (by first | (with_reducible assumption) | assumption)
              obtain ⟨go13, co13, eo13, gb13, gl13, cl13, HG13⟩ := Go.Proofs.Ytbiapgneafgdeaa.Add.RB_form HO353.out (by omega)
              (first | cases eo13 | (injection eo13 with ea_ en_ ec_; (first | subst ea_ | (injection ea_ with ea_; subst ea_)); subst ec_; clear en_))
              have GB13 := Aside0.mk gb13
              have GG13 := Aside0.mk HG13
              clear gb13 gl13 HG13
              (first | simp only [add_plain] at hx355_0 | skip)
              obtain ⟨hx13_0, hf13_0⟩ := Go.Proofs.Ytbiapgneafgdeaa.Add.RB_celln 0 HO353.out ((ji9) : Int) p13 q13
              replace p13 := eq_true p13
              replace q13 := eq_true q13
              have HP18 := Go.Proofs.Ytbiapgneafgdeaa.Add.RB_putn HO353.out ((ji9) : Int) (Go.bits .xor .u8 (rd y351 (ji9)) ((wrap64 (1 + (Int.tmod (rd l1 1) 255))) % 256))
              rw [← Ny357.out] at HP18
              have HQ18 := Aside0.mk HP18
              clear HP18
              refine start_ (n := 15) (S := fun w' => w'.cell? ⟨go13, ((ji9)).toNat, none⟩ = some (.int .u8 (rd y351 (ji9))) ∧ w'.cell? ⟨ad354.block, ad354.off + 1, none⟩ = some (.int .i64 (rd l1 1))) (ds := [14]) #[false, false, false, false, false, false, false, false, false, false, false, false, false, false, false] (by kernel_rfl) rfl rfl ⟨hx355_0, ((HB.out.cell (World.block_lt_of_cell? w _ hw356_0)).trans hw356_0)⟩ (fun hHeld => ?_); refine with_tabW laws_turned.tab5 laws_turned.bits5 (fun HT_ HW_ => ?_)
              generalize w14.drew = w17 at HO353 HB GG13 HQ18 hf13_0 hx13_0 hx355_0 hx356_0 hHeld ⊢
              refine Sh.py 0 18 HT_ ?_
              refine Sh.py 1 19 HT_ ?_
              refine Sh.py 2 20 HT_ ?_
              refine Sh.py 3 21 HT_ ?_
              refine Sh.py 4 22 HT_ ?_
              refine Sh.py 6 24 HT_ ?_
              refine Sh.py 7 25 HT_ ?_
              refine Sh.ty 5 23 HT_ HW_ hHeld ?_ (hv := by rintro w' ⟨s0, s1⟩; go_simp; with_reducible rfl)
              refine Sh.ty 8 26 HT_ HW_ hHeld ?_ (hv := by rintro w' ⟨s0, s1⟩; go_simp; with_reducible rfl)
              refine Sh.py 9 27 HT_ ?_
              refine Sh.py 10 28 HT_ ?_
              refine Sh.py 11 29 HT_ ?_
              refine Sh.py 12 30 HT_ ?_
              refine Sh.py 13 31 HT_ ?_
              refine last_ (i := 14) (N := none) #[true, true, true, true, true, true, true, true, true, true, true, true, true, true, true] rfl rfl (one_of HT_.out (by kernel_rfl)) (by decide) (fun K hK => ?_)
              refine skip_ (w1 := ?_) (by rfl) rfl ?_ ?_
              rotate_left
              · go_simp
                rfl
              refine hK.out _ _ ?_
              clear hK K
              refine done_ (done_of HT_.out (by kernel_rfl)) ?_
              have hcv19 := Go.Proofs.Ytbiapgneafgdeaa.Add.RB_string (P := Try.prog) Try.underlying34 Try.underlying5 Try.underlying9 HQ18.out
              try go_wp2
              go_ret
              exact ⟨by first | rfl | (simp [errW_none, errW_some] <;> rfl) | (simp only [← hji9]; first | rfl | (simp [errW_none, errW_some] <;> rfl)) | (simp [*, errW_none, errW_some] <;> rfl), by exact Sh.hs HB.out GB13.out⟩
            · rw [if_neg c12] at H
              exact absurd H (by simp)
          · rw [if_neg c11] at H
            exact absurd H (by simp)
        · rw [if_neg c10] at H
          exact absurd H (by simp)
      · rw [if_neg c8] at H
        exact absurd H (by simp)
  · rw [if_neg c3] at H
    exact absurd H (by simp)

/-! ### laws_FnPages: function 9 -/
open Go.Proofs.Ytbiapgneafgdeaa.Rp
set_option maxHeartbeats 8000000 in
set_option maxRecDepth 1000000 in
theorem laws_FnPages.big_ (k : Nat) (A0 : Option Addr) (c0 : Nat) (l0 : List Int) (w : World) (hr0 : Kd.C (Kd.int .u8) w A0 l0.length l0) (hc0 : l0.length ≤ c0) (hbg : laws_big.f l0 = some true) :
    Calls Try.prog 9 #[.slice A0 l0.length c0] w fun e w' => e = .returned (.bool true) ∧ Below w.heap.size w w' := by
  have hu44 := Try.underlying44
  have HI : Aside0 ((Try.prog.info? 44).map (·.size) = some 6) := ⟨by kernel_rfl⟩
  have HB := Aside0.mk (Below.refl w.heap.size w)
  have HR := Aside0.mk hr0
  have HC := Aside0.mk hc0
  have HBG := Aside0.mk hbg
  clear hr0 hc0 hbg
  go_enter Try.func9, Try.ntmps9
  go_wp2_with (first | ((with_reducible refine gate_callee (f := 19) rfl ?_); (with_reducible refine gate_dst (N := 18) rfl ?_); refine goesL_ (some 18) rfl rfl Try.func19 (by kernel_rfl) rfl #[.slice A0 l0.length c0] rfl (by (try simp only [List.map_toArray, List.map_cons, List.map_nil]); first | done | rfl) ?_; (with_reducible refine (laws_big.calls A0 c0 l0 true _ (Kd.C_below HR.out HB.out) HC.out HBG.out).mono ?_); rintro e w2 ⟨rfl, ⟨nd, rfl⟩⟩; refine ⟨_, rfl, ?_⟩; have hb := pw_below_drewN (Below.refl w.heap.size w) nd; have HB_2 := Aside0.mk (below_step HB.out hb); clear hb HB))
  go_ret
  exact ⟨rfl, HB_2.out⟩
set_option maxHeartbeats 8000000 in
set_option maxRecDepth 1000000 in
theorem laws_FnPages.walk_ (k : Nat) (A0 : Option Addr) (c0 : Nat) (l0 : List Int) (p1 p2 p3 p4 p5 x1 x2 x3 x4 x5 y1 y2 y3 y4 y5 z1 z2 z3 z4 z5 v1 v2 v3 v4 v5 : Int) (p6 x6 y6 z6 v6 s t u again : ByteArray) (ok right may fine bent : Bool) (pl : List Int) (w : World) (hr0 : Kd.C (Kd.int .u8) w A0 l0.length l0) (hc0 : l0.length ≤ c0)
    (hbg : laws_big.f l0 = some false)
    (hdp : spec_DrawPageText.f k l0 = some (p1, p2, p3, p4, p5, p6))
    (hpt : impl_PageText.f k p1 p2 p3 p4 p5 p6 = some (s, ok))
    (hrx : impl_ReadPage.f k s = some (x1, x2, x3, x4, x5, x6, right))
    (hso : spec_PageOk.f p1 p2 p3 p4 p5 p6 = some ok)
    (hio : impl_PageOk.f p1 p2 p3 p4 p5 p6 = some ok)
    (hdr : spec_DrawReadPage.f k l0 = some t)
    (hry : impl_ReadPage.f k t = some (y1, y2, y3, y4, y5, y6, may))
    (hrz : spec_ReadPage.f k t = some (z1, z2, z3, z4, z5, z6, may))
    (hag : impl_PageText.f k y1 y2 y3 y4 y5 y6 = some (again, fine))
    (hpl : spec_DrawPlaces.f k l0 = some pl)
    (htu : laws_turned.f s pl = some u)
    (hru : impl_ReadPage.f k u = some (v1, v2, v3, v4, v5, v6, bent))
    (hx : ok = true → right = true ∧ x1 = p1 ∧ x2 = p2 ∧ x3 = p3 ∧ x4 = p4 ∧ x5 = p5 ∧ x6 = p6) (hy : may = true → again = t) (hv : ok = true → bent = false) :
    Calls Try.prog 9 #[.slice A0 l0.length c0] w fun e w' => e = .returned (.bool true) ∧ Below w.heap.size w w' := by
  have hu44 := Try.underlying44
  have HI : Aside0 ((Try.prog.info? 44).map (·.size) = some 6) := ⟨by kernel_rfl⟩
  have HB := Aside0.mk (Below.refl w.heap.size w)
  have HR := Aside0.mk hr0
  have HC := Aside0.mk hc0
  have HBG := Aside0.mk hbg
  have HDP := Aside0.mk hdp
  have HPT := Aside0.mk hpt
  have HRX := Aside0.mk hrx
  have HSO := Aside0.mk hso
  have HIO := Aside0.mk hio
  have HDR := Aside0.mk hdr
  have HRY := Aside0.mk hry
  have HRZ := Aside0.mk hrz
  have HAG := Aside0.mk hag
  have HPL := Aside0.mk hpl
  have HTU := Aside0.mk htu
  have HRU := Aside0.mk hru
  clear hr0 hc0 hbg hdp hpt hrx hso hio hdr hry hrz hag hpl htu hru
  cases ok with
  | true =>
    obtain ⟨rfl, rfl, rfl, rfl, rfl, rfl, rfl⟩ := hx rfl
    obtain rfl := hv rfl
    clear hx hv
    have hq0 : (x6.toList == x6.toList) = true := beq_self_eq_true _
    cases may
    all_goals (try have hq1 : (again.toList == t.toList) = true := by rw [hy rfl]; exact beq_self_eq_true _)
    all_goals clear hy
    all_goals go_enter Try.func9, Try.ntmps9
    all_goals go_wp2_with (first | ((with_reducible refine gate_callee (f := 19) rfl ?_); (with_reducible refine gate_dst (N := 18) rfl ?_); refine goesL_ (some 18) rfl rfl Try.func19 (by kernel_rfl) rfl #[.slice A0 l0.length c0] rfl (by (try simp only [List.map_toArray, List.map_cons, List.map_nil]); first | done | rfl) ?_; (with_reducible refine (laws_big.calls A0 c0 l0 false _ (Kd.C_below HR.out HB.out) HC.out HBG.out).mono ?_); rintro e w2 ⟨rfl, ⟨nd, rfl⟩⟩; refine ⟨_, rfl, ?_⟩; have hb := pw_below_drewN (Below.refl w.heap.size w) nd; have HB_2 := Aside0.mk (below_step HB.out hb); clear hb HB) | ((with_reducible refine gate_callee (f := 29) rfl ?_); (with_reducible refine gate_dst (N := 20) rfl ?_); refine goesL_ (some 20) rfl rfl Try.func29 (by kernel_rfl) rfl #[.slice A0 l0.length c0] rfl (by (try simp only [List.map_toArray, List.map_cons, List.map_nil]); first | done | rfl) ?_; (with_reducible refine (spec_DrawPageText.calls k A0 c0 l0 x1 x2 x3 x4 x5 x6 _ (Kd.C_below HR.out HB_2.out) HC.out HDP.out).mono ?_); rintro e w3 ⟨rfl, hb⟩; refine ⟨_, rfl, ?_⟩; have HB_3 := Aside0.mk (below_step HB_2.out hb); clear hb HB_2) | ((with_reducible refine gate_dst (N := 3) rfl ?_); refine box_event ?hg (N := 3) ?hd (cs := #[.int .i64 0, .int .i64 0, .int .i64 0, .int .i64 0, .int .i64 0, .string (⟨#[]⟩ : ByteArray)]) (t := 44) ?hr ?_; (case hd => rfl); (case hg => rfl); (case hr => first | (go_simp; done) | (go_simp; rfl)); intro g3 hg w4 hbox hb; have G3 := Aside0.mk ((by rw [hg]; exact HB_3.out.size) : w.heap.size ≤ g3); have HB_4 := Aside0.mk (below_step HB_3.out hb); have BX := Aside0.mk hbox; clear hg hbox hb HB_3) | ((with_reducible refine gate_store (t := 44) (p := 3) rfl ?_); refine row_event rfl 44 (.tmp 3) (.tmp 20) rfl g3 #[.int .i64 x1, .int .i64 x2, .int .i64 x3, .int .i64 x4, .int .i64 x5, .string x6] rfl (by first | rfl | (go_simp; done) | (go_simp; rfl)) 44 _ BX.out HI.out rfl (by simp [Value.oneCell']) ?_; intro w5 hw; have HB_5 := Aside0.mk (by rw [hw]; exact below_row_ HB_4.out G3.out _ : Below w.heap.size w w5); have BP_5 := Aside0.mk (by rw [hw]; exact setRow_heap _ _ _ _ _ _ BX.out : w5.heap[g3]? = some (.cells #[.int .i64 x1, .int .i64 x2, .int .i64 x3, .int .i64 x4, .int .i64 x5, .string x6] 44 (0, 0))); clear hw BX HB_4) | ((with_reducible refine gate_dst (N := 22) rfl ?_); refine wpList_load_row rfl 44 (.tmp 3) rfl g3 rfl 44 _ (0, 0) _ BP_5.out hu44 rfl HI.out ?_) | ((with_reducible refine gate_callee (f := 30) rfl ?_); (with_reducible refine gate_dst (N := 23) rfl ?_); refine goesL_ (some 23) rfl rfl Try.func30 (by kernel_rfl) rfl #[.agg #[.int .i64 x1, .int .i64 x2, .int .i64 x3, .int .i64 x4, .int .i64 x5, .string x6]] rfl (by (try simp only [List.map_toArray, List.map_cons, List.map_nil]); first | done | rfl) ?_; (with_reducible refine (impl_PageText.calls k x1 x2 x3 x4 x5 x6 s _ _ HPT.out).mono ?_); rintro e w6 ⟨rfl, hb⟩; refine ⟨_, rfl, ?_⟩; have HB_6 := Aside0.mk (below_step HB_5.out hb); have BP_6 := Aside0.mk (blk_below BP_5.out hb); clear hb HB_5 BP_5) | ((with_reducible refine gate_callee (f := 27) rfl ?_); (with_reducible refine gate_dst (N := 28) rfl ?_); refine goesL_ (some 28) rfl rfl Try.func27 (by kernel_rfl) rfl #[.string s] rfl (by (try simp only [List.map_toArray, List.map_cons, List.map_nil]); first | done | rfl) ?_; (with_reducible refine (impl_ReadPage.calls k s x1 x2 x3 x4 x5 x6 _ _ HRX.out).mono ?_); rintro e w7 ⟨rfl, hb⟩; refine ⟨_, rfl, ?_⟩; have HB_7 := Aside0.mk (below_step HB_6.out hb); have BP_7 := Aside0.mk (blk_below BP_6.out hb); clear hb HB_6 BP_6) | ((with_reducible refine gate_dst (N := 6) rfl ?_); refine box_event ?hg (N := 6) ?hd (cs := #[.int .i64 0, .int .i64 0, .int .i64 0, .int .i64 0, .int .i64 0, .string (⟨#[]⟩ : ByteArray)]) (t := 44) ?hr ?_; (case hd => rfl); (case hg => rfl); (case hr => first | (go_simp; done) | (go_simp; rfl)); intro g6 hg w8 hbox hb; have G6 := Aside0.mk ((by rw [hg]; exact HB_7.out.size) : w.heap.size ≤ g6); have R_BP_BX_ := Aside0.mk ((by rw [hg]; exact Nat.ne_of_lt (blk_lt BP_7.out)) : g3 ≠ g6); have HB_8 := Aside0.mk (below_step HB_7.out hb); have BP_8 := Aside0.mk (blk_below BP_7.out hb); have BX := Aside0.mk hbox; clear hg hbox hb HB_7 BP_7) | ((with_reducible refine gate_store (t := 44) (p := 6) rfl ?_); refine row_event rfl 44 (.tmp 6) (.tmp 29) rfl g6 #[.int .i64 x1, .int .i64 x2, .int .i64 x3, .int .i64 x4, .int .i64 x5, .string x6] rfl (by first | rfl | (go_simp; done) | (go_simp; rfl)) 44 _ BX.out HI.out rfl (by simp [Value.oneCell']) ?_; intro w9 hw; have HB_9 := Aside0.mk (by rw [hw]; exact below_row_ HB_8.out G6.out _ : Below w.heap.size w w9); have BP_9 := Aside0.mk (by rw [hw]; exact (setRow_other _ _ _ _ R_BP_BX_.out).trans BP_8.out : w9.heap[g3]? = some (.cells #[.int .i64 x1, .int .i64 x2, .int .i64 x3, .int .i64 x4, .int .i64 x5, .string x6] 44 (0, 0))); have BX__9 := Aside0.mk (by rw [hw]; exact setRow_heap _ _ _ _ _ _ BX.out : w9.heap[g6]? = some (.cells #[.int .i64 x1, .int .i64 x2, .int .i64 x3, .int .i64 x4, .int .i64 x5, .string x6] 44 (0, 0))); clear hw BX HB_8 BP_8) | ((with_reducible refine gate_dst (N := 32) rfl ?_); refine wpList_load_row rfl 44 (.tmp 3) rfl g3 rfl 44 _ (0, 0) _ BP_9.out hu44 rfl HI.out ?_) | ((with_reducible refine gate_callee (f := 31) rfl ?_); (with_reducible refine gate_dst (N := 33) rfl ?_); refine goesL_ (some 33) rfl rfl Try.func31 (by kernel_rfl) rfl #[.agg #[.int .i64 x1, .int .i64 x2, .int .i64 x3, .int .i64 x4, .int .i64 x5, .string x6]] rfl (by (try simp only [List.map_toArray, List.map_cons, List.map_nil]); first | done | rfl) ?_; (with_reducible refine (spec_PageOk.calls x1 x2 x3 x4 x5 x6 _ _ HSO.out).mono ?_); rintro e w10 ⟨rfl, hb⟩; refine ⟨_, rfl, ?_⟩; have HB_10 := Aside0.mk (below_step HB_9.out hb); have BP_10 := Aside0.mk (blk_below BP_9.out hb); have BX__10 := Aside0.mk (blk_below BX__9.out hb); clear hb HB_9 BP_9 BX__9) | ((with_reducible refine gate_dst (N := 36) rfl ?_); refine gate_guard (by rfl) ?_; refine wpList_load_row rfl 44 (.tmp 3) rfl g3 rfl 44 _ (0, 0) _ BP_10.out hu44 rfl HI.out ?_) | ((with_reducible refine gate_callee (f := 32) rfl ?_); (with_reducible refine gate_dst (N := 37) rfl ?_); refine gate_guard (by rfl) ?_; refine goesL_ (some 37) rfl rfl Try.func32 (by kernel_rfl) rfl #[.agg #[.int .i64 x1, .int .i64 x2, .int .i64 x3, .int .i64 x4, .int .i64 x5, .string x6]] rfl (by (try simp only [List.map_toArray, List.map_cons, List.map_nil]); first | done | rfl) ?_; (with_reducible refine (impl_PageOk.calls x1 x2 x3 x4 x5 x6 _ _ HIO.out).mono ?_); rintro e w11 ⟨rfl, hb⟩; refine ⟨_, rfl, ?_⟩; have HB_11 := Aside0.mk (below_step HB_10.out hb); have BP_11 := Aside0.mk (blk_below BP_10.out hb); have BX__11 := Aside0.mk (blk_below BX__10.out hb); clear hb HB_10 BP_10 BX__10) | ((with_reducible refine gate_dst (N := 47) rfl ?_); refine gate_guard (by rfl) ?_; refine wpList_load_row rfl 44 (.tmp 6) rfl g6 rfl 44 _ (0, 0) _ BX__11.out hu44 rfl HI.out ?_) | ((with_reducible refine gate_dst (N := 48) rfl ?_); refine gate_guard (by rfl) ?_; refine wpList_load_row rfl 44 (.tmp 3) rfl g3 rfl 44 _ (0, 0) _ BP_11.out hu44 rfl HI.out ?_) | ((with_reducible refine gate_callee (f := 33) rfl ?_); (with_reducible refine gate_dst (N := 54) rfl ?_); refine goesL_ (some 54) rfl rfl Try.func33 (by kernel_rfl) rfl #[.slice A0 l0.length c0] rfl (by (try simp only [List.map_toArray, List.map_cons, List.map_nil]); first | done | rfl) ?_; (with_reducible refine (spec_DrawReadPage.calls k A0 c0 l0 t _ (Kd.C_below HR.out HB_11.out) HC.out HDR.out).mono ?_); rintro e w12 ⟨rfl, hb⟩; refine ⟨_, rfl, ?_⟩; have HB_12 := Aside0.mk (below_step HB_11.out hb); clear hb HB_11) | ((with_reducible refine gate_callee (f := 27) rfl ?_); (with_reducible refine gate_dst (N := 57) rfl ?_); refine goesL_ (some 57) rfl rfl Try.func27 (by kernel_rfl) rfl #[.string t] rfl (by (try simp only [List.map_toArray, List.map_cons, List.map_nil]); first | done | rfl) ?_; (with_reducible refine (impl_ReadPage.calls k t y1 y2 y3 y4 y5 y6 _ _ HRY.out).mono ?_); rintro e w13 ⟨rfl, hb⟩; refine ⟨_, rfl, ?_⟩; have HB_13 := Aside0.mk (below_step HB_12.out hb); clear hb HB_12) | ((with_reducible refine gate_dst (N := 9) rfl ?_); refine box_event ?hg (N := 9) ?hd (cs := #[.int .i64 0, .int .i64 0, .int .i64 0, .int .i64 0, .int .i64 0, .string (⟨#[]⟩ : ByteArray)]) (t := 44) ?hr ?_; (case hd => rfl); (case hg => rfl); (case hr => first | (go_simp; done) | (go_simp; rfl)); intro g9 hg w14 hbox hb; have G9 := Aside0.mk ((by rw [hg]; exact HB_13.out.size) : w.heap.size ≤ g9); have HB_14 := Aside0.mk (below_step HB_13.out hb); have BX := Aside0.mk hbox; clear hg hbox hb HB_13) | ((with_reducible refine gate_store (t := 44) (p := 9) rfl ?_); refine row_event rfl 44 (.tmp 9) (.tmp 58) rfl g9 #[.int .i64 y1, .int .i64 y2, .int .i64 y3, .int .i64 y4, .int .i64 y5, .string y6] rfl (by first | rfl | (go_simp; done) | (go_simp; rfl)) 44 _ BX.out HI.out rfl (by simp [Value.oneCell']) ?_; intro w15 hw; have HB_15 := Aside0.mk (by rw [hw]; exact below_row_ HB_14.out G9.out _ : Below w.heap.size w w15); have BY_15 := Aside0.mk (by rw [hw]; exact setRow_heap _ _ _ _ _ _ BX.out : w15.heap[g9]? = some (.cells #[.int .i64 y1, .int .i64 y2, .int .i64 y3, .int .i64 y4, .int .i64 y5, .string y6] 44 (0, 0))); clear hw BX HB_14) | ((with_reducible refine gate_callee (f := 26) rfl ?_); (with_reducible refine gate_dst (N := 62) rfl ?_); refine goesL_ (some 62) rfl rfl Try.func26 (by kernel_rfl) rfl #[.string t] rfl (by (try simp only [List.map_toArray, List.map_cons, List.map_nil]); first | done | rfl) ?_; (with_reducible refine (spec_ReadPage.calls k t z1 z2 z3 z4 z5 z6 _ _ HRZ.out).mono ?_); rintro e w16 ⟨rfl, hb⟩; refine ⟨_, rfl, ?_⟩; have HB_16 := Aside0.mk (below_step HB_15.out hb); have BY_16 := Aside0.mk (blk_below BY_15.out hb); clear hb HB_15 BY_15) | ((with_reducible refine gate_dst (N := 11) rfl ?_); refine box_event ?hg (N := 11) ?hd (cs := #[.int .i64 0, .int .i64 0, .int .i64 0, .int .i64 0, .int .i64 0, .string (⟨#[]⟩ : ByteArray)]) (t := 44) ?hr ?_; (case hd => rfl); (case hg => rfl); (case hr => first | (go_simp; done) | (go_simp; rfl)); intro g11 hg w17 hbox hb; have G11 := Aside0.mk ((by rw [hg]; exact HB_16.out.size) : w.heap.size ≤ g11); have R_BY_BZ := Aside0.mk ((by rw [hg]; exact Nat.ne_of_lt (blk_lt BY_16.out)) : g9 ≠ g11); have HB_17 := Aside0.mk (below_step HB_16.out hb); have BY_17 := Aside0.mk (blk_below BY_16.out hb); have BX := Aside0.mk hbox; clear hg hbox hb HB_16 BY_16) | ((with_reducible refine gate_store (t := 44) (p := 11) rfl ?_); refine row_event rfl 44 (.tmp 11) (.tmp 63) rfl g11 #[.int .i64 z1, .int .i64 z2, .int .i64 z3, .int .i64 z4, .int .i64 z5, .string z6] rfl (by first | rfl | (go_simp; done) | (go_simp; rfl)) 44 _ BX.out HI.out rfl (by simp [Value.oneCell']) ?_; intro w18 hw; have HB_18 := Aside0.mk (by rw [hw]; exact below_row_ HB_17.out G11.out _ : Below w.heap.size w w18); have BY_18 := Aside0.mk (by rw [hw]; exact (setRow_other _ _ _ _ R_BY_BZ.out).trans BY_17.out : w18.heap[g9]? = some (.cells #[.int .i64 y1, .int .i64 y2, .int .i64 y3, .int .i64 y4, .int .i64 y5, .string y6] 44 (0, 0))); have BZ_18 := Aside0.mk (by rw [hw]; exact setRow_heap _ _ _ _ _ _ BX.out : w18.heap[g11]? = some (.cells #[.int .i64 z1, .int .i64 z2, .int .i64 z3, .int .i64 z4, .int .i64 z5, .string z6] 44 (0, 0))); clear hw BX HB_17 BY_17) | ((with_reducible refine gate_dst (N := 66) rfl ?_); refine wpList_load_row rfl 44 (.tmp 9) rfl g9 rfl 44 _ (0, 0) _ BY_18.out hu44 rfl HI.out ?_) | ((with_reducible refine gate_callee (f := 30) rfl ?_); (with_reducible refine gate_dst (N := 67) rfl ?_); refine goesL_ (some 67) rfl rfl Try.func30 (by kernel_rfl) rfl #[.agg #[.int .i64 y1, .int .i64 y2, .int .i64 y3, .int .i64 y4, .int .i64 y5, .string y6]] rfl (by (try simp only [List.map_toArray, List.map_cons, List.map_nil]); first | done | rfl) ?_; (with_reducible refine (impl_PageText.calls k y1 y2 y3 y4 y5 y6 again fine _ HAG.out).mono ?_); rintro e w19 ⟨rfl, hb⟩; refine ⟨_, rfl, ?_⟩; have HB_19 := Aside0.mk (below_step HB_18.out hb); have BY_19 := Aside0.mk (blk_below BY_18.out hb); have BZ_19 := Aside0.mk (blk_below BZ_18.out hb); clear hb HB_18 BY_18 BZ_18) | ((with_reducible refine gate_callee (f := 24) rfl ?_); (with_reducible refine gate_dst (N := 73) rfl ?_); refine goesL_ (some 73) rfl rfl Try.func24 (by kernel_rfl) rfl #[.slice A0 l0.length c0] rfl (by (try simp only [List.map_toArray, List.map_cons, List.map_nil]); first | done | rfl) ?_; (with_reducible refine (spec_DrawPlaces.calls k A0 c0 l0 pl _ (Kd.C_below HR.out HB_19.out) HC.out HPL.out).mono ?_); rintro e w20 ⟨v_, rfl, hS, hb⟩; refine ⟨_, rfl, ?_⟩; obtain ⟨Ap, cp, e_⟩ := Kd.R_slice hS; subst e_; have SP := Aside0.mk (Kd.R_reads' hS); clear hS; have HB_20 := Aside0.mk (below_step HB_19.out hb); clear hb HB_19) | ((with_reducible refine gate_callee (f := 34) rfl ?_); (with_reducible refine gate_dst (N := 74) rfl ?_); refine goesL_ (some 74) rfl rfl Try.func34 (by kernel_rfl) rfl #[.string s, .slice Ap pl.length cp] rfl (by (try simp only [List.map_toArray, List.map_cons, List.map_nil]); first | done | rfl) ?_; (with_reducible refine (laws_turned.calls s Ap cp pl u _ SP.out.2.2 SP.out.2.1 HTU.out).mono ?_); rintro e w21 ⟨rfl, hb⟩; refine ⟨_, rfl, ?_⟩; have HB_21 := Aside0.mk (below_step HB_20.out hb); clear hb SP HB_20) | ((with_reducible refine gate_callee (f := 27) rfl ?_); (with_reducible refine gate_dst (N := 75) rfl ?_); refine goesL_ (some 75) rfl rfl Try.func27 (by kernel_rfl) rfl #[.string u] rfl (by (try simp only [List.map_toArray, List.map_cons, List.map_nil]); first | done | rfl) ?_; (with_reducible refine (impl_ReadPage.calls k u v1 v2 v3 v4 v5 v6 _ _ HRU.out).mono ?_); rintro e w22 ⟨rfl, hb⟩; refine ⟨_, rfl, ?_⟩; have HB_22 := Aside0.mk (below_step HB_21.out hb); clear hb HB_21) | ((with_reducible refine gate_dst (N := 15) rfl ?_); refine box_event ?hg (N := 15) ?hd (cs := #[.int .i64 0, .int .i64 0, .int .i64 0, .int .i64 0, .int .i64 0, .string (⟨#[]⟩ : ByteArray)]) (t := 44) ?hr ?_; (case hd => rfl); (case hg => rfl); (case hr => first | (go_simp; done) | (go_simp; rfl)); intro g15 hg w23 hbox hb; have G15 := Aside0.mk ((by rw [hg]; exact HB_22.out.size) : w.heap.size ≤ g15); have HB_23 := Aside0.mk (below_step HB_22.out hb); have BX := Aside0.mk hbox; clear hg hbox hb HB_22) | ((with_reducible refine gate_store (t := 44) (p := 15) rfl ?_); refine row_event rfl 44 (.tmp 15) (.tmp 76) rfl g15 #[.int .i64 v1, .int .i64 v2, .int .i64 v3, .int .i64 v4, .int .i64 v5, .string v6] rfl (by first | rfl | (go_simp; done) | (go_simp; rfl)) 44 _ BX.out HI.out rfl (by simp [Value.oneCell']) ?_; intro w24 hw; have HB_24 := Aside0.mk (by rw [hw]; exact below_row_ HB_23.out G15.out _ : Below w.heap.size w w24); have BV_24 := Aside0.mk (by rw [hw]; exact setRow_heap _ _ _ _ _ _ BX.out : w24.heap[g15]? = some (.cells #[.int .i64 v1, .int .i64 v2, .int .i64 v3, .int .i64 v4, .int .i64 v5, .string v6] 44 (0, 0))); clear hw BX HB_23))
    all_goals go_ret
    all_goals exact ⟨rfl, HB_24.out⟩
  | false =>
    clear hx hv
    cases may
    all_goals (try have hq1 : (again.toList == t.toList) = true := by rw [hy rfl]; exact beq_self_eq_true _)
    all_goals clear hy
    all_goals go_enter Try.func9, Try.ntmps9
    all_goals go_wp2_with (first | ((with_reducible refine gate_callee (f := 19) rfl ?_); (with_reducible refine gate_dst (N := 18) rfl ?_); refine goesL_ (some 18) rfl rfl Try.func19 (by kernel_rfl) rfl #[.slice A0 l0.length c0] rfl (by (try simp only [List.map_toArray, List.map_cons, List.map_nil]); first | done | rfl) ?_; (with_reducible refine (laws_big.calls A0 c0 l0 false _ (Kd.C_below HR.out HB.out) HC.out HBG.out).mono ?_); rintro e w2 ⟨rfl, ⟨nd, rfl⟩⟩; refine ⟨_, rfl, ?_⟩; have hb := pw_below_drewN (Below.refl w.heap.size w) nd; have HB_2 := Aside0.mk (below_step HB.out hb); clear hb HB) | ((with_reducible refine gate_callee (f := 29) rfl ?_); (with_reducible refine gate_dst (N := 20) rfl ?_); refine goesL_ (some 20) rfl rfl Try.func29 (by kernel_rfl) rfl #[.slice A0 l0.length c0] rfl (by (try simp only [List.map_toArray, List.map_cons, List.map_nil]); first | done | rfl) ?_; (with_reducible refine (spec_DrawPageText.calls k A0 c0 l0 p1 p2 p3 p4 p5 p6 _ (Kd.C_below HR.out HB_2.out) HC.out HDP.out).mono ?_); rintro e w3 ⟨rfl, hb⟩; refine ⟨_, rfl, ?_⟩; have HB_3 := Aside0.mk (below_step HB_2.out hb); clear hb HB_2) | ((with_reducible refine gate_dst (N := 3) rfl ?_); refine box_event ?hg (N := 3) ?hd (cs := #[.int .i64 0, .int .i64 0, .int .i64 0, .int .i64 0, .int .i64 0, .string (⟨#[]⟩ : ByteArray)]) (t := 44) ?hr ?_; (case hd => rfl); (case hg => rfl); (case hr => first | (go_simp; done) | (go_simp; rfl)); intro g3 hg w4 hbox hb; have G3 := Aside0.mk ((by rw [hg]; exact HB_3.out.size) : w.heap.size ≤ g3); have HB_4 := Aside0.mk (below_step HB_3.out hb); have BX := Aside0.mk hbox; clear hg hbox hb HB_3) | ((with_reducible refine gate_store (t := 44) (p := 3) rfl ?_); refine row_event rfl 44 (.tmp 3) (.tmp 20) rfl g3 #[.int .i64 p1, .int .i64 p2, .int .i64 p3, .int .i64 p4, .int .i64 p5, .string p6] rfl (by first | rfl | (go_simp; done) | (go_simp; rfl)) 44 _ BX.out HI.out rfl (by simp [Value.oneCell']) ?_; intro w5 hw; have HB_5 := Aside0.mk (by rw [hw]; exact below_row_ HB_4.out G3.out _ : Below w.heap.size w w5); have BP_5 := Aside0.mk (by rw [hw]; exact setRow_heap _ _ _ _ _ _ BX.out : w5.heap[g3]? = some (.cells #[.int .i64 p1, .int .i64 p2, .int .i64 p3, .int .i64 p4, .int .i64 p5, .string p6] 44 (0, 0))); clear hw BX HB_4) | ((with_reducible refine gate_dst (N := 22) rfl ?_); refine wpList_load_row rfl 44 (.tmp 3) rfl g3 rfl 44 _ (0, 0) _ BP_5.out hu44 rfl HI.out ?_) | ((with_reducible refine gate_callee (f := 30) rfl ?_); (with_reducible refine gate_dst (N := 23) rfl ?_); refine goesL_ (some 23) rfl rfl Try.func30 (by kernel_rfl) rfl #[.agg #[.int .i64 p1, .int .i64 p2, .int .i64 p3, .int .i64 p4, .int .i64 p5, .string p6]] rfl (by (try simp only [List.map_toArray, List.map_cons, List.map_nil]); first | done | rfl) ?_; (with_reducible refine (impl_PageText.calls k p1 p2 p3 p4 p5 p6 s _ _ HPT.out).mono ?_); rintro e w6 ⟨rfl, hb⟩; refine ⟨_, rfl, ?_⟩; have HB_6 := Aside0.mk (below_step HB_5.out hb); have BP_6 := Aside0.mk (blk_below BP_5.out hb); clear hb HB_5 BP_5) | ((with_reducible refine gate_callee (f := 27) rfl ?_); (with_reducible refine gate_dst (N := 28) rfl ?_); refine goesL_ (some 28) rfl rfl Try.func27 (by kernel_rfl) rfl #[.string s] rfl (by (try simp only [List.map_toArray, List.map_cons, List.map_nil]); first | done | rfl) ?_; (with_reducible refine (impl_ReadPage.calls k s x1 x2 x3 x4 x5 x6 _ _ HRX.out).mono ?_); rintro e w7 ⟨rfl, hb⟩; refine ⟨_, rfl, ?_⟩; have HB_7 := Aside0.mk (below_step HB_6.out hb); have BP_7 := Aside0.mk (blk_below BP_6.out hb); clear hb HB_6 BP_6) | ((with_reducible refine gate_dst (N := 6) rfl ?_); refine box_event ?hg (N := 6) ?hd (cs := #[.int .i64 0, .int .i64 0, .int .i64 0, .int .i64 0, .int .i64 0, .string (⟨#[]⟩ : ByteArray)]) (t := 44) ?hr ?_; (case hd => rfl); (case hg => rfl); (case hr => first | (go_simp; done) | (go_simp; rfl)); intro g6 hg w8 hbox hb; have G6 := Aside0.mk ((by rw [hg]; exact HB_7.out.size) : w.heap.size ≤ g6); have R_BP_BX_ := Aside0.mk ((by rw [hg]; exact Nat.ne_of_lt (blk_lt BP_7.out)) : g3 ≠ g6); have HB_8 := Aside0.mk (below_step HB_7.out hb); have BP_8 := Aside0.mk (blk_below BP_7.out hb); have BX := Aside0.mk hbox; clear hg hbox hb HB_7 BP_7) | ((with_reducible refine gate_store (t := 44) (p := 6) rfl ?_); refine row_event rfl 44 (.tmp 6) (.tmp 29) rfl g6 #[.int .i64 x1, .int .i64 x2, .int .i64 x3, .int .i64 x4, .int .i64 x5, .string x6] rfl (by first | rfl | (go_simp; done) | (go_simp; rfl)) 44 _ BX.out HI.out rfl (by simp [Value.oneCell']) ?_; intro w9 hw; have HB_9 := Aside0.mk (by rw [hw]; exact below_row_ HB_8.out G6.out _ : Below w.heap.size w w9); have BP_9 := Aside0.mk (by rw [hw]; exact (setRow_other _ _ _ _ R_BP_BX_.out).trans BP_8.out : w9.heap[g3]? = some (.cells #[.int .i64 p1, .int .i64 p2, .int .i64 p3, .int .i64 p4, .int .i64 p5, .string p6] 44 (0, 0))); have BX__9 := Aside0.mk (by rw [hw]; exact setRow_heap _ _ _ _ _ _ BX.out : w9.heap[g6]? = some (.cells #[.int .i64 x1, .int .i64 x2, .int .i64 x3, .int .i64 x4, .int .i64 x5, .string x6] 44 (0, 0))); clear hw BX HB_8 BP_8) | ((with_reducible refine gate_dst (N := 32) rfl ?_); refine wpList_load_row rfl 44 (.tmp 3) rfl g3 rfl 44 _ (0, 0) _ BP_9.out hu44 rfl HI.out ?_) | ((with_reducible refine gate_callee (f := 31) rfl ?_); (with_reducible refine gate_dst (N := 33) rfl ?_); refine goesL_ (some 33) rfl rfl Try.func31 (by kernel_rfl) rfl #[.agg #[.int .i64 p1, .int .i64 p2, .int .i64 p3, .int .i64 p4, .int .i64 p5, .string p6]] rfl (by (try simp only [List.map_toArray, List.map_cons, List.map_nil]); first | done | rfl) ?_; (with_reducible refine (spec_PageOk.calls p1 p2 p3 p4 p5 p6 _ _ HSO.out).mono ?_); rintro e w10 ⟨rfl, hb⟩; refine ⟨_, rfl, ?_⟩; have HB_10 := Aside0.mk (below_step HB_9.out hb); have BP_10 := Aside0.mk (blk_below BP_9.out hb); have BX__10 := Aside0.mk (blk_below BX__9.out hb); clear hb HB_9 BP_9 BX__9) | ((with_reducible refine gate_dst (N := 36) rfl ?_); refine gate_guard (by rfl) ?_; refine wpList_load_row rfl 44 (.tmp 3) rfl g3 rfl 44 _ (0, 0) _ BP_10.out hu44 rfl HI.out ?_) | ((with_reducible refine gate_callee (f := 32) rfl ?_); (with_reducible refine gate_dst (N := 37) rfl ?_); refine gate_guard (by rfl) ?_; refine goesL_ (some 37) rfl rfl Try.func32 (by kernel_rfl) rfl #[.agg #[.int .i64 p1, .int .i64 p2, .int .i64 p3, .int .i64 p4, .int .i64 p5, .string p6]] rfl (by (try simp only [List.map_toArray, List.map_cons, List.map_nil]); first | done | rfl) ?_; (with_reducible refine (impl_PageOk.calls p1 p2 p3 p4 p5 p6 _ _ HIO.out).mono ?_); rintro e w11 ⟨rfl, hb⟩; refine ⟨_, rfl, ?_⟩; have HB_11 := Aside0.mk (below_step HB_10.out hb); have BP_11 := Aside0.mk (blk_below BP_10.out hb); have BX__11 := Aside0.mk (blk_below BX__10.out hb); clear hb HB_10 BP_10 BX__10) | ((with_reducible refine gate_dst (N := 47) rfl ?_); refine gate_guard (by rfl) ?_; refine wpList_load_row rfl 44 (.tmp 6) rfl g6 rfl 44 _ (0, 0) _ BX__11.out hu44 rfl HI.out ?_) | ((with_reducible refine gate_dst (N := 48) rfl ?_); refine gate_guard (by rfl) ?_; refine wpList_load_row rfl 44 (.tmp 3) rfl g3 rfl 44 _ (0, 0) _ BP_11.out hu44 rfl HI.out ?_) | ((with_reducible refine gate_callee (f := 33) rfl ?_); (with_reducible refine gate_dst (N := 54) rfl ?_); refine goesL_ (some 54) rfl rfl Try.func33 (by kernel_rfl) rfl #[.slice A0 l0.length c0] rfl (by (try simp only [List.map_toArray, List.map_cons, List.map_nil]); first | done | rfl) ?_; (with_reducible refine (spec_DrawReadPage.calls k A0 c0 l0 t _ (Kd.C_below HR.out HB_11.out) HC.out HDR.out).mono ?_); rintro e w12 ⟨rfl, hb⟩; refine ⟨_, rfl, ?_⟩; have HB_12 := Aside0.mk (below_step HB_11.out hb); clear hb HB_11) | ((with_reducible refine gate_callee (f := 27) rfl ?_); (with_reducible refine gate_dst (N := 57) rfl ?_); refine goesL_ (some 57) rfl rfl Try.func27 (by kernel_rfl) rfl #[.string t] rfl (by (try simp only [List.map_toArray, List.map_cons, List.map_nil]); first | done | rfl) ?_; (with_reducible refine (impl_ReadPage.calls k t y1 y2 y3 y4 y5 y6 _ _ HRY.out).mono ?_); rintro e w13 ⟨rfl, hb⟩; refine ⟨_, rfl, ?_⟩; have HB_13 := Aside0.mk (below_step HB_12.out hb); clear hb HB_12) | ((with_reducible refine gate_dst (N := 9) rfl ?_); refine box_event ?hg (N := 9) ?hd (cs := #[.int .i64 0, .int .i64 0, .int .i64 0, .int .i64 0, .int .i64 0, .string (⟨#[]⟩ : ByteArray)]) (t := 44) ?hr ?_; (case hd => rfl); (case hg => rfl); (case hr => first | (go_simp; done) | (go_simp; rfl)); intro g9 hg w14 hbox hb; have G9 := Aside0.mk ((by rw [hg]; exact HB_13.out.size) : w.heap.size ≤ g9); have HB_14 := Aside0.mk (below_step HB_13.out hb); have BX := Aside0.mk hbox; clear hg hbox hb HB_13) | ((with_reducible refine gate_store (t := 44) (p := 9) rfl ?_); refine row_event rfl 44 (.tmp 9) (.tmp 58) rfl g9 #[.int .i64 y1, .int .i64 y2, .int .i64 y3, .int .i64 y4, .int .i64 y5, .string y6] rfl (by first | rfl | (go_simp; done) | (go_simp; rfl)) 44 _ BX.out HI.out rfl (by simp [Value.oneCell']) ?_; intro w15 hw; have HB_15 := Aside0.mk (by rw [hw]; exact below_row_ HB_14.out G9.out _ : Below w.heap.size w w15); have BY_15 := Aside0.mk (by rw [hw]; exact setRow_heap _ _ _ _ _ _ BX.out : w15.heap[g9]? = some (.cells #[.int .i64 y1, .int .i64 y2, .int .i64 y3, .int .i64 y4, .int .i64 y5, .string y6] 44 (0, 0))); clear hw BX HB_14) | ((with_reducible refine gate_callee (f := 26) rfl ?_); (with_reducible refine gate_dst (N := 62) rfl ?_); refine goesL_ (some 62) rfl rfl Try.func26 (by kernel_rfl) rfl #[.string t] rfl (by (try simp only [List.map_toArray, List.map_cons, List.map_nil]); first | done | rfl) ?_; (with_reducible refine (spec_ReadPage.calls k t z1 z2 z3 z4 z5 z6 _ _ HRZ.out).mono ?_); rintro e w16 ⟨rfl, hb⟩; refine ⟨_, rfl, ?_⟩; have HB_16 := Aside0.mk (below_step HB_15.out hb); have BY_16 := Aside0.mk (blk_below BY_15.out hb); clear hb HB_15 BY_15) | ((with_reducible refine gate_dst (N := 11) rfl ?_); refine box_event ?hg (N := 11) ?hd (cs := #[.int .i64 0, .int .i64 0, .int .i64 0, .int .i64 0, .int .i64 0, .string (⟨#[]⟩ : ByteArray)]) (t := 44) ?hr ?_; (case hd => rfl); (case hg => rfl); (case hr => first | (go_simp; done) | (go_simp; rfl)); intro g11 hg w17 hbox hb; have G11 := Aside0.mk ((by rw [hg]; exact HB_16.out.size) : w.heap.size ≤ g11); have R_BY_BZ := Aside0.mk ((by rw [hg]; exact Nat.ne_of_lt (blk_lt BY_16.out)) : g9 ≠ g11); have HB_17 := Aside0.mk (below_step HB_16.out hb); have BY_17 := Aside0.mk (blk_below BY_16.out hb); have BX := Aside0.mk hbox; clear hg hbox hb HB_16 BY_16) | ((with_reducible refine gate_store (t := 44) (p := 11) rfl ?_); refine row_event rfl 44 (.tmp 11) (.tmp 63) rfl g11 #[.int .i64 z1, .int .i64 z2, .int .i64 z3, .int .i64 z4, .int .i64 z5, .string z6] rfl (by first | rfl | (go_simp; done) | (go_simp; rfl)) 44 _ BX.out HI.out rfl (by simp [Value.oneCell']) ?_; intro w18 hw; have HB_18 := Aside0.mk (by rw [hw]; exact below_row_ HB_17.out G11.out _ : Below w.heap.size w w18); have BY_18 := Aside0.mk (by rw [hw]; exact (setRow_other _ _ _ _ R_BY_BZ.out).trans BY_17.out : w18.heap[g9]? = some (.cells #[.int .i64 y1, .int .i64 y2, .int .i64 y3, .int .i64 y4, .int .i64 y5, .string y6] 44 (0, 0))); have BZ_18 := Aside0.mk (by rw [hw]; exact setRow_heap _ _ _ _ _ _ BX.out : w18.heap[g11]? = some (.cells #[.int .i64 z1, .int .i64 z2, .int .i64 z3, .int .i64 z4, .int .i64 z5, .string z6] 44 (0, 0))); clear hw BX HB_17 BY_17) | ((with_reducible refine gate_dst (N := 66) rfl ?_); refine wpList_load_row rfl 44 (.tmp 9) rfl g9 rfl 44 _ (0, 0) _ BY_18.out hu44 rfl HI.out ?_) | ((with_reducible refine gate_callee (f := 30) rfl ?_); (with_reducible refine gate_dst (N := 67) rfl ?_); refine goesL_ (some 67) rfl rfl Try.func30 (by kernel_rfl) rfl #[.agg #[.int .i64 y1, .int .i64 y2, .int .i64 y3, .int .i64 y4, .int .i64 y5, .string y6]] rfl (by (try simp only [List.map_toArray, List.map_cons, List.map_nil]); first | done | rfl) ?_; (with_reducible refine (impl_PageText.calls k y1 y2 y3 y4 y5 y6 again fine _ HAG.out).mono ?_); rintro e w19 ⟨rfl, hb⟩; refine ⟨_, rfl, ?_⟩; have HB_19 := Aside0.mk (below_step HB_18.out hb); have BY_19 := Aside0.mk (blk_below BY_18.out hb); have BZ_19 := Aside0.mk (blk_below BZ_18.out hb); clear hb HB_18 BY_18 BZ_18) | ((with_reducible refine gate_callee (f := 24) rfl ?_); (with_reducible refine gate_dst (N := 73) rfl ?_); refine goesL_ (some 73) rfl rfl Try.func24 (by kernel_rfl) rfl #[.slice A0 l0.length c0] rfl (by (try simp only [List.map_toArray, List.map_cons, List.map_nil]); first | done | rfl) ?_; (with_reducible refine (spec_DrawPlaces.calls k A0 c0 l0 pl _ (Kd.C_below HR.out HB_19.out) HC.out HPL.out).mono ?_); rintro e w20 ⟨v_, rfl, hS, hb⟩; refine ⟨_, rfl, ?_⟩; obtain ⟨Ap, cp, e_⟩ := Kd.R_slice hS; subst e_; have SP := Aside0.mk (Kd.R_reads' hS); clear hS; have HB_20 := Aside0.mk (below_step HB_19.out hb); clear hb HB_19) | ((with_reducible refine gate_callee (f := 34) rfl ?_); (with_reducible refine gate_dst (N := 74) rfl ?_); refine goesL_ (some 74) rfl rfl Try.func34 (by kernel_rfl) rfl #[.string s, .slice Ap pl.length cp] rfl (by (try simp only [List.map_toArray, List.map_cons, List.map_nil]); first | done | rfl) ?_; (with_reducible refine (laws_turned.calls s Ap cp pl u _ SP.out.2.2 SP.out.2.1 HTU.out).mono ?_); rintro e w21 ⟨rfl, hb⟩; refine ⟨_, rfl, ?_⟩; have HB_21 := Aside0.mk (below_step HB_20.out hb); clear hb SP HB_20) | ((with_reducible refine gate_callee (f := 27) rfl ?_); (with_reducible refine gate_dst (N := 75) rfl ?_); refine goesL_ (some 75) rfl rfl Try.func27 (by kernel_rfl) rfl #[.string u] rfl (by (try simp only [List.map_toArray, List.map_cons, List.map_nil]); first | done | rfl) ?_; (with_reducible refine (impl_ReadPage.calls k u v1 v2 v3 v4 v5 v6 _ _ HRU.out).mono ?_); rintro e w22 ⟨rfl, hb⟩; refine ⟨_, rfl, ?_⟩; have HB_22 := Aside0.mk (below_step HB_21.out hb); clear hb HB_21) | ((with_reducible refine gate_dst (N := 15) rfl ?_); refine box_event ?hg (N := 15) ?hd (cs := #[.int .i64 0, .int .i64 0, .int .i64 0, .int .i64 0, .int .i64 0, .string (⟨#[]⟩ : ByteArray)]) (t := 44) ?hr ?_; (case hd => rfl); (case hg => rfl); (case hr => first | (go_simp; done) | (go_simp; rfl)); intro g15 hg w23 hbox hb; have G15 := Aside0.mk ((by rw [hg]; exact HB_22.out.size) : w.heap.size ≤ g15); have HB_23 := Aside0.mk (below_step HB_22.out hb); have BX := Aside0.mk hbox; clear hg hbox hb HB_22) | ((with_reducible refine gate_store (t := 44) (p := 15) rfl ?_); refine row_event rfl 44 (.tmp 15) (.tmp 76) rfl g15 #[.int .i64 v1, .int .i64 v2, .int .i64 v3, .int .i64 v4, .int .i64 v5, .string v6] rfl (by first | rfl | (go_simp; done) | (go_simp; rfl)) 44 _ BX.out HI.out rfl (by simp [Value.oneCell']) ?_; intro w24 hw; have HB_24 := Aside0.mk (by rw [hw]; exact below_row_ HB_23.out G15.out _ : Below w.heap.size w w24); have BV_24 := Aside0.mk (by rw [hw]; exact setRow_heap _ _ _ _ _ _ BX.out : w24.heap[g15]? = some (.cells #[.int .i64 v1, .int .i64 v2, .int .i64 v3, .int .i64 v4, .int .i64 v5, .string v6] 44 (0, 0))); clear hw BX HB_23))
    all_goals go_ret
    all_goals exact ⟨rfl, HB_24.out⟩
/-- The law as a plain function: told where it answers true. -/
def laws_FnPages.f (k : Nat) (l0 : List Int) : Option (Bool) :=
  (laws_big.f l0).bind fun b => if b = true then some true else
    ((spec_DrawPageText.f k l0).bind fun p => (impl_PageText.f k p.1 p.2.1 p.2.2.1 p.2.2.2.1 p.2.2.2.2.1 p.2.2.2.2.2).bind fun s => (impl_ReadPage.f k s.1).bind fun x => (spec_PageOk.f p.1 p.2.1 p.2.2.1 p.2.2.2.1 p.2.2.2.2.1 p.2.2.2.2.2).bind fun o1 => (impl_PageOk.f p.1 p.2.1 p.2.2.1 p.2.2.2.1 p.2.2.2.2.1 p.2.2.2.2.2).bind fun o2 =>
      (spec_DrawReadPage.f k l0).bind fun t => (impl_ReadPage.f k t).bind fun y => (spec_ReadPage.f k t).bind fun z => (impl_PageText.f k y.1 y.2.1 y.2.2.1 y.2.2.2.1 y.2.2.2.2.1 y.2.2.2.2.2.1).bind fun a => (spec_DrawPlaces.f k l0).bind fun pl => (laws_turned.f s.1 pl).bind fun u => (impl_ReadPage.f k u).bind fun v =>
        if o1 = s.2 ∧ o2 = s.2 ∧ (s.2 = true → x.2.2.2.2.2.2 = true ∧ x.1 = p.1 ∧ x.2.1 = p.2.1 ∧ x.2.2.1 = p.2.2.1 ∧ x.2.2.2.1 = p.2.2.2.1 ∧ x.2.2.2.2.1 = p.2.2.2.2.1 ∧ x.2.2.2.2.2.1 = p.2.2.2.2.2) ∧ z.2.2.2.2.2.2 = y.2.2.2.2.2.2 ∧ (y.2.2.2.2.2.2 = true → a.1 = t) ∧ (s.2 = true → v.2.2.2.2.2.2 = false) then some true else none)
theorem laws_FnPages.calls (k : Nat) (A0 : Option Addr) (c0 : Nat) (l0 : List Int) (r : Bool) (w : World) (hr0 : Kd.C (Kd.int .u8) w A0 l0.length l0) (hc0 : l0.length ≤ c0) (h : laws_FnPages.f k l0 = some r) :
    Calls Try.prog 9 #[.slice A0 l0.length c0] w fun e w' => e = .returned (.bool r) ∧ Below w.heap.size w w' := by
  unfold laws_FnPages.f at h
  obtain ⟨b, hb, h⟩ := Option.bind_eq_some_iff.mp h
  cases b with
  | true =>
    rw [if_pos rfl] at h
    obtain rfl := Option.some.inj h
    exact laws_FnPages.big_ k A0 c0 l0 w hr0 hc0 hb
  | false =>
    rw [if_neg (by decide)] at h
    obtain ⟨⟨p1, p2, p3, p4, p5, p6⟩, hdp, h⟩ := Option.bind_eq_some_iff.mp h
    obtain ⟨⟨s, ok⟩, hpt, h⟩ := Option.bind_eq_some_iff.mp h
    obtain ⟨⟨x1, x2, x3, x4, x5, x6, right⟩, hrx, h⟩ := Option.bind_eq_some_iff.mp h
    obtain ⟨o1, hso, h⟩ := Option.bind_eq_some_iff.mp h
    obtain ⟨o2, hio, h⟩ := Option.bind_eq_some_iff.mp h
    obtain ⟨t, hdr, h⟩ := Option.bind_eq_some_iff.mp h
    obtain ⟨⟨y1, y2, y3, y4, y5, y6, may⟩, hry, h⟩ := Option.bind_eq_some_iff.mp h
    obtain ⟨⟨z1, z2, z3, z4, z5, z6, want⟩, hrz, h⟩ := Option.bind_eq_some_iff.mp h
    obtain ⟨⟨again, fine⟩, hag, h⟩ := Option.bind_eq_some_iff.mp h
    obtain ⟨pl, hpl, h⟩ := Option.bind_eq_some_iff.mp h
    obtain ⟨u, htu, h⟩ := Option.bind_eq_some_iff.mp h
    obtain ⟨⟨v1, v2, v3, v4, v5, v6, bent⟩, hru, h⟩ := Option.bind_eq_some_iff.mp h
    split at h
    · rename_i hc
      obtain rfl := Option.some.inj h
      obtain ⟨e1, e2, hx, e3, hy, hv⟩ := hc
      dsimp only at e1 e2 e3 hx hy hv
      subst e1
      subst e2
      subst e3
      exact laws_FnPages.walk_ k A0 c0 l0 p1 p2 p3 p4 p5 x1 x2 x3 x4 x5 y1 y2 y3 y4 y5 z1 z2 z3 z4 z5 v1 v2 v3 v4 v5 p6 x6 y6 z6 v6 s t u again _ right _ fine bent pl w hr0 hc0 hb hdp hpt hrx hso hio hdr hry hrz hag hpl htu hru hx hy hv
    · cases h
def laws_FnPages.Pure : Prop := ∀ (l0 : List Int), l0.length ≤ maxLen → l0.length * 1 ≤ 140737488351232 → (∀ x ∈ l0, (Lit.int .u8 x).wf = true) → ∃ k, laws_FnPages.f k l0 = some true
theorem laws_FnPages.walk (P : laws_FnPages.Pure) (a0 : Option Addr) (len0 cap0 : Nat) (z0 : List Int) (w : World) (w0 : (a0 = none ∧ len0 = 0 ∧ cap0 = 0 ∧ z0 = []) ∨ ∃ x, a0 = some x ∧ len0 ≤ cap0 ∧ cap0 ≤ maxLen ∧ z0.length = cap0 ∧ (∀ i, i < z0.length → w.cell? (x.add i) = some (.int .u8 (z0.getD i 0))) ∧ ∀ n ∈ z0, (Lit.int .u8 n).wf = true) (y0 : len0 * 1 ≤ 140737488351232) :
    Calls Try.prog 9 #[.slice a0 len0 cap0] w fun e w' => e = .returned (.bool true) ∧ Below w.heap.size w w' := by
  obtain ⟨l0, rfl, hr0, hm0, hw0, hc0⟩ := ReadsInt.ofRowC w0
  obtain ⟨k, h⟩ := P l0 hm0 y0 hw0
  refine (laws_FnPages.calls k _ _ l0 true w (Kd.C_of_reads (d := (0 : Int)) (h1 := fun _ => rfl) hr0) hc0 h).mono ?_
  rintro e w' ⟨rfl, hd⟩
  exact ⟨rfl, hd⟩

end Go.Proofs.Ytbiapgneafgdeaa.QFnPages
