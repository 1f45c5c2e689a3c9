/- What is proved here: contracts of functions that the law FnPages reaches, each told as a plain function. Conditions: those of each contract. (Written by a program of ours.) -/
import Derived.Test.YtbiapgneafgdeaaQFnPagesx0
import Derived.Test.YtbiapgneafgdeaaQFnPagesx5
import Derived.Test.YtbiapgneafgdeaaQFnPagesx7
namespace Go.Proofs.Ytbiapgneafgdeaa.QFnPages
open Go.RowKit Go.Proofs.YtbiapgneafgdeaaW.PrintWords Go.Proofs.YtbiapgneafgdeaaW.PrintLast Go.Proofs.YtbiapgneafgdeaaW.PrintMore
attribute [local go_sem] max2_int min2_int max_two min_two max_three min_three max_four min_four   -- for this text's walks alone
set_option linter.unusedVariables false
set_option linter.unusedSimpArgs false

/-! ### impl_PageText: function 30 -/
def impl_PageText.f (k : Nat) (a0_0 : Int) (a0_1 : Int) (a0_2 : Int) (a0_3 : Int) (a0_4 : Int) (a0_5 : ByteArray) : Option (ByteArray × Bool) := (impl_PageOk.f a0_0 a0_1 a0_2 a0_3 a0_4 a0_5).bind fun t298 => (if t298 = true then ((some (([(a0_0) % 256] : List Int) : List Int)).bind fun y299 => ((impl_varOf.f k a0_1).bind fun t302 => (if (strOfNums y299).size + t302.size ≤ 9223372036854775807 then ((impl_varOf.f k a0_2).bind fun t303 => (if ((strOfNums y299) ++ t302).size + t303.size ≤ 9223372036854775807 then ((impl_varOf.f k a0_3).bind fun t304 => (if (((strOfNums y299) ++ t302) ++ t303).size + t304.size ≤ 9223372036854775807 then ((impl_varOf.f k a0_4).bind fun t305 => (if ((((strOfNums y299) ++ t302) ++ t303) ++ t304).size + t305.size ≤ 9223372036854775807 then (if (((((strOfNums y299) ++ t302) ++ t303) ++ t304) ++ t305).size + a0_5.size ≤ 9223372036854775807 then ((impl_Sealed.f k ((((((strOfNums y299) ++ t302) ++ t303) ++ t304) ++ t305) ++ a0_5)).bind fun bt306 => (some (bt306.1, bt306.2))) else (none)) else (none))) else (none))) else (none))) else (none)))) else (some ((⟨#[]⟩ : ByteArray), false)))
theorem impl_PageText.mono : ∀ a0 a1 a2 a3 a4 a5 k, LeO (impl_PageText.f k a0 a1 a2 a3 a4 a5) (impl_PageText.f (k + 1) a0 a1 a2 a3 a4 a5) := by
  intro a0 a1 a2 a3 a4 a5 k
  unfold impl_PageText.f
  repeat' first
      | (with_reducible exact impl_Sealed.mono _ _)
      | (with_reducible exact impl_varOf.mono _ _)
      | (with_reducible exact LeO.refl _)
      | (with_reducible exact LeO.none _)
      | (with_reducible refine LeO.ite ?_ ?_)
      | (with_reducible refine LeO.bind ?_ (fun _ => ?_))
      | exact impl_Sealed.mono _ _
      | exact impl_varOf.mono _ _
      | exact LeO.none _
      | refine LeO.ite ?_ ?_
      | refine LeO.bind ?_ (fun _ => ?_)
def impl_PageText.T3 : Bool × List (List Nat × List Nat) := (true, [([], []), ([0], [0]), ([1], [1]), ([2], [2]), ([3], [3]), ([], []), ([5], [5]), ([6], [6]), ([4, 7], [4, 7]), ([], []), ([9], [9]), ([10, 7], [10]), ([8, 11], [8, 11]), ([], []), ([13], [13]), ([14, 11], [14]), ([12, 15], [12, 15]), ([], []), ([17], [17]), ([18, 15], [18]), ([16, 19], [16, 19]), ([], []), ([21], [21]), ([20, 22], [20, 22]), ([23, 19], [23]), ([24], [24]), ([24], [24]), ([25, 24, 0, 1, 2, 3, 4, 5, 6, 7, 8, 9, 10, 11, 12, 13, 14, 15, 16, 17, 18, 19, 20, 21, 22, 23, 24, 25, 26], [25]), ([26, 27, 0, 1, 2, 3, 4, 5, 6, 7, 8, 9, 10, 11, 12, 13, 14, 15, 16, 17, 18, 19, 20, 21, 22, 23, 24, 25, 26, 27], [26])])
def impl_PageText.B3 : List Nat := [0, 1, 3, 7, 15, 0, 32, 96, 255, 0, 512, 1760, 4095, 0, 8192, 28384, 65535, 0, 131072, 454368, 1048575, 0, 2097152, 8388607, 16777215, 33554431, 33554431, 134217727, 268435455]
theorem impl_PageText.tab3 : rtab .any (opsOf Try.f30 3) = impl_PageText.T3 := by kernel_rfl
theorem impl_PageText.bits3 : waitsOk impl_PageText.T3.2 impl_PageText.B3 = true := by kernel_rfl
set_option maxHeartbeats 8000000 in
set_option maxRecDepth 100000 in
theorem impl_PageText.calls (k : Nat) (a0_0 : Int) (a0_1 : Int) (a0_2 : Int) (a0_3 : Int) (a0_4 : Int) (a0_5 : ByteArray) (r1 : ByteArray) (r2 : Bool) (w : World) (h : impl_PageText.f k a0_0 a0_1 a0_2 a0_3 a0_4 a0_5 = some (r1, r2)) :
    Calls Try.prog 30 #[.agg #[.int .i64 a0_0, .int .i64 a0_1, .int .i64 a0_2, .int .i64 a0_3, .int .i64 a0_4, .string a0_5]] w fun e w' => e = .returned (.tuple #[.string r1, .bool r2]) ∧ Below w.heap.size w w' := by
  have hu44 := Try.underlying44
  have HB := Aside0.mk (Below.refl w.heap.size w)
  have H : ((impl_PageOk.f a0_0 a0_1 a0_2 a0_3 a0_4 a0_5).bind fun t298 => (if t298 = true then ((some (([(a0_0) % 256] : List Int) : List Int)).bind fun y299 => ((impl_varOf.f k a0_1).bind fun t302 => (if (strOfNums y299).size + t302.size ≤ 9223372036854775807 then ((impl_varOf.f k a0_2).bind fun t303 => (if ((strOfNums y299) ++ t302).size + t303.size ≤ 9223372036854775807 then ((impl_varOf.f k a0_3).bind fun t304 => (if (((strOfNums y299) ++ t302) ++ t303).size + t304.size ≤ 9223372036854775807 then ((impl_varOf.f k a0_4).bind fun t305 => (if ((((strOfNums y299) ++ t302) ++ t303) ++ t304).size + t305.size ≤ 9223372036854775807 then (if (((((strOfNums y299) ++ t302) ++ t303) ++ t304) ++ t305).size + a0_5.size ≤ 9223372036854775807 then ((impl_Sealed.f k ((((((strOfNums y299) ++ t302) ++ t303) ++ t304) ++ t305) ++ a0_5)).bind fun bt306 => (some (bt306.1, bt306.2))) else (none)) else (none))) else (none))) else (none))) else (none)))) else (some ((⟨#[]⟩ : ByteArray), false)))) = some (r1, r2) := h
  clear h
  replace H := Option.bind_eq_some_iff.mp H
  obtain ⟨t298, A20, H⟩ := H
  replace H : (if t298 = true then ((some (([(a0_0) % 256] : List Int) : List Int)).bind fun y299 => ((impl_varOf.f k a0_1).bind fun t302 => (if (strOfNums y299).size + t302.size ≤ 9223372036854775807 then ((impl_varOf.f k a0_2).bind fun t303 => (if ((strOfNums y299) ++ t302).size + t303.size ≤ 9223372036854775807 then ((impl_varOf.f k a0_3).bind fun t304 => (if (((strOfNums y299) ++ t302) ++ t303).size + t304.size ≤ 9223372036854775807 then ((impl_varOf.f k a0_4).bind fun t305 => (if ((((strOfNums y299) ++ t302) ++ t303) ++ t304).size + t305.size ≤ 9223372036854775807 then (if (((((strOfNums y299) ++ t302) ++ t303) ++ t304) ++ t305).size + a0_5.size ≤ 9223372036854775807 then ((impl_Sealed.f k ((((((strOfNums y299) ++ t302) ++ t303) ++ t304) ++ t305) ++ a0_5)).bind fun bt306 => (some (bt306.1, bt306.2))) else (none)) else (none))) else (none))) else (none))) else (none)))) else (some ((⟨#[]⟩ : ByteArray), false))) = some (r1, r2) := H
  have A2 := Aside0.mk A20
  clear A20
  by_cases c3 : t298 = true
  · subst c3
    have H1 : ((some (([(a0_0) % 256] : List Int) : List Int)).bind fun y299 => ((impl_varOf.f k a0_1).bind fun t302 => (if (strOfNums y299).size + t302.size ≤ 9223372036854775807 then ((impl_varOf.f k a0_2).bind fun t303 => (if ((strOfNums y299) ++ t302).size + t303.size ≤ 9223372036854775807 then ((impl_varOf.f k a0_3).bind fun t304 => (if (((strOfNums y299) ++ t302) ++ t303).size + t304.size ≤ 9223372036854775807 then ((impl_varOf.f k a0_4).bind fun t305 => (if ((((strOfNums y299) ++ t302) ++ t303) ++ t304).size + t305.size ≤ 9223372036854775807 then (if (((((strOfNums y299) ++ t302) ++ t303) ++ t304) ++ t305).size + a0_5.size ≤ 9223372036854775807 then ((impl_Sealed.f k ((((((strOfNums y299) ++ t302) ++ t303) ++ t304) ++ t305) ++ a0_5)).bind fun bt306 => (some (bt306.1, bt306.2))) else (none)) else (none))) else (none))) else (none))) else (none)))) = some (r1, r2) := by rw [if_pos rfl] at H; exact H
    clear H
    have H := H1
    clear H1
    obtain ⟨y299, hy299⟩ : ∃ y_ : List Int, y_ = (([(a0_0) % 256] : List Int)) := ⟨_, rfl⟩
    replace H : ((impl_varOf.f k a0_1).bind fun t302 => (if (strOfNums y299).size + t302.size ≤ 9223372036854775807 then ((impl_varOf.f k a0_2).bind fun t303 => (if ((strOfNums y299) ++ t302).size + t303.size ≤ 9223372036854775807 then ((impl_varOf.f k a0_3).bind fun t304 => (if (((strOfNums y299) ++ t302) ++ t303).size + t304.size ≤ 9223372036854775807 then ((impl_varOf.f k a0_4).bind fun t305 => (if ((((strOfNums y299) ++ t302) ++ t303) ++ t304).size + t305.size ≤ 9223372036854775807 then (if (((((strOfNums y299) ++ t302) ++ t303) ++ t304) ++ t305).size + a0_5.size ≤ 9223372036854775807 then ((impl_Sealed.f k ((((((strOfNums y299) ++ t302) ++ t303) ++ t304) ++ t305) ++ a0_5)).bind fun bt306 => (some (bt306.1, bt306.2))) else (none)) else (none))) else (none))) else (none))) else (none))) = some (r1, r2) := by first | (rw [hy299]; with_reducible exact H) | (have H2_ := (Option.bind_some _ _).symm.trans H; rw [hy299]; with_reducible exact H2_) | (have H2_ := (Option.bind_some _ _).symm.trans H; with_reducible exact H2_) | with_reducible exact H | (rw [hy299]; exact H) | exact H
    have Ny299 := Aside0.mk hy299
    clear hy299
    replace H := Option.bind_eq_some_iff.mp H
    obtain ⟨t302, A40, H⟩ := H
    replace H : (if (strOfNums y299).size + t302.size ≤ 9223372036854775807 then ((impl_varOf.f k a0_2).bind fun t303 => (if ((strOfNums y299) ++ t302).size + t303.size ≤ 9223372036854775807 then ((impl_varOf.f k a0_3).bind fun t304 => (if (((strOfNums y299) ++ t302) ++ t303).size + t304.size ≤ 9223372036854775807 then ((impl_varOf.f k a0_4).bind fun t305 => (if ((((strOfNums y299) ++ t302) ++ t303) ++ t304).size + t305.size ≤ 9223372036854775807 then (if (((((strOfNums y299) ++ t302) ++ t303) ++ t304) ++ t305).size + a0_5.size ≤ 9223372036854775807 then ((impl_Sealed.f k ((((((strOfNums y299) ++ t302) ++ t303) ++ t304) ++ t305) ++ a0_5)).bind fun bt306 => (some (bt306.1, bt306.2))) else (none)) else (none))) else (none))) else (none))) else (none)) = some (r1, r2) := H
    have A4 := Aside0.mk A40
    clear A40
    by_cases c5 : (strOfNums y299).size + t302.size ≤ 9223372036854775807
    · rw [if_pos c5] at H
      have c5b0 := eq_true c5
      have c5b1 : decide ((strOfNums y299).size + t302.size ≤ 9223372036854775807) = true := decide_eq_true c5
      try have c5b2 : (9223372036854775807 < (strOfNums y299).size + t302.size) = False := eq_false (Nat.not_lt.2 c5)
      have c5b3 := c5
      (try simp only [ByteArray.size_append] at c5b3)
      replace c5b3 := eq_false (Nat.not_lt.mpr c5b3)
      replace H := Option.bind_eq_some_iff.mp H
      obtain ⟨t303, A60, H⟩ := H
      replace H : (if ((strOfNums y299) ++ t302).size + t303.size ≤ 9223372036854775807 then ((impl_varOf.f k a0_3).bind fun t304 => (if (((strOfNums y299) ++ t302) ++ t303).size + t304.size ≤ 9223372036854775807 then ((impl_varOf.f k a0_4).bind fun t305 => (if ((((strOfNums y299) ++ t302) ++ t303) ++ t304).size + t305.size ≤ 9223372036854775807 then (if (((((strOfNums y299) ++ t302) ++ t303) ++ t304) ++ t305).size + a0_5.size ≤ 9223372036854775807 then ((impl_Sealed.f k ((((((strOfNums y299) ++ t302) ++ t303) ++ t304) ++ t305) ++ a0_5)).bind fun bt306 => (some (bt306.1, bt306.2))) else (none)) else (none))) else (none))) else (none)) = some (r1, r2) := H
      have A6 := Aside0.mk A60
      clear A60
      by_cases c7 : ((strOfNums y299) ++ t302).size + t303.size ≤ 9223372036854775807
      · rw [if_pos c7] at H
        have c7b0 := eq_true c7
        have c7b1 : decide (((strOfNums y299) ++ t302).size + t303.size ≤ 9223372036854775807) = true := decide_eq_true c7
        try have c7b2 : (9223372036854775807 < ((strOfNums y299) ++ t302).size + t303.size) = False := eq_false (Nat.not_lt.2 c7)
        have c7b3 := c7
        (try simp only [ByteArray.size_append] at c7b3)
        replace c7b3 := eq_false (Nat.not_lt.mpr c7b3)
        replace H := Option.bind_eq_some_iff.mp H
        obtain ⟨t304, A80, H⟩ := H
        replace H : (if (((strOfNums y299) ++ t302) ++ t303).size + t304.size ≤ 9223372036854775807 then ((impl_varOf.f k a0_4).bind fun t305 => (if ((((strOfNums y299) ++ t302) ++ t303) ++ t304).size + t305.size ≤ 9223372036854775807 then (if (((((strOfNums y299) ++ t302) ++ t303) ++ t304) ++ t305).size + a0_5.size ≤ 9223372036854775807 then ((impl_Sealed.f k ((((((strOfNums y299) ++ t302) ++ t303) ++ t304) ++ t305) ++ a0_5)).bind fun bt306 => (some (bt306.1, bt306.2))) else (none)) else (none))) else (none)) = some (r1, r2) := H
        have A8 := Aside0.mk A80
        clear A80
        by_cases c9 : (((strOfNums y299) ++ t302) ++ t303).size + t304.size ≤ 9223372036854775807
        · rw [if_pos c9] at H
          have c9b0 := eq_true c9
          have c9b1 : decide ((((strOfNums y299) ++ t302) ++ t303).size + t304.size ≤ 9223372036854775807) = true := decide_eq_true c9
          try have c9b2 : (9223372036854775807 < (((strOfNums y299) ++ t302) ++ t303).size + t304.size) = False := eq_false (Nat.not_lt.2 c9)
          have c9b3 := c9
          (try simp only [ByteArray.size_append] at c9b3)
          replace c9b3 := eq_false (Nat.not_lt.mpr c9b3)
          replace H := Option.bind_eq_some_iff.mp H
          obtain ⟨t305, A100, H⟩ := H
          replace H : (if ((((strOfNums y299) ++ t302) ++ t303) ++ t304).size + t305.size ≤ 9223372036854775807 then (if (((((strOfNums y299) ++ t302) ++ t303) ++ t304) ++ t305).size + a0_5.size ≤ 9223372036854775807 then ((impl_Sealed.f k ((((((strOfNums y299) ++ t302) ++ t303) ++ t304) ++ t305) ++ a0_5)).bind fun bt306 => (some (bt306.1, bt306.2))) else (none)) else (none)) = some (r1, r2) := H
          have A10 := Aside0.mk A100
          clear A100
          by_cases c11 : ((((strOfNums y299) ++ t302) ++ t303) ++ t304).size + t305.size ≤ 9223372036854775807
          · rw [if_pos c11] at H
            have c11b0 := eq_true c11
            have c11b1 : decide (((((strOfNums y299) ++ t302) ++ t303) ++ t304).size + t305.size ≤ 9223372036854775807) = true := decide_eq_true c11
            try have c11b2 : (9223372036854775807 < ((((strOfNums y299) ++ t302) ++ t303) ++ t304).size + t305.size) = False := eq_false (Nat.not_lt.2 c11)
            have c11b3 := c11
            (try simp only [ByteArray.size_append] at c11b3)
            replace c11b3 := eq_false (Nat.not_lt.mpr c11b3)
            by_cases c12 : (((((strOfNums y299) ++ t302) ++ t303) ++ t304) ++ t305).size + a0_5.size ≤ 9223372036854775807
            · rw [if_pos c12] at H
              have c12b0 := eq_true c12
              have c12b1 : decide ((((((strOfNums y299) ++ t302) ++ t303) ++ t304) ++ t305).size + a0_5.size ≤ 9223372036854775807) = true := decide_eq_true c12
              try have c12b2 : (9223372036854775807 < (((((strOfNums y299) ++ t302) ++ t303) ++ t304) ++ t305).size + a0_5.size) = False := eq_false (Nat.not_lt.2 c12)
              have c12b3 := c12
              (try simp only [ByteArray.size_append] at c12b3)
              replace c12b3 := eq_false (Nat.not_lt.mpr c12b3)
              replace H := Option.bind_eq_some_iff.mp H
              obtain ⟨⟨t306, t307⟩, A130, H⟩ := H
              replace H : (some (t306, t307)) = some (r1, r2) := H
              have A13 := Aside0.mk A130
              clear A130
              simp only [Option.some.injEq, Prod.mk.injEq] at H
              obtain ⟨rfl, rfl⟩ := H
              go_enter Try.func30, Try.ntmps30
              try go_wp2_with (first | ((with_reducible refine gate_dst (N := 1) rfl ?_); refine box_event ?hg (N := 1) ?hd (cs := #[.int .i64 a0_0, .int .i64 a0_1, .int .i64 a0_2, .int .i64 a0_3, .int .i64 a0_4, .string a0_5]) (t := 44) ?hr ?_; (case hd => rfl); (case hg => rfl); (case hr => first | (go_simp; done) | (go_simp; rfl)); intro gb297 hg w14 hbox hb; have n0_ := Aside0.mk (below_step (Sh.hb HB.out) hb); have n1_ := Aside0.mk (hbox); have n2_ := Aside0.mk ((by rw [hg]; exact (below_size (Sh.hb HB.out)) : w.heap.size ≤ gb297)); have n3_ := Aside0.mk ((by rw [hg]; exact (below_size (Sh.hb HB.out)) : w.heap.size ≤ gb297)); clear HB; have HB := n0_; have BK297 := n1_; have GW297 := n2_; have GE297 := n3_; clear n0_ n1_ n2_ n3_; clear hb hbox hg; have hcz15_0 : w14.cell? ⟨gb297, 0, none⟩ = some (.int .i64 a0_0) := (blk_cell BK297.out 0).trans rfl; have hcz15_1 : w14.cell? ⟨gb297, 1, none⟩ = some (.int .i64 a0_1) := (blk_cell BK297.out 1).trans rfl; have hcz15_2 : w14.cell? ⟨gb297, 2, none⟩ = some (.int .i64 a0_2) := (blk_cell BK297.out 2).trans rfl; have hcz15_3 : w14.cell? ⟨gb297, 3, none⟩ = some (.int .i64 a0_3) := (blk_cell BK297.out 3).trans rfl; have hcz15_4 : w14.cell? ⟨gb297, 4, none⟩ = some (.int .i64 a0_4) := (blk_cell BK297.out 4).trans rfl; have hcz15_5 : w14.cell? ⟨gb297, 5, none⟩ = some (.string a0_5) := (blk_cell BK297.out 5).trans rfl; have hfz15_0 := blk_frozen BK297.out 0; have hfz15_1 := blk_frozen BK297.out 1; have hfz15_2 := blk_frozen BK297.out 2; have hfz15_3 := blk_frozen BK297.out 3; have hfz15_4 := blk_frozen BK297.out 4; have hfz15_5 := blk_frozen BK297.out 5) | ((with_reducible refine gate_callee (f := 32) rfl ?_); refine goesL_ (some 5) rfl rfl Try.func32 (by kernel_rfl) rfl #[.agg #[.int .i64 a0_0, .int .i64 a0_1, .int .i64 a0_2, .int .i64 a0_3, .int .i64 a0_4, .string a0_5]] rfl Sh.al ?_; (with_reducible refine (impl_PageOk.calls a0_0 a0_1 a0_2 a0_3 a0_4 a0_5 true _ A2.out).mono ?_); rintro e w16 ⟨rfl, hb⟩; refine ⟨_, rfl, ?_⟩; have n0_ := Aside0.mk (blk_below (g := gb297) (o := .cells #[.int .i64 a0_0, .int .i64 a0_1, .int .i64 a0_2, .int .i64 a0_3, .int .i64 a0_4, .string a0_5] 44 (0, 0)) (Sh.bk BK297.out) hb); have n1_ := Aside0.mk (below_step (Sh.hs HB.out GE297.out) hb); clear BK297; clear HB; have BK297 := n0_; have HB := n1_; clear n0_ n1_; (try clear hb); (try clear hb2); (try clear hk); (try clear hi); (try have hcygb297_0 : _ = some (.int .i64 a0_0) := (blk_cell BK297.out 0).trans rfl); (try have hcygb297_1 : _ = some (.int .i64 a0_1) := (blk_cell BK297.out 1).trans rfl); (try have hcygb297_2 : _ = some (.int .i64 a0_2) := (blk_cell BK297.out 2).trans rfl); (try have hcygb297_3 : _ = some (.int .i64 a0_3) := (blk_cell BK297.out 3).trans rfl); (try have hcygb297_4 : _ = some (.int .i64 a0_4) := (blk_cell BK297.out 4).trans rfl); (try have hcygb297_5 : _ = some (.string a0_5) := (blk_cell BK297.out 5).trans rfl)))
              have n0_ := Aside0.mk (blk_drew BK297.out)
              have n1_ := Aside0.mk (below_drew1 HB.out)
              clear BK297
              clear HB
              have BK297 := n0_
              have HB := n1_
              clear n0_ n1_
              refine start_ (n := 29) (S := fun w' => w'.cell? ⟨gb297, 0, none⟩ = some (.int .i64 a0_0) ∧ w'.cell? ⟨gb297, 1, none⟩ = some (.int .i64 a0_1) ∧ w'.cell? ⟨gb297, 2, none⟩ = some (.int .i64 a0_2) ∧ w'.cell? ⟨gb297, 3, none⟩ = some (.int .i64 a0_3) ∧ w'.cell? ⟨gb297, 4, none⟩ = some (.int .i64 a0_4) ∧ w'.cell? ⟨gb297, 5, none⟩ = some (.string a0_5)) (ds := []) #[false, false, false, false, false, false, false, false, false, false, false, false, false, false, false, false, false, false, false, false, false, false, false, false, false, false, false, false, false] (by kernel_rfl) rfl rfl ⟨(blk_cell BK297.out 0).trans rfl, (blk_cell BK297.out 1).trans rfl, (blk_cell BK297.out 2).trans rfl, (blk_cell BK297.out 3).trans rfl, (blk_cell BK297.out 4).trans rfl, (blk_cell BK297.out 5).trans rfl⟩ (fun hHeld => ?_); refine with_tabW impl_PageText.tab3 impl_PageText.bits3 (fun HT_ HW_ => ?_)
              generalize w16.drew = w17 at BK297 HB hHeld ⊢
              refine Sh.py 0 7 HT_ ?_
              refine Sh.py 5 12 HT_ ?_
              refine Sh.py 9 16 HT_ ?_
              refine Sh.py 13 20 HT_ ?_
              refine Sh.py 17 24 HT_ ?_
              refine Sh.py 21 28 HT_ ?_
              refine Sh.ty 1 8 HT_ HW_ hHeld ?_ (hv := by rintro w' ⟨s0, s1, s2, s3, s4, s5⟩; go_simp; with_reducible rfl)
              refine Sh.py 2 9 HT_ ?_
              refine Sh.ty 6 13 HT_ HW_ hHeld ?_ (hv := by rintro w' ⟨s0, s1, s2, s3, s4, s5⟩; go_simp; with_reducible rfl)
              refine Sh.ty 10 17 HT_ HW_ hHeld ?_ (hv := by rintro w' ⟨s0, s1, s2, s3, s4, s5⟩; go_simp; with_reducible rfl)
              refine Sh.ty 14 21 HT_ HW_ hHeld ?_ (hv := by rintro w' ⟨s0, s1, s2, s3, s4, s5⟩; go_simp; with_reducible rfl)
              refine Sh.ty 18 25 HT_ HW_ hHeld ?_ (hv := by rintro w' ⟨s0, s1, s2, s3, s4, s5⟩; go_simp; with_reducible rfl)
              refine Sh.ty 22 29 HT_ HW_ hHeld ?_ (hv := by rintro w' ⟨s0, s1, s2, s3, s4, s5⟩; go_simp; with_reducible rfl)
              refine join_ (σ := Value) 7 #[true, true, true, true, true, true, true, true, true, true, true, true, true, true, true, true, true, true, true, true, false, true, true, false, false, false, false, false, false] (fun s_ => [(10, s_), (11, .string (strOfNums y299)), (14, .string t302), (18, .string t303), (22, .string t304), (26, .string t305), (15, .string ((strOfNums y299) ++ t302)), (19, .string (((strOfNums y299) ++ t302) ++ t303)), (23, .string ((((strOfNums y299) ++ t302) ++ t303) ++ t304))]) (fun s_ w' => (w'.cell? ⟨gb297, 0, none⟩ = some (.int .i64 a0_0) ∧ w'.cell? ⟨gb297, 1, none⟩ = some (.int .i64 a0_1) ∧ w'.cell? ⟨gb297, 2, none⟩ = some (.int .i64 a0_2) ∧ w'.cell? ⟨gb297, 3, none⟩ = some (.int .i64 a0_3) ∧ w'.cell? ⟨gb297, 4, none⟩ = some (.int .i64 a0_4) ∧ w'.cell? ⟨gb297, 5, none⟩ = some (.string a0_5)) ∧ (Kd.R (Kd.int .u8) 5 w' w.heap.size (fun _ => True) s_ y299) ∧ (w'.heap[gb297]? = some (.cells #[.int .i64 a0_0, .int .i64 a0_1, .int .i64 a0_2, .int .i64 a0_3, .int .i64 a0_4, .string a0_5] 44 (0, 0))) ∧ (Below w.heap.size w w')) ?_ ?_
              rotate_left
              · intro hJ3_4_7_11_15_19
                refine join_ (σ := Value) 8 #[true, true, true, true, true, true, true, true, true, true, true, true, true, true, true, true, true, true, true, false, false, true, true, false, false, false, false, false, false] (fun s_ => [(10, s_), (11, .string (strOfNums y299)), (14, .string t302), (18, .string t303), (22, .string t304), (15, .string ((strOfNums y299) ++ t302)), (19, .string (((strOfNums y299) ++ t302) ++ t303)), (23, .string ((((strOfNums y299) ++ t302) ++ t303) ++ t304))]) (fun s_ w' => (w'.cell? ⟨gb297, 0, none⟩ = some (.int .i64 a0_0) ∧ w'.cell? ⟨gb297, 1, none⟩ = some (.int .i64 a0_1) ∧ w'.cell? ⟨gb297, 2, none⟩ = some (.int .i64 a0_2) ∧ w'.cell? ⟨gb297, 3, none⟩ = some (.int .i64 a0_3) ∧ w'.cell? ⟨gb297, 4, none⟩ = some (.int .i64 a0_4) ∧ w'.cell? ⟨gb297, 5, none⟩ = some (.string a0_5)) ∧ (Kd.R (Kd.int .u8) 5 w' w.heap.size (fun _ => True) s_ y299) ∧ (w'.heap[gb297]? = some (.cells #[.int .i64 a0_0, .int .i64 a0_1, .int .i64 a0_2, .int .i64 a0_3, .int .i64 a0_4, .string a0_5] 44 (0, 0))) ∧ (Below w.heap.size w w')) ?_ ?_
                rotate_left
                · intro hJ3_4_7_11_15
                  refine join_ (σ := Value) 11 #[true, true, true, true, false, true, true, true, false, true, true, true, false, true, true, true, false, true, true, true, false, true, true, false, false, false, false, false, false] (fun s_ => [(10, s_), (14, .string t302), (18, .string t303), (22, .string t304), (26, .string t305)]) (fun s_ w' => (w'.cell? ⟨gb297, 0, none⟩ = some (.int .i64 a0_0) ∧ w'.cell? ⟨gb297, 1, none⟩ = some (.int .i64 a0_1) ∧ w'.cell? ⟨gb297, 2, none⟩ = some (.int .i64 a0_2) ∧ w'.cell? ⟨gb297, 3, none⟩ = some (.int .i64 a0_3) ∧ w'.cell? ⟨gb297, 4, none⟩ = some (.int .i64 a0_4) ∧ w'.cell? ⟨gb297, 5, none⟩ = some (.string a0_5)) ∧ (Kd.R (Kd.int .u8) 5 w' w.heap.size (fun _ => True) s_ y299) ∧ (w'.heap[gb297]? = some (.cells #[.int .i64 a0_0, .int .i64 a0_1, .int .i64 a0_2, .int .i64 a0_3, .int .i64 a0_4, .string a0_5] 44 (0, 0))) ∧ (Below w.heap.size w w')) ?_ ?_
                  rotate_left
                  · intro hJ3_7_11_15_19
                    refine join_ (σ := Value) 10 #[true, true, true, true, true, true, true, true, true, true, true, true, true, true, true, false, false, true, true, false, false, true, true, false, false, false, false, false, false] (fun s_ => [(10, s_), (11, .string (strOfNums y299)), (14, .string t302), (18, .string t303), (15, .string ((strOfNums y299) ++ t302)), (19, .string (((strOfNums y299) ++ t302) ++ t303))]) (fun s_ w' => (w'.cell? ⟨gb297, 0, none⟩ = some (.int .i64 a0_0) ∧ w'.cell? ⟨gb297, 1, none⟩ = some (.int .i64 a0_1) ∧ w'.cell? ⟨gb297, 2, none⟩ = some (.int .i64 a0_2) ∧ w'.cell? ⟨gb297, 3, none⟩ = some (.int .i64 a0_3) ∧ w'.cell? ⟨gb297, 4, none⟩ = some (.int .i64 a0_4) ∧ w'.cell? ⟨gb297, 5, none⟩ = some (.string a0_5)) ∧ (Kd.R (Kd.int .u8) 5 w' w.heap.size (fun _ => True) s_ y299) ∧ (w'.heap[gb297]? = some (.cells #[.int .i64 a0_0, .int .i64 a0_1, .int .i64 a0_2, .int .i64 a0_3, .int .i64 a0_4, .string a0_5] 44 (0, 0))) ∧ (Below w.heap.size w w')) ?_ ?_
                    rotate_left
                    · intro hJ3_4_7_11
                      refine join_ (σ := Value) 12 #[true, true, true, true, false, true, true, true, false, true, true, true, false, true, true, true, false, true, true, false, false, true, true, false, false, false, false, false, false] (fun s_ => [(10, s_), (14, .string t302), (18, .string t303), (22, .string t304)]) (fun s_ w' => (w'.cell? ⟨gb297, 0, none⟩ = some (.int .i64 a0_0) ∧ w'.cell? ⟨gb297, 1, none⟩ = some (.int .i64 a0_1) ∧ w'.cell? ⟨gb297, 2, none⟩ = some (.int .i64 a0_2) ∧ w'.cell? ⟨gb297, 3, none⟩ = some (.int .i64 a0_3) ∧ w'.cell? ⟨gb297, 4, none⟩ = some (.int .i64 a0_4) ∧ w'.cell? ⟨gb297, 5, none⟩ = some (.string a0_5)) ∧ (Kd.R (Kd.int .u8) 5 w' w.heap.size (fun _ => True) s_ y299) ∧ (w'.heap[gb297]? = some (.cells #[.int .i64 a0_0, .int .i64 a0_1, .int .i64 a0_2, .int .i64 a0_3, .int .i64 a0_4, .string a0_5] 44 (0, 0))) ∧ (Below w.heap.size w w')) ?_ ?_
                      rotate_left
                      · intro hJ3_7_11_15
                        refine join_ (σ := Unit) 12 #[true, true, true, false, false, true, true, true, false, true, true, true, false, true, true, true, false, true, true, true, false, true, true, false, false, false, false, false, false] (fun s_ => [(14, .string t302), (18, .string t303), (22, .string t304), (26, .string t305)]) (fun s_ w' => (w'.cell? ⟨gb297, 0, none⟩ = some (.int .i64 a0_0) ∧ w'.cell? ⟨gb297, 1, none⟩ = some (.int .i64 a0_1) ∧ w'.cell? ⟨gb297, 2, none⟩ = some (.int .i64 a0_2) ∧ w'.cell? ⟨gb297, 3, none⟩ = some (.int .i64 a0_3) ∧ w'.cell? ⟨gb297, 4, none⟩ = some (.int .i64 a0_4) ∧ w'.cell? ⟨gb297, 5, none⟩ = some (.string a0_5)) ∧ (w'.heap[gb297]? = some (.cells #[.int .i64 a0_0, .int .i64 a0_1, .int .i64 a0_2, .int .i64 a0_3, .int .i64 a0_4, .string a0_5] 44 (0, 0))) ∧ (Below w.heap.size w w')) ?_ ?_
                        rotate_left
                        · intro hJ7_11_15_19
                          refine join_ (σ := Value) 12 #[true, true, true, true, true, true, true, true, true, true, true, false, false, true, true, false, false, true, true, false, false, true, true, false, false, false, false, false, false] (fun s_ => [(10, s_), (11, .string (strOfNums y299)), (14, .string t302), (15, .string ((strOfNums y299) ++ t302))]) (fun s_ w' => (w'.cell? ⟨gb297, 0, none⟩ = some (.int .i64 a0_0) ∧ w'.cell? ⟨gb297, 1, none⟩ = some (.int .i64 a0_1) ∧ w'.cell? ⟨gb297, 2, none⟩ = some (.int .i64 a0_2) ∧ w'.cell? ⟨gb297, 3, none⟩ = some (.int .i64 a0_3) ∧ w'.cell? ⟨gb297, 4, none⟩ = some (.int .i64 a0_4) ∧ w'.cell? ⟨gb297, 5, none⟩ = some (.string a0_5)) ∧ (Kd.R (Kd.int .u8) 5 w' w.heap.size (fun _ => True) s_ y299) ∧ (w'.heap[gb297]? = some (.cells #[.int .i64 a0_0, .int .i64 a0_1, .int .i64 a0_2, .int .i64 a0_3, .int .i64 a0_4, .string a0_5] 44 (0, 0))) ∧ (Below w.heap.size w w')) ?_ ?_
                          rotate_left
                          · intro hJ3_4_7
                            refine join_ (σ := Value) 13 #[true, true, true, true, false, true, true, true, false, true, true, true, false, true, true, false, false, true, true, false, false, true, true, false, false, false, false, false, false] (fun s_ => [(10, s_), (14, .string t302), (18, .string t303)]) (fun s_ w' => (w'.cell? ⟨gb297, 0, none⟩ = some (.int .i64 a0_0) ∧ w'.cell? ⟨gb297, 1, none⟩ = some (.int .i64 a0_1) ∧ w'.cell? ⟨gb297, 2, none⟩ = some (.int .i64 a0_2) ∧ w'.cell? ⟨gb297, 3, none⟩ = some (.int .i64 a0_3) ∧ w'.cell? ⟨gb297, 4, none⟩ = some (.int .i64 a0_4) ∧ w'.cell? ⟨gb297, 5, none⟩ = some (.string a0_5)) ∧ (Kd.R (Kd.int .u8) 5 w' w.heap.size (fun _ => True) s_ y299) ∧ (w'.heap[gb297]? = some (.cells #[.int .i64 a0_0, .int .i64 a0_1, .int .i64 a0_2, .int .i64 a0_3, .int .i64 a0_4, .string a0_5] 44 (0, 0))) ∧ (Below w.heap.size w w')) ?_ ?_
                            rotate_left
                            · intro hJ3_7_11
                              refine join_ (σ := Unit) 13 #[true, true, true, false, false, true, true, true, false, true, true, true, false, true, true, true, false, true, true, false, false, true, true, false, false, false, false, false, false] (fun s_ => [(14, .string t302), (18, .string t303), (22, .string t304)]) (fun s_ w' => (w'.cell? ⟨gb297, 0, none⟩ = some (.int .i64 a0_0) ∧ w'.cell? ⟨gb297, 1, none⟩ = some (.int .i64 a0_1) ∧ w'.cell? ⟨gb297, 2, none⟩ = some (.int .i64 a0_2) ∧ w'.cell? ⟨gb297, 3, none⟩ = some (.int .i64 a0_3) ∧ w'.cell? ⟨gb297, 4, none⟩ = some (.int .i64 a0_4) ∧ w'.cell? ⟨gb297, 5, none⟩ = some (.string a0_5)) ∧ (w'.heap[gb297]? = some (.cells #[.int .i64 a0_0, .int .i64 a0_1, .int .i64 a0_2, .int .i64 a0_3, .int .i64 a0_4, .string a0_5] 44 (0, 0))) ∧ (Below w.heap.size w w')) ?_ ?_
                              rotate_left
                              · intro hJ7_11_15
                                refine join_ (σ := Value) 14 #[true, true, true, true, true, true, true, false, false, true, true, false, false, true, true, false, false, true, true, false, false, true, true, false, false, false, false, false, false] (fun s_ => [(10, s_), (11, .string (strOfNums y299))]) (fun s_ w' => (w'.cell? ⟨gb297, 0, none⟩ = some (.int .i64 a0_0) ∧ w'.cell? ⟨gb297, 1, none⟩ = some (.int .i64 a0_1) ∧ w'.cell? ⟨gb297, 2, none⟩ = some (.int .i64 a0_2) ∧ w'.cell? ⟨gb297, 3, none⟩ = some (.int .i64 a0_3) ∧ w'.cell? ⟨gb297, 4, none⟩ = some (.int .i64 a0_4) ∧ w'.cell? ⟨gb297, 5, none⟩ = some (.string a0_5)) ∧ (Kd.R (Kd.int .u8) 5 w' w.heap.size (fun _ => True) s_ y299) ∧ (w'.heap[gb297]? = some (.cells #[.int .i64 a0_0, .int .i64 a0_1, .int .i64 a0_2, .int .i64 a0_3, .int .i64 a0_4, .string a0_5] 44 (0, 0))) ∧ (Below w.heap.size w w')) ?_ ?_
                                rotate_left
                                · intro hJ3_4
                                  refine join_ (σ := Value) 14 #[true, true, true, true, false, true, true, true, false, true, true, false, false, true, true, false, false, true, true, false, false, true, true, false, false, false, false, false, false] (fun s_ => [(10, s_), (14, .string t302)]) (fun s_ w' => (w'.cell? ⟨gb297, 0, none⟩ = some (.int .i64 a0_0) ∧ w'.cell? ⟨gb297, 1, none⟩ = some (.int .i64 a0_1) ∧ w'.cell? ⟨gb297, 2, none⟩ = some (.int .i64 a0_2) ∧ w'.cell? ⟨gb297, 3, none⟩ = some (.int .i64 a0_3) ∧ w'.cell? ⟨gb297, 4, none⟩ = some (.int .i64 a0_4) ∧ w'.cell? ⟨gb297, 5, none⟩ = some (.string a0_5)) ∧ (Kd.R (Kd.int .u8) 5 w' w.heap.size (fun _ => True) s_ y299) ∧ (w'.heap[gb297]? = some (.cells #[.int .i64 a0_0, .int .i64 a0_1, .int .i64 a0_2, .int .i64 a0_3, .int .i64 a0_4, .string a0_5] 44 (0, 0))) ∧ (Below w.heap.size w w')) ?_ ?_
                                  rotate_left
                                  · intro hJ3_7
                                    refine join_ (σ := Unit) 14 #[true, true, true, false, false, true, true, true, false, true, true, true, false, true, true, false, false, true, true, false, false, true, true, false, false, false, false, false, false] (fun s_ => [(14, .string t302), (18, .string t303)]) (fun s_ w' => (w'.cell? ⟨gb297, 0, none⟩ = some (.int .i64 a0_0) ∧ w'.cell? ⟨gb297, 1, none⟩ = some (.int .i64 a0_1) ∧ w'.cell? ⟨gb297, 2, none⟩ = some (.int .i64 a0_2) ∧ w'.cell? ⟨gb297, 3, none⟩ = some (.int .i64 a0_3) ∧ w'.cell? ⟨gb297, 4, none⟩ = some (.int .i64 a0_4) ∧ w'.cell? ⟨gb297, 5, none⟩ = some (.string a0_5)) ∧ (w'.heap[gb297]? = some (.cells #[.int .i64 a0_0, .int .i64 a0_1, .int .i64 a0_2, .int .i64 a0_3, .int .i64 a0_4, .string a0_5] 44 (0, 0))) ∧ (Below w.heap.size w w')) ?_ ?_
                                    rotate_left
                                    · intro hJ7_11
                                      refine join_ (σ := Value) 15 #[true, true, true, true, false, true, true, false, false, true, true, false, false, true, true, false, false, true, true, false, false, true, true, false, false, false, false, false, false] (fun s_ => [(10, s_)]) (fun s_ w' => (w'.cell? ⟨gb297, 0, none⟩ = some (.int .i64 a0_0) ∧ w'.cell? ⟨gb297, 1, none⟩ = some (.int .i64 a0_1) ∧ w'.cell? ⟨gb297, 2, none⟩ = some (.int .i64 a0_2) ∧ w'.cell? ⟨gb297, 3, none⟩ = some (.int .i64 a0_3) ∧ w'.cell? ⟨gb297, 4, none⟩ = some (.int .i64 a0_4) ∧ w'.cell? ⟨gb297, 5, none⟩ = some (.string a0_5)) ∧ (Kd.R (Kd.int .u8) 5 w' w.heap.size (fun _ => True) s_ y299) ∧ (w'.heap[gb297]? = some (.cells #[.int .i64 a0_0, .int .i64 a0_1, .int .i64 a0_2, .int .i64 a0_3, .int .i64 a0_4, .string a0_5] 44 (0, 0))) ∧ (Below w.heap.size w w')) ?_ ?_
                                      rotate_left
                                      · intro hJ3
                                        refine join_ (σ := Unit) 15 #[true, true, true, false, false, true, true, true, false, true, true, false, false, true, true, false, false, true, true, false, false, true, true, false, false, false, false, false, false] (fun s_ => [(14, .string t302)]) (fun s_ w' => (w'.cell? ⟨gb297, 0, none⟩ = some (.int .i64 a0_0) ∧ w'.cell? ⟨gb297, 1, none⟩ = some (.int .i64 a0_1) ∧ w'.cell? ⟨gb297, 2, none⟩ = some (.int .i64 a0_2) ∧ w'.cell? ⟨gb297, 3, none⟩ = some (.int .i64 a0_3) ∧ w'.cell? ⟨gb297, 4, none⟩ = some (.int .i64 a0_4) ∧ w'.cell? ⟨gb297, 5, none⟩ = some (.string a0_5)) ∧ (w'.heap[gb297]? = some (.cells #[.int .i64 a0_0, .int .i64 a0_1, .int .i64 a0_2, .int .i64 a0_3, .int .i64 a0_4, .string a0_5] 44 (0, 0))) ∧ (Below w.heap.size w w')) ?_ ?_
                                        rotate_left
                                        · intro hJ7
                                          refine two_ (i := 3) (j := 7) (Ni := some 10) (Nj := some 14) #[true, true, true, true, false, true, true, false, false, true, true, false, false, true, true, false, false, true, true, false, false, true, true, false, false, false, false, false, false] #[true, true, true, false, false, true, true, true, false, true, true, false, false, true, true, false, false, true, true, false, false, true, true, false, false, false, false, false, false] rfl rfl rfl rfl (two_of HT_.out (by kernel_rfl)) (by decide) (by decide) (fun K hK => ?_) (fun K hK => ?_)
                                          · skip
                                            refine Kd.R_lit_step (Kd.int .u8) _ 5 ?hg (N := 10) ?hd (xs := ([(a0_0) % 256] : List Int)) (inner := [.int .u8 ((a0_0) % 256)]) (ok := fun _ => True) (okp := fun _ => True) ?hr ?hp (fun _ hk => hk) trivial (Below.refl _ _) (Nat.le_refl _) (by simp) ?_; (case hd => rfl); (case hg => rfl); (case hr => first | (go_simp; done) | (go_simp; rfl)); (case hp => exact (Reps.one (show Kd.M (Kd.int .u8) _ _ _ ((a0_0) % 256) [.int .u8 ((a0_0) % 256)] from rfl) (Reps.none _ _)))
                                            intro v300 w18 ho19 hb hg_ hnew_
                                            clear hg_ hnew_
                                            (first | rw [← Ny299.out] at ho19 | (simp only [Int.reduceToNat] at ho19; rw [← Ny299.out] at ho19))
                                            have n0_ := Aside0.mk (Kd.R_lower ho19 (below_size (Sh.hs HB.out GE297.out)))
                                            have n1_ := Aside0.mk (blk_below (g := gb297) (o := .cells #[.int .i64 a0_0, .int .i64 a0_1, .int .i64 a0_2, .int .i64 a0_3, .int .i64 a0_4, .string a0_5] 44 (0, 0)) (Sh.bk BK297.out) hb)
                                            have n2_ := Aside0.mk (below_step (Sh.hs HB.out GE297.out) hb)
                                            clear BK297
                                            clear HB
                                            have HO301 := n0_
                                            have BK297 := n1_
                                            have HB := n2_
                                            clear n0_ n1_ n2_
                                            clear hb ho19
                                            refine hK.out _ _ ⟨(blk_cell BK297.out 0).trans rfl, (blk_cell BK297.out 1).trans rfl, (blk_cell BK297.out 2).trans rfl, (blk_cell BK297.out 3).trans rfl, (blk_cell BK297.out 4).trans rfl, (blk_cell BK297.out 5).trans rfl⟩ (fun hHeld => ?_)
                                            clear hK K
                                            refine norm_ (a' := ?_) ?_ ?_
                                            rotate_left
                                            · show Act.put _ (some 10) _ = _
                                              simp only [Act.put, List.setIfInBounds_toArray, List.set_cons_zero, List.set_cons_succ, i64_w, i32_w]
                                              rfl
                                            exact norm_ (by first | (simp only [putAll, Act.put, List.setIfInBounds_toArray, List.set_cons_zero, List.set_cons_succ]; done) | (simp only [putAll, Act.put, List.setIfInBounds_toArray, List.set_cons_zero, List.set_cons_succ]; rfl)) (hJ3 (v300) _ ⟨hHeld, (by (with_reducible repeat (first | apply Kd.R_alloc | apply Kd.R_drewN | apply Kd.R_drew)); exact HO301.out), (Sh.bk BK297.out), (Sh.hs HB.out GE297.out)⟩)
                                          · skip
                                            refine goes_ Try.func59 (by kernel_rfl) rfl #[.int .i64 a0_1] (by rfl) rfl rfl Sh.al ?_
                                            with_reducible refine (impl_varOf.calls k a0_1 t302 _ A4.out).mono ?_
                                            rintro e w18 ⟨rfl, hb⟩
                                            refine ⟨_, rfl, ?_⟩
                                            have n0_ := Aside0.mk (blk_below (g := gb297) (o := .cells #[.int .i64 a0_0, .int .i64 a0_1, .int .i64 a0_2, .int .i64 a0_3, .int .i64 a0_4, .string a0_5] 44 (0, 0)) (Sh.bk BK297.out) hb)
                                            have n1_ := Aside0.mk (below_step (Sh.hs HB.out GE297.out) hb)
                                            clear BK297
                                            clear HB
                                            have BK297 := n0_
                                            have HB := n1_
                                            clear n0_ n1_
                                            (try clear hb)
                                            (try clear hb2)
                                            (try clear hk)
                                            (try clear hi)
                                            refine hK.out _ _ ⟨(blk_cell BK297.out 0).trans rfl, (blk_cell BK297.out 1).trans rfl, (blk_cell BK297.out 2).trans rfl, (blk_cell BK297.out 3).trans rfl, (blk_cell BK297.out 4).trans rfl, (blk_cell BK297.out 5).trans rfl⟩ (fun hHeld => ?_)
                                            clear hK K
                                            refine norm_ (a' := ?_) ?_ ?_
                                            rotate_left
                                            · show Act.put _ (some 14) _ = _
                                              simp only [Act.put, List.setIfInBounds_toArray, List.set_cons_zero, List.set_cons_succ, i64_w, i32_w]
                                              rfl
                                            exact norm_ (by first | (simp only [putAll, Act.put, List.setIfInBounds_toArray, List.set_cons_zero, List.set_cons_succ]; done) | (simp only [putAll, Act.put, List.setIfInBounds_toArray, List.set_cons_zero, List.set_cons_succ]; rfl)) (hJ7 () _ ⟨hHeld, (Sh.bk BK297.out), (Sh.hs HB.out GE297.out)⟩)
                                        · skip
                                          rintro _ w19 ⟨hS_, h0_, h1_⟩
                                          have n0_ : Aside0 (w19.heap[gb297]? = some (.cells #[.int .i64 a0_0, .int .i64 a0_1, .int .i64 a0_2, .int .i64 a0_3, .int .i64 a0_4, .string a0_5] 44 (0, 0))) := ⟨h0_⟩
                                          have n1_ : Aside0 (Below w.heap.size w w19) := ⟨h1_⟩
                                          clear BK297
                                          clear HB
                                          clear h0_ h1_
                                          have BK297 := n0_
                                          have HB := n1_
                                          clear n0_ n1_
                                          have hHeld : w19.cell? ⟨gb297, 0, none⟩ = some (.int .i64 a0_0) ∧ w19.cell? ⟨gb297, 1, none⟩ = some (.int .i64 a0_1) ∧ w19.cell? ⟨gb297, 2, none⟩ = some (.int .i64 a0_2) ∧ w19.cell? ⟨gb297, 3, none⟩ = some (.int .i64 a0_3) ∧ w19.cell? ⟨gb297, 4, none⟩ = some (.int .i64 a0_4) ∧ w19.cell? ⟨gb297, 5, none⟩ = some (.string a0_5) := hS_
                                          refine norm_ (a' := ?_) ?_ ?_
                                          rotate_left
                                          · simp only [putAll, Act.put, List.setIfInBounds_toArray, List.set_cons_zero, List.set_cons_succ]
                                            rfl
                                          refine two_ (i := 3) (j := 11) (Ni := some 10) (Nj := some 18) #[true, true, true, true, false, true, true, true, false, true, true, false, false, true, true, false, false, true, true, false, false, true, true, false, false, false, false, false, false] #[true, true, true, false, false, true, true, true, false, true, true, true, false, true, true, false, false, true, true, false, false, true, true, false, false, false, false, false, false] rfl rfl rfl rfl (two_of HT_.out (by kernel_rfl)) (by decide) (by decide) (fun K hK => ?_) (fun K hK => ?_)
                                          · skip
                                            refine Kd.R_lit_step (Kd.int .u8) _ 5 ?hg (N := 10) ?hd (xs := ([(a0_0) % 256] : List Int)) (inner := [.int .u8 ((a0_0) % 256)]) (ok := fun _ => True) (okp := fun _ => True) ?hr ?hp (fun _ hk => hk) trivial (Below.refl _ _) (Nat.le_refl _) (by simp) ?_; (case hd => rfl); (case hg => rfl); (case hr => first | (go_simp; done) | (go_simp; rfl)); (case hp => exact (Reps.one (show Kd.M (Kd.int .u8) _ _ _ ((a0_0) % 256) [.int .u8 ((a0_0) % 256)] from rfl) (Reps.none _ _)))
                                            intro v300 w20 ho21 hb hg_ hnew_
                                            clear hg_ hnew_
                                            (first | rw [← Ny299.out] at ho21 | (simp only [Int.reduceToNat] at ho21; rw [← Ny299.out] at ho21))
                                            have n0_ := Aside0.mk (Kd.R_lower ho21 (below_size (Sh.hs HB.out GE297.out)))
                                            have n1_ := Aside0.mk (blk_below (g := gb297) (o := .cells #[.int .i64 a0_0, .int .i64 a0_1, .int .i64 a0_2, .int .i64 a0_3, .int .i64 a0_4, .string a0_5] 44 (0, 0)) (Sh.bk BK297.out) hb)
                                            have n2_ := Aside0.mk (below_step (Sh.hs HB.out GE297.out) hb)
                                            clear BK297
                                            clear HB
                                            have HO301 := n0_
                                            have BK297 := n1_
                                            have HB := n2_
                                            clear n0_ n1_ n2_
                                            clear hb ho21
                                            refine hK.out _ _ ⟨(blk_cell BK297.out 0).trans rfl, (blk_cell BK297.out 1).trans rfl, (blk_cell BK297.out 2).trans rfl, (blk_cell BK297.out 3).trans rfl, (blk_cell BK297.out 4).trans rfl, (blk_cell BK297.out 5).trans rfl⟩ (fun hHeld => ?_)
                                            clear hK K
                                            refine norm_ (a' := ?_) ?_ ?_
                                            rotate_left
                                            · show Act.put _ (some 10) _ = _
                                              simp only [Act.put, List.setIfInBounds_toArray, List.set_cons_zero, List.set_cons_succ, i64_w, i32_w]
                                              rfl
                                            exact norm_ (by first | (simp only [putAll, Act.put, List.setIfInBounds_toArray, List.set_cons_zero, List.set_cons_succ]; done) | (simp only [putAll, Act.put, List.setIfInBounds_toArray, List.set_cons_zero, List.set_cons_succ]; rfl)) (hJ3_7 (v300) _ ⟨hHeld, (by (with_reducible repeat (first | apply Kd.R_alloc | apply Kd.R_drewN | apply Kd.R_drew)); exact HO301.out), (Sh.bk BK297.out), (Sh.hs HB.out GE297.out)⟩)
                                          · skip
                                            refine goes_ Try.func59 (by kernel_rfl) rfl #[.int .i64 a0_2] (by rfl) rfl rfl Sh.al ?_
                                            with_reducible refine (impl_varOf.calls k a0_2 t303 _ A6.out).mono ?_
                                            rintro e w20 ⟨rfl, hb⟩
                                            refine ⟨_, rfl, ?_⟩
                                            have n0_ := Aside0.mk (blk_below (g := gb297) (o := .cells #[.int .i64 a0_0, .int .i64 a0_1, .int .i64 a0_2, .int .i64 a0_3, .int .i64 a0_4, .string a0_5] 44 (0, 0)) (Sh.bk BK297.out) hb)
                                            have n1_ := Aside0.mk (below_step (Sh.hs HB.out GE297.out) hb)
                                            clear BK297
                                            clear HB
                                            have BK297 := n0_
                                            have HB := n1_
                                            clear n0_ n1_
                                            (try clear hb)
                                            (try clear hb2)
                                            (try clear hk)
                                            (try clear hi)
                                            refine hK.out _ _ ⟨(blk_cell BK297.out 0).trans rfl, (blk_cell BK297.out 1).trans rfl, (blk_cell BK297.out 2).trans rfl, (blk_cell BK297.out 3).trans rfl, (blk_cell BK297.out 4).trans rfl, (blk_cell BK297.out 5).trans rfl⟩ (fun hHeld => ?_)
                                            clear hK K
                                            refine norm_ (a' := ?_) ?_ ?_
                                            rotate_left
                                            · show Act.put _ (some 18) _ = _
                                              simp only [Act.put, List.setIfInBounds_toArray, List.set_cons_zero, List.set_cons_succ, i64_w, i32_w]
                                              rfl
                                            exact norm_ (by first | (simp only [putAll, Act.put, List.setIfInBounds_toArray, List.set_cons_zero, List.set_cons_succ]; done) | (simp only [putAll, Act.put, List.setIfInBounds_toArray, List.set_cons_zero, List.set_cons_succ]; rfl)) (hJ7_11 () _ ⟨hHeld, (Sh.bk BK297.out), (Sh.hs HB.out GE297.out)⟩)
                                      · skip
                                        rintro v300 w20 ⟨hS_, h0_, h1_, h2_⟩
                                        have n0_ : Aside0 (Kd.R (Kd.int .u8) 5 w20 w.heap.size (fun _ => True) v300 y299) := ⟨h0_⟩
                                        have n1_ : Aside0 (w20.heap[gb297]? = some (.cells #[.int .i64 a0_0, .int .i64 a0_1, .int .i64 a0_2, .int .i64 a0_3, .int .i64 a0_4, .string a0_5] 44 (0, 0))) := ⟨h1_⟩
                                        have n2_ : Aside0 (Below w.heap.size w w20) := ⟨h2_⟩
                                        clear BK297
                                        clear HB
                                        clear h0_ h1_ h2_
                                        have HO301 := n0_
                                        have BK297 := n1_
                                        have HB := n2_
                                        clear n0_ n1_ n2_
                                        have hHeld : w20.cell? ⟨gb297, 0, none⟩ = some (.int .i64 a0_0) ∧ w20.cell? ⟨gb297, 1, none⟩ = some (.int .i64 a0_1) ∧ w20.cell? ⟨gb297, 2, none⟩ = some (.int .i64 a0_2) ∧ w20.cell? ⟨gb297, 3, none⟩ = some (.int .i64 a0_3) ∧ w20.cell? ⟨gb297, 4, none⟩ = some (.int .i64 a0_4) ∧ w20.cell? ⟨gb297, 5, none⟩ = some (.string a0_5) := hS_
                                        refine norm_ (a' := ?_) ?_ ?_
                                        rotate_left
                                        · simp only [putAll, Act.put, List.setIfInBounds_toArray, List.set_cons_zero, List.set_cons_succ]
                                          rfl
                                        refine two_ (i := 4) (j := 7) (Ni := some 11) (Nj := some 14) #[true, true, true, true, true, true, true, false, false, true, true, false, false, true, true, false, false, true, true, false, false, true, true, false, false, false, false, false, false] #[true, true, true, true, false, true, true, true, false, true, true, false, false, true, true, false, false, true, true, false, false, true, true, false, false, false, false, false, false] rfl rfl rfl rfl (two_of HT_.out (by kernel_rfl)) (by decide) (by decide) (fun K hK => ?_) (fun K hK => ?_)
                                        · skip
                                          have hcv21 := own_string (P := Try.prog) Try.underlying34 Try.underlying5 Try.underlying9 (Kd.own_of_R HO301.out)
                                          refine value_ (w1 := ?_) (v := ?_) (by rfl) rfl ?_ ?_
                                          rotate_left 2
                                          · go_simp
                                            constructor
                                            · rfl
                                            · rfl
                                          clear hcv21
                                          refine hK.out _ _ ⟨(blk_cell BK297.out 0).trans rfl, (blk_cell BK297.out 1).trans rfl, (blk_cell BK297.out 2).trans rfl, (blk_cell BK297.out 3).trans rfl, (blk_cell BK297.out 4).trans rfl, (blk_cell BK297.out 5).trans rfl⟩ (fun hHeld => ?_)
                                          clear hK K
                                          refine norm_ (a' := ?_) ?_ ?_
                                          rotate_left
                                          · show Act.put _ (some 11) _ = _
                                            simp only [Act.put, List.setIfInBounds_toArray, List.set_cons_zero, List.set_cons_succ, i64_w, i32_w]
                                            rfl
                                          exact norm_ (by first | (simp only [putAll, Act.put, List.setIfInBounds_toArray, List.set_cons_zero, List.set_cons_succ]; done) | (simp only [putAll, Act.put, List.setIfInBounds_toArray, List.set_cons_zero, List.set_cons_succ]; rfl)) (hJ3_4 (v300) _ ⟨hHeld, (by (with_reducible repeat (first | apply Kd.R_alloc | apply Kd.R_drewN | apply Kd.R_drew)); exact HO301.out), (Sh.bk BK297.out), (Sh.hs HB.out GE297.out)⟩)
                                        · skip
                                          refine goes_ Try.func59 (by kernel_rfl) rfl #[.int .i64 a0_1] (by rfl) rfl rfl Sh.al ?_
                                          with_reducible refine (impl_varOf.calls k a0_1 t302 _ A4.out).mono ?_
                                          rintro e w21 ⟨rfl, hb⟩
                                          refine ⟨_, rfl, ?_⟩
                                          have n0_ := Aside0.mk (Kd.R_below (by (with_reducible repeat (first | apply Kd.R_alloc | apply Kd.R_drewN | apply Kd.R_drew)); exact HO301.out) hb)
                                          have n1_ := Aside0.mk (blk_below (g := gb297) (o := .cells #[.int .i64 a0_0, .int .i64 a0_1, .int .i64 a0_2, .int .i64 a0_3, .int .i64 a0_4, .string a0_5] 44 (0, 0)) (Sh.bk BK297.out) hb)
                                          have n2_ := Aside0.mk (below_step (Sh.hs HB.out GE297.out) hb)
                                          clear HO301
                                          clear BK297
                                          clear HB
                                          have HO301 := n0_
                                          have BK297 := n1_
                                          have HB := n2_
                                          clear n0_ n1_ n2_
                                          (try clear hb)
                                          (try clear hb2)
                                          (try clear hk)
                                          (try clear hi)
                                          refine hK.out _ _ ⟨(blk_cell BK297.out 0).trans rfl, (blk_cell BK297.out 1).trans rfl, (blk_cell BK297.out 2).trans rfl, (blk_cell BK297.out 3).trans rfl, (blk_cell BK297.out 4).trans rfl, (blk_cell BK297.out 5).trans rfl⟩ (fun hHeld => ?_)
                                          clear hK K
                                          refine norm_ (a' := ?_) ?_ ?_
                                          rotate_left
                                          · show Act.put _ (some 14) _ = _
                                            simp only [Act.put, List.setIfInBounds_toArray, List.set_cons_zero, List.set_cons_succ, i64_w, i32_w]
                                            rfl
                                          exact norm_ (by first | (simp only [putAll, Act.put, List.setIfInBounds_toArray, List.set_cons_zero, List.set_cons_succ]; done) | (simp only [putAll, Act.put, List.setIfInBounds_toArray, List.set_cons_zero, List.set_cons_succ]; rfl)) (hJ3_7 (v300) _ ⟨hHeld, (by (with_reducible repeat (first | apply Kd.R_alloc | apply Kd.R_drewN | apply Kd.R_drew)); exact HO301.out), (Sh.bk BK297.out), (Sh.hs HB.out GE297.out)⟩)
                                    · skip
                                      rintro _ w20 ⟨hS_, h0_, h1_⟩
                                      have n0_ : Aside0 (w20.heap[gb297]? = some (.cells #[.int .i64 a0_0, .int .i64 a0_1, .int .i64 a0_2, .int .i64 a0_3, .int .i64 a0_4, .string a0_5] 44 (0, 0))) := ⟨h0_⟩
                                      have n1_ : Aside0 (Below w.heap.size w w20) := ⟨h1_⟩
                                      clear BK297
                                      clear HB
                                      clear h0_ h1_
                                      have BK297 := n0_
                                      have HB := n1_
                                      clear n0_ n1_
                                      have hHeld : w20.cell? ⟨gb297, 0, none⟩ = some (.int .i64 a0_0) ∧ w20.cell? ⟨gb297, 1, none⟩ = some (.int .i64 a0_1) ∧ w20.cell? ⟨gb297, 2, none⟩ = some (.int .i64 a0_2) ∧ w20.cell? ⟨gb297, 3, none⟩ = some (.int .i64 a0_3) ∧ w20.cell? ⟨gb297, 4, none⟩ = some (.int .i64 a0_4) ∧ w20.cell? ⟨gb297, 5, none⟩ = some (.string a0_5) := hS_
                                      refine norm_ (a' := ?_) ?_ ?_
                                      rotate_left
                                      · simp only [putAll, Act.put, List.setIfInBounds_toArray, List.set_cons_zero, List.set_cons_succ]
                                        rfl
                                      refine two_ (i := 3) (j := 15) (Ni := some 10) (Nj := some 22) #[true, true, true, true, false, true, true, true, false, true, true, true, false, true, true, false, false, true, true, false, false, true, true, false, false, false, false, false, false] #[true, true, true, false, false, true, true, true, false, true, true, true, false, true, true, true, false, true, true, false, false, true, true, false, false, false, false, false, false] rfl rfl rfl rfl (two_of HT_.out (by kernel_rfl)) (by decide) (by decide) (fun K hK => ?_) (fun K hK => ?_)
                                      · skip
                                        refine Kd.R_lit_step (Kd.int .u8) _ 5 ?hg (N := 10) ?hd (xs := ([(a0_0) % 256] : List Int)) (inner := [.int .u8 ((a0_0) % 256)]) (ok := fun _ => True) (okp := fun _ => True) ?hr ?hp (fun _ hk => hk) trivial (Below.refl _ _) (Nat.le_refl _) (by simp) ?_; (case hd => rfl); (case hg => rfl); (case hr => first | (go_simp; done) | (go_simp; rfl)); (case hp => exact (Reps.one (show Kd.M (Kd.int .u8) _ _ _ ((a0_0) % 256) [.int .u8 ((a0_0) % 256)] from rfl) (Reps.none _ _)))
                                        intro v300 w21 ho22 hb hg_ hnew_
                                        clear hg_ hnew_
                                        (first | rw [← Ny299.out] at ho22 | (simp only [Int.reduceToNat] at ho22; rw [← Ny299.out] at ho22))
                                        have n0_ := Aside0.mk (Kd.R_lower ho22 (below_size (Sh.hs HB.out GE297.out)))
                                        have n1_ := Aside0.mk (blk_below (g := gb297) (o := .cells #[.int .i64 a0_0, .int .i64 a0_1, .int .i64 a0_2, .int .i64 a0_3, .int .i64 a0_4, .string a0_5] 44 (0, 0)) (Sh.bk BK297.out) hb)
                                        have n2_ := Aside0.mk (below_step (Sh.hs HB.out GE297.out) hb)
                                        clear BK297
                                        clear HB
                                        have HO301 := n0_
                                        have BK297 := n1_
                                        have HB := n2_
                                        clear n0_ n1_ n2_
                                        clear hb ho22
                                        refine hK.out _ _ ⟨(blk_cell BK297.out 0).trans rfl, (blk_cell BK297.out 1).trans rfl, (blk_cell BK297.out 2).trans rfl, (blk_cell BK297.out 3).trans rfl, (blk_cell BK297.out 4).trans rfl, (blk_cell BK297.out 5).trans rfl⟩ (fun hHeld => ?_)
                                        clear hK K
                                        refine norm_ (a' := ?_) ?_ ?_
                                        rotate_left
                                        · show Act.put _ (some 10) _ = _
                                          simp only [Act.put, List.setIfInBounds_toArray, List.set_cons_zero, List.set_cons_succ, i64_w, i32_w]
                                          rfl
                                        exact norm_ (by first | (simp only [putAll, Act.put, List.setIfInBounds_toArray, List.set_cons_zero, List.set_cons_succ]; done) | (simp only [putAll, Act.put, List.setIfInBounds_toArray, List.set_cons_zero, List.set_cons_succ]; rfl)) (hJ3_7_11 (v300) _ ⟨hHeld, (by (with_reducible repeat (first | apply Kd.R_alloc | apply Kd.R_drewN | apply Kd.R_drew)); exact HO301.out), (Sh.bk BK297.out), (Sh.hs HB.out GE297.out)⟩)
                                      · skip
                                        refine goes_ Try.func59 (by kernel_rfl) rfl #[.int .i64 a0_3] (by rfl) rfl rfl Sh.al ?_
                                        with_reducible refine (impl_varOf.calls k a0_3 t304 _ A8.out).mono ?_
                                        rintro e w21 ⟨rfl, hb⟩
                                        refine ⟨_, rfl, ?_⟩
                                        have n0_ := Aside0.mk (blk_below (g := gb297) (o := .cells #[.int .i64 a0_0, .int .i64 a0_1, .int .i64 a0_2, .int .i64 a0_3, .int .i64 a0_4, .string a0_5] 44 (0, 0)) (Sh.bk BK297.out) hb)
                                        have n1_ := Aside0.mk (below_step (Sh.hs HB.out GE297.out) hb)
                                        clear BK297
                                        clear HB
                                        have BK297 := n0_
                                        have HB := n1_
                                        clear n0_ n1_
                                        (try clear hb)
                                        (try clear hb2)
                                        (try clear hk)
                                        (try clear hi)
                                        refine hK.out _ _ ⟨(blk_cell BK297.out 0).trans rfl, (blk_cell BK297.out 1).trans rfl, (blk_cell BK297.out 2).trans rfl, (blk_cell BK297.out 3).trans rfl, (blk_cell BK297.out 4).trans rfl, (blk_cell BK297.out 5).trans rfl⟩ (fun hHeld => ?_)
                                        clear hK K
                                        refine norm_ (a' := ?_) ?_ ?_
                                        rotate_left
                                        · show Act.put _ (some 22) _ = _
                                          simp only [Act.put, List.setIfInBounds_toArray, List.set_cons_zero, List.set_cons_succ, i64_w, i32_w]
                                          rfl
                                        exact norm_ (by first | (simp only [putAll, Act.put, List.setIfInBounds_toArray, List.set_cons_zero, List.set_cons_succ]; done) | (simp only [putAll, Act.put, List.setIfInBounds_toArray, List.set_cons_zero, List.set_cons_succ]; rfl)) (hJ7_11_15 () _ ⟨hHeld, (Sh.bk BK297.out), (Sh.hs HB.out GE297.out)⟩)
                                  · skip
                                    rintro v300 w21 ⟨hS_, h0_, h1_, h2_⟩
                                    have n0_ : Aside0 (Kd.R (Kd.int .u8) 5 w21 w.heap.size (fun _ => True) v300 y299) := ⟨h0_⟩
                                    have n1_ : Aside0 (w21.heap[gb297]? = some (.cells #[.int .i64 a0_0, .int .i64 a0_1, .int .i64 a0_2, .int .i64 a0_3, .int .i64 a0_4, .string a0_5] 44 (0, 0))) := ⟨h1_⟩
                                    have n2_ : Aside0 (Below w.heap.size w w21) := ⟨h2_⟩
                                    clear BK297
                                    clear HB
                                    clear h0_ h1_ h2_
                                    have HO301 := n0_
                                    have BK297 := n1_
                                    have HB := n2_
                                    clear n0_ n1_ n2_
                                    have hHeld : w21.cell? ⟨gb297, 0, none⟩ = some (.int .i64 a0_0) ∧ w21.cell? ⟨gb297, 1, none⟩ = some (.int .i64 a0_1) ∧ w21.cell? ⟨gb297, 2, none⟩ = some (.int .i64 a0_2) ∧ w21.cell? ⟨gb297, 3, none⟩ = some (.int .i64 a0_3) ∧ w21.cell? ⟨gb297, 4, none⟩ = some (.int .i64 a0_4) ∧ w21.cell? ⟨gb297, 5, none⟩ = some (.string a0_5) := hS_
                                    refine norm_ (a' := ?_) ?_ ?_
                                    rotate_left
                                    · simp only [putAll, Act.put, List.setIfInBounds_toArray, List.set_cons_zero, List.set_cons_succ]
                                      rfl
                                    refine two_ (i := 4) (j := 11) (Ni := some 11) (Nj := some 18) #[true, true, true, true, true, true, true, true, false, true, true, false, false, true, true, false, false, true, true, false, false, true, true, false, false, false, false, false, false] #[true, true, true, true, false, true, true, true, false, true, true, true, false, true, true, false, false, true, true, false, false, true, true, false, false, false, false, false, false] rfl rfl rfl rfl (two_of HT_.out (by kernel_rfl)) (by decide) (by decide) (fun K hK => ?_) (fun K hK => ?_)
                                    · skip
                                      have hcv22 := own_string (P := Try.prog) Try.underlying34 Try.underlying5 Try.underlying9 (Kd.own_of_R HO301.out)
                                      refine value_ (w1 := ?_) (v := ?_) (by rfl) rfl ?_ ?_
                                      rotate_left 2
                                      · go_simp
                                        constructor
                                        · rfl
                                        · rfl
                                      clear hcv22
                                      refine hK.out _ _ ⟨(blk_cell BK297.out 0).trans rfl, (blk_cell BK297.out 1).trans rfl, (blk_cell BK297.out 2).trans rfl, (blk_cell BK297.out 3).trans rfl, (blk_cell BK297.out 4).trans rfl, (blk_cell BK297.out 5).trans rfl⟩ (fun hHeld => ?_)
                                      clear hK K
                                      refine norm_ (a' := ?_) ?_ ?_
                                      rotate_left
                                      · show Act.put _ (some 11) _ = _
                                        simp only [Act.put, List.setIfInBounds_toArray, List.set_cons_zero, List.set_cons_succ, i64_w, i32_w]
                                        rfl
                                      refine Sh.py 8 15 HT_ ?_
                                      exact norm_ (by first | (simp only [putAll, Act.put, List.setIfInBounds_toArray, List.set_cons_zero, List.set_cons_succ]; done) | (simp only [putAll, Act.put, List.setIfInBounds_toArray, List.set_cons_zero, List.set_cons_succ]; rfl)) (hJ3_4_7 (v300) _ ⟨hHeld, (by (with_reducible repeat (first | apply Kd.R_alloc | apply Kd.R_drewN | apply Kd.R_drew)); exact HO301.out), (Sh.bk BK297.out), (Sh.hs HB.out GE297.out)⟩)
                                    · skip
                                      refine goes_ Try.func59 (by kernel_rfl) rfl #[.int .i64 a0_2] (by rfl) rfl rfl Sh.al ?_
                                      with_reducible refine (impl_varOf.calls k a0_2 t303 _ A6.out).mono ?_
                                      rintro e w22 ⟨rfl, hb⟩
                                      refine ⟨_, rfl, ?_⟩
                                      have n0_ := Aside0.mk (Kd.R_below (by (with_reducible repeat (first | apply Kd.R_alloc | apply Kd.R_drewN | apply Kd.R_drew)); exact HO301.out) hb)
                                      have n1_ := Aside0.mk (blk_below (g := gb297) (o := .cells #[.int .i64 a0_0, .int .i64 a0_1, .int .i64 a0_2, .int .i64 a0_3, .int .i64 a0_4, .string a0_5] 44 (0, 0)) (Sh.bk BK297.out) hb)
                                      have n2_ := Aside0.mk (below_step (Sh.hs HB.out GE297.out) hb)
                                      clear HO301
                                      clear BK297
                                      clear HB
                                      have HO301 := n0_
                                      have BK297 := n1_
                                      have HB := n2_
                                      clear n0_ n1_ n2_
                                      (try clear hb)
                                      (try clear hb2)
                                      (try clear hk)
                                      (try clear hi)
                                      refine hK.out _ _ ⟨(blk_cell BK297.out 0).trans rfl, (blk_cell BK297.out 1).trans rfl, (blk_cell BK297.out 2).trans rfl, (blk_cell BK297.out 3).trans rfl, (blk_cell BK297.out 4).trans rfl, (blk_cell BK297.out 5).trans rfl⟩ (fun hHeld => ?_)
                                      clear hK K
                                      refine norm_ (a' := ?_) ?_ ?_
                                      rotate_left
                                      · show Act.put _ (some 18) _ = _
                                        simp only [Act.put, List.setIfInBounds_toArray, List.set_cons_zero, List.set_cons_succ, i64_w, i32_w]
                                        rfl
                                      exact norm_ (by first | (simp only [putAll, Act.put, List.setIfInBounds_toArray, List.set_cons_zero, List.set_cons_succ]; done) | (simp only [putAll, Act.put, List.setIfInBounds_toArray, List.set_cons_zero, List.set_cons_succ]; rfl)) (hJ3_7_11 (v300) _ ⟨hHeld, (by (with_reducible repeat (first | apply Kd.R_alloc | apply Kd.R_drewN | apply Kd.R_drew)); exact HO301.out), (Sh.bk BK297.out), (Sh.hs HB.out GE297.out)⟩)
                                · skip
                                  rintro v300 w21 ⟨hS_, h0_, h1_, h2_⟩
                                  have n0_ : Aside0 (Kd.R (Kd.int .u8) 5 w21 w.heap.size (fun _ => True) v300 y299) := ⟨h0_⟩
                                  have n1_ : Aside0 (w21.heap[gb297]? = some (.cells #[.int .i64 a0_0, .int .i64 a0_1, .int .i64 a0_2, .int .i64 a0_3, .int .i64 a0_4, .string a0_5] 44 (0, 0))) := ⟨h1_⟩
                                  have n2_ : Aside0 (Below w.heap.size w w21) := ⟨h2_⟩
                                  clear BK297
                                  clear HB
                                  clear h0_ h1_ h2_
                                  have HO301 := n0_
                                  have BK297 := n1_
                                  have HB := n2_
                                  clear n0_ n1_ n2_
                                  have hHeld : w21.cell? ⟨gb297, 0, none⟩ = some (.int .i64 a0_0) ∧ w21.cell? ⟨gb297, 1, none⟩ = some (.int .i64 a0_1) ∧ w21.cell? ⟨gb297, 2, none⟩ = some (.int .i64 a0_2) ∧ w21.cell? ⟨gb297, 3, none⟩ = some (.int .i64 a0_3) ∧ w21.cell? ⟨gb297, 4, none⟩ = some (.int .i64 a0_4) ∧ w21.cell? ⟨gb297, 5, none⟩ = some (.string a0_5) := hS_
                                  refine norm_ (a' := ?_) ?_ ?_
                                  rotate_left
                                  · simp only [putAll, Act.put, List.setIfInBounds_toArray, List.set_cons_zero, List.set_cons_succ]
                                    rfl
                                  refine one_ (i := 7) (N := some 14) #[true, true, true, true, true, true, true, true, false, true, true, false, false, true, true, false, false, true, true, false, false, true, true, false, false, false, false, false, false] rfl rfl (one_of HT_.out (by kernel_rfl)) (by decide) (fun K hK => ?_)
                                  refine goes_ Try.func59 (by kernel_rfl) rfl #[.int .i64 a0_1] (by rfl) rfl rfl Sh.al ?_
                                  with_reducible refine (impl_varOf.calls k a0_1 t302 _ A4.out).mono ?_
                                  rintro e w22 ⟨rfl, hb⟩
                                  refine ⟨_, rfl, ?_⟩
                                  have n0_ := Aside0.mk (Kd.R_below (by (with_reducible repeat (first | apply Kd.R_alloc | apply Kd.R_drewN | apply Kd.R_drew)); exact HO301.out) hb)
                                  have n1_ := Aside0.mk (blk_below (g := gb297) (o := .cells #[.int .i64 a0_0, .int .i64 a0_1, .int .i64 a0_2, .int .i64 a0_3, .int .i64 a0_4, .string a0_5] 44 (0, 0)) (Sh.bk BK297.out) hb)
                                  have n2_ := Aside0.mk (below_step (Sh.hs HB.out GE297.out) hb)
                                  clear HO301
                                  clear BK297
                                  clear HB
                                  have HO301 := n0_
                                  have BK297 := n1_
                                  have HB := n2_
                                  clear n0_ n1_ n2_
                                  (try clear hb)
                                  (try clear hb2)
                                  (try clear hk)
                                  (try clear hi)
                                  refine hK.out _ _ ⟨(blk_cell BK297.out 0).trans rfl, (blk_cell BK297.out 1).trans rfl, (blk_cell BK297.out 2).trans rfl, (blk_cell BK297.out 3).trans rfl, (blk_cell BK297.out 4).trans rfl, (blk_cell BK297.out 5).trans rfl⟩ (fun hHeld => ?_)
                                  clear hK K
                                  refine norm_ (a' := ?_) ?_ ?_
                                  rotate_left
                                  · show Act.put _ (some 14) _ = _
                                    simp only [Act.put, List.setIfInBounds_toArray, List.set_cons_zero, List.set_cons_succ, i64_w, i32_w]
                                    rfl
                                  refine Sh.py 8 15 HT_ ?_
                                  exact norm_ (by first | (simp only [putAll, Act.put, List.setIfInBounds_toArray, List.set_cons_zero, List.set_cons_succ]; done) | (simp only [putAll, Act.put, List.setIfInBounds_toArray, List.set_cons_zero, List.set_cons_succ]; rfl)) (hJ3_4_7 (v300) _ ⟨hHeld, (by (with_reducible repeat (first | apply Kd.R_alloc | apply Kd.R_drewN | apply Kd.R_drew)); exact HO301.out), (Sh.bk BK297.out), (Sh.hs HB.out GE297.out)⟩)
                              · skip
                                rintro _ w21 ⟨hS_, h0_, h1_⟩
                                have n0_ : Aside0 (w21.heap[gb297]? = some (.cells #[.int .i64 a0_0, .int .i64 a0_1, .int .i64 a0_2, .int .i64 a0_3, .int .i64 a0_4, .string a0_5] 44 (0, 0))) := ⟨h0_⟩
                                have n1_ : Aside0 (Below w.heap.size w w21) := ⟨h1_⟩
                                clear BK297
                                clear HB
                                clear h0_ h1_
                                have BK297 := n0_
                                have HB := n1_
                                clear n0_ n1_
                                have hHeld : w21.cell? ⟨gb297, 0, none⟩ = some (.int .i64 a0_0) ∧ w21.cell? ⟨gb297, 1, none⟩ = some (.int .i64 a0_1) ∧ w21.cell? ⟨gb297, 2, none⟩ = some (.int .i64 a0_2) ∧ w21.cell? ⟨gb297, 3, none⟩ = some (.int .i64 a0_3) ∧ w21.cell? ⟨gb297, 4, none⟩ = some (.int .i64 a0_4) ∧ w21.cell? ⟨gb297, 5, none⟩ = some (.string a0_5) := hS_
                                refine norm_ (a' := ?_) ?_ ?_
                                rotate_left
                                · simp only [putAll, Act.put, List.setIfInBounds_toArray, List.set_cons_zero, List.set_cons_succ]
                                  rfl
                                refine two_ (i := 3) (j := 19) (Ni := some 10) (Nj := some 26) #[true, true, true, true, false, true, true, true, false, true, true, true, false, true, true, true, false, true, true, false, false, true, true, false, false, false, false, false, false] #[true, true, true, false, false, true, true, true, false, true, true, true, false, true, true, true, false, true, true, true, false, true, true, false, false, false, false, false, false] rfl rfl rfl rfl (two_of HT_.out (by kernel_rfl)) (by decide) (by decide) (fun K hK => ?_) (fun K hK => ?_)
                                · skip
                                  refine Kd.R_lit_step (Kd.int .u8) _ 5 ?hg (N := 10) ?hd (xs := ([(a0_0) % 256] : List Int)) (inner := [.int .u8 ((a0_0) % 256)]) (ok := fun _ => True) (okp := fun _ => True) ?hr ?hp (fun _ hk => hk) trivial (Below.refl _ _) (Nat.le_refl _) (by simp) ?_; (case hd => rfl); (case hg => rfl); (case hr => first | (go_simp; done) | (go_simp; rfl)); (case hp => exact (Reps.one (show Kd.M (Kd.int .u8) _ _ _ ((a0_0) % 256) [.int .u8 ((a0_0) % 256)] from rfl) (Reps.none _ _)))
                                  intro v300 w22 ho23 hb hg_ hnew_
                                  clear hg_ hnew_
                                  (first | rw [← Ny299.out] at ho23 | (simp only [Int.reduceToNat] at ho23; rw [← Ny299.out] at ho23))
                                  have n0_ := Aside0.mk (Kd.R_lower ho23 (below_size (Sh.hs HB.out GE297.out)))
                                  have n1_ := Aside0.mk (blk_below (g := gb297) (o := .cells #[.int .i64 a0_0, .int .i64 a0_1, .int .i64 a0_2, .int .i64 a0_3, .int .i64 a0_4, .string a0_5] 44 (0, 0)) (Sh.bk BK297.out) hb)
                                  have n2_ := Aside0.mk (below_step (Sh.hs HB.out GE297.out) hb)
                                  clear BK297
                                  clear HB
                                  have HO301 := n0_
                                  have BK297 := n1_
                                  have HB := n2_
                                  clear n0_ n1_ n2_
                                  clear hb ho23
                                  refine hK.out _ _ ⟨(blk_cell BK297.out 0).trans rfl, (blk_cell BK297.out 1).trans rfl, (blk_cell BK297.out 2).trans rfl, (blk_cell BK297.out 3).trans rfl, (blk_cell BK297.out 4).trans rfl, (blk_cell BK297.out 5).trans rfl⟩ (fun hHeld => ?_)
                                  clear hK K
                                  refine norm_ (a' := ?_) ?_ ?_
                                  rotate_left
                                  · show Act.put _ (some 10) _ = _
                                    simp only [Act.put, List.setIfInBounds_toArray, List.set_cons_zero, List.set_cons_succ, i64_w, i32_w]
                                    rfl
                                  exact norm_ (by first | (simp only [putAll, Act.put, List.setIfInBounds_toArray, List.set_cons_zero, List.set_cons_succ]; done) | (simp only [putAll, Act.put, List.setIfInBounds_toArray, List.set_cons_zero, List.set_cons_succ]; rfl)) (hJ3_7_11_15 (v300) _ ⟨hHeld, (by (with_reducible repeat (first | apply Kd.R_alloc | apply Kd.R_drewN | apply Kd.R_drew)); exact HO301.out), (Sh.bk BK297.out), (Sh.hs HB.out GE297.out)⟩)
                                · skip
                                  refine goes_ Try.func59 (by kernel_rfl) rfl #[.int .i64 a0_4] (by rfl) rfl rfl Sh.al ?_
                                  with_reducible refine (impl_varOf.calls k a0_4 t305 _ A10.out).mono ?_
                                  rintro e w22 ⟨rfl, hb⟩
                                  refine ⟨_, rfl, ?_⟩
                                  have n0_ := Aside0.mk (blk_below (g := gb297) (o := .cells #[.int .i64 a0_0, .int .i64 a0_1, .int .i64 a0_2, .int .i64 a0_3, .int .i64 a0_4, .string a0_5] 44 (0, 0)) (Sh.bk BK297.out) hb)
                                  have n1_ := Aside0.mk (below_step (Sh.hs HB.out GE297.out) hb)
                                  clear BK297
                                  clear HB
                                  have BK297 := n0_
                                  have HB := n1_
                                  clear n0_ n1_
                                  (try clear hb)
                                  (try clear hb2)
                                  (try clear hk)
                                  (try clear hi)
                                  refine hK.out _ _ ⟨(blk_cell BK297.out 0).trans rfl, (blk_cell BK297.out 1).trans rfl, (blk_cell BK297.out 2).trans rfl, (blk_cell BK297.out 3).trans rfl, (blk_cell BK297.out 4).trans rfl, (blk_cell BK297.out 5).trans rfl⟩ (fun hHeld => ?_)
                                  clear hK K
                                  refine norm_ (a' := ?_) ?_ ?_
                                  rotate_left
                                  · show Act.put _ (some 26) _ = _
                                    simp only [Act.put, List.setIfInBounds_toArray, List.set_cons_zero, List.set_cons_succ, i64_w, i32_w]
                                    rfl
                                  exact norm_ (by first | (simp only [putAll, Act.put, List.setIfInBounds_toArray, List.set_cons_zero, List.set_cons_succ]; done) | (simp only [putAll, Act.put, List.setIfInBounds_toArray, List.set_cons_zero, List.set_cons_succ]; rfl)) (hJ7_11_15_19 () _ ⟨hHeld, (Sh.bk BK297.out), (Sh.hs HB.out GE297.out)⟩)
                            · skip
                              rintro v300 w22 ⟨hS_, h0_, h1_, h2_⟩
                              have n0_ : Aside0 (Kd.R (Kd.int .u8) 5 w22 w.heap.size (fun _ => True) v300 y299) := ⟨h0_⟩
                              have n1_ : Aside0 (w22.heap[gb297]? = some (.cells #[.int .i64 a0_0, .int .i64 a0_1, .int .i64 a0_2, .int .i64 a0_3, .int .i64 a0_4, .string a0_5] 44 (0, 0))) := ⟨h1_⟩
                              have n2_ : Aside0 (Below w.heap.size w w22) := ⟨h2_⟩
                              clear BK297
                              clear HB
                              clear h0_ h1_ h2_
                              have HO301 := n0_
                              have BK297 := n1_
                              have HB := n2_
                              clear n0_ n1_ n2_
                              have hHeld : w22.cell? ⟨gb297, 0, none⟩ = some (.int .i64 a0_0) ∧ w22.cell? ⟨gb297, 1, none⟩ = some (.int .i64 a0_1) ∧ w22.cell? ⟨gb297, 2, none⟩ = some (.int .i64 a0_2) ∧ w22.cell? ⟨gb297, 3, none⟩ = some (.int .i64 a0_3) ∧ w22.cell? ⟨gb297, 4, none⟩ = some (.int .i64 a0_4) ∧ w22.cell? ⟨gb297, 5, none⟩ = some (.string a0_5) := hS_
                              refine norm_ (a' := ?_) ?_ ?_
                              rotate_left
                              · simp only [putAll, Act.put, List.setIfInBounds_toArray, List.set_cons_zero, List.set_cons_succ]
                                rfl
                              refine two_ (i := 4) (j := 15) (Ni := some 11) (Nj := some 22) #[true, true, true, true, true, true, true, true, false, true, true, true, false, true, true, false, false, true, true, false, false, true, true, false, false, false, false, false, false] #[true, true, true, true, false, true, true, true, false, true, true, true, false, true, true, true, false, true, true, false, false, true, true, false, false, false, false, false, false] rfl rfl rfl rfl (two_of HT_.out (by kernel_rfl)) (by decide) (by decide) (fun K hK => ?_) (fun K hK => ?_)
                              · skip
                                have hcv23 := own_string (P := Try.prog) Try.underlying34 Try.underlying5 Try.underlying9 (Kd.own_of_R HO301.out)
                                refine value_ (w1 := ?_) (v := ?_) (by rfl) rfl ?_ ?_
                                rotate_left 2
                                · go_simp
                                  constructor
                                  · rfl
                                  · rfl
                                clear hcv23
                                refine hK.out _ _ ⟨(blk_cell BK297.out 0).trans rfl, (blk_cell BK297.out 1).trans rfl, (blk_cell BK297.out 2).trans rfl, (blk_cell BK297.out 3).trans rfl, (blk_cell BK297.out 4).trans rfl, (blk_cell BK297.out 5).trans rfl⟩ (fun hHeld => ?_)
                                clear hK K
                                refine norm_ (a' := ?_) ?_ ?_
                                rotate_left
                                · show Act.put _ (some 11) _ = _
                                  simp only [Act.put, List.setIfInBounds_toArray, List.set_cons_zero, List.set_cons_succ, i64_w, i32_w]
                                  rfl
                                refine Sh.py 8 15 HT_ ?_
                                refine Sh.py 12 19 HT_ ?_
                                exact norm_ (by first | (simp only [putAll, Act.put, List.setIfInBounds_toArray, List.set_cons_zero, List.set_cons_succ]; done) | (simp only [putAll, Act.put, List.setIfInBounds_toArray, List.set_cons_zero, List.set_cons_succ]; rfl)) (hJ3_4_7_11 (v300) _ ⟨hHeld, (by (with_reducible repeat (first | apply Kd.R_alloc | apply Kd.R_drewN | apply Kd.R_drew)); exact HO301.out), (Sh.bk BK297.out), (Sh.hs HB.out GE297.out)⟩)
                              · skip
                                refine goes_ Try.func59 (by kernel_rfl) rfl #[.int .i64 a0_3] (by rfl) rfl rfl Sh.al ?_
                                with_reducible refine (impl_varOf.calls k a0_3 t304 _ A8.out).mono ?_
                                rintro e w23 ⟨rfl, hb⟩
                                refine ⟨_, rfl, ?_⟩
                                have n0_ := Aside0.mk (Kd.R_below (by (with_reducible repeat (first | apply Kd.R_alloc | apply Kd.R_drewN | apply Kd.R_drew)); exact HO301.out) hb)
                                have n1_ := Aside0.mk (blk_below (g := gb297) (o := .cells #[.int .i64 a0_0, .int .i64 a0_1, .int .i64 a0_2, .int .i64 a0_3, .int .i64 a0_4, .string a0_5] 44 (0, 0)) (Sh.bk BK297.out) hb)
                                have n2_ := Aside0.mk (below_step (Sh.hs HB.out GE297.out) hb)
                                clear HO301
                                clear BK297
                                clear HB
                                have HO301 := n0_
                                have BK297 := n1_
                                have HB := n2_
                                clear n0_ n1_ n2_
                                (try clear hb)
                                (try clear hb2)
                                (try clear hk)
                                (try clear hi)
                                refine hK.out _ _ ⟨(blk_cell BK297.out 0).trans rfl, (blk_cell BK297.out 1).trans rfl, (blk_cell BK297.out 2).trans rfl, (blk_cell BK297.out 3).trans rfl, (blk_cell BK297.out 4).trans rfl, (blk_cell BK297.out 5).trans rfl⟩ (fun hHeld => ?_)
                                clear hK K
                                refine norm_ (a' := ?_) ?_ ?_
                                rotate_left
                                · show Act.put _ (some 22) _ = _
                                  simp only [Act.put, List.setIfInBounds_toArray, List.set_cons_zero, List.set_cons_succ, i64_w, i32_w]
                                  rfl
                                exact norm_ (by first | (simp only [putAll, Act.put, List.setIfInBounds_toArray, List.set_cons_zero, List.set_cons_succ]; done) | (simp only [putAll, Act.put, List.setIfInBounds_toArray, List.set_cons_zero, List.set_cons_succ]; rfl)) (hJ3_7_11_15 (v300) _ ⟨hHeld, (by (with_reducible repeat (first | apply Kd.R_alloc | apply Kd.R_drewN | apply Kd.R_drew)); exact HO301.out), (Sh.bk BK297.out), (Sh.hs HB.out GE297.out)⟩)
                          · skip
                            rintro v300 w22 ⟨hS_, h0_, h1_, h2_⟩
                            have n0_ : Aside0 (Kd.R (Kd.int .u8) 5 w22 w.heap.size (fun _ => True) v300 y299) := ⟨h0_⟩
                            have n1_ : Aside0 (w22.heap[gb297]? = some (.cells #[.int .i64 a0_0, .int .i64 a0_1, .int .i64 a0_2, .int .i64 a0_3, .int .i64 a0_4, .string a0_5] 44 (0, 0))) := ⟨h1_⟩
                            have n2_ : Aside0 (Below w.heap.size w w22) := ⟨h2_⟩
                            clear BK297
                            clear HB
                            clear h0_ h1_ h2_
                            have HO301 := n0_
                            have BK297 := n1_
                            have HB := n2_
                            clear n0_ n1_ n2_
                            have hHeld : w22.cell? ⟨gb297, 0, none⟩ = some (.int .i64 a0_0) ∧ w22.cell? ⟨gb297, 1, none⟩ = some (.int .i64 a0_1) ∧ w22.cell? ⟨gb297, 2, none⟩ = some (.int .i64 a0_2) ∧ w22.cell? ⟨gb297, 3, none⟩ = some (.int .i64 a0_3) ∧ w22.cell? ⟨gb297, 4, none⟩ = some (.int .i64 a0_4) ∧ w22.cell? ⟨gb297, 5, none⟩ = some (.string a0_5) := hS_
                            refine norm_ (a' := ?_) ?_ ?_
                            rotate_left
                            · simp only [putAll, Act.put, List.setIfInBounds_toArray, List.set_cons_zero, List.set_cons_succ]
                              rfl
                            refine one_ (i := 11) (N := some 18) #[true, true, true, true, true, true, true, true, true, true, true, true, false, true, true, false, false, true, true, false, false, true, true, false, false, false, false, false, false] rfl rfl (one_of HT_.out (by kernel_rfl)) (by decide) (fun K hK => ?_)
                            refine goes_ Try.func59 (by kernel_rfl) rfl #[.int .i64 a0_2] (by rfl) rfl rfl Sh.al ?_
                            with_reducible refine (impl_varOf.calls k a0_2 t303 _ A6.out).mono ?_
                            rintro e w23 ⟨rfl, hb⟩
                            refine ⟨_, rfl, ?_⟩
                            have n0_ := Aside0.mk (Kd.R_below (by (with_reducible repeat (first | apply Kd.R_alloc | apply Kd.R_drewN | apply Kd.R_drew)); exact HO301.out) hb)
                            have n1_ := Aside0.mk (blk_below (g := gb297) (o := .cells #[.int .i64 a0_0, .int .i64 a0_1, .int .i64 a0_2, .int .i64 a0_3, .int .i64 a0_4, .string a0_5] 44 (0, 0)) (Sh.bk BK297.out) hb)
                            have n2_ := Aside0.mk (below_step (Sh.hs HB.out GE297.out) hb)
                            clear HO301
                            clear BK297
                            clear HB
                            have HO301 := n0_
                            have BK297 := n1_
                            have HB := n2_
                            clear n0_ n1_ n2_
                            (try clear hb)
                            (try clear hb2)
                            (try clear hk)
                            (try clear hi)
                            refine hK.out _ _ ⟨(blk_cell BK297.out 0).trans rfl, (blk_cell BK297.out 1).trans rfl, (blk_cell BK297.out 2).trans rfl, (blk_cell BK297.out 3).trans rfl, (blk_cell BK297.out 4).trans rfl, (blk_cell BK297.out 5).trans rfl⟩ (fun hHeld => ?_)
                            clear hK K
                            refine norm_ (a' := ?_) ?_ ?_
                            rotate_left
                            · show Act.put _ (some 18) _ = _
                              simp only [Act.put, List.setIfInBounds_toArray, List.set_cons_zero, List.set_cons_succ, i64_w, i32_w]
                              rfl
                            refine Sh.py 12 19 HT_ ?_
                            exact norm_ (by first | (simp only [putAll, Act.put, List.setIfInBounds_toArray, List.set_cons_zero, List.set_cons_succ]; done) | (simp only [putAll, Act.put, List.setIfInBounds_toArray, List.set_cons_zero, List.set_cons_succ]; rfl)) (hJ3_4_7_11 (v300) _ ⟨hHeld, (by (with_reducible repeat (first | apply Kd.R_alloc | apply Kd.R_drewN | apply Kd.R_drew)); exact HO301.out), (Sh.bk BK297.out), (Sh.hs HB.out GE297.out)⟩)
                        · skip
                          rintro _ w22 ⟨hS_, h0_, h1_⟩
                          have n0_ : Aside0 (w22.heap[gb297]? = some (.cells #[.int .i64 a0_0, .int .i64 a0_1, .int .i64 a0_2, .int .i64 a0_3, .int .i64 a0_4, .string a0_5] 44 (0, 0))) := ⟨h0_⟩
                          have n1_ : Aside0 (Below w.heap.size w w22) := ⟨h1_⟩
                          clear BK297
                          clear HB
                          clear h0_ h1_
                          have BK297 := n0_
                          have HB := n1_
                          clear n0_ n1_
                          have hHeld : w22.cell? ⟨gb297, 0, none⟩ = some (.int .i64 a0_0) ∧ w22.cell? ⟨gb297, 1, none⟩ = some (.int .i64 a0_1) ∧ w22.cell? ⟨gb297, 2, none⟩ = some (.int .i64 a0_2) ∧ w22.cell? ⟨gb297, 3, none⟩ = some (.int .i64 a0_3) ∧ w22.cell? ⟨gb297, 4, none⟩ = some (.int .i64 a0_4) ∧ w22.cell? ⟨gb297, 5, none⟩ = some (.string a0_5) := hS_
                          refine norm_ (a' := ?_) ?_ ?_
                          rotate_left
                          · simp only [putAll, Act.put, List.setIfInBounds_toArray, List.set_cons_zero, List.set_cons_succ]
                            rfl
                          refine one_ (i := 3) (N := some 10) #[true, true, true, true, false, true, true, true, false, true, true, true, false, true, true, true, false, true, true, true, false, true, true, false, false, false, false, false, false] rfl rfl (one_of HT_.out (by kernel_rfl)) (by decide) (fun K hK => ?_)
                          refine Kd.R_lit_step (Kd.int .u8) _ 5 ?hg (N := 10) ?hd (xs := ([(a0_0) % 256] : List Int)) (inner := [.int .u8 ((a0_0) % 256)]) (ok := fun _ => True) (okp := fun _ => True) ?hr ?hp (fun _ hk => hk) trivial (Below.refl _ _) (Nat.le_refl _) (by simp) ?_; (case hd => rfl); (case hg => rfl); (case hr => first | (go_simp; done) | (go_simp; rfl)); (case hp => exact (Reps.one (show Kd.M (Kd.int .u8) _ _ _ ((a0_0) % 256) [.int .u8 ((a0_0) % 256)] from rfl) (Reps.none _ _)))
                          intro v300 w23 ho24 hb hg_ hnew_
                          clear hg_ hnew_
                          (first | rw [← Ny299.out] at ho24 | (simp only [Int.reduceToNat] at ho24; rw [← Ny299.out] at ho24))
                          have n0_ := Aside0.mk (Kd.R_lower ho24 (below_size (Sh.hs HB.out GE297.out)))
                          have n1_ := Aside0.mk (blk_below (g := gb297) (o := .cells #[.int .i64 a0_0, .int .i64 a0_1, .int .i64 a0_2, .int .i64 a0_3, .int .i64 a0_4, .string a0_5] 44 (0, 0)) (Sh.bk BK297.out) hb)
                          have n2_ := Aside0.mk (below_step (Sh.hs HB.out GE297.out) hb)
                          clear BK297
                          clear HB
                          have HO301 := n0_
                          have BK297 := n1_
                          have HB := n2_
                          clear n0_ n1_ n2_
                          clear hb ho24
                          refine hK.out _ _ ⟨(blk_cell BK297.out 0).trans rfl, (blk_cell BK297.out 1).trans rfl, (blk_cell BK297.out 2).trans rfl, (blk_cell BK297.out 3).trans rfl, (blk_cell BK297.out 4).trans rfl, (blk_cell BK297.out 5).trans rfl⟩ (fun hHeld => ?_)
                          clear hK K
                          refine norm_ (a' := ?_) ?_ ?_
                          rotate_left
                          · show Act.put _ (some 10) _ = _
                            simp only [Act.put, List.setIfInBounds_toArray, List.set_cons_zero, List.set_cons_succ, i64_w, i32_w]
                            rfl
                          exact norm_ (by first | (simp only [putAll, Act.put, List.setIfInBounds_toArray, List.set_cons_zero, List.set_cons_succ]; done) | (simp only [putAll, Act.put, List.setIfInBounds_toArray, List.set_cons_zero, List.set_cons_succ]; rfl)) (hJ3_7_11_15_19 (v300) _ ⟨hHeld, (by (with_reducible repeat (first | apply Kd.R_alloc | apply Kd.R_drewN | apply Kd.R_drew)); exact HO301.out), (Sh.bk BK297.out), (Sh.hs HB.out GE297.out)⟩)
                      · skip
                        rintro v300 w23 ⟨hS_, h0_, h1_, h2_⟩
                        have n0_ : Aside0 (Kd.R (Kd.int .u8) 5 w23 w.heap.size (fun _ => True) v300 y299) := ⟨h0_⟩
                        have n1_ : Aside0 (w23.heap[gb297]? = some (.cells #[.int .i64 a0_0, .int .i64 a0_1, .int .i64 a0_2, .int .i64 a0_3, .int .i64 a0_4, .string a0_5] 44 (0, 0))) := ⟨h1_⟩
                        have n2_ : Aside0 (Below w.heap.size w w23) := ⟨h2_⟩
                        clear BK297
                        clear HB
                        clear h0_ h1_ h2_
                        have HO301 := n0_
                        have BK297 := n1_
                        have HB := n2_
                        clear n0_ n1_ n2_
                        have hHeld : w23.cell? ⟨gb297, 0, none⟩ = some (.int .i64 a0_0) ∧ w23.cell? ⟨gb297, 1, none⟩ = some (.int .i64 a0_1) ∧ w23.cell? ⟨gb297, 2, none⟩ = some (.int .i64 a0_2) ∧ w23.cell? ⟨gb297, 3, none⟩ = some (.int .i64 a0_3) ∧ w23.cell? ⟨gb297, 4, none⟩ = some (.int .i64 a0_4) ∧ w23.cell? ⟨gb297, 5, none⟩ = some (.string a0_5) := hS_
                        refine norm_ (a' := ?_) ?_ ?_
                        rotate_left
                        · simp only [putAll, Act.put, List.setIfInBounds_toArray, List.set_cons_zero, List.set_cons_succ]
                          rfl
                        refine two_ (i := 4) (j := 19) (Ni := some 11) (Nj := some 26) #[true, true, true, true, true, true, true, true, false, true, true, true, false, true, true, true, false, true, true, false, false, true, true, false, false, false, false, false, false] #[true, true, true, true, false, true, true, true, false, true, true, true, false, true, true, true, false, true, true, true, false, true, true, false, false, false, false, false, false] rfl rfl rfl rfl (two_of HT_.out (by kernel_rfl)) (by decide) (by decide) (fun K hK => ?_) (fun K hK => ?_)
                        · skip
                          have hcv24 := own_string (P := Try.prog) Try.underlying34 Try.underlying5 Try.underlying9 (Kd.own_of_R HO301.out)
                          refine value_ (w1 := ?_) (v := ?_) (by rfl) rfl ?_ ?_
                          rotate_left 2
                          · go_simp
                            constructor
                            · rfl
                            · rfl
                          clear hcv24
                          refine hK.out _ _ ⟨(blk_cell BK297.out 0).trans rfl, (blk_cell BK297.out 1).trans rfl, (blk_cell BK297.out 2).trans rfl, (blk_cell BK297.out 3).trans rfl, (blk_cell BK297.out 4).trans rfl, (blk_cell BK297.out 5).trans rfl⟩ (fun hHeld => ?_)
                          clear hK K
                          refine norm_ (a' := ?_) ?_ ?_
                          rotate_left
                          · show Act.put _ (some 11) _ = _
                            simp only [Act.put, List.setIfInBounds_toArray, List.set_cons_zero, List.set_cons_succ, i64_w, i32_w]
                            rfl
                          refine Sh.py 8 15 HT_ ?_
                          refine Sh.py 12 19 HT_ ?_
                          refine Sh.py 16 23 HT_ ?_
                          exact norm_ (by first | (simp only [putAll, Act.put, List.setIfInBounds_toArray, List.set_cons_zero, List.set_cons_succ]; done) | (simp only [putAll, Act.put, List.setIfInBounds_toArray, List.set_cons_zero, List.set_cons_succ]; rfl)) (hJ3_4_7_11_15 (v300) _ ⟨hHeld, (by (with_reducible repeat (first | apply Kd.R_alloc | apply Kd.R_drewN | apply Kd.R_drew)); exact HO301.out), (Sh.bk BK297.out), (Sh.hs HB.out GE297.out)⟩)
                        · skip
                          refine goes_ Try.func59 (by kernel_rfl) rfl #[.int .i64 a0_4] (by rfl) rfl rfl Sh.al ?_
                          with_reducible refine (impl_varOf.calls k a0_4 t305 _ A10.out).mono ?_
                          rintro e w24 ⟨rfl, hb⟩
                          refine ⟨_, rfl, ?_⟩
                          have n0_ := Aside0.mk (Kd.R_below (by (with_reducible repeat (first | apply Kd.R_alloc | apply Kd.R_drewN | apply Kd.R_drew)); exact HO301.out) hb)
                          have n1_ := Aside0.mk (blk_below (g := gb297) (o := .cells #[.int .i64 a0_0, .int .i64 a0_1, .int .i64 a0_2, .int .i64 a0_3, .int .i64 a0_4, .string a0_5] 44 (0, 0)) (Sh.bk BK297.out) hb)
                          have n2_ := Aside0.mk (below_step (Sh.hs HB.out GE297.out) hb)
                          clear HO301
                          clear BK297
                          clear HB
                          have HO301 := n0_
                          have BK297 := n1_
                          have HB := n2_
                          clear n0_ n1_ n2_
                          (try clear hb)
                          (try clear hb2)
                          (try clear hk)
                          (try clear hi)
                          refine hK.out _ _ ⟨(blk_cell BK297.out 0).trans rfl, (blk_cell BK297.out 1).trans rfl, (blk_cell BK297.out 2).trans rfl, (blk_cell BK297.out 3).trans rfl, (blk_cell BK297.out 4).trans rfl, (blk_cell BK297.out 5).trans rfl⟩ (fun hHeld => ?_)
                          clear hK K
                          refine norm_ (a' := ?_) ?_ ?_
                          rotate_left
                          · show Act.put _ (some 26) _ = _
                            simp only [Act.put, List.setIfInBounds_toArray, List.set_cons_zero, List.set_cons_succ, i64_w, i32_w]
                            rfl
                          exact norm_ (by first | (simp only [putAll, Act.put, List.setIfInBounds_toArray, List.set_cons_zero, List.set_cons_succ]; done) | (simp only [putAll, Act.put, List.setIfInBounds_toArray, List.set_cons_zero, List.set_cons_succ]; rfl)) (hJ3_7_11_15_19 (v300) _ ⟨hHeld, (by (with_reducible repeat (first | apply Kd.R_alloc | apply Kd.R_drewN | apply Kd.R_drew)); exact HO301.out), (Sh.bk BK297.out), (Sh.hs HB.out GE297.out)⟩)
                    · skip
                      rintro v300 w23 ⟨hS_, h0_, h1_, h2_⟩
                      have n0_ : Aside0 (Kd.R (Kd.int .u8) 5 w23 w.heap.size (fun _ => True) v300 y299) := ⟨h0_⟩
                      have n1_ : Aside0 (w23.heap[gb297]? = some (.cells #[.int .i64 a0_0, .int .i64 a0_1, .int .i64 a0_2, .int .i64 a0_3, .int .i64 a0_4, .string a0_5] 44 (0, 0))) := ⟨h1_⟩
                      have n2_ : Aside0 (Below w.heap.size w w23) := ⟨h2_⟩
                      clear BK297
                      clear HB
                      clear h0_ h1_ h2_
                      have HO301 := n0_
                      have BK297 := n1_
                      have HB := n2_
                      clear n0_ n1_ n2_
                      have hHeld : w23.cell? ⟨gb297, 0, none⟩ = some (.int .i64 a0_0) ∧ w23.cell? ⟨gb297, 1, none⟩ = some (.int .i64 a0_1) ∧ w23.cell? ⟨gb297, 2, none⟩ = some (.int .i64 a0_2) ∧ w23.cell? ⟨gb297, 3, none⟩ = some (.int .i64 a0_3) ∧ w23.cell? ⟨gb297, 4, none⟩ = some (.int .i64 a0_4) ∧ w23.cell? ⟨gb297, 5, none⟩ = some (.string a0_5) := hS_
                      refine norm_ (a' := ?_) ?_ ?_
                      rotate_left
                      · simp only [putAll, Act.put, List.setIfInBounds_toArray, List.set_cons_zero, List.set_cons_succ]
                        rfl
                      refine one_ (i := 15) (N := some 22) #[true, true, true, true, true, true, true, true, true, true, true, true, true, true, true, true, false, true, true, false, false, true, true, false, false, false, false, false, false] rfl rfl (one_of HT_.out (by kernel_rfl)) (by decide) (fun K hK => ?_)
                      refine goes_ Try.func59 (by kernel_rfl) rfl #[.int .i64 a0_3] (by rfl) rfl rfl Sh.al ?_
                      with_reducible refine (impl_varOf.calls k a0_3 t304 _ A8.out).mono ?_
                      rintro e w24 ⟨rfl, hb⟩
                      refine ⟨_, rfl, ?_⟩
                      have n0_ := Aside0.mk (Kd.R_below (by (with_reducible repeat (first | apply Kd.R_alloc | apply Kd.R_drewN | apply Kd.R_drew)); exact HO301.out) hb)
                      have n1_ := Aside0.mk (blk_below (g := gb297) (o := .cells #[.int .i64 a0_0, .int .i64 a0_1, .int .i64 a0_2, .int .i64 a0_3, .int .i64 a0_4, .string a0_5] 44 (0, 0)) (Sh.bk BK297.out) hb)
                      have n2_ := Aside0.mk (below_step (Sh.hs HB.out GE297.out) hb)
                      clear HO301
                      clear BK297
                      clear HB
                      have HO301 := n0_
                      have BK297 := n1_
                      have HB := n2_
                      clear n0_ n1_ n2_
                      (try clear hb)
                      (try clear hb2)
                      (try clear hk)
                      (try clear hi)
                      refine hK.out _ _ ⟨(blk_cell BK297.out 0).trans rfl, (blk_cell BK297.out 1).trans rfl, (blk_cell BK297.out 2).trans rfl, (blk_cell BK297.out 3).trans rfl, (blk_cell BK297.out 4).trans rfl, (blk_cell BK297.out 5).trans rfl⟩ (fun hHeld => ?_)
                      clear hK K
                      refine norm_ (a' := ?_) ?_ ?_
                      rotate_left
                      · show Act.put _ (some 22) _ = _
                        simp only [Act.put, List.setIfInBounds_toArray, List.set_cons_zero, List.set_cons_succ, i64_w, i32_w]
                        rfl
                      refine Sh.py 16 23 HT_ ?_
                      exact norm_ (by first | (simp only [putAll, Act.put, List.setIfInBounds_toArray, List.set_cons_zero, List.set_cons_succ]; done) | (simp only [putAll, Act.put, List.setIfInBounds_toArray, List.set_cons_zero, List.set_cons_succ]; rfl)) (hJ3_4_7_11_15 (v300) _ ⟨hHeld, (by (with_reducible repeat (first | apply Kd.R_alloc | apply Kd.R_drewN | apply Kd.R_drew)); exact HO301.out), (Sh.bk BK297.out), (Sh.hs HB.out GE297.out)⟩)
                  · skip
                    rintro v300 w24 ⟨hS_, h0_, h1_, h2_⟩
                    have n0_ : Aside0 (Kd.R (Kd.int .u8) 5 w24 w.heap.size (fun _ => True) v300 y299) := ⟨h0_⟩
                    have n1_ : Aside0 (w24.heap[gb297]? = some (.cells #[.int .i64 a0_0, .int .i64 a0_1, .int .i64 a0_2, .int .i64 a0_3, .int .i64 a0_4, .string a0_5] 44 (0, 0))) := ⟨h1_⟩
                    have n2_ : Aside0 (Below w.heap.size w w24) := ⟨h2_⟩
                    clear BK297
                    clear HB
                    clear h0_ h1_ h2_
                    have HO301 := n0_
                    have BK297 := n1_
                    have HB := n2_
                    clear n0_ n1_ n2_
                    have hHeld : w24.cell? ⟨gb297, 0, none⟩ = some (.int .i64 a0_0) ∧ w24.cell? ⟨gb297, 1, none⟩ = some (.int .i64 a0_1) ∧ w24.cell? ⟨gb297, 2, none⟩ = some (.int .i64 a0_2) ∧ w24.cell? ⟨gb297, 3, none⟩ = some (.int .i64 a0_3) ∧ w24.cell? ⟨gb297, 4, none⟩ = some (.int .i64 a0_4) ∧ w24.cell? ⟨gb297, 5, none⟩ = some (.string a0_5) := hS_
                    refine norm_ (a' := ?_) ?_ ?_
                    rotate_left
                    · simp only [putAll, Act.put, List.setIfInBounds_toArray, List.set_cons_zero, List.set_cons_succ]
                      rfl
                    refine one_ (i := 4) (N := some 11) #[true, true, true, true, true, true, true, true, false, true, true, true, false, true, true, true, false, true, true, true, false, true, true, false, false, false, false, false, false] rfl rfl (one_of HT_.out (by kernel_rfl)) (by decide) (fun K hK => ?_)
                    have hcv25 := own_string (P := Try.prog) Try.underlying34 Try.underlying5 Try.underlying9 (Kd.own_of_R HO301.out)
                    refine value_ (w1 := ?_) (v := ?_) (by rfl) rfl ?_ ?_
                    rotate_left 2
                    · go_simp
                      constructor
                      · rfl
                      · rfl
                    clear hcv25
                    refine hK.out _ _ ⟨(blk_cell BK297.out 0).trans rfl, (blk_cell BK297.out 1).trans rfl, (blk_cell BK297.out 2).trans rfl, (blk_cell BK297.out 3).trans rfl, (blk_cell BK297.out 4).trans rfl, (blk_cell BK297.out 5).trans rfl⟩ (fun hHeld => ?_)
                    clear hK K
                    refine norm_ (a' := ?_) ?_ ?_
                    rotate_left
                    · show Act.put _ (some 11) _ = _
                      simp only [Act.put, List.setIfInBounds_toArray, List.set_cons_zero, List.set_cons_succ, i64_w, i32_w]
                      rfl
                    refine Sh.py 8 15 HT_ ?_
                    refine Sh.py 12 19 HT_ ?_
                    refine Sh.py 16 23 HT_ ?_
                    exact norm_ (by first | (simp only [putAll, Act.put, List.setIfInBounds_toArray, List.set_cons_zero, List.set_cons_succ]; done) | (simp only [putAll, Act.put, List.setIfInBounds_toArray, List.set_cons_zero, List.set_cons_succ]; rfl)) (hJ3_4_7_11_15_19 (v300) _ ⟨hHeld, (by (with_reducible repeat (first | apply Kd.R_alloc | apply Kd.R_drewN | apply Kd.R_drew)); exact HO301.out), (Sh.bk BK297.out), (Sh.hs HB.out GE297.out)⟩)
                · skip
                  rintro v300 w24 ⟨hS_, h0_, h1_, h2_⟩
                  have n0_ : Aside0 (Kd.R (Kd.int .u8) 5 w24 w.heap.size (fun _ => True) v300 y299) := ⟨h0_⟩
                  have n1_ : Aside0 (w24.heap[gb297]? = some (.cells #[.int .i64 a0_0, .int .i64 a0_1, .int .i64 a0_2, .int .i64 a0_3, .int .i64 a0_4, .string a0_5] 44 (0, 0))) := ⟨h1_⟩
                  have n2_ : Aside0 (Below w.heap.size w w24) := ⟨h2_⟩
                  clear BK297
                  clear HB
                  clear h0_ h1_ h2_
                  have HO301 := n0_
                  have BK297 := n1_
                  have HB := n2_
                  clear n0_ n1_ n2_
                  have hHeld : w24.cell? ⟨gb297, 0, none⟩ = some (.int .i64 a0_0) ∧ w24.cell? ⟨gb297, 1, none⟩ = some (.int .i64 a0_1) ∧ w24.cell? ⟨gb297, 2, none⟩ = some (.int .i64 a0_2) ∧ w24.cell? ⟨gb297, 3, none⟩ = some (.int .i64 a0_3) ∧ w24.cell? ⟨gb297, 4, none⟩ = some (.int .i64 a0_4) ∧ w24.cell? ⟨gb297, 5, none⟩ = some (.string a0_5) := hS_
                  refine norm_ (a' := ?_) ?_ ?_
                  rotate_left
                  · simp only [putAll, Act.put, List.setIfInBounds_toArray, List.set_cons_zero, List.set_cons_succ]
                    rfl
                  refine one_ (i := 19) (N := some 26) #[true, true, true, true, true, true, true, true, true, true, true, true, true, true, true, true, true, true, true, true, false, true, true, false, false, false, false, false, false] rfl rfl (one_of HT_.out (by kernel_rfl)) (by decide) (fun K hK => ?_)
                  refine goes_ Try.func59 (by kernel_rfl) rfl #[.int .i64 a0_4] (by rfl) rfl rfl Sh.al ?_
                  with_reducible refine (impl_varOf.calls k a0_4 t305 _ A10.out).mono ?_
                  rintro e w25 ⟨rfl, hb⟩
                  refine ⟨_, rfl, ?_⟩
                  have n0_ := Aside0.mk (Kd.R_below (by (with_reducible repeat (first | apply Kd.R_alloc | apply Kd.R_drewN | apply Kd.R_drew)); exact HO301.out) hb)
                  have n1_ := Aside0.mk (blk_below (g := gb297) (o := .cells #[.int .i64 a0_0, .int .i64 a0_1, .int .i64 a0_2, .int .i64 a0_3, .int .i64 a0_4, .string a0_5] 44 (0, 0)) (Sh.bk BK297.out) hb)
                  have n2_ := Aside0.mk (below_step (Sh.hs HB.out GE297.out) hb)
                  clear HO301
                  clear BK297
                  clear HB
                  have HO301 := n0_
                  have BK297 := n1_
                  have HB := n2_
                  clear n0_ n1_ n2_
                  (try clear hb)
                  (try clear hb2)
                  (try clear hk)
                  (try clear hi)
                  refine hK.out _ _ ⟨(blk_cell BK297.out 0).trans rfl, (blk_cell BK297.out 1).trans rfl, (blk_cell BK297.out 2).trans rfl, (blk_cell BK297.out 3).trans rfl, (blk_cell BK297.out 4).trans rfl, (blk_cell BK297.out 5).trans rfl⟩ (fun hHeld => ?_)
                  clear hK K
                  refine norm_ (a' := ?_) ?_ ?_
                  rotate_left
                  · show Act.put _ (some 26) _ = _
                    simp only [Act.put, List.setIfInBounds_toArray, List.set_cons_zero, List.set_cons_succ, i64_w, i32_w]
                    rfl
                  exact norm_ (by first | (simp only [putAll, Act.put, List.setIfInBounds_toArray, List.set_cons_zero, List.set_cons_succ]; done) | (simp only [putAll, Act.put, List.setIfInBounds_toArray, List.set_cons_zero, List.set_cons_succ]; rfl)) (hJ3_4_7_11_15_19 (v300) _ ⟨hHeld, (by (with_reducible repeat (first | apply Kd.R_alloc | apply Kd.R_drewN | apply Kd.R_drew)); exact HO301.out), (Sh.bk BK297.out), (Sh.hs HB.out GE297.out)⟩)
              rintro v300 w25 ⟨hS_, h0_, h1_, h2_⟩
              have n0_ : Aside0 (Kd.R (Kd.int .u8) 5 w25 w.heap.size (fun _ => True) v300 y299) := ⟨h0_⟩
              have n1_ : Aside0 (w25.heap[gb297]? = some (.cells #[.int .i64 a0_0, .int .i64 a0_1, .int .i64 a0_2, .int .i64 a0_3, .int .i64 a0_4, .string a0_5] 44 (0, 0))) := ⟨h1_⟩
              have n2_ : Aside0 (Below w.heap.size w w25) := ⟨h2_⟩
              clear BK297
              clear HB
              clear h0_ h1_ h2_
              have HO301 := n0_
              have BK297 := n1_
              have HB := n2_
              clear n0_ n1_ n2_
              have hHeld : w25.cell? ⟨gb297, 0, none⟩ = some (.int .i64 a0_0) ∧ w25.cell? ⟨gb297, 1, none⟩ = some (.int .i64 a0_1) ∧ w25.cell? ⟨gb297, 2, none⟩ = some (.int .i64 a0_2) ∧ w25.cell? ⟨gb297, 3, none⟩ = some (.int .i64 a0_3) ∧ w25.cell? ⟨gb297, 4, none⟩ = some (.int .i64 a0_4) ∧ w25.cell? ⟨gb297, 5, none⟩ = some (.string a0_5) := hS_
              refine norm_ (a' := ?_) ?_ ?_
              rotate_left
              · simp only [putAll, Act.put, List.setIfInBounds_toArray, List.set_cons_zero, List.set_cons_succ]
                rfl
              refine Sh.py 20 27 HT_ ?_
              refine Sh.py 23 30 HT_ ?_
              refine one_ (i := 24) (N := some 31) #[true, true, true, true, true, true, true, true, true, true, true, true, true, true, true, true, true, true, true, true, true, true, true, true, true, false, false, false, false] rfl rfl (one_of HT_.out (by kernel_rfl)) (by decide) (fun K hK => ?_)
              refine goes_ Try.func58 (by kernel_rfl) rfl #[.string ((((((strOfNums y299) ++ t302) ++ t303) ++ t304) ++ t305) ++ a0_5)] (by rfl) rfl rfl Sh.al ?_
              with_reducible refine (impl_Sealed.calls k ((((((strOfNums y299) ++ t302) ++ t303) ++ t304) ++ t305) ++ a0_5) t306 t307 _ A13.out).mono ?_
              rintro e w26 ⟨rfl, hb⟩
              refine ⟨_, rfl, ?_⟩
              have n0_ := Aside0.mk (Kd.R_below (by (with_reducible repeat (first | apply Kd.R_alloc | apply Kd.R_drewN | apply Kd.R_drew)); exact HO301.out) hb)
              have n1_ := Aside0.mk (blk_below (g := gb297) (o := .cells #[.int .i64 a0_0, .int .i64 a0_1, .int .i64 a0_2, .int .i64 a0_3, .int .i64 a0_4, .string a0_5] 44 (0, 0)) (Sh.bk BK297.out) hb)
              have n2_ := Aside0.mk (below_step (Sh.hs HB.out GE297.out) hb)
              clear HO301
              clear BK297
              clear HB
              have HO301 := n0_
              have BK297 := n1_
              have HB := n2_
              clear n0_ n1_ n2_
              (try clear hb)
              (try clear hb2)
              (try clear hk)
              (try clear hi)
              refine hK.out _ _ ⟨(blk_cell BK297.out 0).trans rfl, (blk_cell BK297.out 1).trans rfl, (blk_cell BK297.out 2).trans rfl, (blk_cell BK297.out 3).trans rfl, (blk_cell BK297.out 4).trans rfl, (blk_cell BK297.out 5).trans rfl⟩ (fun hHeld => ?_)
              clear hK K
              refine norm_ (a' := ?_) ?_ ?_
              rotate_left
              · show Act.put _ (some 31) _ = _
                simp only [Act.put, List.setIfInBounds_toArray, List.set_cons_zero, List.set_cons_succ, i64_w, i32_w]
                rfl
              refine Sh.py 25 32 HT_ ?_
              refine Sh.py 26 33 HT_ ?_
              refine Sh.py 27 2 HT_ ?_
              refine Sh.py 28 3 HT_ ?_
              refine done_ (done_of HT_.out (by kernel_rfl)) ?_
              try go_wp2
              go_ret2
              exact ⟨by first | rfl | (simp [errW_none, errW_some] <;> rfl) | (simp [*, errW_none, errW_some] <;> rfl), by exact Sh.hs HB.out GE297.out⟩
            · rw [if_neg c12] at H
              exact absurd H (by simp)
          · rw [if_neg c11] at H
            exact absurd H (by simp)
        · rw [if_neg c9] at H
          exact absurd H (by simp)
      · rw [if_neg c7] at H
        exact absurd H (by simp)
    · rw [if_neg c5] at H
      exact absurd H (by simp)
  · replace c3 := Bool.eq_false_iff.mpr c3
    subst c3
    have H1 : (some ((⟨#[]⟩ : ByteArray), false)) = some (r1, r2) := by rw [if_neg (show ¬ (false = true) by decide)] at H; exact H
    clear H
    have H := H1
    clear H1
    simp only [Option.some.injEq, Prod.mk.injEq] at H
    obtain ⟨rfl, rfl⟩ := H
    go_enter Try.func30, Try.ntmps30
    go_wp2_with (first | ((with_reducible refine gate_dst (N := 1) rfl ?_); refine box_event ?hg (N := 1) ?hd (cs := #[.int .i64 a0_0, .int .i64 a0_1, .int .i64 a0_2, .int .i64 a0_3, .int .i64 a0_4, .string a0_5]) (t := 44) ?hr ?_; (case hd => rfl); (case hg => rfl); (case hr => first | (go_simp; done) | (go_simp; rfl)); intro gb297 hg w27 hbox hb; have n0_ := Aside0.mk (below_step (Sh.hb HB.out) hb); have n1_ := Aside0.mk (hbox); have n2_ := Aside0.mk ((by rw [hg]; exact (below_size (Sh.hb HB.out)) : w.heap.size ≤ gb297)); have n3_ := Aside0.mk ((by rw [hg]; exact (below_size (Sh.hb HB.out)) : w.heap.size ≤ gb297)); clear HB; have HB := n0_; have BK297 := n1_; have GW297 := n2_; have GE297 := n3_; clear n0_ n1_ n2_ n3_; clear hb hbox hg; have hcz28_0 : w27.cell? ⟨gb297, 0, none⟩ = some (.int .i64 a0_0) := (blk_cell BK297.out 0).trans rfl; have hcz28_1 : w27.cell? ⟨gb297, 1, none⟩ = some (.int .i64 a0_1) := (blk_cell BK297.out 1).trans rfl; have hcz28_2 : w27.cell? ⟨gb297, 2, none⟩ = some (.int .i64 a0_2) := (blk_cell BK297.out 2).trans rfl; have hcz28_3 : w27.cell? ⟨gb297, 3, none⟩ = some (.int .i64 a0_3) := (blk_cell BK297.out 3).trans rfl; have hcz28_4 : w27.cell? ⟨gb297, 4, none⟩ = some (.int .i64 a0_4) := (blk_cell BK297.out 4).trans rfl; have hcz28_5 : w27.cell? ⟨gb297, 5, none⟩ = some (.string a0_5) := (blk_cell BK297.out 5).trans rfl; have hfz28_0 := blk_frozen BK297.out 0; have hfz28_1 := blk_frozen BK297.out 1; have hfz28_2 := blk_frozen BK297.out 2; have hfz28_3 := blk_frozen BK297.out 3; have hfz28_4 := blk_frozen BK297.out 4; have hfz28_5 := blk_frozen BK297.out 5) | ((with_reducible refine gate_callee (f := 32) rfl ?_); refine goesL_ (some 5) rfl rfl Try.func32 (by kernel_rfl) rfl #[.agg #[.int .i64 a0_0, .int .i64 a0_1, .int .i64 a0_2, .int .i64 a0_3, .int .i64 a0_4, .string a0_5]] rfl Sh.al ?_; (with_reducible refine (impl_PageOk.calls a0_0 a0_1 a0_2 a0_3 a0_4 a0_5 false _ A2.out).mono ?_); rintro e w29 ⟨rfl, hb⟩; refine ⟨_, rfl, ?_⟩; have n0_ := Aside0.mk (blk_below (g := gb297) (o := .cells #[.int .i64 a0_0, .int .i64 a0_1, .int .i64 a0_2, .int .i64 a0_3, .int .i64 a0_4, .string a0_5] 44 (0, 0)) (Sh.bk BK297.out) hb); have n1_ := Aside0.mk (below_step (Sh.hs HB.out GE297.out) hb); clear BK297; clear HB; have BK297 := n0_; have HB := n1_; clear n0_ n1_; (try clear hb); (try clear hb2); (try clear hk); (try clear hi); (try have hcygb297_0 : _ = some (.int .i64 a0_0) := (blk_cell BK297.out 0).trans rfl); (try have hcygb297_1 : _ = some (.int .i64 a0_1) := (blk_cell BK297.out 1).trans rfl); (try have hcygb297_2 : _ = some (.int .i64 a0_2) := (blk_cell BK297.out 2).trans rfl); (try have hcygb297_3 : _ = some (.int .i64 a0_3) := (blk_cell BK297.out 3).trans rfl); (try have hcygb297_4 : _ = some (.int .i64 a0_4) := (blk_cell BK297.out 4).trans rfl); (try have hcygb297_5 : _ = some (.string a0_5) := (blk_cell BK297.out 5).trans rfl)))
    go_ret2
    exact ⟨by first | rfl | (simp [errW_none, errW_some] <;> rfl) | (simp [*, errW_none, errW_some] <;> rfl), by exact Sh.hs HB.out GE297.out⟩

end Go.Proofs.Ytbiapgneafgdeaa.QFnPages
