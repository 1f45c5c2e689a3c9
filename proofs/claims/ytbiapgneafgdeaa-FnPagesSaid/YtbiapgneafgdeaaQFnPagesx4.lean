/- What is proved here: contracts of functions that the law FnPages reaches, each told as a plain function. Conditions: those of each contract. (Written by a program of ours.) -/
import Derived.Test.YtbiapgneafgdeaaQFnPagesx0
import Derived.Test.YtbiapgneafgdeaaQFnPagesx2
import Derived.Test.YtbiapgneafgdeaaQFnPagesx3
namespace Go.Proofs.Ytbiapgneafgdeaa.QFnPages
open Go.RowKit Go.Proofs.YtbiapgneafgdeaaW.PrintWords Go.Proofs.YtbiapgneafgdeaaW.PrintLast Go.Proofs.YtbiapgneafgdeaaW.PrintMore
attribute [local go_sem] max2_int min2_int max_two min_two max_three min_three max_four min_four   -- for this text's walks alone
set_option linter.unusedVariables false
set_option linter.unusedSimpArgs false

/-! ### spec_PageText: function 54 -/
def spec_PageText.f (k : Nat) (a0_0 : Int) (a0_1 : Int) (a0_2 : Int) (a0_3 : Int) (a0_4 : Int) (a0_5 : ByteArray) : Option (ByteArray × Bool) := (spec_PageOk.f a0_0 a0_1 a0_2 a0_3 a0_4 a0_5).bind fun t168 => (if t168 = true then ((spec_l06Byte.f a0_0).bind fun t169 => ((spec_l01Var.f k a0_1).bind fun t170 => (if t169.size + t170.size ≤ 9223372036854775807 then ((spec_l01Var.f k a0_2).bind fun t171 => (if (t169 ++ t170).size + t171.size ≤ 9223372036854775807 then ((spec_l01Var.f k a0_3).bind fun t172 => (if ((t169 ++ t170) ++ t171).size + t172.size ≤ 9223372036854775807 then ((spec_l01Var.f k a0_4).bind fun t173 => (if (((t169 ++ t170) ++ t171) ++ t172).size + t173.size ≤ 9223372036854775807 then (if ((((t169 ++ t170) ++ t171) ++ t172) ++ t173).size + a0_5.size ≤ 9223372036854775807 then ((spec_Sealed.f k (((((t169 ++ t170) ++ t171) ++ t172) ++ t173) ++ a0_5)).bind fun bt174 => (some (bt174.1, bt174.2))) else (none)) else (none))) else (none))) else (none))) else (none)))) else (some ((⟨#[]⟩ : ByteArray), false)))
theorem spec_PageText.mono : ∀ a0 a1 a2 a3 a4 a5 k, LeO (spec_PageText.f k a0 a1 a2 a3 a4 a5) (spec_PageText.f (k + 1) a0 a1 a2 a3 a4 a5) := by
  intro a0 a1 a2 a3 a4 a5 k
  unfold spec_PageText.f
  repeat' first
      | (with_reducible exact spec_Sealed.mono _ _)
      | (with_reducible exact spec_l01Var.mono _ _)
      | (with_reducible exact LeO.refl _)
      | (with_reducible exact LeO.none _)
      | (with_reducible refine LeO.ite ?_ ?_)
      | (with_reducible refine LeO.bind ?_ (fun _ => ?_))
      | exact spec_Sealed.mono _ _
      | exact spec_l01Var.mono _ _
      | exact LeO.none _
      | refine LeO.ite ?_ ?_
      | refine LeO.bind ?_ (fun _ => ?_)
def spec_PageText.T3 : Bool × List (List Nat × List Nat) := (true, [([], []), ([0], [0]), ([1], [1]), ([], []), ([3], [3]), ([4, 2], [4]), ([2, 5], [2, 5]), ([], []), ([7], [7]), ([8, 5], [8]), ([6, 9], [6, 9]), ([], []), ([11], [11]), ([12, 9], [12]), ([10, 13], [10, 13]), ([], []), ([15], [15]), ([16, 13], [16]), ([14, 17], [14, 17]), ([], []), ([19], [19]), ([18, 20], [18, 20]), ([21, 17], [21]), ([22], [22]), ([22], [22]), ([23, 22, 0, 1, 2, 3, 4, 5, 6, 7, 8, 9, 10, 11, 12, 13, 14, 15, 16, 17, 18, 19, 20, 21, 22, 23, 24], [23]), ([24, 25, 0, 1, 2, 3, 4, 5, 6, 7, 8, 9, 10, 11, 12, 13, 14, 15, 16, 17, 18, 19, 20, 21, 22, 23, 24, 25], [24])])
def spec_PageText.B3 : List Nat := [0, 1, 3, 0, 8, 31, 63, 0, 128, 447, 1023, 0, 2048, 7103, 16383, 0, 32768, 113599, 262143, 0, 524288, 2097151, 4194303, 8388607, 8388607, 33554431, 67108863]
theorem spec_PageText.tab3 : rtab .any (opsOf Try.f54 3) = spec_PageText.T3 := by kernel_rfl
theorem spec_PageText.bits3 : waitsOk spec_PageText.T3.2 spec_PageText.B3 = true := by kernel_rfl
set_option maxHeartbeats 8000000 in
set_option maxRecDepth 100000 in
theorem spec_PageText.calls (k : Nat) (a0_0 : Int) (a0_1 : Int) (a0_2 : Int) (a0_3 : Int) (a0_4 : Int) (a0_5 : ByteArray) (r1 : ByteArray) (r2 : Bool) (w : World) (h : spec_PageText.f k a0_0 a0_1 a0_2 a0_3 a0_4 a0_5 = some (r1, r2)) :
    Calls Try.prog 54 #[.agg #[.int .i64 a0_0, .int .i64 a0_1, .int .i64 a0_2, .int .i64 a0_3, .int .i64 a0_4, .string a0_5]] w fun e w' => e = .returned (.tuple #[.string r1, .bool r2]) ∧ Below w.heap.size w w' := by
  have hu44 := Try.underlying44
  have HB := Aside0.mk (Below.refl w.heap.size w)
  have H : ((spec_PageOk.f a0_0 a0_1 a0_2 a0_3 a0_4 a0_5).bind fun t168 => (if t168 = true then ((spec_l06Byte.f a0_0).bind fun t169 => ((spec_l01Var.f k a0_1).bind fun t170 => (if t169.size + t170.size ≤ 9223372036854775807 then ((spec_l01Var.f k a0_2).bind fun t171 => (if (t169 ++ t170).size + t171.size ≤ 9223372036854775807 then ((spec_l01Var.f k a0_3).bind fun t172 => (if ((t169 ++ t170) ++ t171).size + t172.size ≤ 9223372036854775807 then ((spec_l01Var.f k a0_4).bind fun t173 => (if (((t169 ++ t170) ++ t171) ++ t172).size + t173.size ≤ 9223372036854775807 then (if ((((t169 ++ t170) ++ t171) ++ t172) ++ t173).size + a0_5.size ≤ 9223372036854775807 then ((spec_Sealed.f k (((((t169 ++ t170) ++ t171) ++ t172) ++ t173) ++ a0_5)).bind fun bt174 => (some (bt174.1, bt174.2))) else (none)) else (none))) else (none))) else (none))) else (none)))) else (some ((⟨#[]⟩ : ByteArray), false)))) = some (r1, r2) := h
  clear h
  replace H := Option.bind_eq_some_iff.mp H
  obtain ⟨t168, A20, H⟩ := H
  replace H : (if t168 = true then ((spec_l06Byte.f a0_0).bind fun t169 => ((spec_l01Var.f k a0_1).bind fun t170 => (if t169.size + t170.size ≤ 9223372036854775807 then ((spec_l01Var.f k a0_2).bind fun t171 => (if (t169 ++ t170).size + t171.size ≤ 9223372036854775807 then ((spec_l01Var.f k a0_3).bind fun t172 => (if ((t169 ++ t170) ++ t171).size + t172.size ≤ 9223372036854775807 then ((spec_l01Var.f k a0_4).bind fun t173 => (if (((t169 ++ t170) ++ t171) ++ t172).size + t173.size ≤ 9223372036854775807 then (if ((((t169 ++ t170) ++ t171) ++ t172) ++ t173).size + a0_5.size ≤ 9223372036854775807 then ((spec_Sealed.f k (((((t169 ++ t170) ++ t171) ++ t172) ++ t173) ++ a0_5)).bind fun bt174 => (some (bt174.1, bt174.2))) else (none)) else (none))) else (none))) else (none))) else (none)))) else (some ((⟨#[]⟩ : ByteArray), false))) = some (r1, r2) := H
  have A2 := Aside0.mk A20
  clear A20
  by_cases c3 : t168 = true
  · subst c3
    have H1 : ((spec_l06Byte.f a0_0).bind fun t169 => ((spec_l01Var.f k a0_1).bind fun t170 => (if t169.size + t170.size ≤ 9223372036854775807 then ((spec_l01Var.f k a0_2).bind fun t171 => (if (t169 ++ t170).size + t171.size ≤ 9223372036854775807 then ((spec_l01Var.f k a0_3).bind fun t172 => (if ((t169 ++ t170) ++ t171).size + t172.size ≤ 9223372036854775807 then ((spec_l01Var.f k a0_4).bind fun t173 => (if (((t169 ++ t170) ++ t171) ++ t172).size + t173.size ≤ 9223372036854775807 then (if ((((t169 ++ t170) ++ t171) ++ t172) ++ t173).size + a0_5.size ≤ 9223372036854775807 then ((spec_Sealed.f k (((((t169 ++ t170) ++ t171) ++ t172) ++ t173) ++ a0_5)).bind fun bt174 => (some (bt174.1, bt174.2))) else (none)) else (none))) else (none))) else (none))) else (none)))) = some (r1, r2) := by rw [if_pos rfl] at H; exact H
    clear H
    have H := H1
    clear H1
    replace H := Option.bind_eq_some_iff.mp H
    obtain ⟨t169, A40, H⟩ := H
    replace H : ((spec_l01Var.f k a0_1).bind fun t170 => (if t169.size + t170.size ≤ 9223372036854775807 then ((spec_l01Var.f k a0_2).bind fun t171 => (if (t169 ++ t170).size + t171.size ≤ 9223372036854775807 then ((spec_l01Var.f k a0_3).bind fun t172 => (if ((t169 ++ t170) ++ t171).size + t172.size ≤ 9223372036854775807 then ((spec_l01Var.f k a0_4).bind fun t173 => (if (((t169 ++ t170) ++ t171) ++ t172).size + t173.size ≤ 9223372036854775807 then (if ((((t169 ++ t170) ++ t171) ++ t172) ++ t173).size + a0_5.size ≤ 9223372036854775807 then ((spec_Sealed.f k (((((t169 ++ t170) ++ t171) ++ t172) ++ t173) ++ a0_5)).bind fun bt174 => (some (bt174.1, bt174.2))) else (none)) else (none))) else (none))) else (none))) else (none))) = some (r1, r2) := H
    have A4 := Aside0.mk A40
    clear A40
    replace H := Option.bind_eq_some_iff.mp H
    obtain ⟨t170, A50, H⟩ := H
    replace H : (if t169.size + t170.size ≤ 9223372036854775807 then ((spec_l01Var.f k a0_2).bind fun t171 => (if (t169 ++ t170).size + t171.size ≤ 9223372036854775807 then ((spec_l01Var.f k a0_3).bind fun t172 => (if ((t169 ++ t170) ++ t171).size + t172.size ≤ 9223372036854775807 then ((spec_l01Var.f k a0_4).bind fun t173 => (if (((t169 ++ t170) ++ t171) ++ t172).size + t173.size ≤ 9223372036854775807 then (if ((((t169 ++ t170) ++ t171) ++ t172) ++ t173).size + a0_5.size ≤ 9223372036854775807 then ((spec_Sealed.f k (((((t169 ++ t170) ++ t171) ++ t172) ++ t173) ++ a0_5)).bind fun bt174 => (some (bt174.1, bt174.2))) else (none)) else (none))) else (none))) else (none))) else (none)) = some (r1, r2) := H
    have A5 := Aside0.mk A50
    clear A50
    by_cases c6 : t169.size + t170.size ≤ 9223372036854775807
    · rw [if_pos c6] at H
      have c6b0 := eq_true c6
      (try have c6b9 := c6b0; simp only [ByteArray.size_append, Int.natCast_add] at c6b9)
      have c6b1 : decide (t169.size + t170.size ≤ 9223372036854775807) = true := decide_eq_true c6
      try have c6b2 : (9223372036854775807 < t169.size + t170.size) = False := eq_false (Nat.not_lt.2 c6)
      have c6b3 := c6
      (try simp only [ByteArray.size_append] at c6b3)
      replace c6b3 := eq_false (Nat.not_lt.mpr c6b3)
      replace H := Option.bind_eq_some_iff.mp H
      obtain ⟨t171, A70, H⟩ := H
      replace H : (if (t169 ++ t170).size + t171.size ≤ 9223372036854775807 then ((spec_l01Var.f k a0_3).bind fun t172 => (if ((t169 ++ t170) ++ t171).size + t172.size ≤ 9223372036854775807 then ((spec_l01Var.f k a0_4).bind fun t173 => (if (((t169 ++ t170) ++ t171) ++ t172).size + t173.size ≤ 9223372036854775807 then (if ((((t169 ++ t170) ++ t171) ++ t172) ++ t173).size + a0_5.size ≤ 9223372036854775807 then ((spec_Sealed.f k (((((t169 ++ t170) ++ t171) ++ t172) ++ t173) ++ a0_5)).bind fun bt174 => (some (bt174.1, bt174.2))) else (none)) else (none))) else (none))) else (none)) = some (r1, r2) := H
      have A7 := Aside0.mk A70
      clear A70
      by_cases c8 : (t169 ++ t170).size + t171.size ≤ 9223372036854775807
      · rw [if_pos c8] at H
        have c8b0 := eq_true c8
        (try have c8b9 := c8b0; simp only [ByteArray.size_append, Int.natCast_add] at c8b9)
        have c8b1 : decide ((t169 ++ t170).size + t171.size ≤ 9223372036854775807) = true := decide_eq_true c8
        try have c8b2 : (9223372036854775807 < (t169 ++ t170).size + t171.size) = False := eq_false (Nat.not_lt.2 c8)
        have c8b3 := c8
        (try simp only [ByteArray.size_append] at c8b3)
        replace c8b3 := eq_false (Nat.not_lt.mpr c8b3)
        replace H := Option.bind_eq_some_iff.mp H
        obtain ⟨t172, A90, H⟩ := H
        replace H : (if ((t169 ++ t170) ++ t171).size + t172.size ≤ 9223372036854775807 then ((spec_l01Var.f k a0_4).bind fun t173 => (if (((t169 ++ t170) ++ t171) ++ t172).size + t173.size ≤ 9223372036854775807 then (if ((((t169 ++ t170) ++ t171) ++ t172) ++ t173).size + a0_5.size ≤ 9223372036854775807 then ((spec_Sealed.f k (((((t169 ++ t170) ++ t171) ++ t172) ++ t173) ++ a0_5)).bind fun bt174 => (some (bt174.1, bt174.2))) else (none)) else (none))) else (none)) = some (r1, r2) := H
        have A9 := Aside0.mk A90
        clear A90
        by_cases c10 : ((t169 ++ t170) ++ t171).size + t172.size ≤ 9223372036854775807
        · rw [if_pos c10] at H
          have c10b0 := eq_true c10
          (try have c10b9 := c10b0; simp only [ByteArray.size_append, Int.natCast_add] at c10b9)
          have c10b1 : decide (((t169 ++ t170) ++ t171).size + t172.size ≤ 9223372036854775807) = true := decide_eq_true c10
          try have c10b2 : (9223372036854775807 < ((t169 ++ t170) ++ t171).size + t172.size) = False := eq_false (Nat.not_lt.2 c10)
          have c10b3 := c10
          (try simp only [ByteArray.size_append] at c10b3)
          replace c10b3 := eq_false (Nat.not_lt.mpr c10b3)
          replace H := Option.bind_eq_some_iff.mp H
          obtain ⟨t173, A110, H⟩ := H
          replace H : (if (((t169 ++ t170) ++ t171) ++ t172).size + t173.size ≤ 9223372036854775807 then (if ((((t169 ++ t170) ++ t171) ++ t172) ++ t173).size + a0_5.size ≤ 9223372036854775807 then ((spec_Sealed.f k (((((t169 ++ t170) ++ t171) ++ t172) ++ t173) ++ a0_5)).bind fun bt174 => (some (bt174.1, bt174.2))) else (none)) else (none)) = some (r1, r2) := H
          have A11 := Aside0.mk A110
          clear A110
          by_cases c12 : (((t169 ++ t170) ++ t171) ++ t172).size + t173.size ≤ 9223372036854775807
          · rw [if_pos c12] at H
            have c12b0 := eq_true c12
            (try have c12b9 := c12b0; simp only [ByteArray.size_append, Int.natCast_add] at c12b9)
            have c12b1 : decide ((((t169 ++ t170) ++ t171) ++ t172).size + t173.size ≤ 9223372036854775807) = true := decide_eq_true c12
            try have c12b2 : (9223372036854775807 < (((t169 ++ t170) ++ t171) ++ t172).size + t173.size) = False := eq_false (Nat.not_lt.2 c12)
            have c12b3 := c12
            (try simp only [ByteArray.size_append] at c12b3)
            replace c12b3 := eq_false (Nat.not_lt.mpr c12b3)
            by_cases c13 : ((((t169 ++ t170) ++ t171) ++ t172) ++ t173).size + a0_5.size ≤ 9223372036854775807
            · rw [if_pos c13] at H
              have c13b0 := eq_true c13
              (try have c13b9 := c13b0; simp only [ByteArray.size_append, Int.natCast_add] at c13b9)
              have c13b1 : decide (((((t169 ++ t170) ++ t171) ++ t172) ++ t173).size + a0_5.size ≤ 9223372036854775807) = true := decide_eq_true c13
              try have c13b2 : (9223372036854775807 < ((((t169 ++ t170) ++ t171) ++ t172) ++ t173).size + a0_5.size) = False := eq_false (Nat.not_lt.2 c13)
              have c13b3 := c13
              (try simp only [ByteArray.size_append] at c13b3)
              replace c13b3 := eq_false (Nat.not_lt.mpr c13b3)
              replace H := Option.bind_eq_some_iff.mp H
              obtain ⟨⟨t174, t175⟩, A140, H⟩ := H
              replace H : (some (t174, t175)) = some (r1, r2) := H
              have A14 := Aside0.mk A140
              clear A140
              simp only [Option.some.injEq, Prod.mk.injEq] at H
              obtain ⟨rfl, rfl⟩ := H
              go_enter Try.func54, Try.ntmps54
              try go_wp2_with (first | ((with_reducible refine gate_dst (N := 1) rfl ?_); refine box_event ?hg (N := 1) ?hd (cs := #[.int .i64 a0_0, .int .i64 a0_1, .int .i64 a0_2, .int .i64 a0_3, .int .i64 a0_4, .string a0_5]) (t := 44) ?hr ?_; (case hd => rfl); (case hg => rfl); (case hr => first | (go_simp; done) | (go_simp; rfl)); intro gb167 hg w15 hbox hb; have n0_ := Aside0.mk (below_step (Sh.hb HB.out) hb); have n1_ := Aside0.mk (hbox); have n2_ := Aside0.mk ((by rw [hg]; exact (below_size (Sh.hb HB.out)) : w.heap.size ≤ gb167)); have n3_ := Aside0.mk ((by rw [hg]; exact (below_size (Sh.hb HB.out)) : w.heap.size ≤ gb167)); clear HB; have HB := n0_; have BK167 := n1_; have GW167 := n2_; have GE167 := n3_; clear n0_ n1_ n2_ n3_; clear hb hbox hg; have hcz16_0 : w15.cell? ⟨gb167, 0, none⟩ = some (.int .i64 a0_0) := (blk_cell BK167.out 0).trans rfl; have hcz16_1 : w15.cell? ⟨gb167, 1, none⟩ = some (.int .i64 a0_1) := (blk_cell BK167.out 1).trans rfl; have hcz16_2 : w15.cell? ⟨gb167, 2, none⟩ = some (.int .i64 a0_2) := (blk_cell BK167.out 2).trans rfl; have hcz16_3 : w15.cell? ⟨gb167, 3, none⟩ = some (.int .i64 a0_3) := (blk_cell BK167.out 3).trans rfl; have hcz16_4 : w15.cell? ⟨gb167, 4, none⟩ = some (.int .i64 a0_4) := (blk_cell BK167.out 4).trans rfl; have hcz16_5 : w15.cell? ⟨gb167, 5, none⟩ = some (.string a0_5) := (blk_cell BK167.out 5).trans rfl; have hfz16_0 := blk_frozen BK167.out 0; have hfz16_1 := blk_frozen BK167.out 1; have hfz16_2 := blk_frozen BK167.out 2; have hfz16_3 := blk_frozen BK167.out 3; have hfz16_4 := blk_frozen BK167.out 4; have hfz16_5 := blk_frozen BK167.out 5) | ((with_reducible refine gate_callee (f := 31) rfl ?_); refine goesL_ (some 5) rfl rfl Try.func31 (by kernel_rfl) rfl #[.agg #[.int .i64 a0_0, .int .i64 a0_1, .int .i64 a0_2, .int .i64 a0_3, .int .i64 a0_4, .string a0_5]] rfl Sh.al ?_; (with_reducible refine (spec_PageOk.calls a0_0 a0_1 a0_2 a0_3 a0_4 a0_5 true _ A2.out).mono ?_); rintro e w17 ⟨rfl, hb⟩; refine ⟨_, rfl, ?_⟩; have n0_ := Aside0.mk (blk_below (g := gb167) (o := .cells #[.int .i64 a0_0, .int .i64 a0_1, .int .i64 a0_2, .int .i64 a0_3, .int .i64 a0_4, .string a0_5] 44 (0, 0)) (Sh.bk BK167.out) hb); have n1_ := Aside0.mk (below_step (Sh.hs HB.out GE167.out) hb); clear BK167; clear HB; have BK167 := n0_; have HB := n1_; clear n0_ n1_; (try clear hb); (try clear hb2); (try clear hk); (try clear hi); (try have hcygb167_0 : _ = some (.int .i64 a0_0) := (blk_cell BK167.out 0).trans rfl); (try have hcygb167_1 : _ = some (.int .i64 a0_1) := (blk_cell BK167.out 1).trans rfl); (try have hcygb167_2 : _ = some (.int .i64 a0_2) := (blk_cell BK167.out 2).trans rfl); (try have hcygb167_3 : _ = some (.int .i64 a0_3) := (blk_cell BK167.out 3).trans rfl); (try have hcygb167_4 : _ = some (.int .i64 a0_4) := (blk_cell BK167.out 4).trans rfl); (try have hcygb167_5 : _ = some (.string a0_5) := (blk_cell BK167.out 5).trans rfl)))
              have n0_ := Aside0.mk (blk_drew BK167.out)
              have n1_ := Aside0.mk (below_drew1 HB.out)
              clear BK167
              clear HB
              have BK167 := n0_
              have HB := n1_
              clear n0_ n1_
              refine start_ (n := 27) (S := fun w' => w'.cell? ⟨gb167, 0, none⟩ = some (.int .i64 a0_0) ∧ w'.cell? ⟨gb167, 1, none⟩ = some (.int .i64 a0_1) ∧ w'.cell? ⟨gb167, 2, none⟩ = some (.int .i64 a0_2) ∧ w'.cell? ⟨gb167, 3, none⟩ = some (.int .i64 a0_3) ∧ w'.cell? ⟨gb167, 4, none⟩ = some (.int .i64 a0_4) ∧ w'.cell? ⟨gb167, 5, none⟩ = some (.string a0_5)) (ds := []) #[false, false, false, false, false, false, false, false, false, false, false, false, false, false, false, false, false, false, false, false, false, false, false, false, false, false, false] (by kernel_rfl) rfl rfl ⟨(blk_cell BK167.out 0).trans rfl, (blk_cell BK167.out 1).trans rfl, (blk_cell BK167.out 2).trans rfl, (blk_cell BK167.out 3).trans rfl, (blk_cell BK167.out 4).trans rfl, (blk_cell BK167.out 5).trans rfl⟩ (fun hHeld => ?_); refine with_tabW spec_PageText.tab3 spec_PageText.bits3 (fun HT_ HW_ => ?_)
              generalize w17.drew = w18 at BK167 HB hHeld ⊢
              refine Sh.py 0 7 HT_ ?_
              refine Sh.py 3 10 HT_ ?_
              refine Sh.py 7 14 HT_ ?_
              refine Sh.py 11 18 HT_ ?_
              refine Sh.py 15 22 HT_ ?_
              refine Sh.py 19 26 HT_ ?_
              refine Sh.ty 1 8 HT_ HW_ hHeld ?_ (hv := by rintro w' ⟨s0, s1, s2, s3, s4, s5⟩; go_simp; with_reducible rfl)
              refine Sh.ty 4 11 HT_ HW_ hHeld ?_ (hv := by rintro w' ⟨s0, s1, s2, s3, s4, s5⟩; go_simp; with_reducible rfl)
              refine Sh.ty 8 15 HT_ HW_ hHeld ?_ (hv := by rintro w' ⟨s0, s1, s2, s3, s4, s5⟩; go_simp; with_reducible rfl)
              refine Sh.ty 12 19 HT_ HW_ hHeld ?_ (hv := by rintro w' ⟨s0, s1, s2, s3, s4, s5⟩; go_simp; with_reducible rfl)
              refine Sh.ty 16 23 HT_ HW_ hHeld ?_ (hv := by rintro w' ⟨s0, s1, s2, s3, s4, s5⟩; go_simp; with_reducible rfl)
              refine Sh.ty 20 27 HT_ HW_ hHeld ?_ (hv := by rintro w' ⟨s0, s1, s2, s3, s4, s5⟩; go_simp; with_reducible rfl)
              refine one_ (i := 2) (N := some 9) #[true, true, true, true, true, false, false, true, true, false, false, true, true, false, false, true, true, false, false, true, true, false, false, false, false, false, false] rfl rfl (one_of HT_.out (by kernel_rfl)) (by decide) (fun K hK => ?_)
              refine goes_ Try.func72 (by kernel_rfl) rfl #[.int .i64 a0_0] (by rfl) rfl rfl Sh.al ?_
              with_reducible refine (spec_l06Byte.calls a0_0 t169 _ A4.out).mono ?_
              rintro e w19 ⟨rfl, hb⟩
              refine ⟨_, rfl, ?_⟩
              have n0_ := Aside0.mk (blk_below (g := gb167) (o := .cells #[.int .i64 a0_0, .int .i64 a0_1, .int .i64 a0_2, .int .i64 a0_3, .int .i64 a0_4, .string a0_5] 44 (0, 0)) (Sh.bk BK167.out) hb)
              have n1_ := Aside0.mk (below_step (Sh.hs HB.out GE167.out) hb)
              clear BK167
              clear HB
              have BK167 := n0_
              have HB := n1_
              clear n0_ n1_
              (try clear hb)
              (try clear hb2)
              (try clear hk)
              (try clear hi)
              refine hK.out _ _ ⟨(blk_cell BK167.out 0).trans rfl, (blk_cell BK167.out 1).trans rfl, (blk_cell BK167.out 2).trans rfl, (blk_cell BK167.out 3).trans rfl, (blk_cell BK167.out 4).trans rfl, (blk_cell BK167.out 5).trans rfl⟩ (fun hHeld => ?_)
              clear hK K
              refine norm_ (a' := ?_) ?_ ?_
              rotate_left
              · show Act.put _ (some 9) _ = _
                simp only [Act.put, List.setIfInBounds_toArray, List.set_cons_zero, List.set_cons_succ, i64_w, i32_w]
                rfl
              refine one_ (i := 5) (N := some 12) #[true, true, true, true, true, true, false, true, true, false, false, true, true, false, false, true, true, false, false, true, true, false, false, false, false, false, false] rfl rfl (one_of HT_.out (by kernel_rfl)) (by decide) (fun K hK => ?_)
              refine goes_ Try.func73 (by kernel_rfl) rfl #[.int .i64 a0_1] (by rfl) rfl rfl Sh.al ?_
              with_reducible refine (spec_l01Var.calls k a0_1 t170 _ A5.out).mono ?_
              rintro e w20 ⟨rfl, hb⟩
              refine ⟨_, rfl, ?_⟩
              have n0_ := Aside0.mk (blk_below (g := gb167) (o := .cells #[.int .i64 a0_0, .int .i64 a0_1, .int .i64 a0_2, .int .i64 a0_3, .int .i64 a0_4, .string a0_5] 44 (0, 0)) (Sh.bk BK167.out) hb)
              have n1_ := Aside0.mk (below_step (Sh.hs HB.out GE167.out) hb)
              clear BK167
              clear HB
              have BK167 := n0_
              have HB := n1_
              clear n0_ n1_
              (try clear hb)
              (try clear hb2)
              (try clear hk)
              (try clear hi)
              refine hK.out _ _ ⟨(blk_cell BK167.out 0).trans rfl, (blk_cell BK167.out 1).trans rfl, (blk_cell BK167.out 2).trans rfl, (blk_cell BK167.out 3).trans rfl, (blk_cell BK167.out 4).trans rfl, (blk_cell BK167.out 5).trans rfl⟩ (fun hHeld => ?_)
              clear hK K
              refine norm_ (a' := ?_) ?_ ?_
              rotate_left
              · show Act.put _ (some 12) _ = _
                simp only [Act.put, List.setIfInBounds_toArray, List.set_cons_zero, List.set_cons_succ, i64_w, i32_w]
                rfl
              refine Sh.py 6 13 HT_ ?_
              refine one_ (i := 9) (N := some 16) #[true, true, true, true, true, true, true, true, true, true, false, true, true, false, false, true, true, false, false, true, true, false, false, false, false, false, false] rfl rfl (one_of HT_.out (by kernel_rfl)) (by decide) (fun K hK => ?_)
              refine goes_ Try.func73 (by kernel_rfl) rfl #[.int .i64 a0_2] (by rfl) rfl rfl Sh.al ?_
              with_reducible refine (spec_l01Var.calls k a0_2 t171 _ A7.out).mono ?_
              rintro e w21 ⟨rfl, hb⟩
              refine ⟨_, rfl, ?_⟩
              have n0_ := Aside0.mk (blk_below (g := gb167) (o := .cells #[.int .i64 a0_0, .int .i64 a0_1, .int .i64 a0_2, .int .i64 a0_3, .int .i64 a0_4, .string a0_5] 44 (0, 0)) (Sh.bk BK167.out) hb)
              have n1_ := Aside0.mk (below_step (Sh.hs HB.out GE167.out) hb)
              clear BK167
              clear HB
              have BK167 := n0_
              have HB := n1_
              clear n0_ n1_
              (try clear hb)
              (try clear hb2)
              (try clear hk)
              (try clear hi)
              refine hK.out _ _ ⟨(blk_cell BK167.out 0).trans rfl, (blk_cell BK167.out 1).trans rfl, (blk_cell BK167.out 2).trans rfl, (blk_cell BK167.out 3).trans rfl, (blk_cell BK167.out 4).trans rfl, (blk_cell BK167.out 5).trans rfl⟩ (fun hHeld => ?_)
              clear hK K
              refine norm_ (a' := ?_) ?_ ?_
              rotate_left
              · show Act.put _ (some 16) _ = _
                simp only [Act.put, List.setIfInBounds_toArray, List.set_cons_zero, List.set_cons_succ, i64_w, i32_w]
                rfl
              refine Sh.py 10 17 HT_ ?_
              refine one_ (i := 13) (N := some 20) #[true, true, true, true, true, true, true, true, true, true, true, true, true, true, false, true, true, false, false, true, true, false, false, false, false, false, false] rfl rfl (one_of HT_.out (by kernel_rfl)) (by decide) (fun K hK => ?_)
              refine goes_ Try.func73 (by kernel_rfl) rfl #[.int .i64 a0_3] (by rfl) rfl rfl Sh.al ?_
              with_reducible refine (spec_l01Var.calls k a0_3 t172 _ A9.out).mono ?_
              rintro e w22 ⟨rfl, hb⟩
              refine ⟨_, rfl, ?_⟩
              have n0_ := Aside0.mk (blk_below (g := gb167) (o := .cells #[.int .i64 a0_0, .int .i64 a0_1, .int .i64 a0_2, .int .i64 a0_3, .int .i64 a0_4, .string a0_5] 44 (0, 0)) (Sh.bk BK167.out) hb)
              have n1_ := Aside0.mk (below_step (Sh.hs HB.out GE167.out) hb)
              clear BK167
              clear HB
              have BK167 := n0_
              have HB := n1_
              clear n0_ n1_
              (try clear hb)
              (try clear hb2)
              (try clear hk)
              (try clear hi)
              refine hK.out _ _ ⟨(blk_cell BK167.out 0).trans rfl, (blk_cell BK167.out 1).trans rfl, (blk_cell BK167.out 2).trans rfl, (blk_cell BK167.out 3).trans rfl, (blk_cell BK167.out 4).trans rfl, (blk_cell BK167.out 5).trans rfl⟩ (fun hHeld => ?_)
              clear hK K
              refine norm_ (a' := ?_) ?_ ?_
              rotate_left
              · show Act.put _ (some 20) _ = _
                simp only [Act.put, List.setIfInBounds_toArray, List.set_cons_zero, List.set_cons_succ, i64_w, i32_w]
                rfl
              refine Sh.py 14 21 HT_ ?_
              refine one_ (i := 17) (N := some 24) #[true, true, true, true, true, true, true, true, true, true, true, true, true, true, true, true, true, true, false, true, true, false, false, false, false, false, false] rfl rfl (one_of HT_.out (by kernel_rfl)) (by decide) (fun K hK => ?_)
              refine goes_ Try.func73 (by kernel_rfl) rfl #[.int .i64 a0_4] (by rfl) rfl rfl Sh.al ?_
              with_reducible refine (spec_l01Var.calls k a0_4 t173 _ A11.out).mono ?_
              rintro e w23 ⟨rfl, hb⟩
              refine ⟨_, rfl, ?_⟩
              have n0_ := Aside0.mk (blk_below (g := gb167) (o := .cells #[.int .i64 a0_0, .int .i64 a0_1, .int .i64 a0_2, .int .i64 a0_3, .int .i64 a0_4, .string a0_5] 44 (0, 0)) (Sh.bk BK167.out) hb)
              have n1_ := Aside0.mk (below_step (Sh.hs HB.out GE167.out) hb)
              clear BK167
              clear HB
              have BK167 := n0_
              have HB := n1_
              clear n0_ n1_
              (try clear hb)
              (try clear hb2)
              (try clear hk)
              (try clear hi)
              refine hK.out _ _ ⟨(blk_cell BK167.out 0).trans rfl, (blk_cell BK167.out 1).trans rfl, (blk_cell BK167.out 2).trans rfl, (blk_cell BK167.out 3).trans rfl, (blk_cell BK167.out 4).trans rfl, (blk_cell BK167.out 5).trans rfl⟩ (fun hHeld => ?_)
              clear hK K
              refine norm_ (a' := ?_) ?_ ?_
              rotate_left
              · show Act.put _ (some 24) _ = _
                simp only [Act.put, List.setIfInBounds_toArray, List.set_cons_zero, List.set_cons_succ, i64_w, i32_w]
                rfl
              refine Sh.py 18 25 HT_ ?_
              refine Sh.py 21 28 HT_ ?_
              refine one_ (i := 22) (N := some 29) #[true, true, true, true, true, true, true, true, true, true, true, true, true, true, true, true, true, true, true, true, true, true, true, false, false, false, false] rfl rfl (one_of HT_.out (by kernel_rfl)) (by decide) (fun K hK => ?_)
              refine goes_ Try.func60 (by kernel_rfl) rfl #[.string (((((t169 ++ t170) ++ t171) ++ t172) ++ t173) ++ a0_5)] (by rfl) rfl rfl Sh.al ?_
              with_reducible refine (spec_Sealed.calls k (((((t169 ++ t170) ++ t171) ++ t172) ++ t173) ++ a0_5) t174 t175 _ A14.out).mono ?_
              rintro e w24 ⟨rfl, hb⟩
              refine ⟨_, rfl, ?_⟩
              have n0_ := Aside0.mk (blk_below (g := gb167) (o := .cells #[.int .i64 a0_0, .int .i64 a0_1, .int .i64 a0_2, .int .i64 a0_3, .int .i64 a0_4, .string a0_5] 44 (0, 0)) (Sh.bk BK167.out) hb)
              have n1_ := Aside0.mk (below_step (Sh.hs HB.out GE167.out) hb)
              clear BK167
              clear HB
              have BK167 := n0_
              have HB := n1_
              clear n0_ n1_
              (try clear hb)
              (try clear hb2)
              (try clear hk)
              (try clear hi)
              refine hK.out _ _ ⟨(blk_cell BK167.out 0).trans rfl, (blk_cell BK167.out 1).trans rfl, (blk_cell BK167.out 2).trans rfl, (blk_cell BK167.out 3).trans rfl, (blk_cell BK167.out 4).trans rfl, (blk_cell BK167.out 5).trans rfl⟩ (fun hHeld => ?_)
              clear hK K
              refine norm_ (a' := ?_) ?_ ?_
              rotate_left
              · show Act.put _ (some 29) _ = _
                simp only [Act.put, List.setIfInBounds_toArray, List.set_cons_zero, List.set_cons_succ, i64_w, i32_w]
                rfl
              refine Sh.py 23 30 HT_ ?_
              refine Sh.py 24 31 HT_ ?_
              refine Sh.py 25 2 HT_ ?_
              refine Sh.py 26 3 HT_ ?_
              refine done_ (done_of HT_.out (by kernel_rfl)) ?_
              try go_wp2
              go_ret2
              exact ⟨by first | rfl | (simp [errW_none, errW_some] <;> rfl) | (simp [*, errW_none, errW_some] <;> rfl), by exact Sh.hs HB.out GE167.out⟩
            · rw [if_neg c13] at H
              exact absurd H (by simp)
          · rw [if_neg c12] at H
            exact absurd H (by simp)
        · rw [if_neg c10] at H
          exact absurd H (by simp)
      · rw [if_neg c8] at H
        exact absurd H (by simp)
    · rw [if_neg c6] at H
      exact absurd H (by simp)
  · replace c3 := Bool.eq_false_iff.mpr c3
    subst c3
    have H1 : (some ((⟨#[]⟩ : ByteArray), false)) = some (r1, r2) := by rw [if_neg (show ¬ (false = true) by decide)] at H; exact H
    clear H
    have H := H1
    clear H1
    simp only [Option.some.injEq, Prod.mk.injEq] at H
    obtain ⟨rfl, rfl⟩ := H
    go_enter Try.func54, Try.ntmps54
    go_wp2_with (first | ((with_reducible refine gate_dst (N := 1) rfl ?_); refine box_event ?hg (N := 1) ?hd (cs := #[.int .i64 a0_0, .int .i64 a0_1, .int .i64 a0_2, .int .i64 a0_3, .int .i64 a0_4, .string a0_5]) (t := 44) ?hr ?_; (case hd => rfl); (case hg => rfl); (case hr => first | (go_simp; done) | (go_simp; rfl)); intro gb167 hg w25 hbox hb; have n0_ := Aside0.mk (below_step (Sh.hb HB.out) hb); have n1_ := Aside0.mk (hbox); have n2_ := Aside0.mk ((by rw [hg]; exact (below_size (Sh.hb HB.out)) : w.heap.size ≤ gb167)); have n3_ := Aside0.mk ((by rw [hg]; exact (below_size (Sh.hb HB.out)) : w.heap.size ≤ gb167)); clear HB; have HB := n0_; have BK167 := n1_; have GW167 := n2_; have GE167 := n3_; clear n0_ n1_ n2_ n3_; clear hb hbox hg; have hcz26_0 : w25.cell? ⟨gb167, 0, none⟩ = some (.int .i64 a0_0) := (blk_cell BK167.out 0).trans rfl; have hcz26_1 : w25.cell? ⟨gb167, 1, none⟩ = some (.int .i64 a0_1) := (blk_cell BK167.out 1).trans rfl; have hcz26_2 : w25.cell? ⟨gb167, 2, none⟩ = some (.int .i64 a0_2) := (blk_cell BK167.out 2).trans rfl; have hcz26_3 : w25.cell? ⟨gb167, 3, none⟩ = some (.int .i64 a0_3) := (blk_cell BK167.out 3).trans rfl; have hcz26_4 : w25.cell? ⟨gb167, 4, none⟩ = some (.int .i64 a0_4) := (blk_cell BK167.out 4).trans rfl; have hcz26_5 : w25.cell? ⟨gb167, 5, none⟩ = some (.string a0_5) := (blk_cell BK167.out 5).trans rfl; have hfz26_0 := blk_frozen BK167.out 0; have hfz26_1 := blk_frozen BK167.out 1; have hfz26_2 := blk_frozen BK167.out 2; have hfz26_3 := blk_frozen BK167.out 3; have hfz26_4 := blk_frozen BK167.out 4; have hfz26_5 := blk_frozen BK167.out 5) | ((with_reducible refine gate_callee (f := 31) rfl ?_); refine goesL_ (some 5) rfl rfl Try.func31 (by kernel_rfl) rfl #[.agg #[.int .i64 a0_0, .int .i64 a0_1, .int .i64 a0_2, .int .i64 a0_3, .int .i64 a0_4, .string a0_5]] rfl Sh.al ?_; (with_reducible refine (spec_PageOk.calls a0_0 a0_1 a0_2 a0_3 a0_4 a0_5 false _ A2.out).mono ?_); rintro e w27 ⟨rfl, hb⟩; refine ⟨_, rfl, ?_⟩; have n0_ := Aside0.mk (blk_below (g := gb167) (o := .cells #[.int .i64 a0_0, .int .i64 a0_1, .int .i64 a0_2, .int .i64 a0_3, .int .i64 a0_4, .string a0_5] 44 (0, 0)) (Sh.bk BK167.out) hb); have n1_ := Aside0.mk (below_step (Sh.hs HB.out GE167.out) hb); clear BK167; clear HB; have BK167 := n0_; have HB := n1_; clear n0_ n1_; (try clear hb); (try clear hb2); (try clear hk); (try clear hi); (try have hcygb167_0 : _ = some (.int .i64 a0_0) := (blk_cell BK167.out 0).trans rfl); (try have hcygb167_1 : _ = some (.int .i64 a0_1) := (blk_cell BK167.out 1).trans rfl); (try have hcygb167_2 : _ = some (.int .i64 a0_2) := (blk_cell BK167.out 2).trans rfl); (try have hcygb167_3 : _ = some (.int .i64 a0_3) := (blk_cell BK167.out 3).trans rfl); (try have hcygb167_4 : _ = some (.int .i64 a0_4) := (blk_cell BK167.out 4).trans rfl); (try have hcygb167_5 : _ = some (.string a0_5) := (blk_cell BK167.out 5).trans rfl)))
    go_ret2
    exact ⟨by first | rfl | (simp [errW_none, errW_some] <;> rfl) | (simp [*, errW_none, errW_some] <;> rfl), by exact Sh.hs HB.out GE167.out⟩

/-! ### spec_ReadPage: function 26 -/
open Go.Proofs.Ytbiapgneafgdeaa.Rp
set_option maxHeartbeats 4000000 in
set_option maxRecDepth 1000000 in
theorem spec_l06Var.walk_ (k g : Nat) (s : ByteArray) (at_ : Int) (bad : Bool) (n nx : Int) (ok : Bool) (w : World) (hg : Cur g s at_ bad w) (hr : spec_ReadVar.f k s at_ = some (n, nx, ok))
    (v a' : Int) (bad' : Bool) (hv : (if bad = true ∨ ok = false then 0 else n) = v) (ha : (if bad = true ∨ ok = false then at_ else nx) = a') (hbb : (bad || !ok) = bad') :
    Calls Try.prog 53 #[.pointer (some ⟨g, 0, none⟩)] w fun e w' => e = .returned (.int .i64 v) ∧ Cur g s a' bad' w' ∧ Beside g w w' := by
  have HG := Aside0.mk hg
  have HR := Aside0.mk hr
  have HV := Aside0.mk hv
  have HA := Aside0.mk ha
  have HBB := Aside0.mk hbb
  clear hg hr hv ha hbb
  unfold Cur at HG
  go_enter Try.func53, Try.ntmps53
  try go_wp2
  refine start_ (n := 16) (S := fun w' => w'.cell? ⟨g, 0, none⟩ = some (.string s) ∧ w'.cell? ⟨g, 1, none⟩ = some (.int .i64 at_) ∧ w'.heap[g]? = some (.cells #[.string s, .int .i64 at_, .bool bad] 75 (0, 0)) ∧ Below w.heap.size w w') (ds := []) #[false, false, false, false, false, false, false, false, false, false, false, false, false, false, false, false] (by kernel_rfl) rfl rfl ⟨(blk_cell HG.out 0).trans rfl, (blk_cell HG.out 1).trans rfl, HG.out, below_drew1 (Below.refl _ _)⟩ (fun hHeld => ?_)
  refine Sh.ky 0 7 ?_
  refine Sh.ky 1 8 ?_
  refine Sh.ky 2 9 ?_
  refine Sh.ky 4 11 ?_
  refine Sh.ky 5 12 ?_
  refine Sh.ky 6 13 ?_
  refine Sh.tk 3 10 hHeld ?_ (hv := by rintro w' ⟨s0, s1, s2, s3⟩; go_simp; with_reducible rfl)
  refine Sh.tk 7 14 hHeld ?_ (hv := by rintro w' ⟨s0, s1, s2, s3⟩; go_simp; with_reducible rfl)
  refine one_ (i := 8) (N := some 15) #[true, true, true, true, true, true, true, true, true, false, false, false, false, false, false, false] rfl rfl (by kernel_rfl) (by decide) (fun K hK => ?_)
  refine goes_ Try.func71 (by kernel_rfl) rfl #[.string s, .int .i64 at_] (by rfl) rfl rfl (by simp only [List.map_toArray, List.map_cons, List.map_nil]; rfl) ?_
  with_reducible refine (spec_ReadVar.calls k s at_ n nx ok _ HR.out).mono ?_
  rintro e w3 ⟨rfl, hb⟩
  refine ⟨_, rfl, ?_⟩
  refine hK.out _ _ ⟨pw_cell_below hb hHeld.1, pw_cell_below hb hHeld.2.1, blk_below hHeld.2.2.1 hb, below_step hHeld.2.2.2 hb⟩ (fun hHeld => ?_)
  clear hK K
  refine norm_ (a' := ?_) ?_ ?_
  rotate_left
  · show Act.put _ (some 15) _ = _
    simp only [Act.put, List.setIfInBounds_toArray, List.set_cons_zero, List.set_cons_succ, i64_w, i32_w]
    rfl
  refine Sh.ky 9 6 ?_
  refine Sh.ky 10 16 ?_
  refine Sh.ky 11 17 ?_
  refine Sh.ky 12 18 ?_
  refine Sh.ky 13 3 ?_
  refine Sh.ky 14 4 ?_
  refine Sh.ky 15 5 ?_
  refine done_ (by kernel_rfl) ?_

  have HG3 := Aside0.mk hHeld.2.2.1
  have HB3 := Aside0.mk hHeld.2.2.2
  clear hHeld hb HG HR
  have hc2 : w3.cell? ⟨g, 2, none⟩ = some (.bool bad) := (blk_cell HG3.out 2).trans rfl
  have hc1 : w3.cell? ⟨g, 1, none⟩ = some (.int .i64 at_) := (blk_cell HG3.out 1).trans rfl
  have hf1 := blk_frozen HG3.out 1
  have hf2 := blk_frozen HG3.out 2
  cases bad with
  | true =>
    go_wp2_with (fail)
    go_ret
    obtain rfl := HV.out
    obtain rfl := HA.out
    obtain rfl := HBB.out
    refine ⟨by simp, ?_, Beside.set (Beside.of_below HB3.out) _ _⟩
    have e := blk_set HG3.out 2 (.bool true)
    simpa [Cur] using e
  | false =>
    cases ok with
    | true =>
      go_wp2_with (fail)
      go_ret
      obtain rfl := HV.out
      obtain rfl := HA.out
      obtain rfl := HBB.out
      refine ⟨by simp, ?_, Beside.set (Beside.of_below HB3.out) _ _⟩
      have e := blk_set HG3.out 1 (.int .i64 nx)
      simpa [Cur] using e
    | false =>
      go_wp2_with (fail)
      go_ret
      obtain rfl := HV.out
      obtain rfl := HA.out
      obtain rfl := HBB.out
      refine ⟨by simp, ?_, Beside.set (Beside.of_below HB3.out) _ _⟩
      have e := blk_set HG3.out 2 (.bool true)
      simpa [Cur] using e
/-- One number, off the reader's state. -/
def spec_l06Var.rd (k : Nat) (s : ByteArray) (a : Int) (bad : Bool) : Option (Int × Int × Bool) :=
  (spec_ReadVar.f k s a).bind fun r => some (if bad = true ∨ r.2.2 = false then 0 else r.1, if bad = true ∨ r.2.2 = false then a else r.2.1, bad || !r.2.2)
theorem spec_l06Var.calls_ (k g : Nat) (s : ByteArray) (a : Int) (bad : Bool) (v a' : Int) (bad' : Bool) (w : World) (hg : Cur g s a bad w) (h : spec_l06Var.rd k s a bad = some (v, a', bad')) :
    Calls Try.prog 53 #[.pointer (some ⟨g, 0, none⟩)] w fun e w' => e = .returned (.int .i64 v) ∧ Cur g s a' bad' w' ∧ Beside g w w' := by
  unfold spec_l06Var.rd at h
  obtain ⟨⟨n, nx, ok⟩, hr, e⟩ := Option.bind_eq_some_iff.mp h
  simp only [Option.some.injEq, Prod.mk.injEq] at e
  obtain ⟨rfl, rfl, rfl⟩ := e
  exact spec_l06Var.walk_ k g s a bad n nx ok w hg hr _ _ _ rfl rfl rfl
def spec_ReadPage.fin (k : Nat) (t s : ByteArray) (v1 v2 v3 v4 a4 : Int) (b4 : Bool) : Option (Int × Int × Int × Int × Int × ByteArray × Bool) :=
  if b4 = true then some (0, 0, 0, 0, 0, (⟨#[]⟩ : ByteArray), false) else
  if 0 < s.size ∧ 0 ≤ a4 ∧ a4 ≤ (s.size : Int) then
    ((spec_PageText.f k (bt s 0) v1 v2 v3 v4 (s.extract a4.toNat s.size)).bind fun b =>
      if b.2 = true ∧ b.1 = t then some (bt s 0, v1, v2, v3, v4, s.extract a4.toNat s.size, true) else some (0, 0, 0, 0, 0, (⟨#[]⟩ : ByteArray), false))
  else none

set_option maxHeartbeats 4000000 in
set_option maxRecDepth 1000000 in
theorem spec_ReadPage.bad_ (k : Nat) (t s : ByteArray) (ok b0 : Bool) (v1 a1 v2 a2 v3 a3 v4 a4 : Int) (b1 b2 b3 : Bool) (w : World)
    (hu : spec_Unsealed.f k t = some (s, ok)) (h0 : (!ok || decide ((s.size : Int) < 1)) = b0) (h1 : spec_l06Var.rd k s 1 b0 = some (v1, a1, b1)) (h2 : spec_l06Var.rd k s a1 b1 = some (v2, a2, b2)) (h3 : spec_l06Var.rd k s a2 b2 = some (v3, a3, b3)) (h4 : spec_l06Var.rd k s a3 b3 = some (v4, a4, true)) :
    Calls Try.prog 26 #[.string t] w fun e w' => e = .returned (.tuple #[.agg #[.int .i64 0, .int .i64 0, .int .i64 0, .int .i64 0, .int .i64 0, .string (⟨#[]⟩ : ByteArray)], .bool false]) ∧ Below w.heap.size w w' := by
  have hu44 := Try.underlying44
  have HB := Aside0.mk (Below.refl w.heap.size w)
  have HU := Aside0.mk hu
  have H1 := Aside0.mk h1
  have H2 := Aside0.mk h2
  have H3 := Aside0.mk h3
  have H4 := Aside0.mk h4
  clear hu h1 h2 h3 h4
  have hi44 : (Try.prog.info? 44).map (·.size) = some 6 := by kernel_rfl
  have HI := Aside0.mk hi44
  clear hi44
  cases ok
  all_goals go_enter Try.func26, Try.ntmps26
  all_goals go_wp2_with (first | ((with_reducible refine gate_dst (N := 2) rfl ?_); refine box_event ?hg (N := 2) ?hd (cs := #[.int .i64 0, .int .i64 0, .int .i64 0, .int .i64 0, .int .i64 0, .string (⟨#[]⟩ : ByteArray)]) (t := 44) ?hr ?_; (case hd => rfl); (case hg => rfl); (case hr => first | (go_simp; done) | (go_simp; rfl)); intro a hg w1 hbox hb; have BA := Aside0.mk hbox; have HB1 := Aside0.mk (below_step HB.out hb); have GA := Aside0.mk ((by rw [hg]; exact below_size HB.out) : w.heap.size ≤ a); clear hg hbox hb HB) | ((with_reducible refine gate_callee (f := 52) rfl ?_); (with_reducible refine gate_dst (N := 12) rfl ?_); refine goesL_ (some 12) rfl rfl Try.func52 (by kernel_rfl) rfl #[.string t] rfl Sh.al ?_; (with_reducible refine (spec_Unsealed.calls k t s _ _ HU.out).mono ?_); rintro e w2 ⟨rfl, hb⟩; refine ⟨_, rfl, ?_⟩; have BA2 := Aside0.mk (blk_below BA.out hb); have HB2 := Aside0.mk (below_step HB1.out hb); clear hb BA HB1) | ((with_reducible refine gate_dst (N := 24) rfl ?_); refine box_event ?hg (N := 24) ?hd (cs := #[.string s, .int .i64 1, .bool b0]) (t := 75) ?hr ?_; (case hd => rfl); (case hg => rfl); (case hr => rw [← h0]; first | (go_simp; done) | (go_simp; rfl)); intro g hg w3 hbox hb; have R3 := Aside0.mk (⟨blk_below BA2.out hb, hbox, (by rw [hg]; exact Nat.ne_of_lt (blk_lt BA2.out)), GA.out, (by rw [hg]; exact below_size HB2.out), below_step HB2.out hb⟩ : R1 w a g _ s 1 b0 w3); clear hg hbox hb BA2 HB2 GA) | ((with_reducible refine gate_callee (f := 53) rfl ?_); (with_reducible refine gate_dst (N := 26) rfl ?_); refine goesL_ (some 26) rfl rfl Try.func53 (by kernel_rfl) rfl #[.pointer (some ⟨g, 0, none⟩)] rfl Sh.al ?_; (with_reducible refine (spec_l06Var.calls_ k g s 1 b0 v1 a1 b1 _ R3.out.cur H1.out).mono ?_); rintro e w4 ⟨rfl, hc, hb⟩; refine ⟨_, rfl, ?_⟩; have R4 := Aside0.mk (R3.out.call hc hb); clear hc hb R3) | ((with_reducible refine gate_dst (N := 7) rfl ?_); refine box_event ?hg (N := 7) ?hd (cs := #[.int .i64 0, .int .i64 0, .int .i64 0, .int .i64 0, .int .i64 0, .string (⟨#[]⟩ : ByteArray)]) (t := 44) ?hr ?_; (case hd => rfl); (case hg => rfl); (case hr => first | (go_simp; done) | (go_simp; rfl)); intro gp hg w5 hbox hb; have R5 := Aside0.mk (R4.out.box hg hbox hb); clear hg hbox hb R4; have hz0 : w5.cell? ⟨gp, 0, none⟩ = some (.int .i64 0) := (blk_cell R5.out.page 0).trans rfl; have hz1 : w5.cell? ⟨gp, 1, none⟩ = some (.int .i64 0) := (blk_cell R5.out.page 1).trans rfl; have hz2 : w5.cell? ⟨gp, 2, none⟩ = some (.int .i64 0) := (blk_cell R5.out.page 2).trans rfl; have hz3 : w5.cell? ⟨gp, 3, none⟩ = some (.int .i64 0) := (blk_cell R5.out.page 3).trans rfl; have hz4 : w5.cell? ⟨gp, 4, none⟩ = some (.int .i64 0) := (blk_cell R5.out.page 4).trans rfl; have hz5 : w5.cell? ⟨gp, 5, none⟩ = some (.string (⟨#[]⟩ : ByteArray)) := (blk_cell R5.out.page 5).trans rfl; have hy0 := blk_frozen R5.out.page 0; have hy1 := blk_frozen R5.out.page 1; have hy2 := blk_frozen R5.out.page 2; have hy3 := blk_frozen R5.out.page 3; have hy4 := blk_frozen R5.out.page 4; have hy5 := blk_frozen R5.out.page 5) | ((with_reducible refine gate_store (t := 44) (p := 7) rfl ?_); refine row_event rfl 44 (.tmp 7) (.tmp 27) rfl gp #[.int .i64 0, .int .i64 v1, .int .i64 0, .int .i64 0, .int .i64 0, .string (⟨#[]⟩ : ByteArray)] rfl (by first | rfl | (go_simp; done) | (go_simp; rfl)) 44 _ R5.out.page HI.out rfl (by simp [Value.oneCell']) ?_; intro w6 hw; have R6 := Aside0.mk (show RP w a gp g _ _ s a1 b1 w6 from by rw [hw]; exact R5.out.row _); clear hw R5) | ((with_reducible refine gate_callee (f := 53) rfl ?_); (with_reducible refine gate_dst (N := 29) rfl ?_); refine goesL_ (some 29) rfl rfl Try.func53 (by kernel_rfl) rfl #[.pointer (some ⟨g, 0, none⟩)] rfl Sh.al ?_; (with_reducible refine (spec_l06Var.calls_ k g s a1 b1 v2 a2 b2 _ (R6.out).cur H2.out).mono ?_); rintro e w7 ⟨rfl, hc, hb⟩; refine ⟨_, rfl, ?_⟩; have R7 := Aside0.mk ((R6.out).call hc hb); clear hc hb; clear R6; have hzw72 : w7.cell? ⟨gp, 2, none⟩ = some (.int .i64 0) := (blk_cell R7.out.page 2).trans rfl; have hyw72 := blk_frozen R7.out.page 2) | ((with_reducible refine gate_store (t := 3) (p := 30) rfl ?_); refine store_event (t := 3) (p := 30) (v := ?vo_30) (w1 := (w7.setCell ⟨gp, 2, none⟩ (.int .i64 v2))) ?hg ?ho ?hn ?hr ?_; (case ho => rfl); (case hg => rfl); (case hn => rfl); (case hr => first | (go_simp; done) | (go_simp; rfl)); intro w8 hw; have R8 := Aside0.mk (show RP w a gp g _ #[.int .i64 0, .int .i64 v1, .int .i64 v2, .int .i64 0, .int .i64 0, .string (⟨#[]⟩ : ByteArray)] s a2 b2 w8 from by rw [hw]; exact R7.out.put 2 _ rfl); clear hw R7) | ((with_reducible refine gate_callee (f := 53) rfl ?_); (with_reducible refine gate_dst (N := 32) rfl ?_); refine goesL_ (some 32) rfl rfl Try.func53 (by kernel_rfl) rfl #[.pointer (some ⟨g, 0, none⟩)] rfl Sh.al ?_; (with_reducible refine (spec_l06Var.calls_ k g s a2 b2 v3 a3 b3 _ (R8.out).cur H3.out).mono ?_); rintro e w9 ⟨rfl, hc, hb⟩; refine ⟨_, rfl, ?_⟩; have R9 := Aside0.mk ((R8.out).call hc hb); clear hc hb; clear R8; have hzw93 : w9.cell? ⟨gp, 3, none⟩ = some (.int .i64 0) := (blk_cell R9.out.page 3).trans rfl; have hyw93 := blk_frozen R9.out.page 3) | ((with_reducible refine gate_store (t := 3) (p := 33) rfl ?_); refine store_event (t := 3) (p := 33) (v := ?vo_33) (w1 := (w9.setCell ⟨gp, 3, none⟩ (.int .i64 v3))) ?hg ?ho ?hn ?hr ?_; (case ho => rfl); (case hg => rfl); (case hn => rfl); (case hr => first | (go_simp; done) | (go_simp; rfl)); intro w10 hw; have R10 := Aside0.mk (show RP w a gp g _ #[.int .i64 0, .int .i64 v1, .int .i64 v2, .int .i64 v3, .int .i64 0, .string (⟨#[]⟩ : ByteArray)] s a3 b3 w10 from by rw [hw]; exact R9.out.put 3 _ rfl); clear hw R9) | ((with_reducible refine gate_callee (f := 53) rfl ?_); (with_reducible refine gate_dst (N := 35) rfl ?_); refine goesL_ (some 35) rfl rfl Try.func53 (by kernel_rfl) rfl #[.pointer (some ⟨g, 0, none⟩)] rfl Sh.al ?_; (with_reducible refine (spec_l06Var.calls_ k g s a3 b3 v4 a4 true _ (R10.out).cur H4.out).mono ?_); rintro e w11 ⟨rfl, hc, hb⟩; refine ⟨_, rfl, ?_⟩; have R11 := Aside0.mk ((R10.out).call hc hb); clear hc hb; clear R10; have hzw114 : w11.cell? ⟨gp, 4, none⟩ = some (.int .i64 0) := (blk_cell R11.out.page 4).trans rfl; have hyw114 := blk_frozen R11.out.page 4) | ((with_reducible refine gate_store (t := 3) (p := 36) rfl ?_); refine store_event (t := 3) (p := 36) (v := ?vo_36) (w1 := (w11.setCell ⟨gp, 4, none⟩ (.int .i64 v4))) ?hg ?ho ?hn ?hr ?_; (case ho => rfl); (case hg => rfl); (case hn => rfl); (case hr => first | (go_simp; done) | (go_simp; rfl)); intro w12 hw; have R12 := Aside0.mk (show RP w a gp g _ #[.int .i64 0, .int .i64 v1, .int .i64 v2, .int .i64 v3, .int .i64 v4, .string (⟨#[]⟩ : ByteArray)] s a4 _ w12 from by rw [hw]; exact R11.out.put 4 _ rfl); clear hw R11; have hb12 : w12.cell? ⟨g, 2, none⟩ = some (.bool true) := (blk_cell R12.out.cur 2).trans rfl; have ha12 : w12.cell? ⟨g, 1, none⟩ = some (.int .i64 a4) := (blk_cell R12.out.cur 1).trans rfl; have hzw120 : w12.cell? ⟨gp, 0, none⟩ = some (.int .i64 0) := (blk_cell R12.out.page 0).trans rfl; have hyw120 := blk_frozen R12.out.page 0; have hzw125 : w12.cell? ⟨gp, 5, none⟩ = some (.string (⟨#[]⟩ : ByteArray)) := (blk_cell R12.out.page 5).trans rfl; have hyw125 := blk_frozen R12.out.page 5) | ((with_reducible refine gate_store (t := 44) (p := 2) rfl ?_); refine row_event rfl 44 (.tmp 2) (.tmp 41) rfl a #[.int .i64 0, .int .i64 0, .int .i64 0, .int .i64 0, .int .i64 0, .string (⟨#[]⟩ : ByteArray)] rfl (by first | rfl | (go_simp; done) | (go_simp; rfl)) 44 _ R12.out.res HI.out rfl (by simp [Value.oneCell']) ?_; intro w16 hw; have RZ := Aside0.mk (show w16.heap[a]? = _ ∧ Below w.heap.size w w16 from by rw [hw]; exact R12.out.res_row _); clear hw))
  all_goals refine bodyPost_ret (results_row_tmp rfl _ _ a 44 #[.int .i64 0, .int .i64 0, .int .i64 0, .int .i64 0, .int .i64 0, .string (⟨#[]⟩ : ByteArray)] (0, 0) _ _ rfl rfl RZ.out.1 hu44 rfl HI.out) rfl ?_
  all_goals exact ⟨rfl, RZ.out.2⟩
set_option maxHeartbeats 4000000 in
set_option maxRecDepth 1000000 in
theorem spec_ReadPage.nr_ (k : Nat) (t s : ByteArray) (ok b0 : Bool) (v1 a1 v2 a2 v3 a3 v4 a4 : Int) (b1 b2 b3 : Bool) (back : ByteArray) (w : World)
    (hu : spec_Unsealed.f k t = some (s, ok)) (h0 : (!ok || decide ((s.size : Int) < 1)) = b0) (h1 : spec_l06Var.rd k s 1 b0 = some (v1, a1, b1)) (h2 : spec_l06Var.rd k s a1 b1 = some (v2, a2, b2)) (h3 : spec_l06Var.rd k s a2 b2 = some (v3, a3, b3)) (h4 : spec_l06Var.rd k s a3 b3 = some (v4, a4, false))
    (hs : 0 < s.size) (ha : 0 ≤ a4) (hb : a4 ≤ (s.size : Int)) (hp : spec_PageText.f k (bt s 0) v1 v2 v3 v4 (s.extract a4.toNat s.size) = some (back, false)) :
    Calls Try.prog 26 #[.string t] w fun e w' => e = .returned (.tuple #[.agg #[.int .i64 0, .int .i64 0, .int .i64 0, .int .i64 0, .int .i64 0, .string (⟨#[]⟩ : ByteArray)], .bool false]) ∧ Below w.heap.size w w' := by
  have hu44 := Try.underlying44
  have HB := Aside0.mk (Below.refl w.heap.size w)
  have HU := Aside0.mk hu
  have H1 := Aside0.mk h1
  have H2 := Aside0.mk h2
  have H3 := Aside0.mk h3
  have H4 := Aside0.mk h4
  clear hu h1 h2 h3 h4
  have hi44 : (Try.prog.info? 44).map (·.size) = some 6 := by kernel_rfl
  have HI := Aside0.mk hi44
  clear hi44
  have hs0 := hs
  have hs1 : decide (0 < s.size) = true := decide_eq_true hs
  have hx : ∀ h : 0 < s.size, ((s[0]'h).toNat : Int) = bt s 0 := bt_at s 0
  have hxw : wrap64 (bt s 0) = bt s 0 := by have := bt_range s 0; unfold wrap64; omega
  have hl0 : decide (0 ≤ a4) = true := decide_eq_true ha
  have hl1 : decide (a4 ≤ (s.size : Int)) = true := decide_eq_true hb
  have hl2 := eq_true ha
  have hl3 := eq_true hb
  have HP := Aside0.mk hp
  clear hs ha hb hp
  cases ok
  all_goals go_enter Try.func26, Try.ntmps26
  all_goals go_wp2_with (first | ((with_reducible refine gate_dst (N := 2) rfl ?_); refine box_event ?hg (N := 2) ?hd (cs := #[.int .i64 0, .int .i64 0, .int .i64 0, .int .i64 0, .int .i64 0, .string (⟨#[]⟩ : ByteArray)]) (t := 44) ?hr ?_; (case hd => rfl); (case hg => rfl); (case hr => first | (go_simp; done) | (go_simp; rfl)); intro a hg w1 hbox hb; have BA := Aside0.mk hbox; have HB1 := Aside0.mk (below_step HB.out hb); have GA := Aside0.mk ((by rw [hg]; exact below_size HB.out) : w.heap.size ≤ a); clear hg hbox hb HB) | ((with_reducible refine gate_callee (f := 52) rfl ?_); (with_reducible refine gate_dst (N := 12) rfl ?_); refine goesL_ (some 12) rfl rfl Try.func52 (by kernel_rfl) rfl #[.string t] rfl Sh.al ?_; (with_reducible refine (spec_Unsealed.calls k t s _ _ HU.out).mono ?_); rintro e w2 ⟨rfl, hb⟩; refine ⟨_, rfl, ?_⟩; have BA2 := Aside0.mk (blk_below BA.out hb); have HB2 := Aside0.mk (below_step HB1.out hb); clear hb BA HB1) | ((with_reducible refine gate_dst (N := 24) rfl ?_); refine box_event ?hg (N := 24) ?hd (cs := #[.string s, .int .i64 1, .bool b0]) (t := 75) ?hr ?_; (case hd => rfl); (case hg => rfl); (case hr => rw [← h0]; first | (go_simp; done) | (go_simp; rfl)); intro g hg w3 hbox hb; have R3 := Aside0.mk (⟨blk_below BA2.out hb, hbox, (by rw [hg]; exact Nat.ne_of_lt (blk_lt BA2.out)), GA.out, (by rw [hg]; exact below_size HB2.out), below_step HB2.out hb⟩ : R1 w a g _ s 1 b0 w3); clear hg hbox hb BA2 HB2 GA) | ((with_reducible refine gate_callee (f := 53) rfl ?_); (with_reducible refine gate_dst (N := 26) rfl ?_); refine goesL_ (some 26) rfl rfl Try.func53 (by kernel_rfl) rfl #[.pointer (some ⟨g, 0, none⟩)] rfl Sh.al ?_; (with_reducible refine (spec_l06Var.calls_ k g s 1 b0 v1 a1 b1 _ R3.out.cur H1.out).mono ?_); rintro e w4 ⟨rfl, hc, hb⟩; refine ⟨_, rfl, ?_⟩; have R4 := Aside0.mk (R3.out.call hc hb); clear hc hb R3) | ((with_reducible refine gate_dst (N := 7) rfl ?_); refine box_event ?hg (N := 7) ?hd (cs := #[.int .i64 0, .int .i64 0, .int .i64 0, .int .i64 0, .int .i64 0, .string (⟨#[]⟩ : ByteArray)]) (t := 44) ?hr ?_; (case hd => rfl); (case hg => rfl); (case hr => first | (go_simp; done) | (go_simp; rfl)); intro gp hg w5 hbox hb; have R5 := Aside0.mk (R4.out.box hg hbox hb); clear hg hbox hb R4; have hz0 : w5.cell? ⟨gp, 0, none⟩ = some (.int .i64 0) := (blk_cell R5.out.page 0).trans rfl; have hz1 : w5.cell? ⟨gp, 1, none⟩ = some (.int .i64 0) := (blk_cell R5.out.page 1).trans rfl; have hz2 : w5.cell? ⟨gp, 2, none⟩ = some (.int .i64 0) := (blk_cell R5.out.page 2).trans rfl; have hz3 : w5.cell? ⟨gp, 3, none⟩ = some (.int .i64 0) := (blk_cell R5.out.page 3).trans rfl; have hz4 : w5.cell? ⟨gp, 4, none⟩ = some (.int .i64 0) := (blk_cell R5.out.page 4).trans rfl; have hz5 : w5.cell? ⟨gp, 5, none⟩ = some (.string (⟨#[]⟩ : ByteArray)) := (blk_cell R5.out.page 5).trans rfl; have hy0 := blk_frozen R5.out.page 0; have hy1 := blk_frozen R5.out.page 1; have hy2 := blk_frozen R5.out.page 2; have hy3 := blk_frozen R5.out.page 3; have hy4 := blk_frozen R5.out.page 4; have hy5 := blk_frozen R5.out.page 5) | ((with_reducible refine gate_store (t := 44) (p := 7) rfl ?_); refine row_event rfl 44 (.tmp 7) (.tmp 27) rfl gp #[.int .i64 0, .int .i64 v1, .int .i64 0, .int .i64 0, .int .i64 0, .string (⟨#[]⟩ : ByteArray)] rfl (by first | rfl | (go_simp; done) | (go_simp; rfl)) 44 _ R5.out.page HI.out rfl (by simp [Value.oneCell']) ?_; intro w6 hw; have R6 := Aside0.mk (show RP w a gp g _ _ s a1 b1 w6 from by rw [hw]; exact R5.out.row _); clear hw R5) | ((with_reducible refine gate_callee (f := 53) rfl ?_); (with_reducible refine gate_dst (N := 29) rfl ?_); refine goesL_ (some 29) rfl rfl Try.func53 (by kernel_rfl) rfl #[.pointer (some ⟨g, 0, none⟩)] rfl Sh.al ?_; (with_reducible refine (spec_l06Var.calls_ k g s a1 b1 v2 a2 b2 _ (R6.out).cur H2.out).mono ?_); rintro e w7 ⟨rfl, hc, hb⟩; refine ⟨_, rfl, ?_⟩; have R7 := Aside0.mk ((R6.out).call hc hb); clear hc hb; clear R6; have hzw72 : w7.cell? ⟨gp, 2, none⟩ = some (.int .i64 0) := (blk_cell R7.out.page 2).trans rfl; have hyw72 := blk_frozen R7.out.page 2) | ((with_reducible refine gate_store (t := 3) (p := 30) rfl ?_); refine store_event (t := 3) (p := 30) (v := ?vo_30) (w1 := (w7.setCell ⟨gp, 2, none⟩ (.int .i64 v2))) ?hg ?ho ?hn ?hr ?_; (case ho => rfl); (case hg => rfl); (case hn => rfl); (case hr => first | (go_simp; done) | (go_simp; rfl)); intro w8 hw; have R8 := Aside0.mk (show RP w a gp g _ #[.int .i64 0, .int .i64 v1, .int .i64 v2, .int .i64 0, .int .i64 0, .string (⟨#[]⟩ : ByteArray)] s a2 b2 w8 from by rw [hw]; exact R7.out.put 2 _ rfl); clear hw R7) | ((with_reducible refine gate_callee (f := 53) rfl ?_); (with_reducible refine gate_dst (N := 32) rfl ?_); refine goesL_ (some 32) rfl rfl Try.func53 (by kernel_rfl) rfl #[.pointer (some ⟨g, 0, none⟩)] rfl Sh.al ?_; (with_reducible refine (spec_l06Var.calls_ k g s a2 b2 v3 a3 b3 _ (R8.out).cur H3.out).mono ?_); rintro e w9 ⟨rfl, hc, hb⟩; refine ⟨_, rfl, ?_⟩; have R9 := Aside0.mk ((R8.out).call hc hb); clear hc hb; clear R8; have hzw93 : w9.cell? ⟨gp, 3, none⟩ = some (.int .i64 0) := (blk_cell R9.out.page 3).trans rfl; have hyw93 := blk_frozen R9.out.page 3) | ((with_reducible refine gate_store (t := 3) (p := 33) rfl ?_); refine store_event (t := 3) (p := 33) (v := ?vo_33) (w1 := (w9.setCell ⟨gp, 3, none⟩ (.int .i64 v3))) ?hg ?ho ?hn ?hr ?_; (case ho => rfl); (case hg => rfl); (case hn => rfl); (case hr => first | (go_simp; done) | (go_simp; rfl)); intro w10 hw; have R10 := Aside0.mk (show RP w a gp g _ #[.int .i64 0, .int .i64 v1, .int .i64 v2, .int .i64 v3, .int .i64 0, .string (⟨#[]⟩ : ByteArray)] s a3 b3 w10 from by rw [hw]; exact R9.out.put 3 _ rfl); clear hw R9) | ((with_reducible refine gate_callee (f := 53) rfl ?_); (with_reducible refine gate_dst (N := 35) rfl ?_); refine goesL_ (some 35) rfl rfl Try.func53 (by kernel_rfl) rfl #[.pointer (some ⟨g, 0, none⟩)] rfl Sh.al ?_; (with_reducible refine (spec_l06Var.calls_ k g s a3 b3 v4 a4 false _ (R10.out).cur H4.out).mono ?_); rintro e w11 ⟨rfl, hc, hb⟩; refine ⟨_, rfl, ?_⟩; have R11 := Aside0.mk ((R10.out).call hc hb); clear hc hb; clear R10; have hzw114 : w11.cell? ⟨gp, 4, none⟩ = some (.int .i64 0) := (blk_cell R11.out.page 4).trans rfl; have hyw114 := blk_frozen R11.out.page 4) | ((with_reducible refine gate_store (t := 3) (p := 36) rfl ?_); refine store_event (t := 3) (p := 36) (v := ?vo_36) (w1 := (w11.setCell ⟨gp, 4, none⟩ (.int .i64 v4))) ?hg ?ho ?hn ?hr ?_; (case ho => rfl); (case hg => rfl); (case hn => rfl); (case hr => first | (go_simp; done) | (go_simp; rfl)); intro w12 hw; have R12 := Aside0.mk (show RP w a gp g _ #[.int .i64 0, .int .i64 v1, .int .i64 v2, .int .i64 v3, .int .i64 v4, .string (⟨#[]⟩ : ByteArray)] s a4 _ w12 from by rw [hw]; exact R11.out.put 4 _ rfl); clear hw R11; have hb12 : w12.cell? ⟨g, 2, none⟩ = some (.bool false) := (blk_cell R12.out.cur 2).trans rfl; have ha12 : w12.cell? ⟨g, 1, none⟩ = some (.int .i64 a4) := (blk_cell R12.out.cur 1).trans rfl; have hzw120 : w12.cell? ⟨gp, 0, none⟩ = some (.int .i64 0) := (blk_cell R12.out.page 0).trans rfl; have hyw120 := blk_frozen R12.out.page 0; have hzw125 : w12.cell? ⟨gp, 5, none⟩ = some (.string (⟨#[]⟩ : ByteArray)) := (blk_cell R12.out.page 5).trans rfl; have hyw125 := blk_frozen R12.out.page 5) | ((with_reducible refine gate_store (t := 3) (p := 45) rfl ?_); refine store_event (t := 3) (p := 45) (v := ?vo_45) (w1 := (w12.setCell ⟨gp, 0, none⟩ (.int .i64 (bt s 0)))) ?hg ?ho ?hn ?hr ?_; (case ho => rfl); (case hg => rfl); (case hn => rfl); (case hr => first | (go_simp; done) | (go_simp; rfl)); intro w13 hw; have R13 := Aside0.mk (show RP w a gp g _ #[.int .i64 (bt s 0), .int .i64 v1, .int .i64 v2, .int .i64 v3, .int .i64 v4, .string (⟨#[]⟩ : ByteArray)] s a4 false w13 from by rw [hw]; exact R12.out.put 0 _ rfl); clear hw R12; have ha13 : w13.cell? ⟨g, 1, none⟩ = some (.int .i64 a4) := (blk_cell R13.out.cur 1).trans rfl; have hzw135 : w13.cell? ⟨gp, 5, none⟩ = some (.string (⟨#[]⟩ : ByteArray)) := (blk_cell R13.out.page 5).trans rfl; have hyw135 := blk_frozen R13.out.page 5) | ((with_reducible refine gate_store (t := 9) (p := 52) rfl ?_); refine store_event (t := 9) (p := 52) (v := ?vo_52) (w1 := (w13.setCell ⟨gp, 5, none⟩ (.string (s.extract a4.toNat s.size)))) ?hg ?ho ?hn ?hr ?_; (case ho => rfl); (case hg => rfl); (case hn => rfl); (case hr => first | (go_simp; done) | (go_simp; rfl)); intro w14 hw; have R14 := Aside0.mk (show RP w a gp g _ #[.int .i64 (bt s 0), .int .i64 v1, .int .i64 v2, .int .i64 v3, .int .i64 v4, .string (s.extract a4.toNat s.size)] s a4 false w14 from by rw [hw]; exact R13.out.put 5 _ rfl); clear hw R13) | ((with_reducible refine gate_dst (N := 54) rfl ?_); refine wpList_load_row rfl 44 (.tmp 7) rfl gp rfl 44 _ (0, 0) _ R14.out.page hu44 rfl HI.out ?_) | ((with_reducible refine gate_callee (f := 54) rfl ?_); (with_reducible refine gate_dst (N := 55) rfl ?_); refine goesL_ (some 55) rfl rfl Try.func54 (by kernel_rfl) rfl #[.agg #[.int .i64 (bt s 0), .int .i64 v1, .int .i64 v2, .int .i64 v3, .int .i64 v4, .string (s.extract a4.toNat s.size)]] rfl Sh.al ?_; (with_reducible refine (spec_PageText.calls k (bt s 0) v1 v2 v3 v4 (s.extract a4.toNat s.size) back _ _ HP.out).mono ?_); rintro e w15 ⟨rfl, hb⟩; refine ⟨_, rfl, ?_⟩; have R15 := Aside0.mk (R14.out.kept hb); clear hb R14) | ((with_reducible refine gate_store (t := 44) (p := 2) rfl ?_); refine row_event rfl 44 (.tmp 2) (.tmp 65) rfl a #[.int .i64 0, .int .i64 0, .int .i64 0, .int .i64 0, .int .i64 0, .string (⟨#[]⟩ : ByteArray)] rfl (by first | rfl | (go_simp; done) | (go_simp; rfl)) 44 _ R15.out.res HI.out rfl (by simp [Value.oneCell']) ?_; intro w16 hw; have RZ := Aside0.mk (show w16.heap[a]? = _ ∧ Below w.heap.size w w16 from by rw [hw]; exact R15.out.res_row _); clear hw))
  all_goals refine bodyPost_ret (results_row_tmp rfl _ _ a 44 #[.int .i64 0, .int .i64 0, .int .i64 0, .int .i64 0, .int .i64 0, .string (⟨#[]⟩ : ByteArray)] (0, 0) _ _ rfl rfl RZ.out.1 hu44 rfl HI.out) rfl ?_
  all_goals exact ⟨rfl, RZ.out.2⟩
set_option maxHeartbeats 4000000 in
set_option maxRecDepth 1000000 in
theorem spec_ReadPage.ne_ (k : Nat) (t s : ByteArray) (ok b0 : Bool) (v1 a1 v2 a2 v3 a3 v4 a4 : Int) (b1 b2 b3 : Bool) (back : ByteArray) (w : World)
    (hu : spec_Unsealed.f k t = some (s, ok)) (h0 : (!ok || decide ((s.size : Int) < 1)) = b0) (h1 : spec_l06Var.rd k s 1 b0 = some (v1, a1, b1)) (h2 : spec_l06Var.rd k s a1 b1 = some (v2, a2, b2)) (h3 : spec_l06Var.rd k s a2 b2 = some (v3, a3, b3)) (h4 : spec_l06Var.rd k s a3 b3 = some (v4, a4, false))
    (hs : 0 < s.size) (ha : 0 ≤ a4) (hb : a4 ≤ (s.size : Int)) (hp : spec_PageText.f k (bt s 0) v1 v2 v3 v4 (s.extract a4.toNat s.size) = some (back, true)) (hq : back ≠ t) :
    Calls Try.prog 26 #[.string t] w fun e w' => e = .returned (.tuple #[.agg #[.int .i64 0, .int .i64 0, .int .i64 0, .int .i64 0, .int .i64 0, .string (⟨#[]⟩ : ByteArray)], .bool false]) ∧ Below w.heap.size w w' := by
  have hu44 := Try.underlying44
  have HB := Aside0.mk (Below.refl w.heap.size w)
  have HU := Aside0.mk hu
  have H1 := Aside0.mk h1
  have H2 := Aside0.mk h2
  have H3 := Aside0.mk h3
  have H4 := Aside0.mk h4
  clear hu h1 h2 h3 h4
  have hi44 : (Try.prog.info? 44).map (·.size) = some 6 := by kernel_rfl
  have HI := Aside0.mk hi44
  clear hi44
  have hq0 : (back.toList == t.toList) = false := beq_eq_false_iff_ne.mpr (fun k => hq (toList_inj_ k))
  have hq1 : (back.toList != t.toList) = true := bne_iff_ne.mpr (fun k => hq (toList_inj_ k))
  have hs0 := hs
  have hs1 : decide (0 < s.size) = true := decide_eq_true hs
  have hx : ∀ h : 0 < s.size, ((s[0]'h).toNat : Int) = bt s 0 := bt_at s 0
  have hxw : wrap64 (bt s 0) = bt s 0 := by have := bt_range s 0; unfold wrap64; omega
  have hl0 : decide (0 ≤ a4) = true := decide_eq_true ha
  have hl1 : decide (a4 ≤ (s.size : Int)) = true := decide_eq_true hb
  have hl2 := eq_true ha
  have hl3 := eq_true hb
  have HP := Aside0.mk hp
  clear hs ha hb hp
  cases ok
  all_goals go_enter Try.func26, Try.ntmps26
  all_goals go_wp2_with (first | ((with_reducible refine gate_dst (N := 2) rfl ?_); refine box_event ?hg (N := 2) ?hd (cs := #[.int .i64 0, .int .i64 0, .int .i64 0, .int .i64 0, .int .i64 0, .string (⟨#[]⟩ : ByteArray)]) (t := 44) ?hr ?_; (case hd => rfl); (case hg => rfl); (case hr => first | (go_simp; done) | (go_simp; rfl)); intro a hg w1 hbox hb; have BA := Aside0.mk hbox; have HB1 := Aside0.mk (below_step HB.out hb); have GA := Aside0.mk ((by rw [hg]; exact below_size HB.out) : w.heap.size ≤ a); clear hg hbox hb HB) | ((with_reducible refine gate_callee (f := 52) rfl ?_); (with_reducible refine gate_dst (N := 12) rfl ?_); refine goesL_ (some 12) rfl rfl Try.func52 (by kernel_rfl) rfl #[.string t] rfl Sh.al ?_; (with_reducible refine (spec_Unsealed.calls k t s _ _ HU.out).mono ?_); rintro e w2 ⟨rfl, hb⟩; refine ⟨_, rfl, ?_⟩; have BA2 := Aside0.mk (blk_below BA.out hb); have HB2 := Aside0.mk (below_step HB1.out hb); clear hb BA HB1) | ((with_reducible refine gate_dst (N := 24) rfl ?_); refine box_event ?hg (N := 24) ?hd (cs := #[.string s, .int .i64 1, .bool b0]) (t := 75) ?hr ?_; (case hd => rfl); (case hg => rfl); (case hr => rw [← h0]; first | (go_simp; done) | (go_simp; rfl)); intro g hg w3 hbox hb; have R3 := Aside0.mk (⟨blk_below BA2.out hb, hbox, (by rw [hg]; exact Nat.ne_of_lt (blk_lt BA2.out)), GA.out, (by rw [hg]; exact below_size HB2.out), below_step HB2.out hb⟩ : R1 w a g _ s 1 b0 w3); clear hg hbox hb BA2 HB2 GA) | ((with_reducible refine gate_callee (f := 53) rfl ?_); (with_reducible refine gate_dst (N := 26) rfl ?_); refine goesL_ (some 26) rfl rfl Try.func53 (by kernel_rfl) rfl #[.pointer (some ⟨g, 0, none⟩)] rfl Sh.al ?_; (with_reducible refine (spec_l06Var.calls_ k g s 1 b0 v1 a1 b1 _ R3.out.cur H1.out).mono ?_); rintro e w4 ⟨rfl, hc, hb⟩; refine ⟨_, rfl, ?_⟩; have R4 := Aside0.mk (R3.out.call hc hb); clear hc hb R3) | ((with_reducible refine gate_dst (N := 7) rfl ?_); refine box_event ?hg (N := 7) ?hd (cs := #[.int .i64 0, .int .i64 0, .int .i64 0, .int .i64 0, .int .i64 0, .string (⟨#[]⟩ : ByteArray)]) (t := 44) ?hr ?_; (case hd => rfl); (case hg => rfl); (case hr => first | (go_simp; done) | (go_simp; rfl)); intro gp hg w5 hbox hb; have R5 := Aside0.mk (R4.out.box hg hbox hb); clear hg hbox hb R4; have hz0 : w5.cell? ⟨gp, 0, none⟩ = some (.int .i64 0) := (blk_cell R5.out.page 0).trans rfl; have hz1 : w5.cell? ⟨gp, 1, none⟩ = some (.int .i64 0) := (blk_cell R5.out.page 1).trans rfl; have hz2 : w5.cell? ⟨gp, 2, none⟩ = some (.int .i64 0) := (blk_cell R5.out.page 2).trans rfl; have hz3 : w5.cell? ⟨gp, 3, none⟩ = some (.int .i64 0) := (blk_cell R5.out.page 3).trans rfl; have hz4 : w5.cell? ⟨gp, 4, none⟩ = some (.int .i64 0) := (blk_cell R5.out.page 4).trans rfl; have hz5 : w5.cell? ⟨gp, 5, none⟩ = some (.string (⟨#[]⟩ : ByteArray)) := (blk_cell R5.out.page 5).trans rfl; have hy0 := blk_frozen R5.out.page 0; have hy1 := blk_frozen R5.out.page 1; have hy2 := blk_frozen R5.out.page 2; have hy3 := blk_frozen R5.out.page 3; have hy4 := blk_frozen R5.out.page 4; have hy5 := blk_frozen R5.out.page 5) | ((with_reducible refine gate_store (t := 44) (p := 7) rfl ?_); refine row_event rfl 44 (.tmp 7) (.tmp 27) rfl gp #[.int .i64 0, .int .i64 v1, .int .i64 0, .int .i64 0, .int .i64 0, .string (⟨#[]⟩ : ByteArray)] rfl (by first | rfl | (go_simp; done) | (go_simp; rfl)) 44 _ R5.out.page HI.out rfl (by simp [Value.oneCell']) ?_; intro w6 hw; have R6 := Aside0.mk (show RP w a gp g _ _ s a1 b1 w6 from by rw [hw]; exact R5.out.row _); clear hw R5) | ((with_reducible refine gate_callee (f := 53) rfl ?_); (with_reducible refine gate_dst (N := 29) rfl ?_); refine goesL_ (some 29) rfl rfl Try.func53 (by kernel_rfl) rfl #[.pointer (some ⟨g, 0, none⟩)] rfl Sh.al ?_; (with_reducible refine (spec_l06Var.calls_ k g s a1 b1 v2 a2 b2 _ (R6.out).cur H2.out).mono ?_); rintro e w7 ⟨rfl, hc, hb⟩; refine ⟨_, rfl, ?_⟩; have R7 := Aside0.mk ((R6.out).call hc hb); clear hc hb; clear R6; have hzw72 : w7.cell? ⟨gp, 2, none⟩ = some (.int .i64 0) := (blk_cell R7.out.page 2).trans rfl; have hyw72 := blk_frozen R7.out.page 2) | ((with_reducible refine gate_store (t := 3) (p := 30) rfl ?_); refine store_event (t := 3) (p := 30) (v := ?vo_30) (w1 := (w7.setCell ⟨gp, 2, none⟩ (.int .i64 v2))) ?hg ?ho ?hn ?hr ?_; (case ho => rfl); (case hg => rfl); (case hn => rfl); (case hr => first | (go_simp; done) | (go_simp; rfl)); intro w8 hw; have R8 := Aside0.mk (show RP w a gp g _ #[.int .i64 0, .int .i64 v1, .int .i64 v2, .int .i64 0, .int .i64 0, .string (⟨#[]⟩ : ByteArray)] s a2 b2 w8 from by rw [hw]; exact R7.out.put 2 _ rfl); clear hw R7) | ((with_reducible refine gate_callee (f := 53) rfl ?_); (with_reducible refine gate_dst (N := 32) rfl ?_); refine goesL_ (some 32) rfl rfl Try.func53 (by kernel_rfl) rfl #[.pointer (some ⟨g, 0, none⟩)] rfl Sh.al ?_; (with_reducible refine (spec_l06Var.calls_ k g s a2 b2 v3 a3 b3 _ (R8.out).cur H3.out).mono ?_); rintro e w9 ⟨rfl, hc, hb⟩; refine ⟨_, rfl, ?_⟩; have R9 := Aside0.mk ((R8.out).call hc hb); clear hc hb; clear R8; have hzw93 : w9.cell? ⟨gp, 3, none⟩ = some (.int .i64 0) := (blk_cell R9.out.page 3).trans rfl; have hyw93 := blk_frozen R9.out.page 3) | ((with_reducible refine gate_store (t := 3) (p := 33) rfl ?_); refine store_event (t := 3) (p := 33) (v := ?vo_33) (w1 := (w9.setCell ⟨gp, 3, none⟩ (.int .i64 v3))) ?hg ?ho ?hn ?hr ?_; (case ho => rfl); (case hg => rfl); (case hn => rfl); (case hr => first | (go_simp; done) | (go_simp; rfl)); intro w10 hw; have R10 := Aside0.mk (show RP w a gp g _ #[.int .i64 0, .int .i64 v1, .int .i64 v2, .int .i64 v3, .int .i64 0, .string (⟨#[]⟩ : ByteArray)] s a3 b3 w10 from by rw [hw]; exact R9.out.put 3 _ rfl); clear hw R9) | ((with_reducible refine gate_callee (f := 53) rfl ?_); (with_reducible refine gate_dst (N := 35) rfl ?_); refine goesL_ (some 35) rfl rfl Try.func53 (by kernel_rfl) rfl #[.pointer (some ⟨g, 0, none⟩)] rfl Sh.al ?_; (with_reducible refine (spec_l06Var.calls_ k g s a3 b3 v4 a4 false _ (R10.out).cur H4.out).mono ?_); rintro e w11 ⟨rfl, hc, hb⟩; refine ⟨_, rfl, ?_⟩; have R11 := Aside0.mk ((R10.out).call hc hb); clear hc hb; clear R10; have hzw114 : w11.cell? ⟨gp, 4, none⟩ = some (.int .i64 0) := (blk_cell R11.out.page 4).trans rfl; have hyw114 := blk_frozen R11.out.page 4) | ((with_reducible refine gate_store (t := 3) (p := 36) rfl ?_); refine store_event (t := 3) (p := 36) (v := ?vo_36) (w1 := (w11.setCell ⟨gp, 4, none⟩ (.int .i64 v4))) ?hg ?ho ?hn ?hr ?_; (case ho => rfl); (case hg => rfl); (case hn => rfl); (case hr => first | (go_simp; done) | (go_simp; rfl)); intro w12 hw; have R12 := Aside0.mk (show RP w a gp g _ #[.int .i64 0, .int .i64 v1, .int .i64 v2, .int .i64 v3, .int .i64 v4, .string (⟨#[]⟩ : ByteArray)] s a4 _ w12 from by rw [hw]; exact R11.out.put 4 _ rfl); clear hw R11; have hb12 : w12.cell? ⟨g, 2, none⟩ = some (.bool false) := (blk_cell R12.out.cur 2).trans rfl; have ha12 : w12.cell? ⟨g, 1, none⟩ = some (.int .i64 a4) := (blk_cell R12.out.cur 1).trans rfl; have hzw120 : w12.cell? ⟨gp, 0, none⟩ = some (.int .i64 0) := (blk_cell R12.out.page 0).trans rfl; have hyw120 := blk_frozen R12.out.page 0; have hzw125 : w12.cell? ⟨gp, 5, none⟩ = some (.string (⟨#[]⟩ : ByteArray)) := (blk_cell R12.out.page 5).trans rfl; have hyw125 := blk_frozen R12.out.page 5) | ((with_reducible refine gate_store (t := 3) (p := 45) rfl ?_); refine store_event (t := 3) (p := 45) (v := ?vo_45) (w1 := (w12.setCell ⟨gp, 0, none⟩ (.int .i64 (bt s 0)))) ?hg ?ho ?hn ?hr ?_; (case ho => rfl); (case hg => rfl); (case hn => rfl); (case hr => first | (go_simp; done) | (go_simp; rfl)); intro w13 hw; have R13 := Aside0.mk (show RP w a gp g _ #[.int .i64 (bt s 0), .int .i64 v1, .int .i64 v2, .int .i64 v3, .int .i64 v4, .string (⟨#[]⟩ : ByteArray)] s a4 false w13 from by rw [hw]; exact R12.out.put 0 _ rfl); clear hw R12; have ha13 : w13.cell? ⟨g, 1, none⟩ = some (.int .i64 a4) := (blk_cell R13.out.cur 1).trans rfl; have hzw135 : w13.cell? ⟨gp, 5, none⟩ = some (.string (⟨#[]⟩ : ByteArray)) := (blk_cell R13.out.page 5).trans rfl; have hyw135 := blk_frozen R13.out.page 5) | ((with_reducible refine gate_store (t := 9) (p := 52) rfl ?_); refine store_event (t := 9) (p := 52) (v := ?vo_52) (w1 := (w13.setCell ⟨gp, 5, none⟩ (.string (s.extract a4.toNat s.size)))) ?hg ?ho ?hn ?hr ?_; (case ho => rfl); (case hg => rfl); (case hn => rfl); (case hr => first | (go_simp; done) | (go_simp; rfl)); intro w14 hw; have R14 := Aside0.mk (show RP w a gp g _ #[.int .i64 (bt s 0), .int .i64 v1, .int .i64 v2, .int .i64 v3, .int .i64 v4, .string (s.extract a4.toNat s.size)] s a4 false w14 from by rw [hw]; exact R13.out.put 5 _ rfl); clear hw R13) | ((with_reducible refine gate_dst (N := 54) rfl ?_); refine wpList_load_row rfl 44 (.tmp 7) rfl gp rfl 44 _ (0, 0) _ R14.out.page hu44 rfl HI.out ?_) | ((with_reducible refine gate_callee (f := 54) rfl ?_); (with_reducible refine gate_dst (N := 55) rfl ?_); refine goesL_ (some 55) rfl rfl Try.func54 (by kernel_rfl) rfl #[.agg #[.int .i64 (bt s 0), .int .i64 v1, .int .i64 v2, .int .i64 v3, .int .i64 v4, .string (s.extract a4.toNat s.size)]] rfl Sh.al ?_; (with_reducible refine (spec_PageText.calls k (bt s 0) v1 v2 v3 v4 (s.extract a4.toNat s.size) back _ _ HP.out).mono ?_); rintro e w15 ⟨rfl, hb⟩; refine ⟨_, rfl, ?_⟩; have R15 := Aside0.mk (R14.out.kept hb); clear hb R14) | ((with_reducible refine gate_store (t := 44) (p := 2) rfl ?_); refine row_event rfl 44 (.tmp 2) (.tmp 65) rfl a #[.int .i64 0, .int .i64 0, .int .i64 0, .int .i64 0, .int .i64 0, .string (⟨#[]⟩ : ByteArray)] rfl (by first | rfl | (go_simp; done) | (go_simp; rfl)) 44 _ R15.out.res HI.out rfl (by simp [Value.oneCell']) ?_; intro w16 hw; have RZ := Aside0.mk (show w16.heap[a]? = _ ∧ Below w.heap.size w w16 from by rw [hw]; exact R15.out.res_row _); clear hw))
  all_goals refine bodyPost_ret (results_row_tmp rfl _ _ a 44 #[.int .i64 0, .int .i64 0, .int .i64 0, .int .i64 0, .int .i64 0, .string (⟨#[]⟩ : ByteArray)] (0, 0) _ _ rfl rfl RZ.out.1 hu44 rfl HI.out) rfl ?_
  all_goals exact ⟨rfl, RZ.out.2⟩
set_option maxHeartbeats 4000000 in
set_option maxRecDepth 1000000 in
theorem spec_ReadPage.ok_ (k : Nat) (t s : ByteArray) (ok b0 : Bool) (v1 a1 v2 a2 v3 a3 v4 a4 : Int) (b1 b2 b3 : Bool) (w : World)
    (hu : spec_Unsealed.f k t = some (s, ok)) (h0 : (!ok || decide ((s.size : Int) < 1)) = b0) (h1 : spec_l06Var.rd k s 1 b0 = some (v1, a1, b1)) (h2 : spec_l06Var.rd k s a1 b1 = some (v2, a2, b2)) (h3 : spec_l06Var.rd k s a2 b2 = some (v3, a3, b3)) (h4 : spec_l06Var.rd k s a3 b3 = some (v4, a4, false))
    (hs : 0 < s.size) (ha : 0 ≤ a4) (hb : a4 ≤ (s.size : Int)) (hp : spec_PageText.f k (bt s 0) v1 v2 v3 v4 (s.extract a4.toNat s.size) = some (t, true)) :
    Calls Try.prog 26 #[.string t] w fun e w' => e = .returned (.tuple #[.agg #[.int .i64 (bt s 0), .int .i64 v1, .int .i64 v2, .int .i64 v3, .int .i64 v4, .string (s.extract a4.toNat s.size)], .bool true]) ∧ Below w.heap.size w w' := by
  have hu44 := Try.underlying44
  have HB := Aside0.mk (Below.refl w.heap.size w)
  have HU := Aside0.mk hu
  have H1 := Aside0.mk h1
  have H2 := Aside0.mk h2
  have H3 := Aside0.mk h3
  have H4 := Aside0.mk h4
  clear hu h1 h2 h3 h4
  have hi44 : (Try.prog.info? 44).map (·.size) = some 6 := by kernel_rfl
  have HI := Aside0.mk hi44
  clear hi44
  have hs0 := hs
  have hs1 : decide (0 < s.size) = true := decide_eq_true hs
  have hx : ∀ h : 0 < s.size, ((s[0]'h).toNat : Int) = bt s 0 := bt_at s 0
  have hxw : wrap64 (bt s 0) = bt s 0 := by have := bt_range s 0; unfold wrap64; omega
  have hl0 : decide (0 ≤ a4) = true := decide_eq_true ha
  have hl1 : decide (a4 ≤ (s.size : Int)) = true := decide_eq_true hb
  have hl2 := eq_true ha
  have hl3 := eq_true hb
  have HP := Aside0.mk hp
  clear hs ha hb hp
  cases ok
  all_goals go_enter Try.func26, Try.ntmps26
  all_goals go_wp2_with (first | ((with_reducible refine gate_dst (N := 2) rfl ?_); refine box_event ?hg (N := 2) ?hd (cs := #[.int .i64 0, .int .i64 0, .int .i64 0, .int .i64 0, .int .i64 0, .string (⟨#[]⟩ : ByteArray)]) (t := 44) ?hr ?_; (case hd => rfl); (case hg => rfl); (case hr => first | (go_simp; done) | (go_simp; rfl)); intro a hg w1 hbox hb; have BA := Aside0.mk hbox; have HB1 := Aside0.mk (below_step HB.out hb); have GA := Aside0.mk ((by rw [hg]; exact below_size HB.out) : w.heap.size ≤ a); clear hg hbox hb HB) | ((with_reducible refine gate_callee (f := 52) rfl ?_); (with_reducible refine gate_dst (N := 12) rfl ?_); refine goesL_ (some 12) rfl rfl Try.func52 (by kernel_rfl) rfl #[.string t] rfl Sh.al ?_; (with_reducible refine (spec_Unsealed.calls k t s _ _ HU.out).mono ?_); rintro e w2 ⟨rfl, hb⟩; refine ⟨_, rfl, ?_⟩; have BA2 := Aside0.mk (blk_below BA.out hb); have HB2 := Aside0.mk (below_step HB1.out hb); clear hb BA HB1) | ((with_reducible refine gate_dst (N := 24) rfl ?_); refine box_event ?hg (N := 24) ?hd (cs := #[.string s, .int .i64 1, .bool b0]) (t := 75) ?hr ?_; (case hd => rfl); (case hg => rfl); (case hr => rw [← h0]; first | (go_simp; done) | (go_simp; rfl)); intro g hg w3 hbox hb; have R3 := Aside0.mk (⟨blk_below BA2.out hb, hbox, (by rw [hg]; exact Nat.ne_of_lt (blk_lt BA2.out)), GA.out, (by rw [hg]; exact below_size HB2.out), below_step HB2.out hb⟩ : R1 w a g _ s 1 b0 w3); clear hg hbox hb BA2 HB2 GA) | ((with_reducible refine gate_callee (f := 53) rfl ?_); (with_reducible refine gate_dst (N := 26) rfl ?_); refine goesL_ (some 26) rfl rfl Try.func53 (by kernel_rfl) rfl #[.pointer (some ⟨g, 0, none⟩)] rfl Sh.al ?_; (with_reducible refine (spec_l06Var.calls_ k g s 1 b0 v1 a1 b1 _ R3.out.cur H1.out).mono ?_); rintro e w4 ⟨rfl, hc, hb⟩; refine ⟨_, rfl, ?_⟩; have R4 := Aside0.mk (R3.out.call hc hb); clear hc hb R3) | ((with_reducible refine gate_dst (N := 7) rfl ?_); refine box_event ?hg (N := 7) ?hd (cs := #[.int .i64 0, .int .i64 0, .int .i64 0, .int .i64 0, .int .i64 0, .string (⟨#[]⟩ : ByteArray)]) (t := 44) ?hr ?_; (case hd => rfl); (case hg => rfl); (case hr => first | (go_simp; done) | (go_simp; rfl)); intro gp hg w5 hbox hb; have R5 := Aside0.mk (R4.out.box hg hbox hb); clear hg hbox hb R4; have hz0 : w5.cell? ⟨gp, 0, none⟩ = some (.int .i64 0) := (blk_cell R5.out.page 0).trans rfl; have hz1 : w5.cell? ⟨gp, 1, none⟩ = some (.int .i64 0) := (blk_cell R5.out.page 1).trans rfl; have hz2 : w5.cell? ⟨gp, 2, none⟩ = some (.int .i64 0) := (blk_cell R5.out.page 2).trans rfl; have hz3 : w5.cell? ⟨gp, 3, none⟩ = some (.int .i64 0) := (blk_cell R5.out.page 3).trans rfl; have hz4 : w5.cell? ⟨gp, 4, none⟩ = some (.int .i64 0) := (blk_cell R5.out.page 4).trans rfl; have hz5 : w5.cell? ⟨gp, 5, none⟩ = some (.string (⟨#[]⟩ : ByteArray)) := (blk_cell R5.out.page 5).trans rfl; have hy0 := blk_frozen R5.out.page 0; have hy1 := blk_frozen R5.out.page 1; have hy2 := blk_frozen R5.out.page 2; have hy3 := blk_frozen R5.out.page 3; have hy4 := blk_frozen R5.out.page 4; have hy5 := blk_frozen R5.out.page 5) | ((with_reducible refine gate_store (t := 44) (p := 7) rfl ?_); refine row_event rfl 44 (.tmp 7) (.tmp 27) rfl gp #[.int .i64 0, .int .i64 v1, .int .i64 0, .int .i64 0, .int .i64 0, .string (⟨#[]⟩ : ByteArray)] rfl (by first | rfl | (go_simp; done) | (go_simp; rfl)) 44 _ R5.out.page HI.out rfl (by simp [Value.oneCell']) ?_; intro w6 hw; have R6 := Aside0.mk (show RP w a gp g _ _ s a1 b1 w6 from by rw [hw]; exact R5.out.row _); clear hw R5) | ((with_reducible refine gate_callee (f := 53) rfl ?_); (with_reducible refine gate_dst (N := 29) rfl ?_); refine goesL_ (some 29) rfl rfl Try.func53 (by kernel_rfl) rfl #[.pointer (some ⟨g, 0, none⟩)] rfl Sh.al ?_; (with_reducible refine (spec_l06Var.calls_ k g s a1 b1 v2 a2 b2 _ (R6.out).cur H2.out).mono ?_); rintro e w7 ⟨rfl, hc, hb⟩; refine ⟨_, rfl, ?_⟩; have R7 := Aside0.mk ((R6.out).call hc hb); clear hc hb; clear R6; have hzw72 : w7.cell? ⟨gp, 2, none⟩ = some (.int .i64 0) := (blk_cell R7.out.page 2).trans rfl; have hyw72 := blk_frozen R7.out.page 2) | ((with_reducible refine gate_store (t := 3) (p := 30) rfl ?_); refine store_event (t := 3) (p := 30) (v := ?vo_30) (w1 := (w7.setCell ⟨gp, 2, none⟩ (.int .i64 v2))) ?hg ?ho ?hn ?hr ?_; (case ho => rfl); (case hg => rfl); (case hn => rfl); (case hr => first | (go_simp; done) | (go_simp; rfl)); intro w8 hw; have R8 := Aside0.mk (show RP w a gp g _ #[.int .i64 0, .int .i64 v1, .int .i64 v2, .int .i64 0, .int .i64 0, .string (⟨#[]⟩ : ByteArray)] s a2 b2 w8 from by rw [hw]; exact R7.out.put 2 _ rfl); clear hw R7) | ((with_reducible refine gate_callee (f := 53) rfl ?_); (with_reducible refine gate_dst (N := 32) rfl ?_); refine goesL_ (some 32) rfl rfl Try.func53 (by kernel_rfl) rfl #[.pointer (some ⟨g, 0, none⟩)] rfl Sh.al ?_; (with_reducible refine (spec_l06Var.calls_ k g s a2 b2 v3 a3 b3 _ (R8.out).cur H3.out).mono ?_); rintro e w9 ⟨rfl, hc, hb⟩; refine ⟨_, rfl, ?_⟩; have R9 := Aside0.mk ((R8.out).call hc hb); clear hc hb; clear R8; have hzw93 : w9.cell? ⟨gp, 3, none⟩ = some (.int .i64 0) := (blk_cell R9.out.page 3).trans rfl; have hyw93 := blk_frozen R9.out.page 3) | ((with_reducible refine gate_store (t := 3) (p := 33) rfl ?_); refine store_event (t := 3) (p := 33) (v := ?vo_33) (w1 := (w9.setCell ⟨gp, 3, none⟩ (.int .i64 v3))) ?hg ?ho ?hn ?hr ?_; (case ho => rfl); (case hg => rfl); (case hn => rfl); (case hr => first | (go_simp; done) | (go_simp; rfl)); intro w10 hw; have R10 := Aside0.mk (show RP w a gp g _ #[.int .i64 0, .int .i64 v1, .int .i64 v2, .int .i64 v3, .int .i64 0, .string (⟨#[]⟩ : ByteArray)] s a3 b3 w10 from by rw [hw]; exact R9.out.put 3 _ rfl); clear hw R9) | ((with_reducible refine gate_callee (f := 53) rfl ?_); (with_reducible refine gate_dst (N := 35) rfl ?_); refine goesL_ (some 35) rfl rfl Try.func53 (by kernel_rfl) rfl #[.pointer (some ⟨g, 0, none⟩)] rfl Sh.al ?_; (with_reducible refine (spec_l06Var.calls_ k g s a3 b3 v4 a4 false _ (R10.out).cur H4.out).mono ?_); rintro e w11 ⟨rfl, hc, hb⟩; refine ⟨_, rfl, ?_⟩; have R11 := Aside0.mk ((R10.out).call hc hb); clear hc hb; clear R10; have hzw114 : w11.cell? ⟨gp, 4, none⟩ = some (.int .i64 0) := (blk_cell R11.out.page 4).trans rfl; have hyw114 := blk_frozen R11.out.page 4) | ((with_reducible refine gate_store (t := 3) (p := 36) rfl ?_); refine store_event (t := 3) (p := 36) (v := ?vo_36) (w1 := (w11.setCell ⟨gp, 4, none⟩ (.int .i64 v4))) ?hg ?ho ?hn ?hr ?_; (case ho => rfl); (case hg => rfl); (case hn => rfl); (case hr => first | (go_simp; done) | (go_simp; rfl)); intro w12 hw; have R12 := Aside0.mk (show RP w a gp g _ #[.int .i64 0, .int .i64 v1, .int .i64 v2, .int .i64 v3, .int .i64 v4, .string (⟨#[]⟩ : ByteArray)] s a4 _ w12 from by rw [hw]; exact R11.out.put 4 _ rfl); clear hw R11; have hb12 : w12.cell? ⟨g, 2, none⟩ = some (.bool false) := (blk_cell R12.out.cur 2).trans rfl; have ha12 : w12.cell? ⟨g, 1, none⟩ = some (.int .i64 a4) := (blk_cell R12.out.cur 1).trans rfl; have hzw120 : w12.cell? ⟨gp, 0, none⟩ = some (.int .i64 0) := (blk_cell R12.out.page 0).trans rfl; have hyw120 := blk_frozen R12.out.page 0; have hzw125 : w12.cell? ⟨gp, 5, none⟩ = some (.string (⟨#[]⟩ : ByteArray)) := (blk_cell R12.out.page 5).trans rfl; have hyw125 := blk_frozen R12.out.page 5) | ((with_reducible refine gate_store (t := 3) (p := 45) rfl ?_); refine store_event (t := 3) (p := 45) (v := ?vo_45) (w1 := (w12.setCell ⟨gp, 0, none⟩ (.int .i64 (bt s 0)))) ?hg ?ho ?hn ?hr ?_; (case ho => rfl); (case hg => rfl); (case hn => rfl); (case hr => first | (go_simp; done) | (go_simp; rfl)); intro w13 hw; have R13 := Aside0.mk (show RP w a gp g _ #[.int .i64 (bt s 0), .int .i64 v1, .int .i64 v2, .int .i64 v3, .int .i64 v4, .string (⟨#[]⟩ : ByteArray)] s a4 false w13 from by rw [hw]; exact R12.out.put 0 _ rfl); clear hw R12; have ha13 : w13.cell? ⟨g, 1, none⟩ = some (.int .i64 a4) := (blk_cell R13.out.cur 1).trans rfl; have hzw135 : w13.cell? ⟨gp, 5, none⟩ = some (.string (⟨#[]⟩ : ByteArray)) := (blk_cell R13.out.page 5).trans rfl; have hyw135 := blk_frozen R13.out.page 5) | ((with_reducible refine gate_store (t := 9) (p := 52) rfl ?_); refine store_event (t := 9) (p := 52) (v := ?vo_52) (w1 := (w13.setCell ⟨gp, 5, none⟩ (.string (s.extract a4.toNat s.size)))) ?hg ?ho ?hn ?hr ?_; (case ho => rfl); (case hg => rfl); (case hn => rfl); (case hr => first | (go_simp; done) | (go_simp; rfl)); intro w14 hw; have R14 := Aside0.mk (show RP w a gp g _ #[.int .i64 (bt s 0), .int .i64 v1, .int .i64 v2, .int .i64 v3, .int .i64 v4, .string (s.extract a4.toNat s.size)] s a4 false w14 from by rw [hw]; exact R13.out.put 5 _ rfl); clear hw R13) | ((with_reducible refine gate_dst (N := 54) rfl ?_); refine wpList_load_row rfl 44 (.tmp 7) rfl gp rfl 44 _ (0, 0) _ R14.out.page hu44 rfl HI.out ?_) | ((with_reducible refine gate_callee (f := 54) rfl ?_); (with_reducible refine gate_dst (N := 55) rfl ?_); refine goesL_ (some 55) rfl rfl Try.func54 (by kernel_rfl) rfl #[.agg #[.int .i64 (bt s 0), .int .i64 v1, .int .i64 v2, .int .i64 v3, .int .i64 v4, .string (s.extract a4.toNat s.size)]] rfl Sh.al ?_; (with_reducible refine (spec_PageText.calls k (bt s 0) v1 v2 v3 v4 (s.extract a4.toNat s.size) t _ _ HP.out).mono ?_); rintro e w15 ⟨rfl, hb⟩; refine ⟨_, rfl, ?_⟩; have R15 := Aside0.mk (R14.out.kept hb); clear hb R14) | ((with_reducible refine gate_dst (N := 66) rfl ?_); refine wpList_load_row rfl 44 (.tmp 7) rfl gp rfl 44 _ (0, 0) _ R15.out.page hu44 rfl HI.out ?_) | ((with_reducible refine gate_store (t := 44) (p := 2) rfl ?_); refine row_event rfl 44 (.tmp 2) (.tmp 66) rfl a #[.int .i64 (bt s 0), .int .i64 v1, .int .i64 v2, .int .i64 v3, .int .i64 v4, .string (s.extract a4.toNat s.size)] rfl (by first | rfl | (go_simp; done) | (go_simp; rfl)) 44 _ R15.out.res HI.out rfl (by simp [Value.oneCell']) ?_; intro w16 hw; have RZ := Aside0.mk (show w16.heap[a]? = _ ∧ Below w.heap.size w w16 from by rw [hw]; exact R15.out.res_row _); clear hw))
  all_goals refine bodyPost_ret (results_row_tmp rfl _ _ a 44 #[.int .i64 (bt s 0), .int .i64 v1, .int .i64 v2, .int .i64 v3, .int .i64 v4, .string (s.extract a4.toNat s.size)] (0, 0) _ _ rfl rfl RZ.out.1 hu44 rfl HI.out) rfl ?_
  all_goals exact ⟨rfl, RZ.out.2⟩
theorem spec_l06Var.rd_mono (k : Nat) (s : ByteArray) (a : Int) (b : Bool) : LeO (spec_l06Var.rd k s a b) (spec_l06Var.rd (k + 1) s a b) := by
  unfold spec_l06Var.rd
  exact LeO.bind (spec_ReadVar.mono _ _ _) (fun _ => LeO.refl _)
theorem spec_ReadPage.fin_mono (k : Nat) (t s : ByteArray) (v1 v2 v3 v4 a4 : Int) (b4 : Bool) : LeO (spec_ReadPage.fin k t s v1 v2 v3 v4 a4 b4) (spec_ReadPage.fin (k + 1) t s v1 v2 v3 v4 a4 b4) := by
  unfold spec_ReadPage.fin
  refine LeO.ite (LeO.refl _) (LeO.ite (LeO.bind (spec_PageText.mono _ _ _ _ _ _ _) (fun _ => LeO.refl _)) (LeO.refl _))
def spec_ReadPage.f (k : Nat) (a0 : ByteArray) : Option (Int × Int × Int × Int × Int × ByteArray × Bool) :=
  (spec_Unsealed.f k a0).bind fun u => (spec_l06Var.rd k u.1 1 (!u.2 || decide ((u.1.size : Int) < 1))).bind fun c1 => (spec_l06Var.rd k u.1 c1.2.1 c1.2.2).bind fun c2 => (spec_l06Var.rd k u.1 c2.2.1 c2.2.2).bind fun c3 => (spec_l06Var.rd k u.1 c3.2.1 c3.2.2).bind fun c4 => spec_ReadPage.fin k a0 u.1 c1.1 c2.1 c3.1 c4.1 c4.2.1 c4.2.2
theorem spec_ReadPage.mono : ∀ a0 k, LeO (spec_ReadPage.f k a0) (spec_ReadPage.f (k + 1) a0) := fun a0 k => by
  unfold spec_ReadPage.f
  exact LeO.bind (spec_Unsealed.mono _ _) (fun _ => LeO.bind (spec_l06Var.rd_mono _ _ _ _) (fun _ => LeO.bind (spec_l06Var.rd_mono _ _ _ _) (fun _ => LeO.bind (spec_l06Var.rd_mono _ _ _ _) (fun _ => LeO.bind (spec_l06Var.rd_mono _ _ _ _) (fun _ => spec_ReadPage.fin_mono _ _ _ _ _ _ _ _ _)))))
theorem spec_ReadPage.calls (k : Nat) (a0 : ByteArray) (r1 r2 r3 r4 r5 : Int) (r6 : ByteArray) (r7 : Bool) (w : World) (h : spec_ReadPage.f k a0 = some (r1, r2, r3, r4, r5, r6, r7)) :
    Calls Try.prog 26 #[.string a0] w fun e w' => e = .returned (.tuple #[.agg #[.int .i64 r1, .int .i64 r2, .int .i64 r3, .int .i64 r4, .int .i64 r5, .string r6], .bool r7]) ∧ Below w.heap.size w w' := by
  unfold spec_ReadPage.f at h
  obtain ⟨⟨s, ok⟩, hu, h⟩ := Option.bind_eq_some_iff.mp h
  obtain ⟨⟨v1, a1, b1⟩, h1, h⟩ := Option.bind_eq_some_iff.mp h
  obtain ⟨⟨v2, a2, b2⟩, h2, h⟩ := Option.bind_eq_some_iff.mp h
  obtain ⟨⟨v3, a3, b3⟩, h3, h⟩ := Option.bind_eq_some_iff.mp h
  obtain ⟨⟨v4, a4, b4⟩, h4, h⟩ := Option.bind_eq_some_iff.mp h
  dsimp only at h1 h2 h3 h4 h
  unfold spec_ReadPage.fin at h
  cases b4 with
  | true =>
    rw [if_pos rfl] at h
    simp only [Option.some.injEq, Prod.mk.injEq] at h
    obtain ⟨rfl, rfl, rfl, rfl, rfl, rfl, rfl⟩ := h
    exact spec_ReadPage.bad_ k a0 s ok _ v1 a1 v2 a2 v3 a3 v4 a4 b1 b2 b3 w hu rfl h1 h2 h3 h4
  | false =>
    rw [if_neg (show ¬ (false = true) by decide)] at h
    split at h
    case isFalse => cases h
    rename_i hs
    obtain ⟨⟨back, right⟩, hp, h⟩ := Option.bind_eq_some_iff.mp h
    cases right with
    | false =>
      rw [if_neg (by simp)] at h
      simp only [Option.some.injEq, Prod.mk.injEq] at h
      obtain ⟨rfl, rfl, rfl, rfl, rfl, rfl, rfl⟩ := h
      exact spec_ReadPage.nr_ k a0 s ok _ v1 a1 v2 a2 v3 a3 v4 a4 b1 b2 b3 back w hu rfl h1 h2 h3 h4 hs.1 hs.2.1 hs.2.2 hp
    | true =>
      by_cases hq : back = a0
      · subst hq
        rw [if_pos ⟨rfl, rfl⟩] at h
        simp only [Option.some.injEq, Prod.mk.injEq] at h
        obtain ⟨rfl, rfl, rfl, rfl, rfl, rfl, rfl⟩ := h
        exact spec_ReadPage.ok_ k back s ok _ v1 a1 v2 a2 v3 a3 v4 a4 b1 b2 b3 w hu rfl h1 h2 h3 h4 hs.1 hs.2.1 hs.2.2 hp
      · rw [if_neg (fun q => hq q.2)] at h
        simp only [Option.some.injEq, Prod.mk.injEq] at h
        obtain ⟨rfl, rfl, rfl, rfl, rfl, rfl, rfl⟩ := h
        exact spec_ReadPage.ne_ k a0 s ok _ v1 a1 v2 a2 v3 a3 v4 a4 b1 b2 b3 back w hu rfl h1 h2 h3 h4 hs.1 hs.2.1 hs.2.2 hp hq

/-! ### impl_in: function 48 -/
def impl_in.f (a0 : Int) (a1 : Int) (a2 : Int) : Option (Bool) := if a0 ≥ a1 then (some (decide (a0 ≤ a2))) else (some false)
set_option maxHeartbeats 8000000 in
set_option maxRecDepth 100000 in
theorem impl_in.calls (a0 : Int) (a1 : Int) (a2 : Int) (r : Bool) (w : World) (h : impl_in.f a0 a1 a2 = some r) :
    Calls Try.prog 48 #[.int .i64 a0, .int .i64 a1, .int .i64 a2] w fun e w' => e = .returned (.bool r) ∧ Drawn0 w w' := by
  have H : (if a0 ≥ a1 then (some (decide (a0 ≤ a2))) else (some false)) = some r := h
  clear h
  by_cases c4 : a0 ≥ a1
  · rw [if_pos c4] at H
    have c4b0 : decide (a1 ≤ a0) = true := decide_eq_true c4
    clear c4
    obtain rfl := Option.some.inj H
    go_enter Try.func48, Try.ntmps48
    go_wp2
    go_ret
    exact ⟨by first | rfl | (simp; done) | (simp [*]; done), by repeat (first | exact Drawn0.refl _ | apply Drawn0.step)⟩
  · rw [if_neg c4] at H
    have c4b0 : decide (a1 ≤ a0) = false := decide_eq_false c4
    clear c4
    obtain rfl := Option.some.inj H
    go_enter Try.func48, Try.ntmps48
    go_wp2
    go_ret
    exact ⟨by first | rfl | (simp; done) | (simp [*]; done), by repeat (first | exact Drawn0.refl _ | apply Drawn0.step)⟩

end Go.Proofs.Ytbiapgneafgdeaa.QFnPages
