/- What is proved here: contracts of functions that the law FnScans reaches, each told as a plain function. Conditions: those of each contract. (Written by a program of ours.) -/
import Derived.Test.YthbdijeikfgjeaaQFnScansx0
import Derived.Test.YthbdijeikfgjeaaQFnScansx5
namespace Go.Proofs.Ythbdijeikfgjeaa.QFnScans
open Go.RowKit Go.Proofs.YthbdijeikfgjeaaW.PrintWords Go.Proofs.YthbdijeikfgjeaaW.PrintLast Go.Proofs.YthbdijeikfgjeaaW.PrintMore
attribute [local go_sem] max2_int min2_int max_two min_two max_three min_three max_four min_four   -- for this text's walks alone
set_option linter.unusedVariables false
set_option linter.unusedSimpArgs false

/-! ### spec_Unsealed: function 30 -/
def spec_Unsealed.f (k : Nat) (a0 : ByteArray) : Option (ByteArray × Bool) := if (wrap64 ((a0.size : Int) - 4)) < 0 then (some ((⟨#[]⟩ : ByteArray), false)) else (if (wrap64 ((a0.size : Int) - 4)) > 20000 then (some ((⟨#[]⟩ : ByteArray), false)) else (if 0 ≤ (wrap64 ((a0.size : Int) - 4)) then (if (wrap64 ((a0.size : Int) - 4)) ≤ (a0.size : Int) then ((spec_SumOf.f k (a0.extract 0 ((wrap64 ((a0.size : Int) - 4)) : Int).toNat)).bind fun t294 => ((spec_l02Four.f t294).bind fun t295 => (if (a0.extract ((wrap64 ((a0.size : Int) - 4)) : Int).toNat a0.size).toList = t295.toList then (some (a0.extract 0 ((wrap64 ((a0.size : Int) - 4)) : Int).toNat, true)) else (some ((⟨#[]⟩ : ByteArray), false))))) else (none)) else (none)))
theorem spec_Unsealed.mono : ∀ a0 k, LeO (spec_Unsealed.f k a0) (spec_Unsealed.f (k + 1) a0) := by
  intro a0 k; unfold spec_Unsealed.f
  repeat' first | (with_reducible exact spec_SumOf.mono _ _) | (with_reducible exact LeO.refl _) | (with_reducible exact LeO.none _) | (with_reducible refine LeO.ite ?_ ?_) | (with_reducible refine LeO.bind ?_ (fun _ => ?_))
def spec_Unsealed.T2 : Bool × List (List Nat × List Nat) := (true, [([], []), ([0], [0]), ([1], [1]), ([2], [2]), ([3, 2], [2, 3]), ([2, 4], [2, 4]), ([5, 2], [5]), ([6], [6]), ([6], [6]), ([7, 8, 6], [6, 7, 8]), ([6], [6]), ([6], [6]), ([10, 11, 6], [6, 10, 11]), ([12, 6, 6], [6, 12]), ([13, 13, 6], [6, 13]), ([9, 14, 6], [6, 9, 14]), ([6, 15], [6, 15])])
def spec_Unsealed.B2 : List Nat := [0, 1, 3, 7, 15, 31, 63, 127, 127, 511, 127, 127, 3199, 7295, 15487, 32767, 65535]
theorem spec_Unsealed.tab2 : rtab .any (opsOf Try.f30 2) = spec_Unsealed.T2 := by kernel_rfl
theorem spec_Unsealed.bits2 : waitsOk spec_Unsealed.T2.2 spec_Unsealed.B2 = true := by kernel_rfl
set_option maxHeartbeats 8000000 in
set_option maxRecDepth 100000 in
theorem spec_Unsealed.calls (k : Nat) (a0 : ByteArray) (r1 : ByteArray) (r2 : Bool) (w : World) (h : spec_Unsealed.f k a0 = some (r1, r2)) :
    Calls Try.prog 30 #[.string a0] w fun e w' => e = .returned (.tuple #[.string r1, .bool r2]) ∧ Below w.heap.size w w' := by
  have HB := Aside0.mk (Below.refl w.heap.size w); have H : (if (wrap64 ((a0.size : Int) - 4)) < 0 then (some ((⟨#[]⟩ : ByteArray), false)) else (if (wrap64 ((a0.size : Int) - 4)) > 20000 then (some ((⟨#[]⟩ : ByteArray), false)) else (if 0 ≤ (wrap64 ((a0.size : Int) - 4)) then (if (wrap64 ((a0.size : Int) - 4)) ≤ (a0.size : Int) then ((spec_SumOf.f k (a0.extract 0 ((wrap64 ((a0.size : Int) - 4)) : Int).toNat)).bind fun t294 => ((spec_l02Four.f t294).bind fun t295 => (if (a0.extract ((wrap64 ((a0.size : Int) - 4)) : Int).toNat a0.size).toList = t295.toList then (some (a0.extract 0 ((wrap64 ((a0.size : Int) - 4)) : Int).toNat, true)) else (some ((⟨#[]⟩ : ByteArray), false))))) else (none)) else (none)))) = some (r1, r2) := h; clear h
  by_cases c2 : (wrap64 ((a0.size : Int) - 4)) < 0
  · rw [if_pos c2] at H; have c2b0 : decide ((wrap64 ((a0.size : Int) - 4)) < 0) = true := decide_eq_true c2; clear c2
    simp only [Option.some.injEq, Prod.mk.injEq] at H
    obtain ⟨rfl, rfl⟩ := H
    go_enter Try.func30, Try.ntmps30
    try go_wp2
    replace HB := Aside0.mk (below_drew1 HB.out)
    refine start_ (n := 17) (S := fun w' => True) (ds := []) #[false, false, false, false, false, false, false, false, false, false, false, false, false, false, false, false, false] (by kernel_rfl) rfl rfl trivial (fun hHeld => ?_); refine with_tabW spec_Unsealed.tab2 spec_Unsealed.bits2 (fun HT_ HW_ => ?_)
    generalize w.drew = w3 at HB hHeld ⊢
    refine Sh.py 0 8 HT_ ?_
    refine Sh.py 1 9 HT_ ?_
    refine Sh.py 2 10 HT_ ?_
    refine Sh.pu 3 11 HT_ ?_
    refine Sh.pu 4 12 HT_ ?_
    refine Sh.py 5 13 HT_ ?_
    refine Sh.py 6 14 HT_ ?_
    refine Sh.pu 7 15 HT_ ?_
    refine Sh.pu 8 16 HT_ ?_
    refine Sh.pu 9 17 HT_ ?_
    refine Sh.pu 10 18 HT_ ?_
    refine Sh.pu 11 19 HT_ ?_
    refine Sh.pu 12 20 HT_ ?_
    refine Sh.pu 13 21 HT_ ?_
    refine Sh.pu 14 22 HT_ ?_
    refine Sh.pu 15 23 HT_ ?_
    refine Sh.py 16 24 HT_ ?_
    refine done_ (done_of HT_.out (by kernel_rfl)) ?_
    try go_wp2
    go_ret2; exact ⟨by first | rfl | (simp [errW_none, errW_some] <;> rfl) | (simp [*, errW_none, errW_some] <;> rfl), by exact Sh.hb HB.out⟩
  · rw [if_neg c2] at H; have c2b0 : decide ((wrap64 ((a0.size : Int) - 4)) < 0) = false := decide_eq_false c2; clear c2
    by_cases c4 : (wrap64 ((a0.size : Int) - 4)) > 20000
    · rw [if_pos c4] at H; have c4b0 : decide (20000 < (wrap64 ((a0.size : Int) - 4))) = true := decide_eq_true c4; clear c4
      simp only [Option.some.injEq, Prod.mk.injEq] at H
      obtain ⟨rfl, rfl⟩ := H
      go_enter Try.func30, Try.ntmps30
      try go_wp2
      replace HB := Aside0.mk (below_drew1 HB.out)
      refine start_ (n := 17) (S := fun w' => True) (ds := []) #[false, false, false, false, false, false, false, false, false, false, false, false, false, false, false, false, false] (by kernel_rfl) rfl rfl trivial (fun hHeld => ?_); refine with_tabW spec_Unsealed.tab2 spec_Unsealed.bits2 (fun HT_ HW_ => ?_)
      generalize w.drew = w5 at HB hHeld ⊢
      refine Sh.py 0 8 HT_ ?_
      refine Sh.py 1 9 HT_ ?_
      refine Sh.py 2 10 HT_ ?_
      refine Sh.py 3 11 HT_ ?_
      refine Sh.py 4 12 HT_ ?_
      refine Sh.py 5 13 HT_ ?_
      refine Sh.py 6 14 HT_ ?_
      refine Sh.pu 7 15 HT_ ?_
      refine Sh.pu 8 16 HT_ ?_
      refine Sh.pu 9 17 HT_ ?_
      refine Sh.pu 10 18 HT_ ?_
      refine Sh.pu 11 19 HT_ ?_
      refine Sh.pu 12 20 HT_ ?_
      refine Sh.pu 13 21 HT_ ?_
      refine Sh.pu 14 22 HT_ ?_
      refine Sh.pu 15 23 HT_ ?_
      refine Sh.py 16 24 HT_ ?_
      refine done_ (done_of HT_.out (by kernel_rfl)) ?_
      try go_wp2
      go_ret2; exact ⟨by first | rfl | (simp [errW_none, errW_some] <;> rfl) | (simp [*, errW_none, errW_some] <;> rfl), by exact Sh.hb HB.out⟩
    · rw [if_neg c4] at H; have c4b0 : decide (20000 < (wrap64 ((a0.size : Int) - 4))) = false := decide_eq_false c4; clear c4
      obtain ⟨ji6, hji6⟩ : ∃ j_ : Int, (wrap64 ((a0.size : Int) - 4)) = j_ := ⟨_, rfl⟩
      replace H : (if 0 ≤ (ji6) then (if (ji6) ≤ (a0.size : Int) then ((spec_SumOf.f k (a0.extract 0 ((ji6) : Int).toNat)).bind fun t294 => ((spec_l02Four.f t294).bind fun t295 => (if (a0.extract ((ji6) : Int).toNat a0.size).toList = t295.toList then (some (a0.extract 0 ((ji6) : Int).toNat, true)) else (some ((⟨#[]⟩ : ByteArray), false))))) else (none)) else (none)) = some (r1, r2) := by first | (rw [hji6] at H; exact H) | (simp only [hji6] at H ⊢; exact H)
      (try rw [hji6] at c2b0)
      (try rw [hji6] at c4b0)
      have hji6w : (IntKind.i64.wrap ((a0.size : Int) - 4)) = ji6 := (i64_w _).trans hji6
      by_cases c7 : 0 ≤ (ji6)
      · rw [if_pos c7] at H; have c7b0 := eq_true c7; have c7b1 : decide (0 ≤ (ji6)) = true := decide_eq_true c7; clear c7
        by_cases c8 : (ji6) ≤ (a0.size : Int)
        · rw [if_pos c8] at H; have c8b0 := eq_true c8; have c8b1 : decide ((ji6) ≤ (a0.size : Int)) = true := decide_eq_true c8; clear c8; have c9b0 := eq_true (of_decide_eq_true Sh.as : 0 ≤ (ji6)); have c10b0 := eq_true (of_decide_eq_true Sh.as : (ji6) ≤ (a0.size : Int)); replace H := Option.bind_eq_some_iff.mp H; obtain ⟨t294, A110, H⟩ := H; replace H : ((spec_l02Four.f t294).bind fun t295 => (if (a0.extract ((ji6) : Int).toNat a0.size).toList = t295.toList then (some (a0.extract 0 ((ji6) : Int).toNat, true)) else (some ((⟨#[]⟩ : ByteArray), false)))) = some (r1, r2) := H; have A11 := Aside0.mk A110; clear A110; replace H := Option.bind_eq_some_iff.mp H; obtain ⟨t295, A120, H⟩ := H; replace H : (if (a0.extract ((ji6) : Int).toNat a0.size).toList = t295.toList then (some (a0.extract 0 ((ji6) : Int).toNat, true)) else (some ((⟨#[]⟩ : ByteArray), false))) = some (r1, r2) := H; have A12 := Aside0.mk A120; clear A120
          by_cases c13 : (a0.extract ((ji6) : Int).toNat a0.size).toList = t295.toList
          · rw [if_pos c13] at H; have c13b0 : ((a0.extract ((ji6) : Int).toNat a0.size).toList == t295.toList) = true := beq_iff_eq.mpr c13; have c13b1 : ((a0.extract ((ji6) : Int).toNat a0.size).toList != t295.toList) = false := bne_eq_false_iff_eq.mpr c13; clear c13; have c14b0 := eq_true (of_decide_eq_true Sh.as : 0 ≤ (ji6)); have c15b0 := eq_true (of_decide_eq_true Sh.as : (ji6) ≤ (a0.size : Int))
            simp only [Option.some.injEq, Prod.mk.injEq] at H
            obtain ⟨rfl, rfl⟩ := H
            go_enter Try.func30, Try.ntmps30
            try go_wp2
            replace HB := Aside0.mk (below_drew1 HB.out)
            refine start_ (n := 17) (S := fun w' => True) (ds := []) #[false, false, false, false, false, false, false, false, false, false, false, false, false, false, false, false, false] (by kernel_rfl) rfl rfl trivial (fun hHeld => ?_); refine with_tabW spec_Unsealed.tab2 spec_Unsealed.bits2 (fun HT_ HW_ => ?_)
            generalize w.drew = w16 at HB hHeld ⊢
            refine Sh.py 0 8 HT_ ?_
            refine Sh.py 1 9 HT_ ?_
            refine Sh.py 2 10 HT_ ?_
            refine Sh.py 3 11 HT_ ?_
            refine Sh.py 4 12 HT_ ?_
            refine Sh.py 5 13 HT_ ?_
            refine Sh.py 6 14 HT_ ?_
            refine Sh.py 7 15 HT_ ?_
            refine Sh.py 8 16 HT_ ?_
            refine Sh.py 9 17 HT_ ?_
            refine Sh.py 10 18 HT_ ?_
            refine Sh.py 11 19 HT_ ?_
            refine Sh.py 12 20 HT_ ?_
            refine one_ (i := 13) (N := some 21) #[true, true, true, true, true, true, true, true, true, true, true, true, true, true, false, false, false] rfl rfl (one_of HT_.out (by kernel_rfl)) (by decide) (fun K hK => ?_)
            refine goes_ Try.func54 (by kernel_rfl) rfl #[.string (a0.extract 0 ((ji6) : Int).toNat)] (by rfl) rfl rfl (by (try simp only [List.map_toArray, List.map_cons, List.map_nil]); first | done | (simp only [hji6]; rfl) | rfl | (simp only [List.length_drop, List.length_take]; rfl)) ?_
            with_reducible refine (spec_SumOf.calls k (a0.extract 0 ((ji6) : Int).toNat) t294 _ A11.out).mono ?_
            rintro e w' ⟨rfl, ⟨nd, rfl⟩⟩; refine ⟨_, rfl, ?_⟩; refine hK.out _ _ trivial (fun hHeld => ?_); clear hK K; refine norm_ (a' := ?_) ?_ ?_; rotate_left
            · show Act.put _ (some 21) _ = _; simp only [Act.put, List.setIfInBounds_toArray, List.set_cons_zero, List.set_cons_succ, i64_w, i32_w]; rfl
            refine one_ (i := 14) (N := some 22) #[true, true, true, true, true, true, true, true, true, true, true, true, true, true, true, false, false] rfl rfl (one_of HT_.out (by kernel_rfl)) (by decide) (fun K hK => ?_)
            refine goes_ Try.func53 (by kernel_rfl) rfl #[.int .u32 t294] (by rfl) rfl rfl Sh.al ?_
            with_reducible refine (spec_l02Four.calls t294 t295 _ A12.out).mono ?_
            rintro e w17 ⟨rfl, hb⟩; refine ⟨_, rfl, ?_⟩; replace HB := Aside0.mk (below_step (Sh.hb HB.out) hb); (try clear hb); (try clear hb2); (try clear hk); (try clear hi); refine hK.out _ _ trivial (fun hHeld => ?_); clear hK K; refine norm_ (a' := ?_) ?_ ?_; rotate_left
            · show Act.put _ (some 22) _ = _; simp only [Act.put, List.setIfInBounds_toArray, List.set_cons_zero, List.set_cons_succ, i64_w, i32_w]; rfl
            refine Sh.py 15 23 HT_ ?_
            refine Sh.py 16 24 HT_ ?_
            refine done_ (done_of HT_.out (by kernel_rfl)) ?_
            try go_wp2
            go_ret2; exact ⟨by first | rfl | (simp [errW_none, errW_some] <;> rfl) | (simp only [← hji6]; first | rfl | (simp [errW_none, errW_some] <;> rfl)) | (simp [*, errW_none, errW_some] <;> rfl), by exact Sh.hb HB.out⟩
          · rw [if_neg c13] at H; have c13b0 : ((a0.extract ((ji6) : Int).toNat a0.size).toList == t295.toList) = false := beq_eq_false_iff_ne.mpr c13; have c13b1 : ((a0.extract ((ji6) : Int).toNat a0.size).toList != t295.toList) = true := bne_iff_ne.mpr c13
            simp only [Option.some.injEq, Prod.mk.injEq] at H
            obtain ⟨rfl, rfl⟩ := H
            go_enter Try.func30, Try.ntmps30
            try go_wp2
            replace HB := Aside0.mk (below_drew1 HB.out)
            refine start_ (n := 17) (S := fun w' => True) (ds := []) #[false, false, false, false, false, false, false, false, false, false, false, false, false, false, false, false, false] (by kernel_rfl) rfl rfl trivial (fun hHeld => ?_); refine with_tabW spec_Unsealed.tab2 spec_Unsealed.bits2 (fun HT_ HW_ => ?_)
            generalize w.drew = w18 at HB hHeld ⊢
            refine Sh.py 0 8 HT_ ?_
            refine Sh.py 1 9 HT_ ?_
            refine Sh.py 2 10 HT_ ?_
            refine Sh.py 3 11 HT_ ?_
            refine Sh.py 4 12 HT_ ?_
            refine Sh.py 5 13 HT_ ?_
            refine Sh.py 6 14 HT_ ?_
            refine Sh.py 7 15 HT_ ?_
            refine Sh.py 8 16 HT_ ?_
            refine Sh.py 9 17 HT_ ?_
            refine Sh.py 10 18 HT_ ?_
            refine Sh.py 11 19 HT_ ?_
            refine Sh.py 12 20 HT_ ?_
            refine one_ (i := 13) (N := some 21) #[true, true, true, true, true, true, true, true, true, true, true, true, true, true, false, false, false] rfl rfl (one_of HT_.out (by kernel_rfl)) (by decide) (fun K hK => ?_)
            refine goes_ Try.func54 (by kernel_rfl) rfl #[.string (a0.extract 0 ((ji6) : Int).toNat)] (by rfl) rfl rfl (by (try simp only [List.map_toArray, List.map_cons, List.map_nil]); first | done | (simp only [hji6]; rfl) | rfl | (simp only [List.length_drop, List.length_take]; rfl)) ?_
            with_reducible refine (spec_SumOf.calls k (a0.extract 0 ((ji6) : Int).toNat) t294 _ A11.out).mono ?_
            rintro e w' ⟨rfl, ⟨nd, rfl⟩⟩; refine ⟨_, rfl, ?_⟩; refine hK.out _ _ trivial (fun hHeld => ?_); clear hK K; refine norm_ (a' := ?_) ?_ ?_; rotate_left
            · show Act.put _ (some 21) _ = _; simp only [Act.put, List.setIfInBounds_toArray, List.set_cons_zero, List.set_cons_succ, i64_w, i32_w]; rfl
            refine one_ (i := 14) (N := some 22) #[true, true, true, true, true, true, true, true, true, true, true, true, true, true, true, false, false] rfl rfl (one_of HT_.out (by kernel_rfl)) (by decide) (fun K hK => ?_)
            refine goes_ Try.func53 (by kernel_rfl) rfl #[.int .u32 t294] (by rfl) rfl rfl Sh.al ?_
            with_reducible refine (spec_l02Four.calls t294 t295 _ A12.out).mono ?_
            rintro e w19 ⟨rfl, hb⟩; refine ⟨_, rfl, ?_⟩; replace HB := Aside0.mk (below_step (Sh.hb HB.out) hb); (try clear hb); (try clear hb2); (try clear hk); (try clear hi); refine hK.out _ _ trivial (fun hHeld => ?_); clear hK K; refine norm_ (a' := ?_) ?_ ?_; rotate_left
            · show Act.put _ (some 22) _ = _; simp only [Act.put, List.setIfInBounds_toArray, List.set_cons_zero, List.set_cons_succ, i64_w, i32_w]; rfl
            refine Sh.py 15 23 HT_ ?_
            refine Sh.py 16 24 HT_ ?_
            refine done_ (done_of HT_.out (by kernel_rfl)) ?_
            try go_wp2
            go_ret2; exact ⟨by first | rfl | (simp [errW_none, errW_some] <;> rfl) | (simp only [← hji6]; first | rfl | (simp [errW_none, errW_some] <;> rfl)) | (simp [*, errW_none, errW_some] <;> rfl), by exact Sh.hb HB.out⟩
        · rw [if_neg c8] at H; exact absurd H (by simp)
      · rw [if_neg c7] at H; exact absurd H (by simp)

end Go.Proofs.Ythbdijeikfgjeaa.QFnScans
