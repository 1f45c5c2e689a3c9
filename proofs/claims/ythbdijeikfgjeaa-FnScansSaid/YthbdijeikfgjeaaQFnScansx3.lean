/- What is proved here: contracts of functions that the law FnScans reaches, each told as a plain function. Conditions: those of each contract. (Written by a program of ours.) -/
import Derived.Test.YthbdijeikfgjeaaQFnScansx0
namespace Go.Proofs.Ythbdijeikfgjeaa.QFnScans
open Go.RowKit Go.Proofs.YthbdijeikfgjeaaW.PrintWords Go.Proofs.YthbdijeikfgjeaaW.PrintLast Go.Proofs.YthbdijeikfgjeaaW.PrintMore
attribute [local go_sem] max2_int min2_int max_two min_two max_three min_three max_four min_four   -- for this text's walks alone
set_option linter.unusedVariables false
set_option linter.unusedSimpArgs false

/-! ### impl_SumMore: function 94 -/
mutual
def impl_SumMore.l0 : Nat → Int → ByteArray → Int → Option (Int)
  | 0, _, _, _ => none
  | k + 1, x0, x1, x5 => if x5 < (x1.size : Int) then (if 0 ≤ x5 then (impl_SumMore.l1 k (Go.bits .xor .u32 x0 ((bt x1 x5) % 4294967296)) x1 x5 0) else (none)) else (some x0)
def impl_SumMore.l1 : Nat → Int → ByteArray → Int → Int → Option (Int)
  | 0, _, _, _, _ => none
  | k + 1, x0, x1, x5, x19 => if x19 < 8 then (if (Go.bits .and .u32 x0 1) = 1 then (impl_SumMore.l1 k (Go.bits .xor .u32 (x0 / 2) 3558460437) x1 x5 (wrap64 (x19 + 1))) else (impl_SumMore.l1 k (x0 / 2) x1 x5 (wrap64 (x19 + 1)))) else (impl_SumMore.l0 k x0 x1 (wrap64 (x5 + 1)))
end
def impl_SumMore.f (k : Nat) (a0 : Int) (a1 : ByteArray) : Option (Int) := impl_SumMore.l0 k a0 a1 0
theorem impl_SumMore.mono_l : ∀ k, (∀ y0 y1 y2, LeO (impl_SumMore.l0 k y0 y1 y2) (impl_SumMore.l0 (k + 1) y0 y1 y2)) ∧ (∀ y0 y1 y2 y3, LeO (impl_SumMore.l1 k y0 y1 y2 y3) (impl_SumMore.l1 (k + 1) y0 y1 y2 y3))
  | 0 => ⟨fun _ _ _ r h => by simp [impl_SumMore.l0] at h, fun _ _ _ _ r h => by simp [impl_SumMore.l1] at h⟩
  | k + 1 => by
    obtain ⟨ih0, ih1⟩ := impl_SumMore.mono_l k
    refine ⟨?_, ?_⟩
    · intro y0 y1 y2; unfold impl_SumMore.l0
      repeat' first | (with_reducible exact ih0 _ _ _) | (with_reducible exact ih1 _ _ _ _) | (with_reducible exact LeO.refl _) | (with_reducible exact LeO.none _) | (with_reducible refine LeO.ite ?_ ?_) | (with_reducible refine LeO.bind ?_ (fun _ => ?_))
    · intro y0 y1 y2 y3; unfold impl_SumMore.l1
      repeat' first | (with_reducible exact ih0 _ _ _) | (with_reducible exact ih1 _ _ _ _) | (with_reducible exact LeO.refl _) | (with_reducible exact LeO.none _) | (with_reducible refine LeO.ite ?_ ?_) | (with_reducible refine LeO.bind ?_ (fun _ => ?_))
theorem impl_SumMore.mono : ∀ a0 a1 k, LeO (impl_SumMore.f k a0 a1) (impl_SumMore.f (k + 1) a0 a1) := by
  intro a0 a1 k; obtain ⟨ih0, ih1⟩ := impl_SumMore.mono_l k; unfold impl_SumMore.f
  repeat' first | (with_reducible exact ih0 _ _ _) | (with_reducible exact ih1 _ _ _ _) | (with_reducible exact LeO.refl _) | (with_reducible exact LeO.none _) | (with_reducible refine LeO.ite ?_ ?_) | (with_reducible refine LeO.bind ?_ (fun _ => ?_))
set_option maxHeartbeats 8000000 in
set_option maxRecDepth 100000 in
theorem impl_SumMore.calls (k : Nat) (a0 : Int) (a1 : ByteArray) (r : Int) (w : World) (h : impl_SumMore.f k a0 a1 = some r) :
    Calls Try.prog 94 #[.int .u32 a0, .string a1] w fun e w' => e = .returned (.int .u32 r) ∧ Drawn0 w w' := by
  have H : (impl_SumMore.l0 k a0 a1 0) = some r := h; clear h; have H' := Aside0.mk H; clear H
  go_enter Try.func94, Try.ntmps94
  go_wp2
  go_loopg [0, 5] k (fun kq v0 v5 w' => ∃ (x0_1 : Int) (x5_1 : Int), v0 = .int .u32 x0_1 ∧ v5 = .int .i64 x5_1 ∧ Aside0 (impl_SumMore.l0 kq x0_1 a1 x5_1 = some r) ∧ Aside0 (kq ≤ k) ∧ Drawn0 w w')
  case atStart => exact ⟨(a0), (0), (by first | rfl | (simp; done) | (simp [*]; done)), (by first | rfl | (simp; done) | (simp [*]; done)), H', ⟨Nat.le_refl _⟩, by repeat (first | exact Drawn0.refl _ | apply Drawn0.step)⟩
  case round =>
    clear H'; (try clear p2); obtain ⟨x0_1, x5_1, rfl, rfl, HA, HK1, ⟨m1, rfl⟩⟩ := hrel
    cases gk with
    | zero => exact absurd HA.out (by simp [impl_SumMore.l0])
    | succ k1 =>
      have H := HA.out; clear HA
      simp only [impl_SumMore.l0] at H
      by_cases c3 : x5_1 < (a1.size : Int)
      · rw [if_pos c3] at H; have c3b0 : decide (x5_1 < (a1.size : Int)) = true := decide_eq_true c3; clear c3
        by_cases c4 : 0 ≤ x5_1
        · rw [if_pos c4] at H; have c4b0 : decide (0 ≤ x5_1) = true := decide_eq_true c4; clear c4; have H' := Aside0.mk H; clear H; have p5 : 0 ≤ (x5_1 : Int) := of_decide_eq_true Sh.as; have q5 : x5_1 < (a1.size : Int) := of_decide_eq_true Sh.as; have hx5 := bt_at a1 x5_1; replace p5 := eq_true p5; replace q5 := eq_true q5; go_wp2
          go_loopg [0, 19] k1 (fun kq v0 v19 w' => ∃ (x0_2 : Int) (x19_2 : Int), v0 = .int .u32 x0_2 ∧ v19 = .int .i64 x19_2 ∧ Aside0 (impl_SumMore.l1 kq x0_2 a1 x5_1 x19_2 = some r) ∧ Aside0 (kq ≤ k1) ∧ Drawn0 w w')
          case atStart => exact ⟨(Go.bits .xor .u32 x0_1 ((bt a1 x5_1) % 4294967296)), (0), (by first | rfl | (simp; done) | (simp [*]; done)), (by first | rfl | (simp; done) | (simp [*]; done)), H', ⟨Nat.le_refl _⟩, by repeat (first | exact Drawn0.refl _ | apply Drawn0.step)⟩
          case round =>
            clear H'; (try clear p2); (try clear c3); (try clear c3b0); (try clear c4); (try clear c4b0); (try clear p5); (try clear q5); (try clear hx5); (try clear p2); (try clear p5); (try clear q5); obtain ⟨x0_2, x19_2, rfl, rfl, HA, HK2, ⟨m2, rfl⟩⟩ := hrel
            cases gk with
            | zero => exact absurd HA.out (by simp [impl_SumMore.l1])
            | succ k2 =>
              have H := HA.out; clear HA
              simp only [impl_SumMore.l1] at H
              by_cases c6 : x19_2 < 8
              · rw [if_pos c6] at H; have c6b0 : decide (x19_2 < 8) = true := decide_eq_true c6; clear c6
                by_cases c7 : (Go.bits .and .u32 x0_2 1) = 1
                · rw [if_pos c7] at H; have c7b0 : ((Go.bits .and .u32 x0_2 1) == 1) = true := beq_iff_eq.mpr c7; have c7b1 : ((Go.bits .and .u32 x0_2 1) != 1) = false := bne_eq_false_iff_eq.mpr c7; clear c7; have H' := Aside0.mk H; clear H; go_wp2
                  go_roundg k2
                  case measure => have := HK1.out; have := HK2.out; omega
                  case rel => exact ⟨(Go.bits .xor .u32 (x0_2 / 2) 3558460437), (wrap64 (x19_2 + 1)), (by first | rfl | (simp; done) | (simp [*]; done)), (by first | rfl | (simp; done) | (simp [*]; done)), H', ⟨by have := HK1.out; have := HK2.out; omega⟩, by repeat (first | exact Drawn0.refl _ | apply Drawn0.step)⟩
                · rw [if_neg c7] at H; have c7b0 : ((Go.bits .and .u32 x0_2 1) == 1) = false := beq_eq_false_iff_ne.mpr c7; have c7b1 : ((Go.bits .and .u32 x0_2 1) != 1) = true := bne_iff_ne.mpr c7; have H' := Aside0.mk H; clear H; go_wp2
                  go_roundg k2
                  case measure => have := HK1.out; have := HK2.out; omega
                  case rel => exact ⟨(x0_2 / 2), (wrap64 (x19_2 + 1)), (by first | rfl | (simp; done) | (simp [*]; done)), (by first | rfl | (simp; done) | (simp [*]; done)), H', ⟨by have := HK1.out; have := HK2.out; omega⟩, by repeat (first | exact Drawn0.refl _ | apply Drawn0.step)⟩
              · rw [if_neg c6] at H; have c6b0 : decide (x19_2 < 8) = false := decide_eq_false c6; clear c6; have H' := Aside0.mk H; clear H; go_wp2
                go_roundg k2
                case measure => have := HK1.out; have := HK2.out; omega
                case rel => exact ⟨(x0_2), (wrap64 (x5_1 + 1)), (by first | rfl | (simp; done) | (simp [*]; done)), (by first | rfl | (simp; done) | (simp [*]; done)), H', ⟨by have := HK1.out; have := HK2.out; omega⟩, by repeat (first | exact Drawn0.refl _ | apply Drawn0.step)⟩
        · rw [if_neg c4] at H; exact absurd H (by simp)
      · rw [if_neg c3] at H; have c3b0 : decide (x5_1 < (a1.size : Int)) = false := decide_eq_false c3; clear c3; obtain rfl := Option.some.inj H; go_wp2; go_ret; exact ⟨by first | rfl | (simp; done) | (simp [*]; done), by repeat (first | exact Drawn0.refl _ | apply Drawn0.step)⟩

/-! ### impl_SumOf: function 92 -/
def impl_SumOf.f (k : Nat) (a0 : ByteArray) : Option (Int) := (impl_SumMore.f k 4294967295 a0).bind fun t101 => (some t101)
theorem impl_SumOf.mono : ∀ a0 k, LeO (impl_SumOf.f k a0) (impl_SumOf.f (k + 1) a0) := by
  intro a0 k; unfold impl_SumOf.f
  repeat' first | (with_reducible exact impl_SumMore.mono _ _ _) | (with_reducible exact LeO.refl _) | (with_reducible exact LeO.none _) | (with_reducible refine LeO.ite ?_ ?_) | (with_reducible refine LeO.bind ?_ (fun _ => ?_))
set_option maxHeartbeats 8000000 in
set_option maxRecDepth 100000 in
theorem impl_SumOf.calls (k : Nat) (a0 : ByteArray) (r : Int) (w : World) (h : impl_SumOf.f k a0 = some r) :
    Calls Try.prog 92 #[.string a0] w fun e w' => e = .returned (.int .u32 r) ∧ Drawn0 w w' := by
  have H : ((impl_SumMore.f k 4294967295 a0).bind fun t101 => (some t101)) = some r := h; clear h; replace H := Option.bind_eq_some_iff.mp H; obtain ⟨t101, A20, H⟩ := H; replace H : (some t101) = some r := H; have A2 := Aside0.mk A20; clear A20; obtain rfl := Option.some.inj H
  go_enter Try.func92, Try.ntmps92
  go_wp2_with (first | ((with_reducible refine gate_callee (f := 94) rfl ?_); refine goesL_ (some 4) rfl rfl Try.func94 (by kernel_rfl) rfl #[.int .u32 4294967295, .string a0] rfl Sh.al ?_; (with_reducible refine (impl_SumMore.calls k 4294967295 a0 t101 _ A2.out).mono ?_); rintro e w' ⟨rfl, ⟨nd, rfl⟩⟩; refine ⟨_, rfl, ?_⟩)); go_ret; exact ⟨by first | rfl | (simp; done) | (simp [*]; done), by repeat (first | exact Drawn0.refl _ | apply Drawn0.step)⟩

/-! ### impl_Sealed: function 72 -/
def impl_Sealed.f (k : Nat) (a0 : ByteArray) : Option (ByteArray × Bool) := if (a0.size : Int) > 20000 then (some ((⟨#[]⟩ : ByteArray), false)) else ((impl_SumOf.f k a0).bind fun t102 => ((some (([(t102 / 16777216) % 256, (t102 / 65536) % 256, (t102 / 256) % 256, (t102) % 256] : List Int) : List Int)).bind fun y103 => (if a0.size + (strOfNums y103).size ≤ 9223372036854775807 then (some (a0 ++ (strOfNums y103), true)) else (none))))
theorem impl_Sealed.mono : ∀ a0 k, LeO (impl_Sealed.f k a0) (impl_Sealed.f (k + 1) a0) := by
  intro a0 k; unfold impl_Sealed.f
  repeat' first | (with_reducible exact impl_SumOf.mono _ _) | (with_reducible exact LeO.refl _) | (with_reducible exact LeO.none _) | (with_reducible refine LeO.ite ?_ ?_) | (with_reducible refine LeO.bind ?_ (fun _ => ?_))
set_option maxHeartbeats 8000000 in
set_option maxRecDepth 100000 in
theorem impl_Sealed.calls (k : Nat) (a0 : ByteArray) (r1 : ByteArray) (r2 : Bool) (w : World) (h : impl_Sealed.f k a0 = some (r1, r2)) :
    Calls Try.prog 72 #[.string a0] w fun e w' => e = .returned (.tuple #[.string r1, .bool r2]) ∧ Below w.heap.size w w' := by
  have HB := Aside0.mk (Below.refl w.heap.size w); have H : (if (a0.size : Int) > 20000 then (some ((⟨#[]⟩ : ByteArray), false)) else ((impl_SumOf.f k a0).bind fun t102 => ((some (([(t102 / 16777216) % 256, (t102 / 65536) % 256, (t102 / 256) % 256, (t102) % 256] : List Int) : List Int)).bind fun y103 => (if a0.size + (strOfNums y103).size ≤ 9223372036854775807 then (some (a0 ++ (strOfNums y103), true)) else (none))))) = some (r1, r2) := h; clear h
  by_cases c2 : (a0.size : Int) > 20000
  · rw [if_pos c2] at H; have c2b0 : decide (20000 < (a0.size : Int)) = true := decide_eq_true c2; have c2b1 : decide (20000 < a0.size) = true := decide_eq_true (by omega); clear c2
    simp only [Option.some.injEq, Prod.mk.injEq] at H
    obtain ⟨rfl, rfl⟩ := H
    go_enter Try.func72, Try.ntmps72
    go_wp2; go_ret2; exact ⟨by first | rfl | (simp [errW_none, errW_some] <;> rfl) | (simp [*, errW_none, errW_some] <;> rfl), by exact Sh.hb HB.out⟩
  · rw [if_neg c2] at H; have c2b0 : decide (20000 < (a0.size : Int)) = false := decide_eq_false c2; have c2b1 : decide (20000 < a0.size) = false := decide_eq_false (by omega); clear c2; replace H := Option.bind_eq_some_iff.mp H; obtain ⟨t102, A30, H⟩ := H; replace H : ((some (([(t102 / 16777216) % 256, (t102 / 65536) % 256, (t102 / 256) % 256, (t102) % 256] : List Int) : List Int)).bind fun y103 => (if a0.size + (strOfNums y103).size ≤ 9223372036854775807 then (some (a0 ++ (strOfNums y103), true)) else (none))) = some (r1, r2) := H; have A3 := Aside0.mk A30; clear A30
    obtain ⟨y103, hy103⟩ : ∃ y_ : List Int, y_ = (([(t102 / 16777216) % 256, (t102 / 65536) % 256, (t102 / 256) % 256, (t102) % 256] : List Int)) := ⟨_, rfl⟩
    replace H : (if a0.size + (strOfNums y103).size ≤ 9223372036854775807 then (some (a0 ++ (strOfNums y103), true)) else (none)) = some (r1, r2) := by first | (rw [hy103]; with_reducible exact H) | (have H2_ := (Option.bind_some _ _).symm.trans H; rw [hy103]; with_reducible exact H2_) | (have H2_ := (Option.bind_some _ _).symm.trans H; with_reducible exact H2_) | with_reducible exact H | (rw [hy103]; exact H) | exact H
    have Ny103 := Aside0.mk hy103; clear hy103
    by_cases c4 : a0.size + (strOfNums y103).size ≤ 9223372036854775807
    · rw [if_pos c4] at H; have c4b0 := eq_true c4; have c4b1 : decide (a0.size + (strOfNums y103).size ≤ 9223372036854775807) = true := decide_eq_true c4
      try have c4b2 : (9223372036854775807 < a0.size + (strOfNums y103).size) = False := eq_false (Nat.not_lt.2 c4)
      have c4b3 := c4
      (try simp only [ByteArray.size_append] at c4b3)
      replace c4b3 := eq_false (Nat.not_lt.mpr c4b3)
      simp only [Option.some.injEq, Prod.mk.injEq] at H
      obtain ⟨rfl, rfl⟩ := H
      go_enter Try.func72, Try.ntmps72
      go_wp2_with (first | ((with_reducible refine gate_callee (f := 92) rfl ?_); refine goesL_ (some 9) rfl rfl Try.func92 (by kernel_rfl) rfl #[.string a0] rfl Sh.al ?_; (with_reducible refine (impl_SumOf.calls k a0 t102 _ A3.out).mono ?_); rintro e w' ⟨rfl, ⟨nd, rfl⟩⟩; refine ⟨_, rfl, ?_⟩) | ((with_reducible refine gate_dst (N := 22) rfl ?_); refine Kd.R_lit (Kd.int .u8) _ 5 ?hg (N := 22) ?hd (xs := ([(t102 / 16777216) % 256, (t102 / 65536) % 256, (t102 / 256) % 256, (t102) % 256] : List Int)) (inner := [.int .u8 ((t102 / 16777216) % 256), .int .u8 ((t102 / 65536) % 256), .int .u8 ((t102 / 256) % 256), .int .u8 ((t102) % 256)]) (ok := fun _ => True) (okp := fun _ => True) ?hr ?hp (fun _ hk => hk) trivial (Below.refl _ _) (Nat.le_refl _) (by simp) ?_; (case hd => rfl); (case hg => rfl); (case hr => first | (go_simp; done) | (go_simp; rfl)); (case hp => exact (Reps.one (show Kd.M (Kd.int .u8) _ _ _ ((t102 / 16777216) % 256) [.int .u8 ((t102 / 16777216) % 256)] from rfl) (Reps.one (show Kd.M (Kd.int .u8) _ _ _ ((t102 / 65536) % 256) [.int .u8 ((t102 / 65536) % 256)] from rfl) (Reps.one (show Kd.M (Kd.int .u8) _ _ _ ((t102 / 256) % 256) [.int .u8 ((t102 / 256) % 256)] from rfl) (Reps.one (show Kd.M (Kd.int .u8) _ _ _ ((t102) % 256) [.int .u8 ((t102) % 256)] from rfl) (Reps.none _ _)))))); intro v104 w5 ho6 hb hg_ hnew_; clear hg_ hnew_; (first | rw [← Ny103.out] at ho6 | (simp only [Int.reduceToNat] at ho6; rw [← Ny103.out] at ho6)); have HO105 := Aside0.mk (Kd.R_lower ho6 (below_size (Sh.hb HB.out))); replace HB := Aside0.mk (below_step (Sh.hb HB.out) hb); clear hb ho6; have hcv7 := own_string (P := Try.prog) Try.underlying33 Try.underlying5 Try.underlying9 (Kd.own_of_R HO105.out)))
      go_ret2; exact ⟨by first | rfl | (simp [errW_none, errW_some] <;> rfl) | (simp [*, errW_none, errW_some] <;> rfl), by exact Sh.hb HB.out⟩
    · rw [if_neg c4] at H; exact absurd H (by simp)

/-! ### impl_Unsealed: function 46 -/
def impl_Unsealed.f (k : Nat) (a0 : ByteArray) : Option (ByteArray × Bool) := if (a0.size : Int) < 4 then (some ((⟨#[]⟩ : ByteArray), false)) else (if 0 ≤ (wrap64 ((a0.size : Int) - 4)) then (if (wrap64 ((a0.size : Int) - 4)) ≤ (a0.size : Int) then ((impl_Sealed.f k (a0.extract 0 ((wrap64 ((a0.size : Int) - 4)) : Int).toNat)).bind fun bt106 => (if bt106.2 = true then (if bt106.1.toList = a0.toList then (some (a0.extract 0 ((wrap64 ((a0.size : Int) - 4)) : Int).toNat, true)) else (some ((⟨#[]⟩ : ByteArray), false))) else (some ((⟨#[]⟩ : ByteArray), false)))) else (none)) else (none))
theorem impl_Unsealed.mono : ∀ a0 k, LeO (impl_Unsealed.f k a0) (impl_Unsealed.f (k + 1) a0) := by
  intro a0 k; unfold impl_Unsealed.f
  repeat' first | (with_reducible exact impl_Sealed.mono _ _) | (with_reducible exact LeO.refl _) | (with_reducible exact LeO.none _) | (with_reducible refine LeO.ite ?_ ?_) | (with_reducible refine LeO.bind ?_ (fun _ => ?_))
set_option maxHeartbeats 8000000 in
set_option maxRecDepth 100000 in
theorem impl_Unsealed.calls (k : Nat) (a0 : ByteArray) (r1 : ByteArray) (r2 : Bool) (w : World) (h : impl_Unsealed.f k a0 = some (r1, r2)) :
    Calls Try.prog 46 #[.string a0] w fun e w' => e = .returned (.tuple #[.string r1, .bool r2]) ∧ Below w.heap.size w w' := by
  have HB := Aside0.mk (Below.refl w.heap.size w); have H : (if (a0.size : Int) < 4 then (some ((⟨#[]⟩ : ByteArray), false)) else (if 0 ≤ (wrap64 ((a0.size : Int) - 4)) then (if (wrap64 ((a0.size : Int) - 4)) ≤ (a0.size : Int) then ((impl_Sealed.f k (a0.extract 0 ((wrap64 ((a0.size : Int) - 4)) : Int).toNat)).bind fun bt106 => (if bt106.2 = true then (if bt106.1.toList = a0.toList then (some (a0.extract 0 ((wrap64 ((a0.size : Int) - 4)) : Int).toNat, true)) else (some ((⟨#[]⟩ : ByteArray), false))) else (some ((⟨#[]⟩ : ByteArray), false)))) else (none)) else (none))) = some (r1, r2) := h; clear h
  by_cases c2 : (a0.size : Int) < 4
  · rw [if_pos c2] at H; have c2b0 : decide ((a0.size : Int) < 4) = true := decide_eq_true c2; have c2b1 : decide (a0.size < 4) = true := decide_eq_true (by omega); clear c2
    simp only [Option.some.injEq, Prod.mk.injEq] at H
    obtain ⟨rfl, rfl⟩ := H
    go_enter Try.func46, Try.ntmps46
    go_wp2; go_ret2; exact ⟨by first | rfl | (simp [errW_none, errW_some] <;> rfl) | (simp [*, errW_none, errW_some] <;> rfl), by exact Sh.hb HB.out⟩
  · rw [if_neg c2] at H; have c2b0 : decide ((a0.size : Int) < 4) = false := decide_eq_false c2; have c2b1 : decide (a0.size < 4) = false := decide_eq_false (by omega); clear c2
    obtain ⟨ji3, hji3⟩ : ∃ j_ : Int, (wrap64 ((a0.size : Int) - 4)) = j_ := ⟨_, rfl⟩
    replace H : (if 0 ≤ (ji3) then (if (ji3) ≤ (a0.size : Int) then ((impl_Sealed.f k (a0.extract 0 ((ji3) : Int).toNat)).bind fun bt106 => (if bt106.2 = true then (if bt106.1.toList = a0.toList then (some (a0.extract 0 ((ji3) : Int).toNat, true)) else (some ((⟨#[]⟩ : ByteArray), false))) else (some ((⟨#[]⟩ : ByteArray), false)))) else (none)) else (none)) = some (r1, r2) := by first | (rw [hji3] at H; exact H) | (simp only [hji3] at H ⊢; exact H)
    have hji3w : (IntKind.i64.wrap ((a0.size : Int) - 4)) = ji3 := (i64_w _).trans hji3
    by_cases c4 : 0 ≤ (ji3)
    · rw [if_pos c4] at H; have c4b0 := eq_true c4; have c4b1 : decide (0 ≤ (ji3)) = true := decide_eq_true c4; clear c4
      by_cases c5 : (ji3) ≤ (a0.size : Int)
      · rw [if_pos c5] at H; have c5b0 := eq_true c5; have c5b1 : decide ((ji3) ≤ (a0.size : Int)) = true := decide_eq_true c5; clear c5; replace H := Option.bind_eq_some_iff.mp H; obtain ⟨⟨t106, t107⟩, A60, H⟩ := H; replace H : (if t107 = true then (if t106.toList = a0.toList then (some (a0.extract 0 ((ji3) : Int).toNat, true)) else (some ((⟨#[]⟩ : ByteArray), false))) else (some ((⟨#[]⟩ : ByteArray), false))) = some (r1, r2) := H; have A6 := Aside0.mk A60; clear A60
        by_cases c7 : t107 = true
        · subst c7
          have H1 : (if t106.toList = a0.toList then (some (a0.extract 0 ((ji3) : Int).toNat, true)) else (some ((⟨#[]⟩ : ByteArray), false))) = some (r1, r2) := by rw [if_pos rfl] at H; exact H
          clear H; have H := H1; clear H1
          by_cases c8 : t106.toList = a0.toList
          · rw [if_pos c8] at H; have c8b0 : (t106.toList == a0.toList) = true := beq_iff_eq.mpr c8; have c8b1 : (t106.toList != a0.toList) = false := bne_eq_false_iff_eq.mpr c8; clear c8
            simp only [Option.some.injEq, Prod.mk.injEq] at H
            obtain ⟨rfl, rfl⟩ := H
            go_enter Try.func46, Try.ntmps46
            go_wp2_with (first | ((with_reducible refine gate_callee (f := 72) rfl ?_); refine goesL_ (some 17) rfl rfl Try.func72 (by kernel_rfl) rfl #[.string (a0.extract 0 ((ji3) : Int).toNat)] rfl (by (try simp only [List.map_toArray, List.map_cons, List.map_nil]); first | done | (simp only [hji3]; rfl) | rfl | (simp only [List.length_drop, List.length_take]; rfl)) ?_; (with_reducible refine (impl_Sealed.calls k (a0.extract 0 ((ji3) : Int).toNat) t106 true _ A6.out).mono ?_); rintro e w9 ⟨rfl, hb⟩; refine ⟨_, rfl, ?_⟩; replace HB := Aside0.mk (below_step (Sh.hb HB.out) hb); (try clear hb); (try clear hb2); (try clear hk); (try clear hi))); go_ret2; exact ⟨by first | rfl | (simp [errW_none, errW_some] <;> rfl) | (simp only [← hji3]; first | rfl | (simp [errW_none, errW_some] <;> rfl)) | (simp [*, errW_none, errW_some] <;> rfl), by exact Sh.hb HB.out⟩
          · rw [if_neg c8] at H; have c8b0 : (t106.toList == a0.toList) = false := beq_eq_false_iff_ne.mpr c8; have c8b1 : (t106.toList != a0.toList) = true := bne_iff_ne.mpr c8
            simp only [Option.some.injEq, Prod.mk.injEq] at H
            obtain ⟨rfl, rfl⟩ := H
            go_enter Try.func46, Try.ntmps46
            go_wp2_with (first | ((with_reducible refine gate_callee (f := 72) rfl ?_); refine goesL_ (some 17) rfl rfl Try.func72 (by kernel_rfl) rfl #[.string (a0.extract 0 ((ji3) : Int).toNat)] rfl (by (try simp only [List.map_toArray, List.map_cons, List.map_nil]); first | done | (simp only [hji3]; rfl) | rfl | (simp only [List.length_drop, List.length_take]; rfl)) ?_; (with_reducible refine (impl_Sealed.calls k (a0.extract 0 ((ji3) : Int).toNat) t106 true _ A6.out).mono ?_); rintro e w10 ⟨rfl, hb⟩; refine ⟨_, rfl, ?_⟩; replace HB := Aside0.mk (below_step (Sh.hb HB.out) hb); (try clear hb); (try clear hb2); (try clear hk); (try clear hi))); go_ret2; exact ⟨by first | rfl | (simp [errW_none, errW_some] <;> rfl) | (simp only [← hji3]; first | rfl | (simp [errW_none, errW_some] <;> rfl)) | (simp [*, errW_none, errW_some] <;> rfl), by exact Sh.hb HB.out⟩
        · replace c7 := Bool.eq_false_iff.mpr c7; subst c7
          have H1 : (some ((⟨#[]⟩ : ByteArray), false)) = some (r1, r2) := by rw [if_neg (show ¬ (false = true) by decide)] at H; exact H
          clear H; have H := H1; clear H1
          simp only [Option.some.injEq, Prod.mk.injEq] at H
          obtain ⟨rfl, rfl⟩ := H
          go_enter Try.func46, Try.ntmps46
          go_wp2_with (first | ((with_reducible refine gate_callee (f := 72) rfl ?_); refine goesL_ (some 17) rfl rfl Try.func72 (by kernel_rfl) rfl #[.string (a0.extract 0 ((ji3) : Int).toNat)] rfl (by (try simp only [List.map_toArray, List.map_cons, List.map_nil]); first | done | (simp only [hji3]; rfl) | rfl | (simp only [List.length_drop, List.length_take]; rfl)) ?_; (with_reducible refine (impl_Sealed.calls k (a0.extract 0 ((ji3) : Int).toNat) t106 false _ A6.out).mono ?_); rintro e w11 ⟨rfl, hb⟩; refine ⟨_, rfl, ?_⟩; replace HB := Aside0.mk (below_step (Sh.hb HB.out) hb); (try clear hb); (try clear hb2); (try clear hk); (try clear hi))); go_ret2; exact ⟨by first | rfl | (simp [errW_none, errW_some] <;> rfl) | (simp only [← hji3]; first | rfl | (simp [errW_none, errW_some] <;> rfl)) | (simp [*, errW_none, errW_some] <;> rfl), by exact Sh.hb HB.out⟩
      · rw [if_neg c5] at H; exact absurd H (by simp)
    · rw [if_neg c4] at H; exact absurd H (by simp)

/-! ### impl_ReadVar: function 47 -/
mutual
def impl_ReadVar.l0 : Nat → ByteArray → Int → Int → Int → Option (Int × Int × Bool)
  | 0, _, _, _, _ => none
  | k + 1, x0, x1, x7, x8 => if x8 < 5 then (if x1 ≥ 0 then (impl_ReadVar.j1 k x0 x1 x7 x8 (decide (x1 < (wrap64 ((x0.size : Int) - x8))))) else (impl_ReadVar.j1 k x0 x1 x7 x8 false)) else (impl_ReadVar.j1 k x0 x1 x7 x8 false)
def impl_ReadVar.j1 : Nat → ByteArray → Int → Int → Int → Bool → Option (Int × Int × Bool)
  | 0, _, _, _, _, _ => none
  | k + 1, x0, x1, x7, x8, x23 => if x23 = true then (if 0 ≤ (wrap64 (x1 + x8)) then (if (wrap64 (x1 + x8)) < (x0.size : Int) then (if 0 ≤ (wrap64 (7 * x8)) then (if (wrap64 (bt x0 (wrap64 (x1 + x8)))) ≥ 128 then (impl_ReadVar.l0 k x0 x1 (wrap64 (x7 + (shl .i64 (Int.tmod (wrap64 (bt x0 (wrap64 (x1 + x8)))) 128) (wrap64 (7 * x8))))) (wrap64 (x8 + 1))) else (if (wrap64 (bt x0 (wrap64 (x1 + x8)))) = 0 then (if x8 > 0 then (some (0, 0, false)) else (if (wrap64 (x7 + (shl .i64 (Int.tmod (wrap64 (bt x0 (wrap64 (x1 + x8)))) 128) (wrap64 (7 * x8))))) > 1000000000 then (some (0, 0, false)) else (some (wrap64 (x7 + (shl .i64 (Int.tmod (wrap64 (bt x0 (wrap64 (x1 + x8)))) 128) (wrap64 (7 * x8)))), wrap64 ((wrap64 (x1 + x8)) + 1), true)))) else (if (wrap64 (x7 + (shl .i64 (Int.tmod (wrap64 (bt x0 (wrap64 (x1 + x8)))) 128) (wrap64 (7 * x8))))) > 1000000000 then (some (0, 0, false)) else (some (wrap64 (x7 + (shl .i64 (Int.tmod (wrap64 (bt x0 (wrap64 (x1 + x8)))) 128) (wrap64 (7 * x8)))), wrap64 ((wrap64 (x1 + x8)) + 1), true))))) else (none)) else (none)) else (none)) else (some (0, 0, false))
end
def impl_ReadVar.f (k : Nat) (a0 : ByteArray) (a1 : Int) : Option (Int × Int × Bool) := impl_ReadVar.l0 k a0 a1 0 0
theorem impl_ReadVar.mono_l : ∀ k, (∀ y0 y1 y2 y3, LeO (impl_ReadVar.l0 k y0 y1 y2 y3) (impl_ReadVar.l0 (k + 1) y0 y1 y2 y3)) ∧ (∀ y0 y1 y2 y3 y4, LeO (impl_ReadVar.j1 k y0 y1 y2 y3 y4) (impl_ReadVar.j1 (k + 1) y0 y1 y2 y3 y4))
  | 0 => ⟨fun _ _ _ _ r h => by simp [impl_ReadVar.l0] at h, fun _ _ _ _ _ r h => by simp [impl_ReadVar.j1] at h⟩
  | k + 1 => by
    obtain ⟨ih0, ih1⟩ := impl_ReadVar.mono_l k
    refine ⟨?_, ?_⟩
    · intro y0 y1 y2 y3; unfold impl_ReadVar.l0
      repeat' first | (with_reducible exact ih0 _ _ _ _) | (with_reducible exact ih1 _ _ _ _ _) | (with_reducible exact LeO.refl _) | (with_reducible exact LeO.none _) | (with_reducible refine LeO.ite ?_ ?_) | (with_reducible refine LeO.bind ?_ (fun _ => ?_))
    · intro y0 y1 y2 y3 y4; unfold impl_ReadVar.j1
      repeat' first | (with_reducible exact ih0 _ _ _ _) | (with_reducible exact ih1 _ _ _ _ _) | (with_reducible exact LeO.refl _) | (with_reducible exact LeO.none _) | (with_reducible refine LeO.ite ?_ ?_) | (with_reducible refine LeO.bind ?_ (fun _ => ?_))
theorem impl_ReadVar.mono : ∀ a0 a1 k, LeO (impl_ReadVar.f k a0 a1) (impl_ReadVar.f (k + 1) a0 a1) := by
  intro a0 a1 k; obtain ⟨ih0, ih1⟩ := impl_ReadVar.mono_l k; unfold impl_ReadVar.f
  repeat' first | (with_reducible exact ih0 _ _ _ _) | (with_reducible exact ih1 _ _ _ _ _) | (with_reducible exact LeO.refl _) | (with_reducible exact LeO.none _) | (with_reducible refine LeO.ite ?_ ?_) | (with_reducible refine LeO.bind ?_ (fun _ => ?_))
set_option maxHeartbeats 8000000 in
set_option maxRecDepth 100000 in
theorem impl_ReadVar.calls (k : Nat) (a0 : ByteArray) (a1 : Int) (r1 : Int) (r2 : Int) (r3 : Bool) (w : World) (h : impl_ReadVar.f k a0 a1 = some (r1, r2, r3)) :
    Calls Try.prog 47 #[.string a0, .int .i64 a1] w fun e w' => e = .returned (.tuple #[.int .i64 r1, .int .i64 r2, .bool r3]) ∧ Drawn0 w w' := by
  have H : (impl_ReadVar.l0 k a0 a1 0 0) = some (r1, r2, r3) := h; clear h; have H' := Aside0.mk H; clear H
  go_enter Try.func47, Try.ntmps47
  go_wp2
  go_loopg [7, 8] k (fun kq v7 v8 w' => ∃ (x7_1 : Int) (x8_1 : Int), v7 = .int .i64 x7_1 ∧ v8 = .int .i64 x8_1 ∧ Aside0 (impl_ReadVar.l0 kq a0 a1 x7_1 x8_1 = some (r1, r2, r3)) ∧ Aside0 (kq ≤ k) ∧ Drawn0 w w')
  case atStart => exact ⟨(0), (0), (by first | rfl | (simp; done) | (simp [*]; done)), (by first | rfl | (simp; done) | (simp [*]; done)), H', ⟨Nat.le_refl _⟩, by repeat (first | exact Drawn0.refl _ | apply Drawn0.step)⟩
  case round =>
    clear H'; (try clear p2); obtain ⟨x7_1, x8_1, rfl, rfl, HA, HK1, ⟨m1, rfl⟩⟩ := hrel
    cases gk with
    | zero => exact absurd HA.out (by simp [impl_ReadVar.l0])
    | succ k1 =>
      have H := HA.out; clear HA
      simp only [impl_ReadVar.l0] at H
      have HC3 := Aside0.mk H; clear H
      go_upto_region 3 with (fail)
      go_cut [23] (fun v23 wc => ∃ (kq : Nat) (x23_2 : Bool), v23 = .bool x23_2 ∧ Aside0 (impl_ReadVar.j1 kq a0 a1 x7_1 x8_1 x23_2 = some (r1, r2, r3)) ∧ Aside0 (kq ≤ k1) ∧ Drawn0 w wc)
      case first =>
        have H := HC3.out; clear HC3
        by_cases c4 : x8_1 < 5
        · rw [if_pos c4] at H; have c4b0 : decide (x8_1 < 5) = true := decide_eq_true c4; clear c4
          (first | rw [c4b0] | (simp only [i64_w, i32_w]; rw [c4b0]) | skip)
          by_cases c5 : a1 ≥ 0
          · rw [if_pos c5] at H; have c5b0 : decide (0 ≤ a1) = true := decide_eq_true c5; clear c5; have H' := Aside0.mk H; clear H; go_wp2
            go_meet
            case rel => exact ⟨_, (decide (a1 < (wrap64 ((a0.size : Int) - x8_1)))), (by first | rfl | (simp; done) | (simp [*]; done)), H', ⟨by have := HK1.out; first | omega | exact Nat.le_refl _⟩, by repeat (first | exact Drawn0.refl _ | apply Drawn0.step)⟩
          · rw [if_neg c5] at H; have c5b0 : decide (0 ≤ a1) = false := decide_eq_false c5; clear c5; have H' := Aside0.mk H; clear H; go_wp2
            go_meet
            case rel => exact ⟨_, (false), (by first | rfl | (simp; done) | (simp [*]; done)), H', ⟨by have := HK1.out; first | omega | exact Nat.le_refl _⟩, by repeat (first | exact Drawn0.refl _ | apply Drawn0.step)⟩
        · rw [if_neg c4] at H; have c4b0 : decide (x8_1 < 5) = false := decide_eq_false c4; clear c4
          (first | rw [c4b0] | (simp only [i64_w, i32_w]; rw [c4b0]) | skip)
          have H' := Aside0.mk H; clear H; go_wp2
          go_meet
          case rel => exact ⟨_, (false), (by first | rfl | (simp; done) | (simp [*]; done)), H', ⟨by have := HK1.out; first | omega | exact Nat.le_refl _⟩, by repeat (first | exact Drawn0.refl _ | apply Drawn0.step)⟩
      case rest =>
        clear HC3; (try clear p2); (try clear c4); (try clear c4b0); (try clear c5); (try clear c5b0); (try clear p2); obtain ⟨kq, x23_2, rfl, HA, HJ2, ⟨mc2, rfl⟩⟩ := hcut
        cases kq with
        | zero => exact absurd HA.out (by simp [impl_ReadVar.j1])
        | succ kj2 =>
          have H := HA.out; clear HA
          simp only [impl_ReadVar.j1] at H
          by_cases c6 : x23_2 = true
          · subst c6
            have H1 : (if 0 ≤ (wrap64 (a1 + x8_1)) then (if (wrap64 (a1 + x8_1)) < (a0.size : Int) then (if 0 ≤ (wrap64 (7 * x8_1)) then (if (wrap64 (bt a0 (wrap64 (a1 + x8_1)))) ≥ 128 then (impl_ReadVar.l0 kj2 a0 a1 (wrap64 (x7_1 + (shl .i64 (Int.tmod (wrap64 (bt a0 (wrap64 (a1 + x8_1)))) 128) (wrap64 (7 * x8_1))))) (wrap64 (x8_1 + 1))) else (if (wrap64 (bt a0 (wrap64 (a1 + x8_1)))) = 0 then (if x8_1 > 0 then (some (0, 0, false)) else (if (wrap64 (x7_1 + (shl .i64 (Int.tmod (wrap64 (bt a0 (wrap64 (a1 + x8_1)))) 128) (wrap64 (7 * x8_1))))) > 1000000000 then (some (0, 0, false)) else (some (wrap64 (x7_1 + (shl .i64 (Int.tmod (wrap64 (bt a0 (wrap64 (a1 + x8_1)))) 128) (wrap64 (7 * x8_1)))), wrap64 ((wrap64 (a1 + x8_1)) + 1), true)))) else (if (wrap64 (x7_1 + (shl .i64 (Int.tmod (wrap64 (bt a0 (wrap64 (a1 + x8_1)))) 128) (wrap64 (7 * x8_1))))) > 1000000000 then (some (0, 0, false)) else (some (wrap64 (x7_1 + (shl .i64 (Int.tmod (wrap64 (bt a0 (wrap64 (a1 + x8_1)))) 128) (wrap64 (7 * x8_1)))), wrap64 ((wrap64 (a1 + x8_1)) + 1), true))))) else (none)) else (none)) else (none)) = some (r1, r2, r3) := by rw [if_pos rfl] at H; exact H
            clear H; have H := H1; clear H1
            obtain ⟨ji7, hji7⟩ : ∃ j_ : Int, (wrap64 (a1 + x8_1)) = j_ := ⟨_, rfl⟩
            replace H : (if 0 ≤ (ji7) then (if (ji7) < (a0.size : Int) then (if 0 ≤ (wrap64 (7 * x8_1)) then (if (wrap64 (bt a0 (ji7))) ≥ 128 then (impl_ReadVar.l0 kj2 a0 a1 (wrap64 (x7_1 + (shl .i64 (Int.tmod (wrap64 (bt a0 (ji7))) 128) (wrap64 (7 * x8_1))))) (wrap64 (x8_1 + 1))) else (if (wrap64 (bt a0 (ji7))) = 0 then (if x8_1 > 0 then (some (0, 0, false)) else (if (wrap64 (x7_1 + (shl .i64 (Int.tmod (wrap64 (bt a0 (ji7))) 128) (wrap64 (7 * x8_1))))) > 1000000000 then (some (0, 0, false)) else (some (wrap64 (x7_1 + (shl .i64 (Int.tmod (wrap64 (bt a0 (ji7))) 128) (wrap64 (7 * x8_1)))), wrap64 ((ji7) + 1), true)))) else (if (wrap64 (x7_1 + (shl .i64 (Int.tmod (wrap64 (bt a0 (ji7))) 128) (wrap64 (7 * x8_1))))) > 1000000000 then (some (0, 0, false)) else (some (wrap64 (x7_1 + (shl .i64 (Int.tmod (wrap64 (bt a0 (ji7))) 128) (wrap64 (7 * x8_1)))), wrap64 ((ji7) + 1), true))))) else (none)) else (none)) else (none)) = some (r1, r2, r3) := by first | (rw [hji7] at H; exact H) | (simp only [hji7] at H ⊢; exact H)
            have hji7w : (IntKind.i64.wrap (a1 + x8_1)) = ji7 := (i64_w _).trans hji7
            by_cases c8 : 0 ≤ (ji7)
            · rw [if_pos c8] at H; have c8b0 : decide (0 ≤ (ji7)) = true := decide_eq_true c8; clear c8
              by_cases c9 : (ji7) < (a0.size : Int)
              · rw [if_pos c9] at H; have c9b0 : decide ((ji7) < (a0.size : Int)) = true := decide_eq_true c9; clear c9
                obtain ⟨ji11, hji11⟩ : ∃ j_ : Int, (wrap64 (7 * x8_1)) = j_ := ⟨_, rfl⟩
                replace H : (if 0 ≤ (ji11) then (if (wrap64 (bt a0 (ji7))) ≥ 128 then (impl_ReadVar.l0 kj2 a0 a1 (wrap64 (x7_1 + (shl .i64 (Int.tmod (wrap64 (bt a0 (ji7))) 128) (ji11)))) (wrap64 (x8_1 + 1))) else (if (wrap64 (bt a0 (ji7))) = 0 then (if x8_1 > 0 then (some (0, 0, false)) else (if (wrap64 (x7_1 + (shl .i64 (Int.tmod (wrap64 (bt a0 (ji7))) 128) (ji11)))) > 1000000000 then (some (0, 0, false)) else (some (wrap64 (x7_1 + (shl .i64 (Int.tmod (wrap64 (bt a0 (ji7))) 128) (ji11))), wrap64 ((ji7) + 1), true)))) else (if (wrap64 (x7_1 + (shl .i64 (Int.tmod (wrap64 (bt a0 (ji7))) 128) (ji11)))) > 1000000000 then (some (0, 0, false)) else (some (wrap64 (x7_1 + (shl .i64 (Int.tmod (wrap64 (bt a0 (ji7))) 128) (ji11))), wrap64 ((ji7) + 1), true))))) else (none)) = some (r1, r2, r3) := by first | (rw [hji11] at H; exact H) | (simp only [hji11] at H ⊢; exact H)
                have hji11w : (IntKind.i64.wrap (7 * x8_1)) = ji11 := (i64_w _).trans hji11
                by_cases c12 : 0 ≤ (ji11)
                · rw [if_pos c12] at H; have c12b0 := eq_true c12; have c12b1 : decide (0 ≤ (ji11)) = true := decide_eq_true c12; clear c12
                  obtain ⟨ji13, hji13⟩ : ∃ j_ : Int, (shl .i64 (Int.tmod (wrap64 (bt a0 (ji7))) 128) (ji11)) = j_ := ⟨_, rfl⟩
                  replace H : (if (wrap64 (bt a0 (ji7))) ≥ 128 then (impl_ReadVar.l0 kj2 a0 a1 (wrap64 (x7_1 + (ji13))) (wrap64 (x8_1 + 1))) else (if (wrap64 (bt a0 (ji7))) = 0 then (if x8_1 > 0 then (some (0, 0, false)) else (if (wrap64 (x7_1 + (ji13))) > 1000000000 then (some (0, 0, false)) else (some (wrap64 (x7_1 + (ji13)), wrap64 ((ji7) + 1), true)))) else (if (wrap64 (x7_1 + (ji13))) > 1000000000 then (some (0, 0, false)) else (some (wrap64 (x7_1 + (ji13)), wrap64 ((ji7) + 1), true))))) = some (r1, r2, r3) := by first | (rw [hji13] at H; exact H) | (simp only [hji13] at H ⊢; exact H)
                  have hji13_ : (IntKind.i64.wrap ((Int.tmod (wrap64 (bt a0 (ji7))) 128) * 2 ^ min (ji11).toNat 64)) = ji13 := hji13; have hji13z : (ji11) ≤ 64 → (IntKind.i64.wrap ((Int.tmod (wrap64 (bt a0 (ji7))) 128) * 2 ^ (ji11).toNat)) = ji13 := shl_small hji13; have hji13y : (wrap64 ((Int.tmod (wrap64 (bt a0 (ji7))) 128) * 2 ^ min (ji11).toNat 64)) = ji13 := (i64_w _).symm.trans hji13_
                  have hji13x : (ji11) ≤ 64 → (wrap64 ((Int.tmod (wrap64 (bt a0 (ji7))) 128) * 2 ^ (ji11).toNat)) = ji13 := fun h_ => (i64_w _).symm.trans (hji13z h_)
                  by_cases c14 : (wrap64 (bt a0 (ji7))) ≥ 128
                  · rw [if_pos c14] at H; have c14b0 : decide (128 ≤ (wrap64 (bt a0 (ji7)))) = true := decide_eq_true c14; clear c14; have H' := Aside0.mk H; clear H; have p10 : 0 ≤ ((ji7) : Int) := of_decide_eq_true Sh.as; have q10 : (ji7) < (a0.size : Int) := of_decide_eq_true Sh.as; have hx10 := bt_at a0 (ji7); replace p10 := eq_true p10; replace q10 := eq_true q10; go_wp2
                    go_roundg kj2
                    case measure => have := HK1.out; have := HJ2.out; omega
                    case rel => exact ⟨(wrap64 (x7_1 + (ji13))), (wrap64 (x8_1 + 1)), (by first | rfl | (simp; done) | (simp only [← hji13] <;> (first | rfl | simp)) | (simp [*]; done)), (by first | rfl | (simp; done) | (simp [*]; done)), H', ⟨by have := HK1.out; have := HJ2.out; omega⟩, by repeat (first | exact Drawn0.refl _ | apply Drawn0.step)⟩
                  · rw [if_neg c14] at H; have c14b0 : decide (128 ≤ (wrap64 (bt a0 (ji7)))) = false := decide_eq_false c14; clear c14
                    by_cases c15 : (wrap64 (bt a0 (ji7))) = 0
                    · rw [if_pos c15] at H; have c15b0 : ((wrap64 (bt a0 (ji7))) == 0) = true := beq_iff_eq.mpr c15; have c15b1 : ((wrap64 (bt a0 (ji7))) != 0) = false := bne_eq_false_iff_eq.mpr c15; clear c15
                      by_cases c16 : x8_1 > 0
                      · rw [if_pos c16] at H; have c16b0 : decide (0 < x8_1) = true := decide_eq_true c16; clear c16
                        simp only [Option.some.injEq, Prod.mk.injEq] at H
                        obtain ⟨rfl, rfl, rfl⟩ := H; have p10 : 0 ≤ ((ji7) : Int) := of_decide_eq_true Sh.as; have q10 : (ji7) < (a0.size : Int) := of_decide_eq_true Sh.as; have hx10 := bt_at a0 (ji7); replace p10 := eq_true p10; replace q10 := eq_true q10; go_wp2; go_ret3; exact ⟨by first | rfl | (simp; done) | (simp only [← hji7, ← hji11, ← hji13] <;> (first | rfl | simp)) | (simp [*]; done), by repeat (first | exact Drawn0.refl _ | apply Drawn0.step)⟩
                      · rw [if_neg c16] at H; have c16b0 : decide (0 < x8_1) = false := decide_eq_false c16; clear c16
                        by_cases c17 : (wrap64 (x7_1 + (ji13))) > 1000000000
                        · rw [if_pos c17] at H; have c17b0 : decide (1000000000 < (wrap64 (x7_1 + (ji13)))) = true := decide_eq_true c17; clear c17
                          simp only [Option.some.injEq, Prod.mk.injEq] at H
                          obtain ⟨rfl, rfl, rfl⟩ := H; have p10 : 0 ≤ ((ji7) : Int) := of_decide_eq_true Sh.as; have q10 : (ji7) < (a0.size : Int) := of_decide_eq_true Sh.as; have hx10 := bt_at a0 (ji7); replace p10 := eq_true p10; replace q10 := eq_true q10; go_wp2; go_ret3; exact ⟨by first | rfl | (simp; done) | (simp only [← hji7, ← hji11, ← hji13] <;> (first | rfl | simp)) | (simp [*]; done), by repeat (first | exact Drawn0.refl _ | apply Drawn0.step)⟩
                        · rw [if_neg c17] at H; have c17b0 : decide (1000000000 < (wrap64 (x7_1 + (ji13)))) = false := decide_eq_false c17; clear c17
                          simp only [Option.some.injEq, Prod.mk.injEq] at H
                          obtain ⟨rfl, rfl, rfl⟩ := H; have p10 : 0 ≤ ((ji7) : Int) := of_decide_eq_true Sh.as; have q10 : (ji7) < (a0.size : Int) := of_decide_eq_true Sh.as; have hx10 := bt_at a0 (ji7); replace p10 := eq_true p10; replace q10 := eq_true q10; go_wp2; go_ret3; exact ⟨by first | rfl | (simp; done) | (simp only [← hji7, ← hji11, ← hji13] <;> (first | rfl | simp)) | (simp [*]; done), by repeat (first | exact Drawn0.refl _ | apply Drawn0.step)⟩
                    · rw [if_neg c15] at H; have c15b0 : ((wrap64 (bt a0 (ji7))) == 0) = false := beq_eq_false_iff_ne.mpr c15; have c15b1 : ((wrap64 (bt a0 (ji7))) != 0) = true := bne_iff_ne.mpr c15
                      by_cases c18 : (wrap64 (x7_1 + (ji13))) > 1000000000
                      · rw [if_pos c18] at H; have c18b0 : decide (1000000000 < (wrap64 (x7_1 + (ji13)))) = true := decide_eq_true c18; clear c18
                        simp only [Option.some.injEq, Prod.mk.injEq] at H
                        obtain ⟨rfl, rfl, rfl⟩ := H; have p10 : 0 ≤ ((ji7) : Int) := of_decide_eq_true Sh.as; have q10 : (ji7) < (a0.size : Int) := of_decide_eq_true Sh.as; have hx10 := bt_at a0 (ji7); replace p10 := eq_true p10; replace q10 := eq_true q10; go_wp2; go_ret3; exact ⟨by first | rfl | (simp; done) | (simp only [← hji7, ← hji11, ← hji13] <;> (first | rfl | simp)) | (simp [*]; done), by repeat (first | exact Drawn0.refl _ | apply Drawn0.step)⟩
                      · rw [if_neg c18] at H; have c18b0 : decide (1000000000 < (wrap64 (x7_1 + (ji13)))) = false := decide_eq_false c18; clear c18
                        simp only [Option.some.injEq, Prod.mk.injEq] at H
                        obtain ⟨rfl, rfl, rfl⟩ := H; have p10 : 0 ≤ ((ji7) : Int) := of_decide_eq_true Sh.as; have q10 : (ji7) < (a0.size : Int) := of_decide_eq_true Sh.as; have hx10 := bt_at a0 (ji7); replace p10 := eq_true p10; replace q10 := eq_true q10; go_wp2; go_ret3; exact ⟨by first | rfl | (simp; done) | (simp only [← hji7, ← hji11, ← hji13] <;> (first | rfl | simp)) | (simp [*]; done), by repeat (first | exact Drawn0.refl _ | apply Drawn0.step)⟩
                · rw [if_neg c12] at H; exact absurd H (by simp)
              · rw [if_neg c9] at H; exact absurd H (by simp)
            · rw [if_neg c8] at H; exact absurd H (by simp)
          · replace c6 := Bool.eq_false_iff.mpr c6; subst c6
            have H1 : (some (0, 0, false)) = some (r1, r2, r3) := by rw [if_neg (show ¬ (false = true) by decide)] at H; exact H
            clear H; have H := H1; clear H1
            simp only [Option.some.injEq, Prod.mk.injEq] at H
            obtain ⟨rfl, rfl, rfl⟩ := H; go_wp2; go_ret3; exact ⟨by first | rfl | (simp; done) | (simp [*]; done), by repeat (first | exact Drawn0.refl _ | apply Drawn0.step)⟩

/-! ### impl_in: function 73 -/
def impl_in.f (a0 : Int) (a1 : Int) (a2 : Int) : Option (Bool) := if a0 ≥ a1 then (some (decide (a0 ≤ a2))) else (some false)
set_option maxHeartbeats 8000000 in
set_option maxRecDepth 100000 in
theorem impl_in.calls (a0 : Int) (a1 : Int) (a2 : Int) (r : Bool) (w : World) (h : impl_in.f a0 a1 a2 = some r) :
    Calls Try.prog 73 #[.int .i64 a0, .int .i64 a1, .int .i64 a2] w fun e w' => e = .returned (.bool r) ∧ Drawn0 w w' := by
  have H : (if a0 ≥ a1 then (some (decide (a0 ≤ a2))) else (some false)) = some r := h; clear h
  by_cases c4 : a0 ≥ a1
  · rw [if_pos c4] at H; have c4b0 : decide (a1 ≤ a0) = true := decide_eq_true c4; clear c4; obtain rfl := Option.some.inj H
    go_enter Try.func73, Try.ntmps73
    go_wp2; go_ret; exact ⟨by first | rfl | (simp; done) | (simp [*]; done), by repeat (first | exact Drawn0.refl _ | apply Drawn0.step)⟩
  · rw [if_neg c4] at H; have c4b0 : decide (a1 ≤ a0) = false := decide_eq_false c4; clear c4; obtain rfl := Option.some.inj H
    go_enter Try.func73, Try.ntmps73
    go_wp2; go_ret; exact ⟨by first | rfl | (simp; done) | (simp [*]; done), by repeat (first | exact Drawn0.refl _ | apply Drawn0.step)⟩

/-! ### impl_PageOk: function 48 -/
def impl_PageOk.f (a0_0 : Int) (a0_1 : Int) (a0_2 : Int) (a0_3 : Int) (a0_4 : Int) (a0_5 : ByteArray) : Option (Bool) := (impl_in.f a0_1 1 1000000000).bind fun t109 => (if t109 = true then ((impl_in.f a0_2 1 1000000000).bind fun t110 => (if t110 = true then ((impl_in.f a0_4 1 9).bind fun t111 => (if t111 = true then ((impl_in.f a0_3 0 (wrap64 (a0_4 - 1))).bind fun t112 => (if t112 = true then (if (a0_5.size : Int) > 90 then (some false) else (if a0_0 = 2 then (some true) else (if a0_0 = 1 then (some (a0_4 == 1)) else (some false)))) else (some false))) else (some false))) else (some false))) else (some false))
set_option maxHeartbeats 8000000 in
set_option maxRecDepth 100000 in
theorem impl_PageOk.calls (a0_0 : Int) (a0_1 : Int) (a0_2 : Int) (a0_3 : Int) (a0_4 : Int) (a0_5 : ByteArray) (r : Bool) (w : World) (h : impl_PageOk.f a0_0 a0_1 a0_2 a0_3 a0_4 a0_5 = some r) :
    Calls Try.prog 48 #[.agg #[.int .i64 a0_0, .int .i64 a0_1, .int .i64 a0_2, .int .i64 a0_3, .int .i64 a0_4, .string a0_5]] w fun e w' => e = .returned (.bool r) ∧ Below w.heap.size w w' := by
  have hu41 := Try.underlying41; have HB := Aside0.mk (Below.refl w.heap.size w); have H : ((impl_in.f a0_1 1 1000000000).bind fun t109 => (if t109 = true then ((impl_in.f a0_2 1 1000000000).bind fun t110 => (if t110 = true then ((impl_in.f a0_4 1 9).bind fun t111 => (if t111 = true then ((impl_in.f a0_3 0 (wrap64 (a0_4 - 1))).bind fun t112 => (if t112 = true then (if (a0_5.size : Int) > 90 then (some false) else (if a0_0 = 2 then (some true) else (if a0_0 = 1 then (some (a0_4 == 1)) else (some false)))) else (some false))) else (some false))) else (some false))) else (some false))) = some r := h; clear h; replace H := Option.bind_eq_some_iff.mp H; obtain ⟨t109, A20, H⟩ := H; replace H : (if t109 = true then ((impl_in.f a0_2 1 1000000000).bind fun t110 => (if t110 = true then ((impl_in.f a0_4 1 9).bind fun t111 => (if t111 = true then ((impl_in.f a0_3 0 (wrap64 (a0_4 - 1))).bind fun t112 => (if t112 = true then (if (a0_5.size : Int) > 90 then (some false) else (if a0_0 = 2 then (some true) else (if a0_0 = 1 then (some (a0_4 == 1)) else (some false)))) else (some false))) else (some false))) else (some false))) else (some false)) = some r := H; have A2 := Aside0.mk A20; clear A20
  by_cases c3 : t109 = true
  · subst c3
    have H1 : ((impl_in.f a0_2 1 1000000000).bind fun t110 => (if t110 = true then ((impl_in.f a0_4 1 9).bind fun t111 => (if t111 = true then ((impl_in.f a0_3 0 (wrap64 (a0_4 - 1))).bind fun t112 => (if t112 = true then (if (a0_5.size : Int) > 90 then (some false) else (if a0_0 = 2 then (some true) else (if a0_0 = 1 then (some (a0_4 == 1)) else (some false)))) else (some false))) else (some false))) else (some false))) = some r := by rw [if_pos rfl] at H; exact H
    clear H; have H := H1; clear H1; replace H := Option.bind_eq_some_iff.mp H; obtain ⟨t110, A40, H⟩ := H; replace H : (if t110 = true then ((impl_in.f a0_4 1 9).bind fun t111 => (if t111 = true then ((impl_in.f a0_3 0 (wrap64 (a0_4 - 1))).bind fun t112 => (if t112 = true then (if (a0_5.size : Int) > 90 then (some false) else (if a0_0 = 2 then (some true) else (if a0_0 = 1 then (some (a0_4 == 1)) else (some false)))) else (some false))) else (some false))) else (some false)) = some r := H; have A4 := Aside0.mk A40; clear A40
    by_cases c5 : t110 = true
    · subst c5
      have H1 : ((impl_in.f a0_4 1 9).bind fun t111 => (if t111 = true then ((impl_in.f a0_3 0 (wrap64 (a0_4 - 1))).bind fun t112 => (if t112 = true then (if (a0_5.size : Int) > 90 then (some false) else (if a0_0 = 2 then (some true) else (if a0_0 = 1 then (some (a0_4 == 1)) else (some false)))) else (some false))) else (some false))) = some r := by rw [if_pos rfl] at H; exact H
      clear H; have H := H1; clear H1; replace H := Option.bind_eq_some_iff.mp H; obtain ⟨t111, A60, H⟩ := H; replace H : (if t111 = true then ((impl_in.f a0_3 0 (wrap64 (a0_4 - 1))).bind fun t112 => (if t112 = true then (if (a0_5.size : Int) > 90 then (some false) else (if a0_0 = 2 then (some true) else (if a0_0 = 1 then (some (a0_4 == 1)) else (some false)))) else (some false))) else (some false)) = some r := H; have A6 := Aside0.mk A60; clear A60
      by_cases c7 : t111 = true
      · subst c7
        have H1 : ((impl_in.f a0_3 0 (wrap64 (a0_4 - 1))).bind fun t112 => (if t112 = true then (if (a0_5.size : Int) > 90 then (some false) else (if a0_0 = 2 then (some true) else (if a0_0 = 1 then (some (a0_4 == 1)) else (some false)))) else (some false))) = some r := by rw [if_pos rfl] at H; exact H
        clear H; have H := H1; clear H1; replace H := Option.bind_eq_some_iff.mp H; obtain ⟨t112, A80, H⟩ := H; replace H : (if t112 = true then (if (a0_5.size : Int) > 90 then (some false) else (if a0_0 = 2 then (some true) else (if a0_0 = 1 then (some (a0_4 == 1)) else (some false)))) else (some false)) = some r := H; have A8 := Aside0.mk A80; clear A80
        by_cases c9 : t112 = true
        · subst c9
          have H1 : (if (a0_5.size : Int) > 90 then (some false) else (if a0_0 = 2 then (some true) else (if a0_0 = 1 then (some (a0_4 == 1)) else (some false)))) = some r := by rw [if_pos rfl] at H; exact H
          clear H; have H := H1; clear H1
          by_cases c10 : (a0_5.size : Int) > 90
          · rw [if_pos c10] at H; have c10b0 : decide (90 < (a0_5.size : Int)) = true := decide_eq_true c10; have c10b1 : decide (90 < a0_5.size) = true := decide_eq_true (by omega); clear c10; obtain rfl := Option.some.inj H
            go_enter Try.func48, Try.ntmps48
            go_wp2_with (first | ((with_reducible refine gate_dst (N := 1) rfl ?_); (try (refine gate_guard (by rfl) ?_; dsimp only)); refine Sh.bx (N := 1) (cs := #[.int .i64 a0_0, .int .i64 a0_1, .int .i64 a0_2, .int .i64 a0_3, .int .i64 a0_4, .string a0_5]) (t := 41) ?_; intro gb108 hg w11 hbox hb; have BK108 := Aside0.mk (hbox); have GW108 := Aside0.mk ((by rw [hg]; exact (below_size (Sh.hb HB.out)) : w.heap.size ≤ gb108)); have GE108 := Aside0.mk ((by rw [hg]; exact (below_size (Sh.hb HB.out)) : w.heap.size ≤ gb108)); replace HB := Aside0.mk (below_step (Sh.hb HB.out) hb); clear hb hbox hg; have hcz12_0 : w11.cell? ⟨gb108, 0, none⟩ = some (.int .i64 a0_0) := (blk_cell BK108.out 0).trans rfl; have hcz12_1 : w11.cell? ⟨gb108, 1, none⟩ = some (.int .i64 a0_1) := (blk_cell BK108.out 1).trans rfl; have hcz12_2 : w11.cell? ⟨gb108, 2, none⟩ = some (.int .i64 a0_2) := (blk_cell BK108.out 2).trans rfl; have hcz12_3 : w11.cell? ⟨gb108, 3, none⟩ = some (.int .i64 a0_3) := (blk_cell BK108.out 3).trans rfl; have hcz12_4 : w11.cell? ⟨gb108, 4, none⟩ = some (.int .i64 a0_4) := (blk_cell BK108.out 4).trans rfl; have hcz12_5 : w11.cell? ⟨gb108, 5, none⟩ = some (.string a0_5) := (blk_cell BK108.out 5).trans rfl; have hfz12_0 := blk_frozen BK108.out 0; have hfz12_1 := blk_frozen BK108.out 1; have hfz12_2 := blk_frozen BK108.out 2; have hfz12_3 := blk_frozen BK108.out 3; have hfz12_4 := blk_frozen BK108.out 4; have hfz12_5 := blk_frozen BK108.out 5) | ((with_reducible refine gate_callee (f := 73) rfl ?_); refine goesL_ (some 5) rfl rfl Try.func73 (by kernel_rfl) rfl #[.int .i64 a0_1, .int .i64 1, .int .i64 1000000000] rfl Sh.al ?_; (with_reducible refine (impl_in.calls a0_1 1 1000000000 true _ A2.out).mono ?_); rintro e w' ⟨rfl, ⟨nd, rfl⟩⟩; refine ⟨_, rfl, ?_⟩) | (go_at_call 73; (with_reducible refine (impl_in.calls a0_2 1 1000000000 true _ A4.out).mono ?_); rintro e w' ⟨rfl, ⟨nd, rfl⟩⟩) | (go_at_call 73; (with_reducible refine (impl_in.calls a0_4 1 9 true _ A6.out).mono ?_); rintro e w' ⟨rfl, ⟨nd, rfl⟩⟩) | (go_at_call 73; (with_reducible refine (impl_in.calls a0_3 0 (wrap64 (a0_4 - 1)) true _ A8.out).mono ?_); rintro e w' ⟨rfl, ⟨nd, rfl⟩⟩))
            go_ret; exact ⟨by first | rfl | (simp [errW_none, errW_some] <;> rfl) | (simp [*, errW_none, errW_some] <;> rfl), by exact Sh.hs HB.out GE108.out⟩
          · rw [if_neg c10] at H; have c10b0 : decide (90 < (a0_5.size : Int)) = false := decide_eq_false c10; have c10b1 : decide (90 < a0_5.size) = false := decide_eq_false (by omega); clear c10
            by_cases c13 : a0_0 = 2
            · rw [if_pos c13] at H; have c13b0 : (a0_0 == 2) = true := beq_iff_eq.mpr c13; have c13b1 : (a0_0 != 2) = false := bne_eq_false_iff_eq.mpr c13; clear c13; obtain rfl := Option.some.inj H
              go_enter Try.func48, Try.ntmps48
              go_wp2_with (first | ((with_reducible refine gate_dst (N := 1) rfl ?_); (try (refine gate_guard (by rfl) ?_; dsimp only)); refine Sh.bx (N := 1) (cs := #[.int .i64 a0_0, .int .i64 a0_1, .int .i64 a0_2, .int .i64 a0_3, .int .i64 a0_4, .string a0_5]) (t := 41) ?_; intro gb108 hg w14 hbox hb; have BK108 := Aside0.mk (hbox); have GW108 := Aside0.mk ((by rw [hg]; exact (below_size (Sh.hb HB.out)) : w.heap.size ≤ gb108)); have GE108 := Aside0.mk ((by rw [hg]; exact (below_size (Sh.hb HB.out)) : w.heap.size ≤ gb108)); replace HB := Aside0.mk (below_step (Sh.hb HB.out) hb); clear hb hbox hg; have hcz15_0 : w14.cell? ⟨gb108, 0, none⟩ = some (.int .i64 a0_0) := (blk_cell BK108.out 0).trans rfl; have hcz15_1 : w14.cell? ⟨gb108, 1, none⟩ = some (.int .i64 a0_1) := (blk_cell BK108.out 1).trans rfl; have hcz15_2 : w14.cell? ⟨gb108, 2, none⟩ = some (.int .i64 a0_2) := (blk_cell BK108.out 2).trans rfl; have hcz15_3 : w14.cell? ⟨gb108, 3, none⟩ = some (.int .i64 a0_3) := (blk_cell BK108.out 3).trans rfl; have hcz15_4 : w14.cell? ⟨gb108, 4, none⟩ = some (.int .i64 a0_4) := (blk_cell BK108.out 4).trans rfl; have hcz15_5 : w14.cell? ⟨gb108, 5, none⟩ = some (.string a0_5) := (blk_cell BK108.out 5).trans rfl; have hfz15_0 := blk_frozen BK108.out 0; have hfz15_1 := blk_frozen BK108.out 1; have hfz15_2 := blk_frozen BK108.out 2; have hfz15_3 := blk_frozen BK108.out 3; have hfz15_4 := blk_frozen BK108.out 4; have hfz15_5 := blk_frozen BK108.out 5) | ((with_reducible refine gate_callee (f := 73) rfl ?_); refine goesL_ (some 5) rfl rfl Try.func73 (by kernel_rfl) rfl #[.int .i64 a0_1, .int .i64 1, .int .i64 1000000000] rfl Sh.al ?_; (with_reducible refine (impl_in.calls a0_1 1 1000000000 true _ A2.out).mono ?_); rintro e w' ⟨rfl, ⟨nd, rfl⟩⟩; refine ⟨_, rfl, ?_⟩) | (go_at_call 73; (with_reducible refine (impl_in.calls a0_2 1 1000000000 true _ A4.out).mono ?_); rintro e w' ⟨rfl, ⟨nd, rfl⟩⟩) | (go_at_call 73; (with_reducible refine (impl_in.calls a0_4 1 9 true _ A6.out).mono ?_); rintro e w' ⟨rfl, ⟨nd, rfl⟩⟩) | (go_at_call 73; (with_reducible refine (impl_in.calls a0_3 0 (wrap64 (a0_4 - 1)) true _ A8.out).mono ?_); rintro e w' ⟨rfl, ⟨nd, rfl⟩⟩))
              go_ret; exact ⟨by first | rfl | (simp [errW_none, errW_some] <;> rfl) | (simp [*, errW_none, errW_some] <;> rfl), by exact Sh.hs HB.out GE108.out⟩
            · rw [if_neg c13] at H; have c13b0 : (a0_0 == 2) = false := beq_eq_false_iff_ne.mpr c13; have c13b1 : (a0_0 != 2) = true := bne_iff_ne.mpr c13
              by_cases c16 : a0_0 = 1
              · rw [if_pos c16] at H; have c16b0 : (a0_0 == 1) = true := beq_iff_eq.mpr c16; have c16b1 : (a0_0 != 1) = false := bne_eq_false_iff_eq.mpr c16; clear c16; obtain rfl := Option.some.inj H
                go_enter Try.func48, Try.ntmps48
                go_wp2_with (first | ((with_reducible refine gate_dst (N := 1) rfl ?_); (try (refine gate_guard (by rfl) ?_; dsimp only)); refine Sh.bx (N := 1) (cs := #[.int .i64 a0_0, .int .i64 a0_1, .int .i64 a0_2, .int .i64 a0_3, .int .i64 a0_4, .string a0_5]) (t := 41) ?_; intro gb108 hg w17 hbox hb; have BK108 := Aside0.mk (hbox); have GW108 := Aside0.mk ((by rw [hg]; exact (below_size (Sh.hb HB.out)) : w.heap.size ≤ gb108)); have GE108 := Aside0.mk ((by rw [hg]; exact (below_size (Sh.hb HB.out)) : w.heap.size ≤ gb108)); replace HB := Aside0.mk (below_step (Sh.hb HB.out) hb); clear hb hbox hg; have hcz18_0 : w17.cell? ⟨gb108, 0, none⟩ = some (.int .i64 a0_0) := (blk_cell BK108.out 0).trans rfl; have hcz18_1 : w17.cell? ⟨gb108, 1, none⟩ = some (.int .i64 a0_1) := (blk_cell BK108.out 1).trans rfl; have hcz18_2 : w17.cell? ⟨gb108, 2, none⟩ = some (.int .i64 a0_2) := (blk_cell BK108.out 2).trans rfl; have hcz18_3 : w17.cell? ⟨gb108, 3, none⟩ = some (.int .i64 a0_3) := (blk_cell BK108.out 3).trans rfl; have hcz18_4 : w17.cell? ⟨gb108, 4, none⟩ = some (.int .i64 a0_4) := (blk_cell BK108.out 4).trans rfl; have hcz18_5 : w17.cell? ⟨gb108, 5, none⟩ = some (.string a0_5) := (blk_cell BK108.out 5).trans rfl; have hfz18_0 := blk_frozen BK108.out 0; have hfz18_1 := blk_frozen BK108.out 1; have hfz18_2 := blk_frozen BK108.out 2; have hfz18_3 := blk_frozen BK108.out 3; have hfz18_4 := blk_frozen BK108.out 4; have hfz18_5 := blk_frozen BK108.out 5) | ((with_reducible refine gate_callee (f := 73) rfl ?_); refine goesL_ (some 5) rfl rfl Try.func73 (by kernel_rfl) rfl #[.int .i64 a0_1, .int .i64 1, .int .i64 1000000000] rfl Sh.al ?_; (with_reducible refine (impl_in.calls a0_1 1 1000000000 true _ A2.out).mono ?_); rintro e w' ⟨rfl, ⟨nd, rfl⟩⟩; refine ⟨_, rfl, ?_⟩) | (go_at_call 73; (with_reducible refine (impl_in.calls a0_2 1 1000000000 true _ A4.out).mono ?_); rintro e w' ⟨rfl, ⟨nd, rfl⟩⟩) | (go_at_call 73; (with_reducible refine (impl_in.calls a0_4 1 9 true _ A6.out).mono ?_); rintro e w' ⟨rfl, ⟨nd, rfl⟩⟩) | (go_at_call 73; (with_reducible refine (impl_in.calls a0_3 0 (wrap64 (a0_4 - 1)) true _ A8.out).mono ?_); rintro e w' ⟨rfl, ⟨nd, rfl⟩⟩))
                go_ret; exact ⟨by first | rfl | (simp [errW_none, errW_some] <;> rfl) | (simp [*, errW_none, errW_some] <;> rfl), by exact Sh.hs HB.out GE108.out⟩
              · rw [if_neg c16] at H; have c16b0 : (a0_0 == 1) = false := beq_eq_false_iff_ne.mpr c16; have c16b1 : (a0_0 != 1) = true := bne_iff_ne.mpr c16; obtain rfl := Option.some.inj H
                go_enter Try.func48, Try.ntmps48
                go_wp2_with (first | ((with_reducible refine gate_dst (N := 1) rfl ?_); (try (refine gate_guard (by rfl) ?_; dsimp only)); refine Sh.bx (N := 1) (cs := #[.int .i64 a0_0, .int .i64 a0_1, .int .i64 a0_2, .int .i64 a0_3, .int .i64 a0_4, .string a0_5]) (t := 41) ?_; intro gb108 hg w19 hbox hb; have BK108 := Aside0.mk (hbox); have GW108 := Aside0.mk ((by rw [hg]; exact (below_size (Sh.hb HB.out)) : w.heap.size ≤ gb108)); have GE108 := Aside0.mk ((by rw [hg]; exact (below_size (Sh.hb HB.out)) : w.heap.size ≤ gb108)); replace HB := Aside0.mk (below_step (Sh.hb HB.out) hb); clear hb hbox hg; have hcz20_0 : w19.cell? ⟨gb108, 0, none⟩ = some (.int .i64 a0_0) := (blk_cell BK108.out 0).trans rfl; have hcz20_1 : w19.cell? ⟨gb108, 1, none⟩ = some (.int .i64 a0_1) := (blk_cell BK108.out 1).trans rfl; have hcz20_2 : w19.cell? ⟨gb108, 2, none⟩ = some (.int .i64 a0_2) := (blk_cell BK108.out 2).trans rfl; have hcz20_3 : w19.cell? ⟨gb108, 3, none⟩ = some (.int .i64 a0_3) := (blk_cell BK108.out 3).trans rfl; have hcz20_4 : w19.cell? ⟨gb108, 4, none⟩ = some (.int .i64 a0_4) := (blk_cell BK108.out 4).trans rfl; have hcz20_5 : w19.cell? ⟨gb108, 5, none⟩ = some (.string a0_5) := (blk_cell BK108.out 5).trans rfl; have hfz20_0 := blk_frozen BK108.out 0; have hfz20_1 := blk_frozen BK108.out 1; have hfz20_2 := blk_frozen BK108.out 2; have hfz20_3 := blk_frozen BK108.out 3; have hfz20_4 := blk_frozen BK108.out 4; have hfz20_5 := blk_frozen BK108.out 5) | ((with_reducible refine gate_callee (f := 73) rfl ?_); refine goesL_ (some 5) rfl rfl Try.func73 (by kernel_rfl) rfl #[.int .i64 a0_1, .int .i64 1, .int .i64 1000000000] rfl Sh.al ?_; (with_reducible refine (impl_in.calls a0_1 1 1000000000 true _ A2.out).mono ?_); rintro e w' ⟨rfl, ⟨nd, rfl⟩⟩; refine ⟨_, rfl, ?_⟩) | (go_at_call 73; (with_reducible refine (impl_in.calls a0_2 1 1000000000 true _ A4.out).mono ?_); rintro e w' ⟨rfl, ⟨nd, rfl⟩⟩) | (go_at_call 73; (with_reducible refine (impl_in.calls a0_4 1 9 true _ A6.out).mono ?_); rintro e w' ⟨rfl, ⟨nd, rfl⟩⟩) | (go_at_call 73; (with_reducible refine (impl_in.calls a0_3 0 (wrap64 (a0_4 - 1)) true _ A8.out).mono ?_); rintro e w' ⟨rfl, ⟨nd, rfl⟩⟩))
                go_ret; exact ⟨by first | rfl | (simp [errW_none, errW_some] <;> rfl) | (simp [*, errW_none, errW_some] <;> rfl), by exact Sh.hs HB.out GE108.out⟩
        · replace c9 := Bool.eq_false_iff.mpr c9; subst c9
          have H1 : (some false) = some r := by rw [if_neg (show ¬ (false = true) by decide)] at H; exact H
          clear H; have H := H1; clear H1; obtain rfl := Option.some.inj H
          go_enter Try.func48, Try.ntmps48
          go_wp2_with (first | ((with_reducible refine gate_dst (N := 1) rfl ?_); (try (refine gate_guard (by rfl) ?_; dsimp only)); refine Sh.bx (N := 1) (cs := #[.int .i64 a0_0, .int .i64 a0_1, .int .i64 a0_2, .int .i64 a0_3, .int .i64 a0_4, .string a0_5]) (t := 41) ?_; intro gb108 hg w21 hbox hb; have BK108 := Aside0.mk (hbox); have GW108 := Aside0.mk ((by rw [hg]; exact (below_size (Sh.hb HB.out)) : w.heap.size ≤ gb108)); have GE108 := Aside0.mk ((by rw [hg]; exact (below_size (Sh.hb HB.out)) : w.heap.size ≤ gb108)); replace HB := Aside0.mk (below_step (Sh.hb HB.out) hb); clear hb hbox hg; have hcz22_0 : w21.cell? ⟨gb108, 0, none⟩ = some (.int .i64 a0_0) := (blk_cell BK108.out 0).trans rfl; have hcz22_1 : w21.cell? ⟨gb108, 1, none⟩ = some (.int .i64 a0_1) := (blk_cell BK108.out 1).trans rfl; have hcz22_2 : w21.cell? ⟨gb108, 2, none⟩ = some (.int .i64 a0_2) := (blk_cell BK108.out 2).trans rfl; have hcz22_3 : w21.cell? ⟨gb108, 3, none⟩ = some (.int .i64 a0_3) := (blk_cell BK108.out 3).trans rfl; have hcz22_4 : w21.cell? ⟨gb108, 4, none⟩ = some (.int .i64 a0_4) := (blk_cell BK108.out 4).trans rfl; have hcz22_5 : w21.cell? ⟨gb108, 5, none⟩ = some (.string a0_5) := (blk_cell BK108.out 5).trans rfl; have hfz22_0 := blk_frozen BK108.out 0; have hfz22_1 := blk_frozen BK108.out 1; have hfz22_2 := blk_frozen BK108.out 2; have hfz22_3 := blk_frozen BK108.out 3; have hfz22_4 := blk_frozen BK108.out 4; have hfz22_5 := blk_frozen BK108.out 5) | ((with_reducible refine gate_callee (f := 73) rfl ?_); refine goesL_ (some 5) rfl rfl Try.func73 (by kernel_rfl) rfl #[.int .i64 a0_1, .int .i64 1, .int .i64 1000000000] rfl Sh.al ?_; (with_reducible refine (impl_in.calls a0_1 1 1000000000 true _ A2.out).mono ?_); rintro e w' ⟨rfl, ⟨nd, rfl⟩⟩; refine ⟨_, rfl, ?_⟩) | (go_at_call 73; (with_reducible refine (impl_in.calls a0_2 1 1000000000 true _ A4.out).mono ?_); rintro e w' ⟨rfl, ⟨nd, rfl⟩⟩) | (go_at_call 73; (with_reducible refine (impl_in.calls a0_4 1 9 true _ A6.out).mono ?_); rintro e w' ⟨rfl, ⟨nd, rfl⟩⟩) | (go_at_call 73; (with_reducible refine (impl_in.calls a0_3 0 (wrap64 (a0_4 - 1)) false _ A8.out).mono ?_); rintro e w' ⟨rfl, ⟨nd, rfl⟩⟩))
          go_ret; exact ⟨by first | rfl | (simp [errW_none, errW_some] <;> rfl) | (simp [*, errW_none, errW_some] <;> rfl), by exact Sh.hs HB.out GE108.out⟩
      · replace c7 := Bool.eq_false_iff.mpr c7; subst c7
        have H1 : (some false) = some r := by rw [if_neg (show ¬ (false = true) by decide)] at H; exact H
        clear H; have H := H1; clear H1; obtain rfl := Option.some.inj H
        go_enter Try.func48, Try.ntmps48
        go_wp2_with (first | ((with_reducible refine gate_dst (N := 1) rfl ?_); (try (refine gate_guard (by rfl) ?_; dsimp only)); refine Sh.bx (N := 1) (cs := #[.int .i64 a0_0, .int .i64 a0_1, .int .i64 a0_2, .int .i64 a0_3, .int .i64 a0_4, .string a0_5]) (t := 41) ?_; intro gb108 hg w23 hbox hb; have BK108 := Aside0.mk (hbox); have GW108 := Aside0.mk ((by rw [hg]; exact (below_size (Sh.hb HB.out)) : w.heap.size ≤ gb108)); have GE108 := Aside0.mk ((by rw [hg]; exact (below_size (Sh.hb HB.out)) : w.heap.size ≤ gb108)); replace HB := Aside0.mk (below_step (Sh.hb HB.out) hb); clear hb hbox hg; have hcz24_0 : w23.cell? ⟨gb108, 0, none⟩ = some (.int .i64 a0_0) := (blk_cell BK108.out 0).trans rfl; have hcz24_1 : w23.cell? ⟨gb108, 1, none⟩ = some (.int .i64 a0_1) := (blk_cell BK108.out 1).trans rfl; have hcz24_2 : w23.cell? ⟨gb108, 2, none⟩ = some (.int .i64 a0_2) := (blk_cell BK108.out 2).trans rfl; have hcz24_3 : w23.cell? ⟨gb108, 3, none⟩ = some (.int .i64 a0_3) := (blk_cell BK108.out 3).trans rfl; have hcz24_4 : w23.cell? ⟨gb108, 4, none⟩ = some (.int .i64 a0_4) := (blk_cell BK108.out 4).trans rfl; have hcz24_5 : w23.cell? ⟨gb108, 5, none⟩ = some (.string a0_5) := (blk_cell BK108.out 5).trans rfl; have hfz24_0 := blk_frozen BK108.out 0; have hfz24_1 := blk_frozen BK108.out 1; have hfz24_2 := blk_frozen BK108.out 2; have hfz24_3 := blk_frozen BK108.out 3; have hfz24_4 := blk_frozen BK108.out 4; have hfz24_5 := blk_frozen BK108.out 5) | ((with_reducible refine gate_callee (f := 73) rfl ?_); refine goesL_ (some 5) rfl rfl Try.func73 (by kernel_rfl) rfl #[.int .i64 a0_1, .int .i64 1, .int .i64 1000000000] rfl Sh.al ?_; (with_reducible refine (impl_in.calls a0_1 1 1000000000 true _ A2.out).mono ?_); rintro e w' ⟨rfl, ⟨nd, rfl⟩⟩; refine ⟨_, rfl, ?_⟩) | (go_at_call 73; (with_reducible refine (impl_in.calls a0_2 1 1000000000 true _ A4.out).mono ?_); rintro e w' ⟨rfl, ⟨nd, rfl⟩⟩) | (go_at_call 73; (with_reducible refine (impl_in.calls a0_4 1 9 false _ A6.out).mono ?_); rintro e w' ⟨rfl, ⟨nd, rfl⟩⟩))
        go_ret; exact ⟨by first | rfl | (simp [errW_none, errW_some] <;> rfl) | (simp [*, errW_none, errW_some] <;> rfl), by exact Sh.hs HB.out GE108.out⟩
    · replace c5 := Bool.eq_false_iff.mpr c5; subst c5
      have H1 : (some false) = some r := by rw [if_neg (show ¬ (false = true) by decide)] at H; exact H
      clear H; have H := H1; clear H1; obtain rfl := Option.some.inj H
      go_enter Try.func48, Try.ntmps48
      go_wp2_with (first | ((with_reducible refine gate_dst (N := 1) rfl ?_); (try (refine gate_guard (by rfl) ?_; dsimp only)); refine Sh.bx (N := 1) (cs := #[.int .i64 a0_0, .int .i64 a0_1, .int .i64 a0_2, .int .i64 a0_3, .int .i64 a0_4, .string a0_5]) (t := 41) ?_; intro gb108 hg w25 hbox hb; have BK108 := Aside0.mk (hbox); have GW108 := Aside0.mk ((by rw [hg]; exact (below_size (Sh.hb HB.out)) : w.heap.size ≤ gb108)); have GE108 := Aside0.mk ((by rw [hg]; exact (below_size (Sh.hb HB.out)) : w.heap.size ≤ gb108)); replace HB := Aside0.mk (below_step (Sh.hb HB.out) hb); clear hb hbox hg; have hcz26_0 : w25.cell? ⟨gb108, 0, none⟩ = some (.int .i64 a0_0) := (blk_cell BK108.out 0).trans rfl; have hcz26_1 : w25.cell? ⟨gb108, 1, none⟩ = some (.int .i64 a0_1) := (blk_cell BK108.out 1).trans rfl; have hcz26_2 : w25.cell? ⟨gb108, 2, none⟩ = some (.int .i64 a0_2) := (blk_cell BK108.out 2).trans rfl; have hcz26_3 : w25.cell? ⟨gb108, 3, none⟩ = some (.int .i64 a0_3) := (blk_cell BK108.out 3).trans rfl; have hcz26_4 : w25.cell? ⟨gb108, 4, none⟩ = some (.int .i64 a0_4) := (blk_cell BK108.out 4).trans rfl; have hcz26_5 : w25.cell? ⟨gb108, 5, none⟩ = some (.string a0_5) := (blk_cell BK108.out 5).trans rfl; have hfz26_0 := blk_frozen BK108.out 0; have hfz26_1 := blk_frozen BK108.out 1; have hfz26_2 := blk_frozen BK108.out 2; have hfz26_3 := blk_frozen BK108.out 3; have hfz26_4 := blk_frozen BK108.out 4; have hfz26_5 := blk_frozen BK108.out 5) | ((with_reducible refine gate_callee (f := 73) rfl ?_); refine goesL_ (some 5) rfl rfl Try.func73 (by kernel_rfl) rfl #[.int .i64 a0_1, .int .i64 1, .int .i64 1000000000] rfl Sh.al ?_; (with_reducible refine (impl_in.calls a0_1 1 1000000000 true _ A2.out).mono ?_); rintro e w' ⟨rfl, ⟨nd, rfl⟩⟩; refine ⟨_, rfl, ?_⟩) | (go_at_call 73; (with_reducible refine (impl_in.calls a0_2 1 1000000000 false _ A4.out).mono ?_); rintro e w' ⟨rfl, ⟨nd, rfl⟩⟩))
      go_ret; exact ⟨by first | rfl | (simp [errW_none, errW_some] <;> rfl) | (simp [*, errW_none, errW_some] <;> rfl), by exact Sh.hs HB.out GE108.out⟩
  · replace c3 := Bool.eq_false_iff.mpr c3; subst c3
    have H1 : (some false) = some r := by rw [if_neg (show ¬ (false = true) by decide)] at H; exact H
    clear H; have H := H1; clear H1; obtain rfl := Option.some.inj H
    go_enter Try.func48, Try.ntmps48
    go_wp2_with (first | ((with_reducible refine gate_dst (N := 1) rfl ?_); (try (refine gate_guard (by rfl) ?_; dsimp only)); refine Sh.bx (N := 1) (cs := #[.int .i64 a0_0, .int .i64 a0_1, .int .i64 a0_2, .int .i64 a0_3, .int .i64 a0_4, .string a0_5]) (t := 41) ?_; intro gb108 hg w27 hbox hb; have BK108 := Aside0.mk (hbox); have GW108 := Aside0.mk ((by rw [hg]; exact (below_size (Sh.hb HB.out)) : w.heap.size ≤ gb108)); have GE108 := Aside0.mk ((by rw [hg]; exact (below_size (Sh.hb HB.out)) : w.heap.size ≤ gb108)); replace HB := Aside0.mk (below_step (Sh.hb HB.out) hb); clear hb hbox hg; have hcz28_0 : w27.cell? ⟨gb108, 0, none⟩ = some (.int .i64 a0_0) := (blk_cell BK108.out 0).trans rfl; have hcz28_1 : w27.cell? ⟨gb108, 1, none⟩ = some (.int .i64 a0_1) := (blk_cell BK108.out 1).trans rfl; have hcz28_2 : w27.cell? ⟨gb108, 2, none⟩ = some (.int .i64 a0_2) := (blk_cell BK108.out 2).trans rfl; have hcz28_3 : w27.cell? ⟨gb108, 3, none⟩ = some (.int .i64 a0_3) := (blk_cell BK108.out 3).trans rfl; have hcz28_4 : w27.cell? ⟨gb108, 4, none⟩ = some (.int .i64 a0_4) := (blk_cell BK108.out 4).trans rfl; have hcz28_5 : w27.cell? ⟨gb108, 5, none⟩ = some (.string a0_5) := (blk_cell BK108.out 5).trans rfl; have hfz28_0 := blk_frozen BK108.out 0; have hfz28_1 := blk_frozen BK108.out 1; have hfz28_2 := blk_frozen BK108.out 2; have hfz28_3 := blk_frozen BK108.out 3; have hfz28_4 := blk_frozen BK108.out 4; have hfz28_5 := blk_frozen BK108.out 5) | ((with_reducible refine gate_callee (f := 73) rfl ?_); refine goesL_ (some 5) rfl rfl Try.func73 (by kernel_rfl) rfl #[.int .i64 a0_1, .int .i64 1, .int .i64 1000000000] rfl Sh.al ?_; (with_reducible refine (impl_in.calls a0_1 1 1000000000 false _ A2.out).mono ?_); rintro e w' ⟨rfl, ⟨nd, rfl⟩⟩; refine ⟨_, rfl, ?_⟩))
    go_ret; exact ⟨by first | rfl | (simp [errW_none, errW_some] <;> rfl) | (simp [*, errW_none, errW_some] <;> rfl), by exact Sh.hs HB.out GE108.out⟩

end Go.Proofs.Ythbdijeikfgjeaa.QFnScans
