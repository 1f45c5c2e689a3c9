/- What is proved here: contracts of functions that the law FnScans reaches, each told as a plain function. Conditions: those of each contract. (Written by a program of ours.) -/
import Derived.Test.YthbdijeikfgjeaaQFnScansx0
import Derived.Test.YthbdijeikfgjeaaQFnScansx5
import Derived.Test.YthbdijeikfgjeaaQFnScansx6
import Derived.Test.YthbdijeikfgjeaaQFnScansx7
import Derived.Test.YthbdijeikfgjeaaQFnScansx8
import Derived.Test.YthbdijeikfgjeaaQFnScansx10
import Derived.Test.YthbdijeikfgjeaaQFnScansx11
namespace Go.Proofs.Ythbdijeikfgjeaa.QFnScans
open Go.RowKit Go.Proofs.YthbdijeikfgjeaaW.PrintWords Go.Proofs.YthbdijeikfgjeaaW.PrintLast Go.Proofs.YthbdijeikfgjeaaW.PrintMore
attribute [local go_sem] max2_int min2_int max_two min_two max_three min_three max_four min_four   -- for this text's walks alone
set_option linter.unusedVariables false
set_option linter.unusedSimpArgs false

/-! ### spec_l06Flash: function 24 -/
def spec_l06Flash.l0 : Nat → Int → List Int → Int → Int → List (S57) → Option ((List (S57)) × Int × Int)
  | 0, _, _, _, _, _ => none
  | k + 1, x5, x1000, x1001, x1002, x382000 => (spec_l01Below.f x1000 x1001 x1002 14).bind fun bt382 => (if x5 < bt382.1 then ((spec_l06Page.f k x1000 bt382.2.1 bt382.2.2).bind fun bt385 => ((spec_PageText.f k bt385.1 bt385.2.1 bt385.2.2.1 bt385.2.2.2.1 bt385.2.2.2.2.1 bt385.2.2.2.2.2.1).bind fun bt393 => ((spec_l01Below.f x1000 bt385.2.2.2.2.2.2.1 bt385.2.2.2.2.2.2.2 4).bind fun bt395 => (if bt393.2 = true then (if 0 ≤ bt395.1 then (if bt395.1 < (x382000.length : Int) then ((spec_NextBlank.f k ((rd_T57 x382000 bt395.1).f0) ((rd_T57 x382000 bt395.1).f1) ((rd_T57 x382000 bt395.1).f2)).bind fun t399 => ((spec_Program.f k x382000 bt395.1 t399 bt393.1).bind fun bt400 => (spec_l06Flash.l0 k (wrap64 (x5 + 1)) x1000 bt395.2.1 bt395.2.2 bt400.1))) else (none)) else (none)) else (spec_l06Flash.l0 k (wrap64 (x5 + 1)) x1000 bt395.2.1 bt395.2.2 x382000))))) else (some (x382000, bt382.2.1, bt382.2.2)))
def spec_l06Flash.f (k : Nat) (s0_0 : List Int) (s0_1 : Int) (s0_2 : Int) : Option ((List (S57)) × Int × Int) := (spec_l01Once.f s0_0 s0_1 s0_2 3).bind fun bt369 => (if bt369.1 = true then ((spec_l05Any.f k s0_0 bt369.2.1 bt369.2.2).bind fun bt372 => (some (bt372.1, bt372.2.1, bt372.2.2))) else ((spec_FlashNew.f k 4).bind fun bt377 => (spec_l06Flash.l0 k 0 s0_0 bt369.2.1 bt369.2.2 bt377.1)))
theorem spec_l06Flash.mono_l : ∀ k, (∀ y0 y1 y2 y3 y4, LeO (spec_l06Flash.l0 k y0 y1 y2 y3 y4) (spec_l06Flash.l0 (k + 1) y0 y1 y2 y3 y4))
  | 0 => fun _ _ _ _ _ r h => by simp [spec_l06Flash.l0] at h
  | k + 1 => by
    have ih0 := spec_l06Flash.mono_l k
    · intro y0 y1 y2 y3 y4; unfold spec_l06Flash.l0
      repeat' first | (with_reducible exact ih0 _ _ _ _ _) | (with_reducible exact spec_FlashNew.mono _ _) | (with_reducible exact spec_NextBlank.mono _ _ _ _) | (with_reducible exact spec_PageText.mono _ _ _ _ _ _ _) | (with_reducible exact spec_Program.mono _ _ _ _ _) | (with_reducible exact spec_l05Any.mono _ _ _ _) | (with_reducible exact spec_l06Page.mono _ _ _ _) | (with_reducible exact LeO.refl _) | (with_reducible exact LeO.none _) | (with_reducible refine LeO.ite ?_ ?_) | (with_reducible refine LeO.bind ?_ (fun _ => ?_))
theorem spec_l06Flash.mono : ∀ a0 a1 a2 k, LeO (spec_l06Flash.f k a0 a1 a2) (spec_l06Flash.f (k + 1) a0 a1 a2) := by
  intro a0 a1 a2 k; have ih0 := spec_l06Flash.mono_l k; unfold spec_l06Flash.f
  repeat' first | (with_reducible exact ih0 _ _ _ _ _) | (with_reducible exact spec_FlashNew.mono _ _) | (with_reducible exact spec_NextBlank.mono _ _ _ _) | (with_reducible exact spec_PageText.mono _ _ _ _ _ _ _) | (with_reducible exact spec_Program.mono _ _ _ _ _) | (with_reducible exact spec_l05Any.mono _ _ _ _) | (with_reducible exact spec_l06Page.mono _ _ _ _) | (with_reducible exact LeO.refl _) | (with_reducible exact LeO.none _) | (with_reducible refine LeO.ite ?_ ?_) | (with_reducible refine LeO.bind ?_ (fun _ => ?_))
def spec_l06Flash.T10 : Bool × List (List Nat × List Nat) := (true, [([], []), ([], []), ([], []), ([2], [2]), ([], []), ([3, 4], [3, 4]), ([5], [5]), ([6], [6]), ([], []), ([0, 1, 7, 8, 7], [0, 1, 7, 8]), ([9], [9]), ([10], [10]), ([10], [10]), ([11, 9, 0, 1, 2, 3, 4, 5, 6, 7, 8, 9, 10, 11], [11])])
def spec_l06Flash.B10 : List Nat := [0, 0, 0, 4, 0, 28, 60, 124, 0, 511, 1023, 2047, 2047, 4095]
theorem spec_l06Flash.tab10 : rtab .any (opsOf Try.f24 10) = spec_l06Flash.T10 := by kernel_rfl
theorem spec_l06Flash.bits10 : waitsOk spec_l06Flash.T10.2 spec_l06Flash.B10 = true := by kernel_rfl
set_option maxHeartbeats 4000000 in
set_option maxRecDepth 1000000 in
theorem spec_l06Flash.calls (k : Nat) (g : Nat) (s0_0 : List Int) (s0_1 : Int) (s0_2 : Int) (r1 : List (S57)) (r2 : Int) (r3 : Int) (w0 w : World) (hI : IsS86 w0 w g s0_0 s0_1 s0_2) (hB : Below w0.heap.size w0 w) (h : spec_l06Flash.f k s0_0 s0_1 s0_2 = some (r1, r2, r3)) :
    Calls Try.prog 24 #[.pointer (some ⟨g, 0, none⟩)] w fun e w' => ∃ v0_ : Value, e = .returned (.agg #[v0_]) ∧ Kd.N k57 57 w' w.heap.size (fun k_ => (w.heap.size ≤ k_)) v0_ r1 ∧ IsS86 w0 w' g s0_0 r2 r3 ∧ Below w0.heap.size w0 w' ∧ KeepBut w w' g none := by
  have hu29 := Try.underlying29; have hu57 := Try.underlying57; have hu59 := Try.underlying59; have HI := Aside0.mk hI; have HB := Aside0.mk hB; clear hI hB; rw [spec_l06Flash.f] at h; obtain ⟨⟨o, i1, j1⟩, e1, h⟩ := Option.bind_eq_some_iff.mp h
  try dsimp only at h
  have E1 := Aside0.mk e1; clear e1; have HH := Aside0.mk h; clear h
  go_enter Try.func24, Try.ntmps24
  go_upto_if 10 with (first | ((with_reducible refine gate_dst (N := 2) rfl ?_); refine Sh.bx (N := 2) (cs := #[.slice none 0 0]) (t := 29) ?_; intro ga hg w42 hbox hb; have F := Aside0.mk (Ft.make HI.out HB.out hg hbox hb); clear hg hbox hb HI HB) | ((with_reducible refine gate_callee (f := 39) rfl ?_); (with_reducible refine gate_dst (N := 10) rfl ?_); refine goesL_ (some 10) rfl rfl Try.func39 (by kernel_rfl) rfl #[.pointer (some ⟨g, 0, none⟩), .int .i64 3] rfl Sh.al ?_; (with_reducible refine (spec_l01Once.calls g s0_0 s0_1 s0_2 3 _ i1 j1 w0 _ F.out.I F.out.B E1.out).mono ?_); rintro e w43 ⟨rfl, hi, hb, hk⟩; refine ⟨_, rfl, ?_⟩; have F_ := Aside0.mk (F.out.drawn hi hb hk); clear F hi hb hk; have F := F_; clear F_))
  cases o with
  | true =>
    have H := HH.out; clear HH
    simp only [if_true] at H
    obtain ⟨⟨y, i2, j2⟩, e2, H⟩ := Option.bind_eq_some_iff.mp H
    try dsimp only at H
    have E2 := Aside0.mk e2; clear e2
    simp only [Option.some.injEq, Prod.mk.injEq] at H
    obtain ⟨rfl, rfl, rfl⟩ := H; go_wp2_with (first | ((with_reducible refine gate_callee (f := 40) rfl ?_); (with_reducible refine gate_dst (N := 12) rfl ?_); refine goesL_ (some 12) rfl rfl Try.func40 (by kernel_rfl) rfl #[.pointer (some ⟨g, 0, none⟩)] rfl Sh.al ?_; (with_reducible refine (spec_l05Any.calls k g s0_0 i1 j1 y i2 j2 w0 _ F.out.I F.out.B E2.out).mono ?_); rintro e w44 ⟨v_, rfl, hS, hi, hb, hk⟩; refine ⟨_, rfl, ?_⟩; obtain ⟨A, c, e_⟩ := Kd.N_slice hS; subst e_; have G := Aside0.mk (F.out.drawn hi hb hk); have D := Aside0.mk (F.out.done G.out hS); clear F hS hi hb hk; have ca := (blk_cell G.out.R 0).trans rfl; have fa := blk_frozen G.out.R 0))
    refine bodyPost_ret (results_cell_row rfl _ _ ga 29 #[.slice A y.length c] (0, 0) _ rfl (G.out.res _) Try.underlying29 rfl (by kernel_rfl)) rfl ?_
    exact ⟨_, rfl, D.out⟩
  | false =>
    have H := HH.out; clear HH
    simp only [Bool.false_eq_true, if_false] at H
    obtain ⟨⟨y1, z1⟩, e2, H⟩ := Option.bind_eq_some_iff.mp H
    try dsimp only at H
    have E2 := Aside0.mk e2; clear e2; have HH := Aside0.mk H; clear H; go_wp2_with (first | ((with_reducible refine gate_callee (f := 41) rfl ?_); (with_reducible refine gate_dst (N := 14) rfl ?_); refine goesL_ (some 14) rfl rfl Try.func41 (by kernel_rfl) rfl #[.int .i64 4] rfl Sh.al ?_; (with_reducible refine (spec_FlashNew.calls k 4 y1 z1 _ E2.out).mono ?_); rintro e w45 ⟨v_, rfl, hS, hb⟩; refine ⟨_, rfl, ?_⟩; obtain ⟨A1, c1, e_⟩ := Kd.S_slice hS; subst e_; have SR := Aside0.mk (F.out.fresh hS); have F_ := Aside0.mk (F.out.below hb); clear F hS hb; have F := F_; clear F_) | ((with_reducible refine gate_dst (N := 3) rfl ?_); refine Sh.bx (N := 3) (cs := #[.slice none 0 0]) (t := 29) ?_; intro gb hg w46 hbox hb; have SR_ := Aside0.mk (row_open hg hb SR.out); have F_ := Aside0.mk (F.out.open hg hbox hb); clear F hg hbox hb; have F := F_; clear F_; clear SR; have SR := SR_; clear SR_; have cv := F.out.cv; have fz := blk_frozen F.out.V 0) | ((with_reducible refine gate_store (t := 29) (p := 3) rfl ?_); refine store_event (t := 29) (p := 3) (v := ?vo_w47) (w1 := (w46.setCell ⟨gb, 0, none⟩ (.slice A1 y1.length c1))) ?hg ?ho ?hn ?hr ?_; (case ho => rfl); (case hg => rfl); (case hn => rfl); (case hr => first | (go_simp; done) | (go_simp; rfl)); intro w47 hw; have F_ := Aside0.mk (show Fl w0 w g s0_0 _ _ ga gb A1 y1.length c1 _ w47 from by rw [hw]; exact F.out.put_S SR.out); clear F SR hw cv fz; have F := F_; clear F_; have cv := F.out.f.cv))
    go_loopg [5] k (fun kq v5 w' => ∃ (x5 i j : Int) (xs : List S57) (A : Option Addr) (c : Nat), v5 = .int .i64 x5 ∧ Aside0 (spec_l06Flash.l0 kq x5 s0_0 i j xs = some (r1, r2, r3)) ∧ Aside0 (Fl w0 w g s0_0 i j ga gb A xs.length c xs w'))
    case atStart => exact ⟨0, i1, j1, y1, A1, c1, rfl, HH, F⟩
    case round =>
      clear HH F cv; obtain ⟨x5, i, j, xs, A, c, rfl, HA, F⟩ := hrel
      cases gk with
      | zero => exact absurd HA.out (by simp [spec_l06Flash.l0])
      | succ k1 =>
        have H := HA.out; clear HA; rw [spec_l06Flash.l0] at H; obtain ⟨⟨t2, i2, j2⟩, e3, H⟩ := Option.bind_eq_some_iff.mp H
        try dsimp only at H
        have E3 := Aside0.mk e3; clear e3; have cv := F.out.f.cv
        by_cases c1 : x5 < t2
        · rw [if_pos c1] at H; obtain ⟨⟨p1_, p2_, p3_, p4_, p5_, p6_, i3, j3⟩, e4, H⟩ := Option.bind_eq_some_iff.mp H
          try dsimp only at H
          have E4 := Aside0.mk e4; clear e4; obtain ⟨⟨tx, ok⟩, e5, H⟩ := Option.bind_eq_some_iff.mp H
          try dsimp only at H
          have E5 := Aside0.mk e5; clear e5; obtain ⟨⟨t3, i4, j4⟩, e6, H⟩ := Option.bind_eq_some_iff.mp H
          try dsimp only at H
          have E6 := Aside0.mk e6; clear e6; have HH := Aside0.mk H; clear H; have c1b := decide_eq_true c1; clear c1
          go_upto_if 31 with (first | ((with_reducible refine gate_callee (f := 42) rfl ?_); (with_reducible refine gate_dst (N := 19) rfl ?_); refine goesL_ (some 19) rfl rfl Try.func42 (by kernel_rfl) rfl #[.pointer (some ⟨g, 0, none⟩), .int .i64 14] rfl Sh.al ?_; (with_reducible refine (spec_l01Below.calls g s0_0 i j 14 t2 i2 j2 w0 _ F.out.f.I F.out.f.B E3.out).mono ?_); rintro e w48 ⟨rfl, hi, hb, hk⟩; refine ⟨_, rfl, ?_⟩; have F_ := Aside0.mk (F.out.drawn hi hb hk); clear F hi hb hk cv; have F := F_; clear F_; have cv := F.out.f.cv) | ((with_reducible refine gate_callee (f := 43) rfl ?_); (with_reducible refine gate_dst (N := 25) rfl ?_); refine goesL_ (some 25) rfl rfl Try.func43 (by kernel_rfl) rfl #[.pointer (some ⟨g, 0, none⟩)] rfl Sh.al ?_; (with_reducible refine (spec_l06Page.calls k1 g s0_0 i2 j2 p1_ p2_ p3_ p4_ p5_ p6_ i3 j3 w0 _ F.out.f.I F.out.f.B E4.out).mono ?_); rintro e w49 ⟨rfl, hi, hb, hk⟩; refine ⟨_, rfl, ?_⟩; have F_ := Aside0.mk (F.out.drawn hi hb hk); clear F hi hb hk cv; have F := F_; clear F_; have cv := F.out.f.cv) | ((with_reducible refine gate_callee (f := 32) rfl ?_); (with_reducible refine gate_dst (N := 26) rfl ?_); refine goesL_ (some 26) rfl rfl Try.func32 (by kernel_rfl) rfl #[.agg #[.int .i64 p1_, .int .i64 p2_, .int .i64 p3_, .int .i64 p4_, .int .i64 p5_, .string p6_]] rfl Sh.al ?_; (with_reducible refine (spec_PageText.calls k1 p1_ p2_ p3_ p4_ p5_ p6_ tx ok _ E5.out).mono ?_); rintro e w50 ⟨rfl, hb⟩; refine ⟨_, rfl, ?_⟩; have F_ := Aside0.mk (F.out.below hb); clear F hb cv; have F := F_; clear F_; have cv := F.out.f.cv) | ((with_reducible refine gate_callee (f := 42) rfl ?_); (with_reducible refine gate_dst (N := 30) rfl ?_); refine goesL_ (some 30) rfl rfl Try.func42 (by kernel_rfl) rfl #[.pointer (some ⟨g, 0, none⟩), .int .i64 4] rfl Sh.al ?_; (with_reducible refine (spec_l01Below.calls g s0_0 i3 j3 4 t3 i4 j4 w0 _ F.out.f.I F.out.f.B E6.out).mono ?_); rintro e w51 ⟨rfl, hi, hb, hk⟩; refine ⟨_, rfl, ?_⟩; have F_ := Aside0.mk (F.out.drawn hi hb hk); clear F hi hb hk cv; have F := F_; clear F_; have cv := F.out.f.cv))
          clear c1b
          cases ok with
          | false =>
            have H := HH.out; clear HH
            simp only [Bool.false_eq_true, if_false] at H
            have HH := Aside0.mk H; clear H; go_wp2_with (fail)
            go_roundg k1
            case measure => omega
            case rel => exact ⟨wrap64 (x5 + 1), i4, j4, xs, A, c, by go_num, HH, F⟩
          | true =>
            have H := HH.out; clear HH
            simp only [if_true] at H
            by_cases p0 : 0 ≤ t3
            rotate_left
            · rw [if_neg p0] at H; cases H
            rw [if_pos p0] at H
            by_cases p1 : t3 < (xs.length : Int)
            rotate_left
            · rw [if_neg p1] at H; cases H
            rw [if_pos p1] at H; obtain ⟨t5, e7, H⟩ := Option.bind_eq_some_iff.mp H
            try dsimp only at H
            have E7 := Aside0.mk e7; clear e7; obtain ⟨⟨y, ok⟩, e8, H⟩ := Option.bind_eq_some_iff.mp H
            try dsimp only at H
            have E8 := Aside0.mk e8; clear e8; have HH := Aside0.mk H; clear H; go_wp2_with (fail); clear cv; have F_ := Aside0.mk F.out.drew; clear F; have F := F_; clear F_; obtain ⟨go, A2, c2, ea_, Q, fzo, hl2, hC2, hw2⟩ := F.out.at_ p0 p1; subst ea_; have HC2 := Aside0.mk hl2; have HV := Aside0.mk hC2; have HW := Aside0.mk hw2; have FZ := Aside0.mk fzo; clear hl2 hC2 hw2 fzo; have P0 := Aside0.mk p0; have P1 := Aside0.mk p1; replace p0 := eq_true p0; replace p1 := eq_true p1
            refine start_ (n := 14) (S := Fq gb go xs.length c xs t3 A2 c2) (ds := [13]) #[false, false, false, false, false, false, false, false, false, false, false, false, false, false] (by kernel_rfl) rfl rfl Q (fun hHeld => ?_); refine with_tabW spec_l06Flash.tab10 spec_l06Flash.bits10 (fun HT_ HW_ => ?_)
            clear Q
            generalize w51.drew = w52 at F HV hHeld ⊢
            refine Sh.py 1 34 HT_ ?_
            refine Sh.py 2 35 HT_ ?_
            refine Sh.py 4 37 HT_ ?_
            refine Sh.py 8 41 HT_ ?_
            refine Sh.ty 0 33 HT_ HW_ hHeld ?_ (hv := by rintro w' ⟨s0, s1, s2, s3⟩; go_simp; with_reducible rfl)
            refine Sh.ty 3 36 HT_ HW_ hHeld ?_ (hv := by rintro w' ⟨s0, s1, s2, s3⟩; go_simp; with_reducible rfl)
            refine Sh.py 5 38 HT_ ?_
            refine Sh.ty 6 39 HT_ HW_ hHeld ?_ (hv := by rintro w' ⟨s0, s1, s2, s3⟩; go_simp; with_reducible rfl)
            refine one_ (i := 7) (N := some 40) #[true, true, true, true, true, true, true, true, true, false, false, false, false, false] rfl rfl (one_of HT_.out (by kernel_rfl)) (by decide) (fun K hK => ?_)
            refine goes_ Try.func45 (by kernel_rfl) rfl #[.agg #[.bool (rd_T57 xs t3).f0, .int .i64 (rd_T57 xs t3).f1, .slice A2 (rd_T57 xs t3).f2.length c2]] (by rfl) rfl rfl Sh.al ?_
            with_reducible refine (spec_NextBlank.calls k1 (rd_T57 xs t3).f0 (rd_T57 xs t3).f1 A2 c2 (rd_T57 xs t3).f2 t5 _ HV.out HC2.out E7.out).mono ?_
            rintro e w53 ⟨rfl, hb⟩; refine ⟨_, rfl, ?_⟩; have Q_ := hHeld.below hb; have F_ := Aside0.mk (F.out.below hb); clear F hb HV; have F := F_; clear F_; refine hK.out _ _ (Q_) (fun hHeld => ?_); clear hK K; refine norm_ (a' := ?_) ?_ ?_; rotate_left
            · show Act.put _ (some 40) _ = _; simp only [Act.put, List.setIfInBounds_toArray, List.set_cons_zero, List.set_cons_succ, i64_w, i32_w]; rfl
            refine one_ (i := 9) (N := some 42) #[true, true, true, true, true, true, true, true, true, true, false, false, false, false] rfl rfl (one_of HT_.out (by kernel_rfl)) (by decide) (fun K hK => ?_)
            refine goes_ Try.func44 (by kernel_rfl) rfl #[.agg #[.slice (some ⟨go, 0, none⟩) xs.length c], .int .i64 t3, .int .i64 t5, .string tx] (by rfl) rfl rfl Sh.al ?_
            with_reducible refine (spec_Program.calls k1 _ c xs t3 t5 tx y ok _ (Kd.S_reads' F.out.S).2.2 (Kd.S_reads' F.out.S).2.1 E8.out).mono ?_
            rintro e w54 ⟨v_, rfl, hS, hb⟩; refine ⟨_, rfl, ?_⟩; have Q_ := hHeld.below hb; obtain ⟨A1, c1, e_⟩ := Kd.S_slice hS; subst e_; have SR := Aside0.mk (F.out.f.fresh hb.size hS); clear hS; have F_ := Aside0.mk (F.out.below hb); clear F hb; have F := F_; clear F_; have cv := F.out.f.cv; have fz := blk_frozen F.out.f.V 0; refine hK.out _ _ (Q_) (fun hHeld => ?_); clear hK K; refine norm_ (a' := ?_) ?_ ?_; rotate_left
            · show Act.put _ (some 42) _ = _; simp only [Act.put, List.setIfInBounds_toArray, List.set_cons_zero, List.set_cons_succ, i64_w, i32_w]; rfl
            refine Sh.py 10 32 HT_ ?_
            refine Sh.py 11 43 HT_ ?_
            refine Sh.py 12 44 HT_ ?_
            refine last_ (i := 13) (N := none) #[true, true, true, true, true, true, true, true, true, true, true, true, true, true] rfl rfl (one_of HT_.out (by kernel_rfl)) (by decide) (fun K hK => ?_); refine skip_ (w1 := ?_) (by rfl) rfl ?_ ?_; rotate_left
            · go_simp; rfl
            refine hK.out _ _ ?_; clear hK K; refine done_ (done_of HT_.out (by kernel_rfl)) ?_
            try go_wp2
            go_roundg k1
            case measure => omega
            case rel => exact ⟨wrap64 (x5 + 1), i4, j4, y, A1, c1, by go_num, HH, ⟨F.out.f.put_S SR.out⟩⟩
        · rw [if_neg c1] at H
          simp only [Option.some.injEq, Prod.mk.injEq] at H
          obtain ⟨rfl, rfl, rfl⟩ := H; have c1b := decide_eq_false c1; clear c1
          go_upto_if 20 with (first | ((with_reducible refine gate_callee (f := 42) rfl ?_); (with_reducible refine gate_dst (N := 19) rfl ?_); refine goesL_ (some 19) rfl rfl Try.func42 (by kernel_rfl) rfl #[.pointer (some ⟨g, 0, none⟩), .int .i64 14] rfl Sh.al ?_; (with_reducible refine (spec_l01Below.calls g s0_0 i j 14 t2 _ _ w0 _ F.out.f.I F.out.f.B E3.out).mono ?_); rintro e w55 ⟨rfl, hi, hb, hk⟩; refine ⟨_, rfl, ?_⟩; have F_ := Aside0.mk (F.out.drawn hi hb hk); clear F hi hb hk cv; have F := F_; clear F_; have cv := F.out.f.cv))
          have ca := (blk_cell F.out.f.R 0).trans rfl; have fa := blk_frozen F.out.f.R 0; go_wp2_with (fail)
          refine bodyPost_ret (results_cell_row rfl _ _ ga 29 #[.slice A xs.length c] (0, 0) _ rfl (F.out.f.res _) Try.underlying29 rfl (by kernel_rfl)) rfl ?_
          exact ⟨_, rfl, F.out.toN.done⟩

/-! ### spec_l01New: function 25 -/
def spec_l01New.l0 : Nat → List Int → Int → Int → Option (List Int × Int × Int)
  | 0, _, _, _ => none
  | k + 1, x0, x3, x4 => if x4 < (x0.length : Int) then (if x4 < 4000 then (if 0 ≤ x4 then (spec_l01New.l0 k x0 (Go.bits .and .i64 (wrap64 ((wrap64 ((wrap64 (x3 * 131)) + (wrap64 (rd x0 x4)))) + 7)) 1073741823) (wrap64 (x4 + 1))) else (none)) else (some (x0, 0, x3))) else (some (x0, 0, x3))
def spec_l01New.f (k : Nat) (l0 : List Int) : Option (List Int × Int × Int) := spec_l01New.l0 k l0 (wrap64 (36501 + (l0.length : Int))) 0
theorem spec_l01New.mono_l : ∀ k, (∀ y0 y1 y2, LeO (spec_l01New.l0 k y0 y1 y2) (spec_l01New.l0 (k + 1) y0 y1 y2))
  | 0 => fun _ _ _ r h => by simp [spec_l01New.l0] at h
  | k + 1 => by
    have ih0 := spec_l01New.mono_l k
    · intro y0 y1 y2; unfold spec_l01New.l0
      repeat' first | (with_reducible exact ih0 _ _ _) | (with_reducible exact LeO.refl _) | (with_reducible exact LeO.none _) | (with_reducible refine LeO.ite ?_ ?_) | (with_reducible refine LeO.bind ?_ (fun _ => ?_))
theorem spec_l01New.mono : ∀ a0 k, LeO (spec_l01New.f k a0) (spec_l01New.f (k + 1) a0) := by
  intro a0 k; have ih0 := spec_l01New.mono_l k; unfold spec_l01New.f
  repeat' first | (with_reducible exact ih0 _ _ _) | (with_reducible exact LeO.refl _) | (with_reducible exact LeO.none _) | (with_reducible refine LeO.ite ?_ ?_) | (with_reducible refine LeO.bind ?_ (fun _ => ?_))
set_option maxHeartbeats 8000000 in
set_option maxRecDepth 100000 in
theorem spec_l01New.calls (k : Nat) (A0 : Option Addr) (c0 : Nat) (l0 : List Int) (r1 : List Int) (r2 : Int) (r3 : Int) (w0 w : World) (hB : Below w0.heap.size w0 w) (hr0 : Kd.C (Kd.int .u8) w0 A0 l0.length l0) (hc0 : l0.length ≤ c0) (h : spec_l01New.f k l0 = some (r1, r2, r3)) :
    Calls Try.prog 25 #[.slice A0 l0.length c0] w fun e w' => ∃ g_ : Nat, e = .returned (.pointer (some ⟨g_, 0, none⟩)) ∧ IsS86 w0 w' g_ r1 r2 r3 ∧ Below w0.heap.size w0 w' ∧ Below w.heap.size w w' := by
  have hu86 := Try.underlying86; have HR0 := Aside0.mk hr0; have HC0 := Aside0.mk hc0; clear hr0 hc0; have HBW := Aside0.mk (Below.refl w.heap.size w); have HW0 := Aside0.mk hB.size; have HB := Aside0.mk hB; clear hB; have H : (spec_l01New.l0 k l0 (wrap64 (36501 + (l0.length : Int))) 0) = some (r1, r2, r3) := h; clear h; have H' := Aside0.mk H; clear H
  go_enter Try.func25, Try.ntmps25
  go_wp2
  go_loopg [3, 4] k (fun kq v3 v4 w' => ∃ (x3_1 : Int) (x4_1 : Int), v3 = .int .i64 x3_1 ∧ v4 = .int .i64 x4_1 ∧ Aside0 (spec_l01New.l0 kq l0 x3_1 x4_1 = some (r1, r2, r3)) ∧ Aside0 (kq ≤ k) ∧ Aside0 (Below w.heap.size w w') ∧ Aside0 (Below w0.heap.size w0 w'))
  case atStart => exact ⟨(wrap64 (36501 + (l0.length : Int))), (0), (by first | rfl | (simp; done) | (simp [*]; done)), (by first | rfl | (simp; done) | (simp [*]; done)), H', ⟨Nat.le_refl _⟩, ⟨by exact Sh.hb HBW.out⟩, ⟨by exact Sh.hb HB.out⟩⟩
  case round =>
    clear H'; obtain ⟨x3_1, x4_1, rfl, rfl, HA, HK1, HBW, HB⟩ := hrel
    cases gk with
    | zero => exact absurd HA.out (by simp [spec_l01New.l0])
    | succ k1 =>
      have H := HA.out; clear HA
      simp only [spec_l01New.l0] at H
      by_cases c2 : x4_1 < (l0.length : Int)
      · rw [if_pos c2] at H; have c2b0 : decide (x4_1 < (l0.length : Int)) = true := decide_eq_true c2; clear c2
        by_cases c3 : x4_1 < 4000
        · rw [if_pos c3] at H; have c3b0 : decide (x4_1 < 4000) = true := decide_eq_true c3; clear c3
          by_cases c4 : 0 ≤ x4_1
          · rw [if_pos c4] at H; have c4b0 : decide (0 ≤ x4_1) = true := decide_eq_true c4; clear c4; have H' := Aside0.mk H; clear H; have p273 : 0 ≤ (x4_1 : Int) := of_decide_eq_true Sh.as; have q273 : x4_1 < (l0.length : Int) := of_decide_eq_true Sh.as; obtain ⟨ad273, e273, hx273_0⟩ := Kd.at_int HR0.out x4_1 p273 q273; cases e273; replace hx273_0 := pw_cell_below HB.out hx273_0; replace p273 := eq_true p273; replace q273 := eq_true q273; go_wp2
            go_roundg k1
            case measure => have := HK1.out; omega
            case rel => exact ⟨(Go.bits .and .i64 (wrap64 ((wrap64 ((wrap64 (x3_1 * 131)) + (wrap64 (rd l0 x4_1)))) + 7)) 1073741823), (wrap64 (x4_1 + 1)), (by first | rfl | (simp; done) | (simp [*]; done)), (by first | rfl | (simp; done) | (simp [*]; done)), H', ⟨by have := HK1.out; omega⟩, ⟨by exact Sh.hb HBW.out⟩, ⟨by exact Sh.hb HB.out⟩⟩
          · rw [if_neg c4] at H; exact absurd H (by simp)
        · rw [if_neg c3] at H; have c3b0 : decide (x4_1 < 4000) = false := decide_eq_false c3; clear c3
          simp only [Option.some.injEq, Prod.mk.injEq] at H
          obtain ⟨rfl, rfl, rfl⟩ := H; go_wp2_with (first | ((with_reducible refine gate_dst (N := 31) rfl ?_); refine Sh.bx (N := 31) (cs := #[.slice A0 l0.length c0, .int .i64 0, .int .i64 x3_1]) (t := 86) ?_; intro gb274 hg w5 hbox hb; replace HB := Aside0.mk (below_step (Sh.hb HB.out) hb); have BK274 := Aside0.mk (hbox); have GW274 := Aside0.mk ((by rw [hg]; exact (below_size (Sh.hb HBW.out)) : w.heap.size ≤ gb274)); have GE274 := Aside0.mk ((Nat.le_trans HW0.out (by rw [hg]; exact (below_size (Sh.hb HBW.out)) : w.heap.size ≤ gb274) : w0.heap.size ≤ gb274)); replace HBW := Aside0.mk (below_step HBW.out hb); clear hb hbox hg)); go_ret; exact ⟨_, rfl, (show IsS86 w0 _ gb274 l0 0 x3_1 from ⟨_, _, by exact Sh.bk BK274.out, GE274.out, HR0.out⟩), by exact Sh.hs HB.out GE274.out, by exact Sh.hs HBW.out GW274.out⟩
      · rw [if_neg c2] at H; have c2b0 : decide (x4_1 < (l0.length : Int)) = false := decide_eq_false c2; clear c2
        simp only [Option.some.injEq, Prod.mk.injEq] at H
        obtain ⟨rfl, rfl, rfl⟩ := H; go_wp2_with (first | ((with_reducible refine gate_dst (N := 31) rfl ?_); refine Sh.bx (N := 31) (cs := #[.slice A0 l0.length c0, .int .i64 0, .int .i64 x3_1]) (t := 86) ?_; intro gb275 hg w6 hbox hb; replace HB := Aside0.mk (below_step (Sh.hb HB.out) hb); have BK275 := Aside0.mk (hbox); have GW275 := Aside0.mk ((by rw [hg]; exact (below_size (Sh.hb HBW.out)) : w.heap.size ≤ gb275)); have GE275 := Aside0.mk ((Nat.le_trans HW0.out (by rw [hg]; exact (below_size (Sh.hb HBW.out)) : w.heap.size ≤ gb275) : w0.heap.size ≤ gb275)); replace HBW := Aside0.mk (below_step HBW.out hb); clear hb hbox hg)); go_ret; exact ⟨_, rfl, (show IsS86 w0 _ gb275 l0 0 x3_1 from ⟨_, _, by exact Sh.bk BK275.out, GE275.out, HR0.out⟩), by exact Sh.hs HB.out GE275.out, by exact Sh.hs HBW.out GW275.out⟩

/-! ### spec_DrawScanAll: function 12 -/
def spec_DrawScanAll.f (k : Nat) (l0 : List Int) : Option ((List (S57))) := (spec_l01New.f k l0).bind fun bt277 => ((spec_l06Flash.f k bt277.1 bt277.2.1 bt277.2.2).bind fun bt281 => (some bt281.1))
theorem spec_DrawScanAll.mono : ∀ a0 k, LeO (spec_DrawScanAll.f k a0) (spec_DrawScanAll.f (k + 1) a0) := by
  intro a0 k; unfold spec_DrawScanAll.f
  repeat' first | (with_reducible exact spec_l01New.mono _ _) | (with_reducible exact spec_l06Flash.mono _ _ _ _) | (with_reducible exact LeO.refl _) | (with_reducible exact LeO.none _) | (with_reducible refine LeO.ite ?_ ?_) | (with_reducible refine LeO.bind ?_ (fun _ => ?_))
set_option maxHeartbeats 8000000 in
set_option maxRecDepth 100000 in
theorem spec_DrawScanAll.calls (k : Nat) (A0 : Option Addr) (c0 : Nat) (l0 : List Int) (r : List (S57)) (w : World) (hr0 : Kd.C (Kd.int .u8) w A0 l0.length l0) (hc0 : l0.length ≤ c0) (h : spec_DrawScanAll.f k l0 = some r) :
    Calls Try.prog 12 #[.slice A0 l0.length c0] w fun e w' => ∃ v0_ : Value, e = .returned (.agg #[v0_]) ∧ Kd.N k57 57 w' w.heap.size (fun k_ => (w.heap.size ≤ k_)) v0_ r ∧ Below w.heap.size w w' := by
  have hu29 := Try.underlying29; have HR0 := Aside0.mk hr0; have HC0 := Aside0.mk hc0; clear hr0 hc0; have HB := Aside0.mk (Below.refl w.heap.size w); have H : ((spec_l01New.f k l0).bind fun bt277 => ((spec_l06Flash.f k bt277.1 bt277.2.1 bt277.2.2).bind fun bt281 => (some bt281.1))) = some r := h; clear h; replace H := Option.bind_eq_some_iff.mp H; obtain ⟨⟨t277, t278, t279⟩, A20, H⟩ := H; replace H : ((spec_l06Flash.f k t277 t278 t279).bind fun bt281 => (some bt281.1)) = some r := H; have A2 := Aside0.mk A20; clear A20; replace H := Option.bind_eq_some_iff.mp H; obtain ⟨⟨t281, t284, t285⟩, A30, H⟩ := H; replace H : (some t281) = some r := H; have A3 := Aside0.mk A30; clear A30; obtain rfl := Option.some.inj H
  go_enter Try.func12, Try.ntmps12
  go_wp2_with (first | ((with_reducible refine gate_dst (N := 2) rfl ?_); refine Sh.bx (N := 2) (cs := #[.slice none 0 0]) (t := 29) ?_; intro gb276 hg w4 hbox hb; have BK276 := Aside0.mk (hbox); have GW276 := Aside0.mk ((by rw [hg]; exact (below_size (Sh.hb HB.out)) : w.heap.size ≤ gb276)); have GE276 := Aside0.mk ((by rw [hg]; exact (below_size (Sh.hb HB.out)) : w.heap.size ≤ gb276)); replace HB := Aside0.mk (below_step (Sh.hb HB.out) hb); clear hb hbox hg) | ((with_reducible refine gate_callee (f := 25) rfl ?_); refine goesL_ (some 4) rfl rfl Try.func25 (by kernel_rfl) rfl #[.slice A0 l0.length c0] rfl Sh.al ?_; (with_reducible refine (spec_l01New.calls k _ _ l0 t277 t278 t279 w _ ?side1 ?side2 ?side3 A2.out).mono ?_); (case side1 => exact Sh.hs HB.out GE276.out); (case side2 => exact HR0.out); (case side3 => exact HC0.out); rintro e w5 ⟨g280, rfl, hi, hb, hb2⟩; refine ⟨_, rfl, ?_⟩; replace HB := Aside0.mk (hb); have HI280 := Aside0.mk (hi); have NB280_276 := Aside0.mk (IsS86.ne_blk hi (blk_below (g := gb276) (o := .cells #[.slice none 0 0] 29 (0, 0)) (Sh.bk BK276.out) hb2) (by decide)); have NB276_280 := Aside0.mk (Ne.symm (IsS86.ne_blk hi (blk_below (g := gb276) (o := .cells #[.slice none 0 0] 29 (0, 0)) (Sh.bk BK276.out) hb2) (by decide))); replace BK276 := Aside0.mk (blk_below (g := gb276) (o := .cells #[.slice none 0 0] 29 (0, 0)) (Sh.bk BK276.out) hb2); (try clear hb); (try clear hb2); (try clear hk); (try clear hi); (try have hcygb276_0 : _ = some (.slice none 0 0) := (blk_cell BK276.out 0).trans rfl); (try have hcygb276_0 : _ = some (.slice none 0 0) := (blk_cell BK276.out 0).trans rfl); (try have hcygb276_0 : _ = some (.slice none 0 0) := (blk_cell BK276.out 0).trans rfl)) | ((with_reducible refine gate_callee (f := 24) rfl ?_); refine goesL_ (some 5) rfl rfl Try.func24 (by kernel_rfl) rfl #[.pointer (some ⟨g280, 0, none⟩)] rfl Sh.al ?_; (with_reducible refine (spec_l06Flash.calls k g280 t277 t278 t279 t281 t284 t285 w _ ?side1 ?side2 A3.out).mono ?_); (case side1 => exact IsS86.y1 HI280.out NB280_276.out); (case side2 => exact Sh.hs2 HB.out (IsS86.ge HI280.out) GE276.out); rintro e w6 ⟨v282, rfl, ho0, hi, hb, hk⟩; refine ⟨_, rfl, ?_⟩; have HO283 := Aside0.mk (Kd.N_lower (Kd.N_mono (ok' := fun k_ => (w.heap.size ≤ k_) ∧ k_ ≠ gb276 ∧ k_ ≠ g280) ho0 (fun k_ hk_ => ⟨(Nat.le_trans (below_size (Sh.hs2 HB.out (IsS86.ge HI280.out) GE276.out)) hk_), (Kd.freshB (g := gb276) (o := .cells #[.slice none 0 0] 29 (0, 0)) (Sh.bk BK276.out) k_ hk_), (IsS86.fresh (by exact IsS86.y1 HI280.out NB280_276.out) k_ hk_)⟩)) (below_size (Sh.hs2 HB.out (IsS86.ge HI280.out) GE276.out))); replace BK276 := Aside0.mk (KeepBut.blk hk (g' := gb276) (o := .cells #[.slice none 0 0] 29 (0, 0)) (Sh.bk BK276.out) NB276_280.out (by simp)); replace HB := Aside0.mk (hb); replace HI280 := Aside0.mk (hi); (try clear hb); (try clear hb2); (try clear hk); (try clear hi); (try clear ho0); obtain ⟨Ao7, co7, eo7⟩ := Kd.N_slice HO283.out; subst eo7; have hnb8 := NB276_280.out; have hnc8 := NB280_276.out; have hcz9_0 : w6.cell? ⟨gb276, 0, none⟩ = some (.slice none 0 0) := (blk_cell BK276.out 0).trans rfl; have hfz9_0 := blk_frozen BK276.out 0))
  refine bodyPost_ret (results_cell_row rfl _ _ gb276 29 #[.slice Ao7 t281.length co7] (0, 0) _ rfl (by (with_reducible repeat (first | refine blk_drewN ?_ _ | refine blk_drew ?_ | refine blk_alloc ?_ _)); refine blk_put (cs := #[.slice none 0 0]) ?_ 0 _ rfl; exact Sh.bk BK276.out) Try.underlying29 rfl (by kernel_rfl)) rfl ?_
  exact ⟨_, by first | rfl | (simp [errW_none, errW_some] <;> rfl) | (simp [*, errW_none, errW_some] <;> rfl), by (with_reducible repeat (first | apply Kd.N_alloc | apply Kd.N_drewN | apply Kd.N_drew)); exact Kd.N_mono (Kd.N_far (p := ⟨gb276, 0, none⟩) (Kd.N_mono HO283.out (fun k_ hk => (⟨hk, hk.2.1⟩ : _ ∧ k_ ≠ gb276))) (fun _ hk => hk.2) (.slice Ao7 t281.length co7)) (fun _ hk => hk.1.1), by exact Sh.hs2 HB.out (IsS86.ge HI280.out) GE276.out⟩

/-! ### spec_ReadLeaf: function 15 -/
def spec_ReadLeaf.f (l0_0 : List (S57)) (a1 : Int) (a2 : Int) : Option (ByteArray × Bool) := (spec_l01In.f a1 0 (wrap64 ((l0_0.length : Int) - 1))).bind fun t287 => (if t287 = true then (if 0 ≤ a1 then (if a1 < (l0_0.length : Int) then ((spec_l01In.f a2 0 (wrap64 ((((rd_T57 l0_0 a1).f2).length : Int) - 1))).bind fun t289 => (if t289 = true then (if 0 ≤ a2 then (if a2 < (((rd_T57 l0_0 a1).f2).length : Int) then (if ((rd_T59 ((rd_T57 l0_0 a1).f2) a2).f0) = 1 then (some ((rd_T59 ((rd_T57 l0_0 a1).f2) a2).f1, true)) else (some ((⟨#[]⟩ : ByteArray), false))) else (none)) else (none)) else (some ((⟨#[]⟩ : ByteArray), false)))) else (none)) else (none)) else (some ((⟨#[]⟩ : ByteArray), false)))
set_option maxHeartbeats 8000000 in
set_option maxRecDepth 100000 in
theorem spec_ReadLeaf.calls (A0_0 : Option Addr) (c0_0 : Nat) (l0_0 : List (S57)) (a1 : Int) (a2 : Int) (r1 : ByteArray) (r2 : Bool) (w : World) (hr0_0 : Kd.C k57 w A0_0 l0_0.length l0_0) (hc0_0 : l0_0.length ≤ c0_0) (h : spec_ReadLeaf.f l0_0 a1 a2 = some (r1, r2)) :
    Calls Try.prog 15 #[.agg #[.slice A0_0 l0_0.length c0_0], .int .i64 a1, .int .i64 a2] w fun e w' => e = .returned (.tuple #[.string r1, .bool r2]) ∧ Below w.heap.size w w' := by
  have hu29 := Try.underlying29; have HR0_0 := Aside0.mk hr0_0; have HC0_0 := Aside0.mk hc0_0; clear hr0_0 hc0_0; have HB := Aside0.mk (Below.refl w.heap.size w); have H : ((spec_l01In.f a1 0 (wrap64 ((l0_0.length : Int) - 1))).bind fun t287 => (if t287 = true then (if 0 ≤ a1 then (if a1 < (l0_0.length : Int) then ((spec_l01In.f a2 0 (wrap64 ((((rd_T57 l0_0 a1).f2).length : Int) - 1))).bind fun t289 => (if t289 = true then (if 0 ≤ a2 then (if a2 < (((rd_T57 l0_0 a1).f2).length : Int) then (if ((rd_T59 ((rd_T57 l0_0 a1).f2) a2).f0) = 1 then (some ((rd_T59 ((rd_T57 l0_0 a1).f2) a2).f1, true)) else (some ((⟨#[]⟩ : ByteArray), false))) else (none)) else (none)) else (some ((⟨#[]⟩ : ByteArray), false)))) else (none)) else (none)) else (some ((⟨#[]⟩ : ByteArray), false)))) = some (r1, r2) := h; clear h; replace H := Option.bind_eq_some_iff.mp H; obtain ⟨t287, A40, H⟩ := H; replace H : (if t287 = true then (if 0 ≤ a1 then (if a1 < (l0_0.length : Int) then ((spec_l01In.f a2 0 (wrap64 ((((rd_T57 l0_0 a1).f2).length : Int) - 1))).bind fun t289 => (if t289 = true then (if 0 ≤ a2 then (if a2 < (((rd_T57 l0_0 a1).f2).length : Int) then (if ((rd_T59 ((rd_T57 l0_0 a1).f2) a2).f0) = 1 then (some ((rd_T59 ((rd_T57 l0_0 a1).f2) a2).f1, true)) else (some ((⟨#[]⟩ : ByteArray), false))) else (none)) else (none)) else (some ((⟨#[]⟩ : ByteArray), false)))) else (none)) else (none)) else (some ((⟨#[]⟩ : ByteArray), false))) = some (r1, r2) := H; have A4 := Aside0.mk A40; clear A40
  by_cases c5 : t287 = true
  · subst c5
    have H1 : (if 0 ≤ a1 then (if a1 < (l0_0.length : Int) then ((spec_l01In.f a2 0 (wrap64 ((((rd_T57 l0_0 a1).f2).length : Int) - 1))).bind fun t289 => (if t289 = true then (if 0 ≤ a2 then (if a2 < (((rd_T57 l0_0 a1).f2).length : Int) then (if ((rd_T59 ((rd_T57 l0_0 a1).f2) a2).f0) = 1 then (some ((rd_T59 ((rd_T57 l0_0 a1).f2) a2).f1, true)) else (some ((⟨#[]⟩ : ByteArray), false))) else (none)) else (none)) else (some ((⟨#[]⟩ : ByteArray), false)))) else (none)) else (none)) = some (r1, r2) := by rw [if_pos rfl] at H; exact H
    clear H; have H := H1; clear H1
    by_cases c6 : 0 ≤ a1
    · rw [if_pos c6] at H; have c6b0 : decide (0 ≤ a1) = true := decide_eq_true c6; clear c6
      by_cases c7 : a1 < (l0_0.length : Int)
      · rw [if_pos c7] at H; have c7b0 : decide (a1 < (l0_0.length : Int)) = true := decide_eq_true c7; clear c7; replace H := Option.bind_eq_some_iff.mp H; obtain ⟨t289, A80, H⟩ := H; replace H : (if t289 = true then (if 0 ≤ a2 then (if a2 < (((rd_T57 l0_0 a1).f2).length : Int) then (if ((rd_T59 ((rd_T57 l0_0 a1).f2) a2).f0) = 1 then (some ((rd_T59 ((rd_T57 l0_0 a1).f2) a2).f1, true)) else (some ((⟨#[]⟩ : ByteArray), false))) else (none)) else (none)) else (some ((⟨#[]⟩ : ByteArray), false))) = some (r1, r2) := H; have A8 := Aside0.mk A80; clear A80
        by_cases c9 : t289 = true
        · subst c9
          have H1 : (if 0 ≤ a2 then (if a2 < (((rd_T57 l0_0 a1).f2).length : Int) then (if ((rd_T59 ((rd_T57 l0_0 a1).f2) a2).f0) = 1 then (some ((rd_T59 ((rd_T57 l0_0 a1).f2) a2).f1, true)) else (some ((⟨#[]⟩ : ByteArray), false))) else (none)) else (none)) = some (r1, r2) := by rw [if_pos rfl] at H; exact H
          clear H; have H := H1; clear H1
          by_cases c10 : 0 ≤ a2
          · rw [if_pos c10] at H; have c10b0 : decide (0 ≤ a2) = true := decide_eq_true c10; clear c10
            by_cases c11 : a2 < (((rd_T57 l0_0 a1).f2).length : Int)
            · rw [if_pos c11] at H; have c11b0 : decide (a2 < (((rd_T57 l0_0 a1).f2).length : Int)) = true := decide_eq_true c11; clear c11
              by_cases c12 : ((rd_T59 ((rd_T57 l0_0 a1).f2) a2).f0) = 1
              · rw [if_pos c12] at H; have c12b0 : (((rd_T59 ((rd_T57 l0_0 a1).f2) a2).f0) == 1) = true := beq_iff_eq.mpr c12; have c12b1 : (((rd_T59 ((rd_T57 l0_0 a1).f2) a2).f0) != 1) = false := bne_eq_false_iff_eq.mpr c12; clear c12
                simp only [Option.some.injEq, Prod.mk.injEq] at H
                obtain ⟨rfl, rfl⟩ := H
                go_enter Try.func15, Try.ntmps15
                go_wp2_with (first | ((with_reducible refine gate_dst (N := 3) rfl ?_); (try (refine gate_guard (by rfl) ?_; dsimp only)); refine Sh.bx (N := 3) (cs := #[.slice A0_0 l0_0.length c0_0]) (t := 29) ?_; intro gb286 hg w13 hbox hb; have BK286 := Aside0.mk (hbox); have GW286 := Aside0.mk ((by rw [hg]; exact (below_size (Sh.hb HB.out)) : w.heap.size ≤ gb286)); have GE286 := Aside0.mk ((by rw [hg]; exact (below_size (Sh.hb HB.out)) : w.heap.size ≤ gb286)); replace HB := Aside0.mk (below_step (Sh.hb HB.out) hb); clear hb hbox hg; have hcz14_0 : w13.cell? ⟨gb286, 0, none⟩ = some (.slice A0_0 l0_0.length c0_0) := (blk_cell BK286.out 0).trans rfl; have hfz14_0 := blk_frozen BK286.out 0) | ((with_reducible refine gate_callee (f := 29) rfl ?_); refine goesL_ (some 13) rfl rfl Try.func29 (by kernel_rfl) rfl #[.int .i64 a1, .int .i64 0, .int .i64 (wrap64 ((l0_0.length : Int) - 1))] rfl Sh.al ?_; (with_reducible refine (spec_l01In.calls a1 0 (wrap64 ((l0_0.length : Int) - 1)) true _ A4.out).mono ?_); rintro e w' ⟨rfl, ⟨nd, rfl⟩⟩; refine ⟨_, rfl, ?_⟩; have p288 : 0 ≤ (a1 : Int) := of_decide_eq_true Sh.as; have q288 : a1 < (l0_0.length : Int) := of_decide_eq_true Sh.as; obtain ⟨ad288, A288_2, c288_2, e288, hx288_0, hx288_1, hx288_2, hl288_2, hi288_2⟩ := at_T57 HR0_0.out a1 p288 q288; cases e288; replace hx288_0 := (HB.out.cell (World.block_lt_of_cell? w _ hx288_0)).trans hx288_0; replace hx288_1 := (HB.out.cell (World.block_lt_of_cell? w _ hx288_1)).trans hx288_1; replace hx288_2 := (HB.out.cell (World.block_lt_of_cell? w _ hx288_2)).trans hx288_2; have HR288_2 := Aside0.mk hi288_2; have HC288_2 := Aside0.mk hl288_2; clear hi288_2 hl288_2; replace p288 := eq_true p288; replace q288 := eq_true q288) | (go_at_call 29; (with_reducible refine (spec_l01In.calls a2 0 (wrap64 ((((rd_T57 l0_0 a1).f2).length : Int) - 1)) true _ A8.out).mono ?_); rintro e w' ⟨rfl, ⟨nd, rfl⟩⟩; have p290 : 0 ≤ (a1 : Int) := of_decide_eq_true Sh.as; have q290 : a1 < (l0_0.length : Int) := of_decide_eq_true Sh.as; obtain ⟨ad290, A290_2, c290_2, e290, hx290_0, hx290_1, hx290_2, hl290_2, hi290_2⟩ := at_T57 HR0_0.out a1 p290 q290; obtain rfl : ad288 = ad290 := (by injection e290); replace hx290_0 := (HB.out.cell (World.block_lt_of_cell? w _ hx290_0)).trans hx290_0; replace hx290_1 := (HB.out.cell (World.block_lt_of_cell? w _ hx290_1)).trans hx290_1; replace hx290_2 := (HB.out.cell (World.block_lt_of_cell? w _ hx290_2)).trans hx290_2; have HR290_2 := Aside0.mk hi290_2; have HC290_2 := Aside0.mk hl290_2; clear hi290_2 hl290_2; replace p290 := eq_true p290; replace q290 := eq_true q290; have ea_ := Option.some.inj (hx288_2.symm.trans hx290_2); injection ea_ with ea_ en_ ec_; subst ea_; subst ec_; clear en_; have p291 : 0 ≤ (a2 : Int) := of_decide_eq_true Sh.as; have q291 : a2 < (((rd_T57 l0_0 a1).f2).length : Int) := of_decide_eq_true Sh.as; obtain ⟨ad291, e291, hx291_0, hx291_1⟩ := at_T59 HR290_2.out a2 p291 q291; cases e291; replace hx291_0 := (HB.out.cell (World.block_lt_of_cell? w _ hx291_0)).trans hx291_0; replace hx291_1 := (HB.out.cell (World.block_lt_of_cell? w _ hx291_1)).trans hx291_1; replace p291 := eq_true p291; replace q291 := eq_true q291; have p292 : 0 ≤ (a1 : Int) := of_decide_eq_true Sh.as; have q292 : a1 < (l0_0.length : Int) := of_decide_eq_true Sh.as; obtain ⟨ad292, A292_2, c292_2, e292, hx292_0, hx292_1, hx292_2, hl292_2, hi292_2⟩ := at_T57 HR0_0.out a1 p292 q292; obtain rfl : ad288 = ad292 := (by injection e292); replace hx292_0 := (HB.out.cell (World.block_lt_of_cell? w _ hx292_0)).trans hx292_0; replace hx292_1 := (HB.out.cell (World.block_lt_of_cell? w _ hx292_1)).trans hx292_1; replace hx292_2 := (HB.out.cell (World.block_lt_of_cell? w _ hx292_2)).trans hx292_2; have HR292_2 := Aside0.mk hi292_2; have HC292_2 := Aside0.mk hl292_2; clear hi292_2 hl292_2; replace p292 := eq_true p292; replace q292 := eq_true q292; have ea_ := Option.some.inj (hx288_2.symm.trans hx292_2); injection ea_ with ea_ en_ ec_; subst ea_; subst ec_; clear en_; have p293 : 0 ≤ (a2 : Int) := of_decide_eq_true Sh.as; have q293 : a2 < (((rd_T57 l0_0 a1).f2).length : Int) := of_decide_eq_true Sh.as; obtain ⟨ad293, e293, hx293_0, hx293_1⟩ := at_T59 HR292_2.out a2 p293 q293; cases e293; replace hx293_0 := (HB.out.cell (World.block_lt_of_cell? w _ hx293_0)).trans hx293_0; replace hx293_1 := (HB.out.cell (World.block_lt_of_cell? w _ hx293_1)).trans hx293_1; replace p293 := eq_true p293; replace q293 := eq_true q293))
                go_ret2; exact ⟨by first | rfl | (simp [errW_none, errW_some] <;> rfl) | (simp [*, errW_none, errW_some] <;> rfl), by exact Sh.hs HB.out GE286.out⟩
              · rw [if_neg c12] at H; have c12b0 : (((rd_T59 ((rd_T57 l0_0 a1).f2) a2).f0) == 1) = false := beq_eq_false_iff_ne.mpr c12; have c12b1 : (((rd_T59 ((rd_T57 l0_0 a1).f2) a2).f0) != 1) = true := bne_iff_ne.mpr c12
                simp only [Option.some.injEq, Prod.mk.injEq] at H
                obtain ⟨rfl, rfl⟩ := H
                go_enter Try.func15, Try.ntmps15
                go_wp2_with (first | ((with_reducible refine gate_dst (N := 3) rfl ?_); (try (refine gate_guard (by rfl) ?_; dsimp only)); refine Sh.bx (N := 3) (cs := #[.slice A0_0 l0_0.length c0_0]) (t := 29) ?_; intro gb286 hg w15 hbox hb; have BK286 := Aside0.mk (hbox); have GW286 := Aside0.mk ((by rw [hg]; exact (below_size (Sh.hb HB.out)) : w.heap.size ≤ gb286)); have GE286 := Aside0.mk ((by rw [hg]; exact (below_size (Sh.hb HB.out)) : w.heap.size ≤ gb286)); replace HB := Aside0.mk (below_step (Sh.hb HB.out) hb); clear hb hbox hg; have hcz16_0 : w15.cell? ⟨gb286, 0, none⟩ = some (.slice A0_0 l0_0.length c0_0) := (blk_cell BK286.out 0).trans rfl; have hfz16_0 := blk_frozen BK286.out 0) | ((with_reducible refine gate_callee (f := 29) rfl ?_); refine goesL_ (some 13) rfl rfl Try.func29 (by kernel_rfl) rfl #[.int .i64 a1, .int .i64 0, .int .i64 (wrap64 ((l0_0.length : Int) - 1))] rfl Sh.al ?_; (with_reducible refine (spec_l01In.calls a1 0 (wrap64 ((l0_0.length : Int) - 1)) true _ A4.out).mono ?_); rintro e w' ⟨rfl, ⟨nd, rfl⟩⟩; refine ⟨_, rfl, ?_⟩; have p288 : 0 ≤ (a1 : Int) := of_decide_eq_true Sh.as; have q288 : a1 < (l0_0.length : Int) := of_decide_eq_true Sh.as; obtain ⟨ad288, A288_2, c288_2, e288, hx288_0, hx288_1, hx288_2, hl288_2, hi288_2⟩ := at_T57 HR0_0.out a1 p288 q288; cases e288; replace hx288_0 := (HB.out.cell (World.block_lt_of_cell? w _ hx288_0)).trans hx288_0; replace hx288_1 := (HB.out.cell (World.block_lt_of_cell? w _ hx288_1)).trans hx288_1; replace hx288_2 := (HB.out.cell (World.block_lt_of_cell? w _ hx288_2)).trans hx288_2; have HR288_2 := Aside0.mk hi288_2; have HC288_2 := Aside0.mk hl288_2; clear hi288_2 hl288_2; replace p288 := eq_true p288; replace q288 := eq_true q288) | (go_at_call 29; (with_reducible refine (spec_l01In.calls a2 0 (wrap64 ((((rd_T57 l0_0 a1).f2).length : Int) - 1)) true _ A8.out).mono ?_); rintro e w' ⟨rfl, ⟨nd, rfl⟩⟩; have p290 : 0 ≤ (a1 : Int) := of_decide_eq_true Sh.as; have q290 : a1 < (l0_0.length : Int) := of_decide_eq_true Sh.as; obtain ⟨ad290, A290_2, c290_2, e290, hx290_0, hx290_1, hx290_2, hl290_2, hi290_2⟩ := at_T57 HR0_0.out a1 p290 q290; obtain rfl : ad288 = ad290 := (by injection e290); replace hx290_0 := (HB.out.cell (World.block_lt_of_cell? w _ hx290_0)).trans hx290_0; replace hx290_1 := (HB.out.cell (World.block_lt_of_cell? w _ hx290_1)).trans hx290_1; replace hx290_2 := (HB.out.cell (World.block_lt_of_cell? w _ hx290_2)).trans hx290_2; have HR290_2 := Aside0.mk hi290_2; have HC290_2 := Aside0.mk hl290_2; clear hi290_2 hl290_2; replace p290 := eq_true p290; replace q290 := eq_true q290; have ea_ := Option.some.inj (hx288_2.symm.trans hx290_2); injection ea_ with ea_ en_ ec_; subst ea_; subst ec_; clear en_; have p291 : 0 ≤ (a2 : Int) := of_decide_eq_true Sh.as; have q291 : a2 < (((rd_T57 l0_0 a1).f2).length : Int) := of_decide_eq_true Sh.as; obtain ⟨ad291, e291, hx291_0, hx291_1⟩ := at_T59 HR290_2.out a2 p291 q291; cases e291; replace hx291_0 := (HB.out.cell (World.block_lt_of_cell? w _ hx291_0)).trans hx291_0; replace hx291_1 := (HB.out.cell (World.block_lt_of_cell? w _ hx291_1)).trans hx291_1; replace p291 := eq_true p291; replace q291 := eq_true q291))
                go_ret2; exact ⟨by first | rfl | (simp [errW_none, errW_some] <;> rfl) | (simp [*, errW_none, errW_some] <;> rfl), by exact Sh.hs HB.out GE286.out⟩
            · rw [if_neg c11] at H; exact absurd H (by simp)
          · rw [if_neg c10] at H; exact absurd H (by simp)
        · replace c9 := Bool.eq_false_iff.mpr c9; subst c9
          have H1 : (some ((⟨#[]⟩ : ByteArray), false)) = some (r1, r2) := by rw [if_neg (show ¬ (false = true) by decide)] at H; exact H
          clear H; have H := H1; clear H1
          simp only [Option.some.injEq, Prod.mk.injEq] at H
          obtain ⟨rfl, rfl⟩ := H
          go_enter Try.func15, Try.ntmps15
          go_wp2_with (first | ((with_reducible refine gate_dst (N := 3) rfl ?_); (try (refine gate_guard (by rfl) ?_; dsimp only)); refine Sh.bx (N := 3) (cs := #[.slice A0_0 l0_0.length c0_0]) (t := 29) ?_; intro gb286 hg w17 hbox hb; have BK286 := Aside0.mk (hbox); have GW286 := Aside0.mk ((by rw [hg]; exact (below_size (Sh.hb HB.out)) : w.heap.size ≤ gb286)); have GE286 := Aside0.mk ((by rw [hg]; exact (below_size (Sh.hb HB.out)) : w.heap.size ≤ gb286)); replace HB := Aside0.mk (below_step (Sh.hb HB.out) hb); clear hb hbox hg; have hcz18_0 : w17.cell? ⟨gb286, 0, none⟩ = some (.slice A0_0 l0_0.length c0_0) := (blk_cell BK286.out 0).trans rfl; have hfz18_0 := blk_frozen BK286.out 0) | ((with_reducible refine gate_callee (f := 29) rfl ?_); refine goesL_ (some 13) rfl rfl Try.func29 (by kernel_rfl) rfl #[.int .i64 a1, .int .i64 0, .int .i64 (wrap64 ((l0_0.length : Int) - 1))] rfl Sh.al ?_; (with_reducible refine (spec_l01In.calls a1 0 (wrap64 ((l0_0.length : Int) - 1)) true _ A4.out).mono ?_); rintro e w' ⟨rfl, ⟨nd, rfl⟩⟩; refine ⟨_, rfl, ?_⟩; have p288 : 0 ≤ (a1 : Int) := of_decide_eq_true Sh.as; have q288 : a1 < (l0_0.length : Int) := of_decide_eq_true Sh.as; obtain ⟨ad288, A288_2, c288_2, e288, hx288_0, hx288_1, hx288_2, hl288_2, hi288_2⟩ := at_T57 HR0_0.out a1 p288 q288; cases e288; replace hx288_0 := (HB.out.cell (World.block_lt_of_cell? w _ hx288_0)).trans hx288_0; replace hx288_1 := (HB.out.cell (World.block_lt_of_cell? w _ hx288_1)).trans hx288_1; replace hx288_2 := (HB.out.cell (World.block_lt_of_cell? w _ hx288_2)).trans hx288_2; have HR288_2 := Aside0.mk hi288_2; have HC288_2 := Aside0.mk hl288_2; clear hi288_2 hl288_2; replace p288 := eq_true p288; replace q288 := eq_true q288) | (go_at_call 29; (with_reducible refine (spec_l01In.calls a2 0 (wrap64 ((((rd_T57 l0_0 a1).f2).length : Int) - 1)) false _ A8.out).mono ?_); rintro e w' ⟨rfl, ⟨nd, rfl⟩⟩))
          go_ret2; exact ⟨by first | rfl | (simp [errW_none, errW_some] <;> rfl) | (simp [*, errW_none, errW_some] <;> rfl), by exact Sh.hs HB.out GE286.out⟩
      · rw [if_neg c7] at H; exact absurd H (by simp)
    · rw [if_neg c6] at H; exact absurd H (by simp)
  · replace c5 := Bool.eq_false_iff.mpr c5; subst c5
    have H1 : (some ((⟨#[]⟩ : ByteArray), false)) = some (r1, r2) := by rw [if_neg (show ¬ (false = true) by decide)] at H; exact H
    clear H; have H := H1; clear H1
    simp only [Option.some.injEq, Prod.mk.injEq] at H
    obtain ⟨rfl, rfl⟩ := H
    go_enter Try.func15, Try.ntmps15
    go_wp2_with (first | ((with_reducible refine gate_dst (N := 3) rfl ?_); (try (refine gate_guard (by rfl) ?_; dsimp only)); refine Sh.bx (N := 3) (cs := #[.slice A0_0 l0_0.length c0_0]) (t := 29) ?_; intro gb286 hg w19 hbox hb; have BK286 := Aside0.mk (hbox); have GW286 := Aside0.mk ((by rw [hg]; exact (below_size (Sh.hb HB.out)) : w.heap.size ≤ gb286)); have GE286 := Aside0.mk ((by rw [hg]; exact (below_size (Sh.hb HB.out)) : w.heap.size ≤ gb286)); replace HB := Aside0.mk (below_step (Sh.hb HB.out) hb); clear hb hbox hg; have hcz20_0 : w19.cell? ⟨gb286, 0, none⟩ = some (.slice A0_0 l0_0.length c0_0) := (blk_cell BK286.out 0).trans rfl; have hfz20_0 := blk_frozen BK286.out 0) | ((with_reducible refine gate_callee (f := 29) rfl ?_); refine goesL_ (some 13) rfl rfl Try.func29 (by kernel_rfl) rfl #[.int .i64 a1, .int .i64 0, .int .i64 (wrap64 ((l0_0.length : Int) - 1))] rfl Sh.al ?_; (with_reducible refine (spec_l01In.calls a1 0 (wrap64 ((l0_0.length : Int) - 1)) false _ A4.out).mono ?_); rintro e w' ⟨rfl, ⟨nd, rfl⟩⟩; refine ⟨_, rfl, ?_⟩)); go_ret2; exact ⟨by first | rfl | (simp [errW_none, errW_some] <;> rfl) | (simp [*, errW_none, errW_some] <;> rfl), by exact Sh.hs HB.out GE286.out⟩

end Go.Proofs.Ythbdijeikfgjeaa.QFnScans
