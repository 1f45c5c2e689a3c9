/- What is proved here: contracts of functions that the law FnHashers reaches, each told as a plain function. Conditions: those of each contract. (Written by a program of ours.) -/
import Derived.Test.YtbiapgneafgdeaaQFnHashersx0
import Derived.Test.YtbiapgneafgdeaaQFnHashersx1
import Derived.Test.YtbiapgneafgdeaaQFnHashersx2
import Derived.Test.YtbiapgneafgdeaaQFnHashersx4
import Derived.Test.YtbiapgneafgdeaaQFnHashersx5
import Derived.Test.YtbiapgneafgdeaaQFnHashersx6
import Derived.Test.YtbiapgneafgdeaaQFnHashersx8
namespace Go.Proofs.Ytbiapgneafgdeaa.QFnHashers
open Go.RowKit Go.Proofs.YtbiapgneafgdeaaW.PrintWords Go.Proofs.YtbiapgneafgdeaaW.PrintLast Go.Proofs.YtbiapgneafgdeaaW.PrintMore
attribute [local go_sem] max2_int min2_int max_two min_two max_three min_three max_four min_four   -- for this text's walks alone
set_option linter.unusedVariables false
set_option linter.unusedSimpArgs false

attribute [local go_sem high] eqA25
/-! ### laws_FnHashers: function 6 -/
def laws_FnHashers.j0 : Nat → ByteArray → Bool → ByteArray → ByteArray → Int → ByteArray → ByteArray → Int → Option (Bool)
  | 0, _, _, _, _, _, _, _, _ => none
  | k + 1, x4, x29, x343000, x343001, x343002, x347000, x347001, x347002 => if x29 = true then (some false) else ((spec_HasherOk.f x343000 x343001 x343002).bind fun t353 => (if t353 = true then ((impl_HasherOk.f x347000 x347001 x347002).bind fun t354 => (if t354 = true then ((impl_HashEnd.f k x347000 x347001 x347002).bind fun t355 => (if (t355.size : Int) = 32 then (if (x347000.toList == x343000.toList && (x347001.toList == x343001.toList && (x347002 == x343002))) = true then (some true) else (some (x347002 == (wrap64 (x343002 + (x4.size : Int)))))) else (some false))) else (some false))) else (if (x347000.toList == x343000.toList && (x347001.toList == x343001.toList && (x347002 == x343002))) = true then ((impl_HashEnd.f k x343000 x343001 x343002).bind fun t356 => (some (t356.toList == ([] : List UInt8)))) else (some false))))
def laws_FnHashers.f (k : Nat) (l0 : List Int) : Option (Bool) := (laws_big.f l0).bind fun t337 => (if t337 = true then (some true) else ((spec_DrawHashMore.f k l0).bind fun bt338 => ((impl_HashMore.f k bt338.1 bt338.2.1 bt338.2.2.1 bt338.2.2.2).bind fun bt343 => ((spec_HashMore.f k bt338.1 bt338.2.1 bt338.2.2.1 bt338.2.2.2).bind fun bt347 => (if (!(bt343.1.toList == bt347.1.toList) || (!(bt343.2.1.toList == bt347.2.1.toList) || (!(bt343.2.2 == bt347.2.2)))) = true then (laws_FnHashers.j0 k bt338.2.2.2 true bt338.1 bt338.2.1 bt338.2.2.1 bt343.1 bt343.2.1 bt343.2.2) else ((impl_HasherOk.f bt338.1 bt338.2.1 bt338.2.2.1).bind fun t351 => ((spec_HasherOk.f bt338.1 bt338.2.1 bt338.2.2.1).bind fun t352 => (laws_FnHashers.j0 k bt338.2.2.2 (t351 != t352) bt338.1 bt338.2.1 bt338.2.2.1 bt343.1 bt343.2.1 bt343.2.2))))))))
theorem laws_FnHashers.mono_l : ∀ k, (∀ y0 y1 y2 y3 y4 y5 y6 y7, LeO (laws_FnHashers.j0 k y0 y1 y2 y3 y4 y5 y6 y7) (laws_FnHashers.j0 (k + 1) y0 y1 y2 y3 y4 y5 y6 y7))
  | 0 => fun _ _ _ _ _ _ _ _ r h => by simp [laws_FnHashers.j0] at h
  | k + 1 => by
    have ih0 := laws_FnHashers.mono_l k
    · intro y0 y1 y2 y3 y4 y5 y6 y7
      unfold laws_FnHashers.j0
      repeat' first
      | (with_reducible exact ih0 _ _ _ _ _ _ _ _)
      | (with_reducible exact impl_HashEnd.mono _ _ _ _)
      | (with_reducible exact impl_HashMore.mono _ _ _ _ _)
      | (with_reducible exact spec_DrawHashMore.mono _ _)
      | (with_reducible exact spec_HashMore.mono _ _ _ _ _)
      | (with_reducible exact LeO.refl _)
      | (with_reducible exact LeO.none _)
      | (with_reducible refine LeO.ite ?_ ?_)
      | (with_reducible refine LeO.bind ?_ (fun _ => ?_))
      | exact ih0 _ _ _ _ _ _ _ _
      | exact impl_HashEnd.mono _ _ _ _
      | exact impl_HashMore.mono _ _ _ _ _
      | exact spec_DrawHashMore.mono _ _
      | exact spec_HashMore.mono _ _ _ _ _
      | exact LeO.none _
      | refine LeO.ite ?_ ?_
      | refine LeO.bind ?_ (fun _ => ?_)
theorem laws_FnHashers.mono : ∀ a0 k, LeO (laws_FnHashers.f k a0) (laws_FnHashers.f (k + 1) a0) := by
  intro a0 k
  have ih0 := laws_FnHashers.mono_l k
  unfold laws_FnHashers.f
  repeat' first
      | (with_reducible exact ih0 _ _ _ _ _ _ _ _)
      | (with_reducible exact impl_HashEnd.mono _ _ _ _)
      | (with_reducible exact impl_HashMore.mono _ _ _ _ _)
      | (with_reducible exact spec_DrawHashMore.mono _ _)
      | (with_reducible exact spec_HashMore.mono _ _ _ _ _)
      | (with_reducible exact LeO.refl _)
      | (with_reducible exact LeO.none _)
      | (with_reducible refine LeO.ite ?_ ?_)
      | (with_reducible refine LeO.bind ?_ (fun _ => ?_))
      | exact ih0 _ _ _ _ _ _ _ _
      | exact impl_HashEnd.mono _ _ _ _
      | exact impl_HashMore.mono _ _ _ _ _
      | exact spec_DrawHashMore.mono _ _
      | exact spec_HashMore.mono _ _ _ _ _
      | exact LeO.none _
      | refine LeO.ite ?_ ?_
      | refine LeO.bind ?_ (fun _ => ?_)
def laws_FnHashers.T6 : Bool × List (List Nat × List Nat) := (true, [([], []), ([], []), ([0, 1], [0, 1]), ([2], [2]), ([3], [3]), ([4, 3, 3], [3, 4]), ([3], [3]), ([6, 5, 3], [3, 6]), ([5, 7, 3], [3, 5, 7]), ([3, 8], [3, 8])])
def laws_FnHashers.B6 : List Nat := [0, 0, 3, 7, 15, 31, 15, 127, 255, 511]
theorem laws_FnHashers.tab6 : rtab .any (opsOf Try.f6 6) = laws_FnHashers.T6 := by kernel_rfl
theorem laws_FnHashers.bits6 : waitsOk laws_FnHashers.T6.2 laws_FnHashers.B6 = true := by kernel_rfl
set_option maxHeartbeats 8000000 in
set_option maxRecDepth 100000 in
theorem laws_FnHashers.calls (k : Nat) (A0 : Option Addr) (c0 : Nat) (l0 : List Int) (r : Bool) (w : World) (hr0 : Kd.C (Kd.int .u8) w A0 l0.length l0) (hc0 : l0.length ≤ c0) (h : laws_FnHashers.f k l0 = some r) :
    Calls Try.prog 6 #[.slice A0 l0.length c0] w fun e w' => e = .returned (.bool r) ∧ Below w.heap.size w w' := by
  have hu25 := Try.underlying25
  have HR0 := Aside0.mk hr0
  have HC0 := Aside0.mk hc0
  clear hr0 hc0
  have HB := Aside0.mk (Below.refl w.heap.size w)
  have H : ((laws_big.f l0).bind fun t337 => (if t337 = true then (some true) else ((spec_DrawHashMore.f k l0).bind fun bt338 => ((impl_HashMore.f k bt338.1 bt338.2.1 bt338.2.2.1 bt338.2.2.2).bind fun bt343 => ((spec_HashMore.f k bt338.1 bt338.2.1 bt338.2.2.1 bt338.2.2.2).bind fun bt347 => (if (!(bt343.1.toList == bt347.1.toList) || (!(bt343.2.1.toList == bt347.2.1.toList) || (!(bt343.2.2 == bt347.2.2)))) = true then (laws_FnHashers.j0 k bt338.2.2.2 true bt338.1 bt338.2.1 bt338.2.2.1 bt343.1 bt343.2.1 bt343.2.2) else ((impl_HasherOk.f bt338.1 bt338.2.1 bt338.2.2.1).bind fun t351 => ((spec_HasherOk.f bt338.1 bt338.2.1 bt338.2.2.1).bind fun t352 => (laws_FnHashers.j0 k bt338.2.2.2 (t351 != t352) bt338.1 bt338.2.1 bt338.2.2.1 bt343.1 bt343.2.1 bt343.2.2))))))))) = some r := h
  clear h
  replace H := Option.bind_eq_some_iff.mp H
  obtain ⟨t337, A20, H⟩ := H
  replace H : (if t337 = true then (some true) else ((spec_DrawHashMore.f k l0).bind fun bt338 => ((impl_HashMore.f k bt338.1 bt338.2.1 bt338.2.2.1 bt338.2.2.2).bind fun bt343 => ((spec_HashMore.f k bt338.1 bt338.2.1 bt338.2.2.1 bt338.2.2.2).bind fun bt347 => (if (!(bt343.1.toList == bt347.1.toList) || (!(bt343.2.1.toList == bt347.2.1.toList) || (!(bt343.2.2 == bt347.2.2)))) = true then (laws_FnHashers.j0 k bt338.2.2.2 true bt338.1 bt338.2.1 bt338.2.2.1 bt343.1 bt343.2.1 bt343.2.2) else ((impl_HasherOk.f bt338.1 bt338.2.1 bt338.2.2.1).bind fun t351 => ((spec_HasherOk.f bt338.1 bt338.2.1 bt338.2.2.1).bind fun t352 => (laws_FnHashers.j0 k bt338.2.2.2 (t351 != t352) bt338.1 bt338.2.1 bt338.2.2.1 bt343.1 bt343.2.1 bt343.2.2)))))))) = some r := H
  have A2 := Aside0.mk A20
  clear A20
  by_cases c3 : t337 = true
  · subst c3
    have H1 : (some true) = some r := by rw [if_pos rfl] at H; exact H
    clear H
    have H := H1
    clear H1
    obtain rfl := Option.some.inj H
    go_enter Try.func6, Try.ntmps6
    go_wp2_with (first | ((with_reducible refine gate_callee (f := 19) rfl ?_); refine goesL_ (some 8) rfl rfl Try.func19 (by kernel_rfl) rfl #[.slice A0 l0.length c0] rfl (by (try simp only [List.map_toArray, List.map_cons, List.map_nil]); first | done | rfl | (simp only [List.length_drop, List.length_take]; rfl)) ?_; (with_reducible refine (laws_big.calls _ _ l0 true _ ?side1 ?side2 A2.out).mono ?_); (case side1 => repeat (first | exact HR0.out | (with_reducible refine Kd.C_alloc ?_ _) | (with_reducible refine Kd.C_drewN ?_ _) | (with_reducible refine Kd.C_drew ?_))); (case side2 => exact HC0.out); rintro e w' ⟨rfl, ⟨nd, rfl⟩⟩; refine ⟨_, rfl, ?_⟩))
    go_ret
    exact ⟨by first | rfl | (simp [errW_none, errW_some] <;> rfl) | (simp [*, errW_none, errW_some] <;> rfl), by repeat (first | (with_reducible first | exact HB.out | apply below_alloc | apply pw_below_drewN | apply below_drew1) | exact HB.out)⟩
  · replace c3 := Bool.eq_false_iff.mpr c3
    subst c3
    have H1 : ((spec_DrawHashMore.f k l0).bind fun bt338 => ((impl_HashMore.f k bt338.1 bt338.2.1 bt338.2.2.1 bt338.2.2.2).bind fun bt343 => ((spec_HashMore.f k bt338.1 bt338.2.1 bt338.2.2.1 bt338.2.2.2).bind fun bt347 => (if (!(bt343.1.toList == bt347.1.toList) || (!(bt343.2.1.toList == bt347.2.1.toList) || (!(bt343.2.2 == bt347.2.2)))) = true then (laws_FnHashers.j0 k bt338.2.2.2 true bt338.1 bt338.2.1 bt338.2.2.1 bt343.1 bt343.2.1 bt343.2.2) else ((impl_HasherOk.f bt338.1 bt338.2.1 bt338.2.2.1).bind fun t351 => ((spec_HasherOk.f bt338.1 bt338.2.1 bt338.2.2.1).bind fun t352 => (laws_FnHashers.j0 k bt338.2.2.2 (t351 != t352) bt338.1 bt338.2.1 bt338.2.2.1 bt343.1 bt343.2.1 bt343.2.2))))))) = some r := by rw [if_neg (show ¬ (false = true) by decide)] at H; exact H
    clear H
    have H := H1
    clear H1
    replace H := Option.bind_eq_some_iff.mp H
    obtain ⟨⟨t338, t339, t340, t341⟩, A40, H⟩ := H
    replace H : ((impl_HashMore.f k t338 t339 t340 t341).bind fun bt343 => ((spec_HashMore.f k t338 t339 t340 t341).bind fun bt347 => (if (!(bt343.1.toList == bt347.1.toList) || (!(bt343.2.1.toList == bt347.2.1.toList) || (!(bt343.2.2 == bt347.2.2)))) = true then (laws_FnHashers.j0 k t341 true t338 t339 t340 bt343.1 bt343.2.1 bt343.2.2) else ((impl_HasherOk.f t338 t339 t340).bind fun t351 => ((spec_HasherOk.f t338 t339 t340).bind fun t352 => (laws_FnHashers.j0 k t341 (t351 != t352) t338 t339 t340 bt343.1 bt343.2.1 bt343.2.2)))))) = some r := H
    have A4 := Aside0.mk A40
    clear A40
    replace H := Option.bind_eq_some_iff.mp H
    obtain ⟨⟨t343, t344, t345⟩, A50, H⟩ := H
    replace H : ((spec_HashMore.f k t338 t339 t340 t341).bind fun bt347 => (if (!(t343.toList == bt347.1.toList) || (!(t344.toList == bt347.2.1.toList) || (!(t345 == bt347.2.2)))) = true then (laws_FnHashers.j0 k t341 true t338 t339 t340 t343 t344 t345) else ((impl_HasherOk.f t338 t339 t340).bind fun t351 => ((spec_HasherOk.f t338 t339 t340).bind fun t352 => (laws_FnHashers.j0 k t341 (t351 != t352) t338 t339 t340 t343 t344 t345))))) = some r := H
    have A5 := Aside0.mk A50
    clear A50
    replace H := Option.bind_eq_some_iff.mp H
    obtain ⟨⟨t347, t348, t349⟩, A60, H⟩ := H
    replace H : (if (!(t343.toList == t347.toList) || (!(t344.toList == t348.toList) || (!(t345 == t349)))) = true then (laws_FnHashers.j0 k t341 true t338 t339 t340 t343 t344 t345) else ((impl_HasherOk.f t338 t339 t340).bind fun t351 => ((spec_HasherOk.f t338 t339 t340).bind fun t352 => (laws_FnHashers.j0 k t341 (t351 != t352) t338 t339 t340 t343 t344 t345)))) = some r := H
    have A6 := Aside0.mk A60
    clear A60
    have HC7 := Aside0.mk H
    clear H
    go_enter Try.func6, Try.ntmps6
    go_upto_region 6 with (first | ((with_reducible refine gate_callee (f := 19) rfl ?_); refine goesL_ (some 8) rfl rfl Try.func19 (by kernel_rfl) rfl #[.slice A0 l0.length c0] rfl (by (try simp only [List.map_toArray, List.map_cons, List.map_nil]); first | done | rfl | (simp only [List.length_drop, List.length_take]; rfl)) ?_; (with_reducible refine (laws_big.calls _ _ l0 false _ ?side1 ?side2 A2.out).mono ?_); (case side1 => repeat (first | exact HR0.out | (with_reducible refine Kd.C_alloc ?_ _) | (with_reducible refine Kd.C_drewN ?_ _) | (with_reducible refine Kd.C_drew ?_))); (case side2 => exact HC0.out); rintro e w' ⟨rfl, ⟨nd, rfl⟩⟩; refine ⟨_, rfl, ?_⟩) | ((with_reducible refine gate_callee (f := 20) rfl ?_); refine goesL_ (some 11) rfl rfl Try.func20 (by kernel_rfl) rfl #[.slice A0 l0.length c0] rfl (by (try simp only [List.map_toArray, List.map_cons, List.map_nil]); first | done | rfl | (simp only [List.length_drop, List.length_take]; rfl)) ?_; (with_reducible refine (spec_DrawHashMore.calls k _ _ l0 t338 t339 t340 t341 _ ?side1 ?side2 A4.out).mono ?_); (case side1 => repeat (first | exact HR0.out | (with_reducible refine Kd.C_alloc ?_ _) | (with_reducible refine Kd.C_drewN ?_ _) | (with_reducible refine Kd.C_drew ?_))); (case side2 => exact HC0.out); rintro e w8 ⟨rfl, hb⟩; refine ⟨_, rfl, ?_⟩; have n0_ := Aside0.mk (below_step (by repeat (first | (with_reducible first | exact HB.out | apply below_alloc | apply pw_below_drewN | apply below_drew1) | exact HB.out)) hb); clear HB; have HB := n0_; clear n0_; (try clear hb); (try clear hb2); (try clear hk); (try clear hi)) | ((with_reducible refine gate_dst (N := 3) rfl ?_); (try (refine gate_guard (by rfl) ?_; dsimp only)); refine box_event ?hg (N := 3) ?hd (cs := #[.string (⟨#[]⟩ : ByteArray), .string (⟨#[]⟩ : ByteArray), .int .i64 0]) (t := 25) ?hr ?_; (case hd => rfl); (case hg => rfl); (case hr => first | (go_simp; done) | (go_simp; rfl)); intro gb342 hg w9 hbox hb; have n0_ := Aside0.mk (below_step (by repeat (first | (with_reducible first | exact HB.out | apply below_alloc | apply pw_below_drewN | apply below_drew1) | exact HB.out)) hb); have n1_ := Aside0.mk (hbox); have n2_ := Aside0.mk ((by rw [hg]; exact (below_size (by repeat (first | (with_reducible first | exact HB.out | apply below_alloc | apply pw_below_drewN | apply below_drew1) | exact HB.out))) : w.heap.size ≤ gb342)); have n3_ := Aside0.mk ((by rw [hg]; exact (below_size (by repeat (first | (with_reducible first | exact HB.out | apply below_alloc | apply pw_below_drewN | apply below_drew1) | exact HB.out))) : w.heap.size ≤ gb342)); clear HB; have HB := n0_; have BK342 := n1_; have GW342 := n2_; have GE342 := n3_; clear n0_ n1_ n2_ n3_; clear hb hbox hg; have hcz10_0 : w9.cell? ⟨gb342, 0, none⟩ = some (.string (⟨#[]⟩ : ByteArray)) := (blk_cell BK342.out 0).trans rfl; have hcz10_1 : w9.cell? ⟨gb342, 1, none⟩ = some (.string (⟨#[]⟩ : ByteArray)) := (blk_cell BK342.out 1).trans rfl; have hcz10_2 : w9.cell? ⟨gb342, 2, none⟩ = some (.int .i64 0) := (blk_cell BK342.out 2).trans rfl; have hfz10_0 := blk_frozen BK342.out 0; have hfz10_1 := blk_frozen BK342.out 1; have hfz10_2 := blk_frozen BK342.out 2) | ((with_reducible refine gate_callee (f := 13) rfl ?_); refine goesL_ (some 16) rfl rfl Try.func13 (by kernel_rfl) rfl #[.agg #[.string t338, .string t339, .int .i64 t340], .string t341] rfl (by (try simp only [List.map_toArray, List.map_cons, List.map_nil]); first | done | rfl | (simp only [List.length_drop, List.length_take]; rfl)) ?_; (with_reducible refine (impl_HashMore.calls k t338 t339 t340 t341 t343 t344 t345 _ A5.out).mono ?_); rintro e w11 ⟨rfl, hb⟩; refine ⟨_, rfl, ?_⟩; have n0_ := Aside0.mk (blk_below (g := gb342) (o := .cells #[.string t338, .string t339, .int .i64 t340] 25 (0, 0)) (by (with_reducible repeat (first | refine blk_drewN ?_ _ | refine blk_drew ?_ | refine blk_alloc ?_ _)); refine blk_put (cs := #[.string t338, .string t339, .int .i64 0]) ?_ 2 _ rfl; (with_reducible repeat (first | refine blk_drewN ?_ _ | refine blk_drew ?_ | refine blk_alloc ?_ _)); refine blk_put (cs := #[.string t338, .string (⟨#[]⟩ : ByteArray), .int .i64 0]) ?_ 1 _ rfl; (with_reducible repeat (first | refine blk_drewN ?_ _ | refine blk_drew ?_ | refine blk_alloc ?_ _)); refine blk_put (cs := #[.string (⟨#[]⟩ : ByteArray), .string (⟨#[]⟩ : ByteArray), .int .i64 0]) ?_ 0 _ rfl; (with_reducible repeat (first | refine blk_drewN ?_ _ | refine blk_drew ?_ | refine blk_alloc ?_ _)); exact BK342.out) hb); have n1_ := Aside0.mk (below_step (by repeat (first | (with_reducible first | exact HB.out | apply below_alloc | apply pw_below_drewN | apply below_drew1 | refine below_set ?_ GE342.out) | exact HB.out)) hb); clear BK342; clear HB; have BK342 := n0_; have HB := n1_; clear n0_ n1_; (try clear hb); (try clear hb2); (try clear hk); (try clear hi)) | ((with_reducible refine gate_dst (N := 5) rfl ?_); (try (refine gate_guard (by rfl) ?_; dsimp only)); refine box_event ?hg (N := 5) ?hd (cs := #[.string (⟨#[]⟩ : ByteArray), .string (⟨#[]⟩ : ByteArray), .int .i64 0]) (t := 25) ?hr ?_; (case hd => rfl); (case hg => rfl); (case hr => first | (go_simp; done) | (go_simp; rfl)); intro gb346 hg w12 hbox hb; have n0_ := Aside0.mk (blk_below (g := gb342) (o := .cells #[.string t338, .string t339, .int .i64 t340] 25 (0, 0)) (by (with_reducible repeat (first | refine blk_drewN ?_ _ | refine blk_drew ?_ | refine blk_alloc ?_ _)); exact BK342.out) hb); have n1_ := Aside0.mk (below_step (by repeat (first | (with_reducible first | exact HB.out | apply below_alloc | apply pw_below_drewN | apply below_drew1 | refine below_set ?_ GE342.out) | exact HB.out)) hb); have n2_ := Aside0.mk (hbox); have n3_ := Aside0.mk ((by rw [hg]; exact (below_size (by repeat (first | (with_reducible first | exact HB.out | apply below_alloc | apply pw_below_drewN | apply below_drew1 | refine below_set ?_ GE342.out) | exact HB.out))) : w.heap.size ≤ gb346)); have n4_ := Aside0.mk ((by rw [hg]; exact (below_size (by repeat (first | (with_reducible first | exact HB.out | apply below_alloc | apply pw_below_drewN | apply below_drew1 | refine below_set ?_ GE342.out) | exact HB.out))) : w.heap.size ≤ gb346)); have n5_ := Aside0.mk ((by rw [hg]; exact Nat.ne_of_lt (blk_lt (g := gb342) (o := .cells #[.string t338, .string t339, .int .i64 t340] 25 (0, 0)) (by (with_reducible repeat (first | refine blk_drewN ?_ _ | refine blk_drew ?_ | refine blk_alloc ?_ _)); exact BK342.out)) : gb342 ≠ gb346)); have n6_ := Aside0.mk ((by rw [hg]; exact Nat.ne_of_gt (blk_lt (g := gb342) (o := .cells #[.string t338, .string t339, .int .i64 t340] 25 (0, 0)) (by (with_reducible repeat (first | refine blk_drewN ?_ _ | refine blk_drew ?_ | refine blk_alloc ?_ _)); exact BK342.out)) : gb346 ≠ gb342)); clear BK342; clear HB; have BK342 := n0_; have HB := n1_; have BK346 := n2_; have GW346 := n3_; have GE346 := n4_; have NB342_346 := n5_; have NB346_342 := n6_; clear n0_ n1_ n2_ n3_ n4_ n5_ n6_; clear hb hbox hg; have hnb13 := NB346_342.out; have hnc13 := NB342_346.out; have hcz14_0 : w12.cell? ⟨gb346, 0, none⟩ = some (.string (⟨#[]⟩ : ByteArray)) := (blk_cell BK346.out 0).trans rfl; have hcz14_1 : w12.cell? ⟨gb346, 1, none⟩ = some (.string (⟨#[]⟩ : ByteArray)) := (blk_cell BK346.out 1).trans rfl; have hcz14_2 : w12.cell? ⟨gb346, 2, none⟩ = some (.int .i64 0) := (blk_cell BK346.out 2).trans rfl; have hfz14_0 := blk_frozen BK346.out 0; have hfz14_1 := blk_frozen BK346.out 1; have hfz14_2 := blk_frozen BK346.out 2; have hcz15_0 : w12.cell? ⟨gb342, 0, none⟩ = some (.string t338) := (blk_cell BK342.out 0).trans rfl; have hcz15_1 : w12.cell? ⟨gb342, 1, none⟩ = some (.string t339) := (blk_cell BK342.out 1).trans rfl; have hcz15_2 : w12.cell? ⟨gb342, 2, none⟩ = some (.int .i64 t340) := (blk_cell BK342.out 2).trans rfl; have hfz15_0 := blk_frozen BK342.out 0; have hfz15_1 := blk_frozen BK342.out 1; have hfz15_2 := blk_frozen BK342.out 2) | ((with_reducible refine gate_callee (f := 11) rfl ?_); refine goesL_ (some 19) rfl rfl Try.func11 (by kernel_rfl) rfl #[.agg #[.string t338, .string t339, .int .i64 t340], .string t341] rfl (by (try simp only [List.map_toArray, List.map_cons, List.map_nil]); first | done | rfl | (simp only [List.length_drop, List.length_take]; rfl)) ?_; (with_reducible refine (spec_HashMore.calls k t338 t339 t340 t341 t347 t348 t349 _ A6.out).mono ?_); rintro e w16 ⟨rfl, hb⟩; refine ⟨_, rfl, ?_⟩; have n0_ := Aside0.mk (blk_below (g := gb342) (o := .cells #[.string t338, .string t339, .int .i64 t340] 25 (0, 0)) (by (with_reducible repeat (first | refine blk_drewN ?_ _ | refine blk_drew ?_ | refine blk_alloc ?_ _)); refine blk_far ?_ NB342_346.out _; (with_reducible repeat (first | refine blk_drewN ?_ _ | refine blk_drew ?_ | refine blk_alloc ?_ _)); refine blk_far ?_ NB342_346.out _; (with_reducible repeat (first | refine blk_drewN ?_ _ | refine blk_drew ?_ | refine blk_alloc ?_ _)); refine blk_far ?_ NB342_346.out _; (with_reducible repeat (first | refine blk_drewN ?_ _ | refine blk_drew ?_ | refine blk_alloc ?_ _)); exact BK342.out) hb); have n1_ := Aside0.mk (blk_below (g := gb346) (o := .cells #[.string t343, .string t344, .int .i64 t345] 25 (0, 0)) (by (with_reducible repeat (first | refine blk_drewN ?_ _ | refine blk_drew ?_ | refine blk_alloc ?_ _)); refine blk_put (cs := #[.string t343, .string t344, .int .i64 0]) ?_ 2 _ rfl; (with_reducible repeat (first | refine blk_drewN ?_ _ | refine blk_drew ?_ | refine blk_alloc ?_ _)); refine blk_put (cs := #[.string t343, .string (⟨#[]⟩ : ByteArray), .int .i64 0]) ?_ 1 _ rfl; (with_reducible repeat (first | refine blk_drewN ?_ _ | refine blk_drew ?_ | refine blk_alloc ?_ _)); refine blk_put (cs := #[.string (⟨#[]⟩ : ByteArray), .string (⟨#[]⟩ : ByteArray), .int .i64 0]) ?_ 0 _ rfl; (with_reducible repeat (first | refine blk_drewN ?_ _ | refine blk_drew ?_ | refine blk_alloc ?_ _)); exact BK346.out) hb); have n2_ := Aside0.mk (below_step (by repeat (first | (with_reducible first | exact HB.out | apply below_alloc | apply pw_below_drewN | apply below_drew1 | refine below_set ?_ GE342.out | refine below_set ?_ GE346.out) | exact HB.out)) hb); clear BK342; clear BK346; clear HB; have BK342 := n0_; have BK346 := n1_; have HB := n2_; clear n0_ n1_ n2_; (try clear hb); (try clear hb2); (try clear hk); (try clear hi)) | ((with_reducible refine gate_dst (N := 6) rfl ?_); (try (refine gate_guard (by rfl) ?_; dsimp only)); refine box_event ?hg (N := 6) ?hd (cs := #[.string (⟨#[]⟩ : ByteArray), .string (⟨#[]⟩ : ByteArray), .int .i64 0]) (t := 25) ?hr ?_; (case hd => rfl); (case hg => rfl); (case hr => first | (go_simp; done) | (go_simp; rfl)); intro gb350 hg w17 hbox hb; have n0_ := Aside0.mk (blk_below (g := gb342) (o := .cells #[.string t338, .string t339, .int .i64 t340] 25 (0, 0)) (by (with_reducible repeat (first | refine blk_drewN ?_ _ | refine blk_drew ?_ | refine blk_alloc ?_ _)); exact BK342.out) hb); have n1_ := Aside0.mk (blk_below (g := gb346) (o := .cells #[.string t343, .string t344, .int .i64 t345] 25 (0, 0)) (by (with_reducible repeat (first | refine blk_drewN ?_ _ | refine blk_drew ?_ | refine blk_alloc ?_ _)); exact BK346.out) hb); have n2_ := Aside0.mk (below_step (by repeat (first | (with_reducible first | exact HB.out | apply below_alloc | apply pw_below_drewN | apply below_drew1 | refine below_set ?_ GE342.out | refine below_set ?_ GE346.out) | exact HB.out)) hb); have n3_ := Aside0.mk (hbox); have n4_ := Aside0.mk ((by rw [hg]; exact (below_size (by repeat (first | (with_reducible first | exact HB.out | apply below_alloc | apply pw_below_drewN | apply below_drew1 | refine below_set ?_ GE342.out | refine below_set ?_ GE346.out) | exact HB.out))) : w.heap.size ≤ gb350)); have n5_ := Aside0.mk ((by rw [hg]; exact (below_size (by repeat (first | (with_reducible first | exact HB.out | apply below_alloc | apply pw_below_drewN | apply below_drew1 | refine below_set ?_ GE342.out | refine below_set ?_ GE346.out) | exact HB.out))) : w.heap.size ≤ gb350)); have n6_ := Aside0.mk ((by rw [hg]; exact Nat.ne_of_lt (blk_lt (g := gb342) (o := .cells #[.string t338, .string t339, .int .i64 t340] 25 (0, 0)) (by (with_reducible repeat (first | refine blk_drewN ?_ _ | refine blk_drew ?_ | refine blk_alloc ?_ _)); exact BK342.out)) : gb342 ≠ gb350)); have n7_ := Aside0.mk ((by rw [hg]; exact Nat.ne_of_gt (blk_lt (g := gb342) (o := .cells #[.string t338, .string t339, .int .i64 t340] 25 (0, 0)) (by (with_reducible repeat (first | refine blk_drewN ?_ _ | refine blk_drew ?_ | refine blk_alloc ?_ _)); exact BK342.out)) : gb350 ≠ gb342)); have n8_ := Aside0.mk ((by rw [hg]; exact Nat.ne_of_lt (blk_lt (g := gb346) (o := .cells #[.string t343, .string t344, .int .i64 t345] 25 (0, 0)) (by (with_reducible repeat (first | refine blk_drewN ?_ _ | refine blk_drew ?_ | refine blk_alloc ?_ _)); exact BK346.out)) : gb346 ≠ gb350)); have n9_ := Aside0.mk ((by rw [hg]; exact Nat.ne_of_gt (blk_lt (g := gb346) (o := .cells #[.string t343, .string t344, .int .i64 t345] 25 (0, 0)) (by (with_reducible repeat (first | refine blk_drewN ?_ _ | refine blk_drew ?_ | refine blk_alloc ?_ _)); exact BK346.out)) : gb350 ≠ gb346)); clear BK342; clear BK346; clear HB; have BK342 := n0_; have BK346 := n1_; have HB := n2_; have BK350 := n3_; have GW350 := n4_; have GE350 := n5_; have NB342_350 := n6_; have NB350_342 := n7_; have NB346_350 := n8_; have NB350_346 := n9_; clear n0_ n1_ n2_ n3_ n4_ n5_ n6_ n7_ n8_ n9_; clear hb hbox hg; have hnb18 := NB350_342.out; have hnc18 := NB342_350.out; have hnb19 := NB350_346.out; have hnc19 := NB346_350.out; have hcz20_0 : w17.cell? ⟨gb350, 0, none⟩ = some (.string (⟨#[]⟩ : ByteArray)) := (blk_cell BK350.out 0).trans rfl; have hcz20_1 : w17.cell? ⟨gb350, 1, none⟩ = some (.string (⟨#[]⟩ : ByteArray)) := (blk_cell BK350.out 1).trans rfl; have hcz20_2 : w17.cell? ⟨gb350, 2, none⟩ = some (.int .i64 0) := (blk_cell BK350.out 2).trans rfl; have hfz20_0 := blk_frozen BK350.out 0; have hfz20_1 := blk_frozen BK350.out 1; have hfz20_2 := blk_frozen BK350.out 2))
    (try simp only [Act.put, List.setIfInBounds_toArray, List.set_cons_zero, List.set_cons_succ])
    go_cut [29] (fun v29 wc => ∃ (kq : Nat) (x29_6 : Bool), v29 = .bool x29_6 ∧ Aside0 (laws_FnHashers.j0 kq t341 x29_6 t338 t339 t340 t343 t344 t345 = some r) ∧ Aside0 (kq ≤ k) ∧ Aside0 (wc.heap[gb342]? = some (.cells #[.string t338, .string t339, .int .i64 t340] 25 (0, 0))) ∧ Aside0 (wc.heap[gb346]? = some (.cells #[.string t343, .string t344, .int .i64 t345] 25 (0, 0))) ∧ Aside0 (wc.heap[gb350]? = some (.cells #[.string t347, .string t348, .int .i64 t349] 25 (0, 0))) ∧ Aside0 (Below w.heap.size w wc))
    case first =>
      have H := HC7.out
      clear HC7
      by_cases c21 : (!(t343.toList == t347.toList) || (!(t344.toList == t348.toList) || (!(t345 == t349)))) = true
      · rw [if_pos c21] at H
        have c21b0 : (!(t343.toList == t347.toList) || (!(t344.toList == t348.toList) || (!(t345 == t349)))) = true := c21
        clear c21
        (first | rw [c21b0] | (simp only [i64_w, i32_w]; rw [c21b0]) | skip)
        have H' := Aside0.mk H
        clear H
        try go_wp2
        have n0_ : Aside0 ((((w17.setCell ⟨gb350, 0, none⟩ (.string t347)).setCell ⟨gb350, 1, none⟩ (.string t348)).setCell ⟨gb350, 2, none⟩ (.int .i64 t349)).heap[gb342]? = some (.cells #[.string t338, .string t339, .int .i64 t340] 25 (0, 0))) := ⟨by (with_reducible repeat (first | refine blk_drewN ?_ _ | refine blk_drew ?_ | refine blk_alloc ?_ _)); refine blk_far ?_ NB342_350.out _; (with_reducible repeat (first | refine blk_drewN ?_ _ | refine blk_drew ?_ | refine blk_alloc ?_ _)); refine blk_far ?_ NB342_350.out _; (with_reducible repeat (first | refine blk_drewN ?_ _ | refine blk_drew ?_ | refine blk_alloc ?_ _)); refine blk_far ?_ NB342_350.out _; (with_reducible repeat (first | refine blk_drewN ?_ _ | refine blk_drew ?_ | refine blk_alloc ?_ _)); exact BK342.out⟩
        have n1_ : Aside0 ((((w17.setCell ⟨gb350, 0, none⟩ (.string t347)).setCell ⟨gb350, 1, none⟩ (.string t348)).setCell ⟨gb350, 2, none⟩ (.int .i64 t349)).heap[gb346]? = some (.cells #[.string t343, .string t344, .int .i64 t345] 25 (0, 0))) := ⟨by (with_reducible repeat (first | refine blk_drewN ?_ _ | refine blk_drew ?_ | refine blk_alloc ?_ _)); refine blk_far ?_ NB346_350.out _; (with_reducible repeat (first | refine blk_drewN ?_ _ | refine blk_drew ?_ | refine blk_alloc ?_ _)); refine blk_far ?_ NB346_350.out _; (with_reducible repeat (first | refine blk_drewN ?_ _ | refine blk_drew ?_ | refine blk_alloc ?_ _)); refine blk_far ?_ NB346_350.out _; (with_reducible repeat (first | refine blk_drewN ?_ _ | refine blk_drew ?_ | refine blk_alloc ?_ _)); exact BK346.out⟩
        have n2_ : Aside0 ((((w17.setCell ⟨gb350, 0, none⟩ (.string t347)).setCell ⟨gb350, 1, none⟩ (.string t348)).setCell ⟨gb350, 2, none⟩ (.int .i64 t349)).heap[gb350]? = some (.cells #[.string t347, .string t348, .int .i64 t349] 25 (0, 0))) := ⟨by (with_reducible repeat (first | refine blk_drewN ?_ _ | refine blk_drew ?_ | refine blk_alloc ?_ _)); refine blk_put (cs := #[.string t347, .string t348, .int .i64 0]) ?_ 2 _ rfl; (with_reducible repeat (first | refine blk_drewN ?_ _ | refine blk_drew ?_ | refine blk_alloc ?_ _)); refine blk_put (cs := #[.string t347, .string (⟨#[]⟩ : ByteArray), .int .i64 0]) ?_ 1 _ rfl; (with_reducible repeat (first | refine blk_drewN ?_ _ | refine blk_drew ?_ | refine blk_alloc ?_ _)); refine blk_put (cs := #[.string (⟨#[]⟩ : ByteArray), .string (⟨#[]⟩ : ByteArray), .int .i64 0]) ?_ 0 _ rfl; (with_reducible repeat (first | refine blk_drewN ?_ _ | refine blk_drew ?_ | refine blk_alloc ?_ _)); exact BK350.out⟩
        have n3_ : Aside0 (Below w.heap.size w (((w17.setCell ⟨gb350, 0, none⟩ (.string t347)).setCell ⟨gb350, 1, none⟩ (.string t348)).setCell ⟨gb350, 2, none⟩ (.int .i64 t349))) := ⟨by repeat (first | (with_reducible first | exact HB.out | apply below_alloc | apply pw_below_drewN | apply below_drew1 | refine below_set ?_ GE342.out | refine below_set ?_ GE346.out | refine below_set ?_ GE350.out) | exact HB.out)⟩
        (try clear BK342)
        (try clear BK346)
        (try clear BK350)
        (try clear HB)
        generalize (((w17.setCell ⟨gb350, 0, none⟩ (.string t347)).setCell ⟨gb350, 1, none⟩ (.string t348)).setCell ⟨gb350, 2, none⟩ (.int .i64 t349)) = w22 at n0_ n1_ n2_ n3_ ⊢
        have BK342 := n0_
        have BK346 := n1_
        have BK350 := n2_
        have HB := n3_
        clear n0_ n1_ n2_ n3_
        have n0_ := Aside0.mk (blk_drew BK342.out)
        have n1_ := Aside0.mk (blk_drew BK346.out)
        have n2_ := Aside0.mk (blk_drew BK350.out)
        have n3_ := Aside0.mk (below_drew1 HB.out)
        clear BK342
        clear BK346
        clear BK350
        clear HB
        have BK342 := n0_
        have BK346 := n1_
        have BK350 := n2_
        have HB := n3_
        clear n0_ n1_ n2_ n3_
        refine start_ (n := 10) (S := fun w' => w'.cell? ⟨gb346, 0, none⟩ = some (.string t343) ∧ w'.cell? ⟨gb346, 1, none⟩ = some (.string t344) ∧ w'.cell? ⟨gb346, 2, none⟩ = some (.int .i64 t345) ∧ w'.cell? ⟨gb350, 0, none⟩ = some (.string t347) ∧ w'.cell? ⟨gb350, 1, none⟩ = some (.string t348) ∧ w'.cell? ⟨gb350, 2, none⟩ = some (.int .i64 t349)) (ds := []) #[false, false, false, false, false, false, false, false, false, false] (by kernel_rfl) rfl rfl ⟨(blk_cell BK346.out 0).trans rfl, (blk_cell BK346.out 1).trans rfl, (blk_cell BK346.out 2).trans rfl, (blk_cell BK350.out 0).trans rfl, (blk_cell BK350.out 1).trans rfl, (blk_cell BK350.out 2).trans rfl⟩ (fun hHeld => ?_); refine with_tabW laws_FnHashers.tab6 laws_FnHashers.bits6 (fun HT_ HW_ => ?_)
        generalize w22.drew = w23 at BK342 BK346 BK350 HB hHeld ⊢
        refine take_ (i := 0) (N := some 20) (v := ?_) (a' := ?_) #[true, false, false, false, false, false, false, false, false, false] rfl rfl (take_ofW HT_.out HW_.out (by kernel_rfl)) (fun _ _ _ h => h) (Or.inl ⟨by rfl, ?_⟩) hHeld ?_ ?_
        rotate_left
        · rintro w' ⟨s0, s1, s2, s3, s4, s5⟩
          go_simp
          with_reducible rfl
        rotate_left
        · simp only [Act.put, List.setIfInBounds_toArray, List.set_cons_zero, List.set_cons_succ, i64_w, i32_w]
          rfl
        refine take_ (i := 1) (N := some 21) (v := ?_) (a' := ?_) #[true, true, false, false, false, false, false, false, false, false] rfl rfl (take_ofW HT_.out HW_.out (by kernel_rfl)) (fun _ _ _ h => h) (Or.inl ⟨by rfl, ?_⟩) hHeld ?_ ?_
        rotate_left
        · rintro w' ⟨s0, s1, s2, s3, s4, s5⟩
          go_simp
          with_reducible rfl
        rotate_left
        · simp only [Act.put, List.setIfInBounds_toArray, List.set_cons_zero, List.set_cons_succ, i64_w, i32_w]
          rfl
        refine pure_ (i := 2) (N := some 22) (v := ?_) (a' := ?_) #[true, true, true, false, false, false, false, false, false, false] rfl rfl (any_of HT_.out (by kernel_rfl)) (fun _ _ _ h => h) (Or.inl ⟨by rfl, ?_⟩) ?_ ?_
        rotate_left
        · intro w'
          go_simp
          with_reducible rfl
        rotate_left
        · simp only [Act.put, List.setIfInBounds_toArray, List.set_cons_zero, List.set_cons_succ, i64_w, i32_w]
          rfl
        refine pure_ (i := 3) (N := some 23) (v := ?_) (a' := ?_) #[true, true, true, true, false, false, false, false, false, false] rfl rfl (any_of HT_.out (by kernel_rfl)) (fun _ _ _ h => h) (Or.inl ⟨by rfl, ?_⟩) ?_ ?_
        rotate_left
        · intro w'
          go_simp
          with_reducible rfl
        rotate_left
        · simp only [Act.put, List.setIfInBounds_toArray, List.set_cons_zero, List.set_cons_succ, i64_w, i32_w]
          rfl
        refine pure_ (i := 4) (N := some 24) (v := undef) (a' := ?_) #[true, true, true, true, true, false, false, false, false, false] rfl rfl (any_of HT_.out (by kernel_rfl)) (fun _ _ _ h => h) (Or.inr ⟨by rfl, rfl⟩) ?_ ?_
        rotate_left
        · simp only [Act.put, List.setIfInBounds_toArray, List.set_cons_zero, List.set_cons_succ, i64_w, i32_w]
          rfl
        refine pure_ (i := 5) (N := some 25) (v := undef) (a' := ?_) #[true, true, true, true, true, true, false, false, false, false] rfl rfl (any_of HT_.out (by kernel_rfl)) (fun _ _ _ h => h) (Or.inr ⟨by rfl, rfl⟩) ?_ ?_
        rotate_left
        · simp only [Act.put, List.setIfInBounds_toArray, List.set_cons_zero, List.set_cons_succ, i64_w, i32_w]
          rfl
        refine pure_ (i := 6) (N := some 26) (v := undef) (a' := ?_) #[true, true, true, true, true, true, true, false, false, false] rfl rfl (any_of HT_.out (by kernel_rfl)) (fun _ _ _ h => h) (Or.inr ⟨by rfl, rfl⟩) ?_ ?_
        rotate_left
        · simp only [Act.put, List.setIfInBounds_toArray, List.set_cons_zero, List.set_cons_succ, i64_w, i32_w]
          rfl
        refine pure_ (i := 7) (N := some 27) (v := undef) (a' := ?_) #[true, true, true, true, true, true, true, true, false, false] rfl rfl (any_of HT_.out (by kernel_rfl)) (fun _ _ _ h => h) (Or.inr ⟨by rfl, rfl⟩) ?_ ?_
        rotate_left
        · simp only [Act.put, List.setIfInBounds_toArray, List.set_cons_zero, List.set_cons_succ, i64_w, i32_w]
          rfl
        refine pure_ (i := 8) (N := some 28) (v := undef) (a' := ?_) #[true, true, true, true, true, true, true, true, true, false] rfl rfl (any_of HT_.out (by kernel_rfl)) (fun _ _ _ h => h) (Or.inr ⟨by rfl, rfl⟩) ?_ ?_
        rotate_left
        · simp only [Act.put, List.setIfInBounds_toArray, List.set_cons_zero, List.set_cons_succ, i64_w, i32_w]
          rfl
        refine pure_ (i := 9) (N := some 29) (v := ?_) (a' := ?_) #[true, true, true, true, true, true, true, true, true, true] rfl rfl (any_of HT_.out (by kernel_rfl)) (fun _ _ _ h => h) (Or.inl ⟨by rfl, ?_⟩) ?_ ?_
        rotate_left
        · intro w'
          go_simp
          with_reducible rfl
        rotate_left
        · simp only [Act.put, List.setIfInBounds_toArray, List.set_cons_zero, List.set_cons_succ, i64_w, i32_w]
          rfl
        refine done_ (done_of HT_.out (by kernel_rfl)) ?_
        try go_wp2
        go_meet
        case rel => exact ⟨_, (true), (by first | rfl | (simp; done) | (simp [*]; done)), H', ⟨by first | omega | exact Nat.le_refl _⟩, ⟨by (with_reducible repeat (first | refine blk_drewN ?_ _ | refine blk_drew ?_ | refine blk_alloc ?_ _)); exact BK342.out⟩, ⟨by (with_reducible repeat (first | refine blk_drewN ?_ _ | refine blk_drew ?_ | refine blk_alloc ?_ _)); exact BK346.out⟩, ⟨by (with_reducible repeat (first | refine blk_drewN ?_ _ | refine blk_drew ?_ | refine blk_alloc ?_ _)); exact BK350.out⟩, ⟨by repeat (first | (with_reducible first | exact HB.out | apply below_alloc | apply pw_below_drewN | apply below_drew1 | refine below_set ?_ GE342.out | refine below_set ?_ GE346.out | refine below_set ?_ GE350.out) | exact HB.out)⟩⟩
      · rw [if_neg c21] at H
        have c21b0 : (!(t343.toList == t347.toList) || (!(t344.toList == t348.toList) || (!(t345 == t349)))) = false := by simpa using c21
        clear c21
        (first | rw [c21b0] | (simp only [i64_w, i32_w]; rw [c21b0]) | skip)
        replace H := Option.bind_eq_some_iff.mp H
        obtain ⟨t351, A240, H⟩ := H
        replace H : ((spec_HasherOk.f t338 t339 t340).bind fun t352 => (laws_FnHashers.j0 k t341 (t351 != t352) t338 t339 t340 t343 t344 t345)) = some r := H
        have A24 := Aside0.mk A240
        clear A240
        replace H := Option.bind_eq_some_iff.mp H
        obtain ⟨t352, A250, H⟩ := H
        replace H : (laws_FnHashers.j0 k t341 (t351 != t352) t338 t339 t340 t343 t344 t345) = some r := H
        have A25 := Aside0.mk A250
        clear A250
        have H' := Aside0.mk H
        clear H
        try go_wp2
        have n0_ : Aside0 ((((w17.setCell ⟨gb350, 0, none⟩ (.string t347)).setCell ⟨gb350, 1, none⟩ (.string t348)).setCell ⟨gb350, 2, none⟩ (.int .i64 t349)).heap[gb342]? = some (.cells #[.string t338, .string t339, .int .i64 t340] 25 (0, 0))) := ⟨by (with_reducible repeat (first | refine blk_drewN ?_ _ | refine blk_drew ?_ | refine blk_alloc ?_ _)); refine blk_far ?_ NB342_350.out _; (with_reducible repeat (first | refine blk_drewN ?_ _ | refine blk_drew ?_ | refine blk_alloc ?_ _)); refine blk_far ?_ NB342_350.out _; (with_reducible repeat (first | refine blk_drewN ?_ _ | refine blk_drew ?_ | refine blk_alloc ?_ _)); refine blk_far ?_ NB342_350.out _; (with_reducible repeat (first | refine blk_drewN ?_ _ | refine blk_drew ?_ | refine blk_alloc ?_ _)); exact BK342.out⟩
        have n1_ : Aside0 ((((w17.setCell ⟨gb350, 0, none⟩ (.string t347)).setCell ⟨gb350, 1, none⟩ (.string t348)).setCell ⟨gb350, 2, none⟩ (.int .i64 t349)).heap[gb346]? = some (.cells #[.string t343, .string t344, .int .i64 t345] 25 (0, 0))) := ⟨by (with_reducible repeat (first | refine blk_drewN ?_ _ | refine blk_drew ?_ | refine blk_alloc ?_ _)); refine blk_far ?_ NB346_350.out _; (with_reducible repeat (first | refine blk_drewN ?_ _ | refine blk_drew ?_ | refine blk_alloc ?_ _)); refine blk_far ?_ NB346_350.out _; (with_reducible repeat (first | refine blk_drewN ?_ _ | refine blk_drew ?_ | refine blk_alloc ?_ _)); refine blk_far ?_ NB346_350.out _; (with_reducible repeat (first | refine blk_drewN ?_ _ | refine blk_drew ?_ | refine blk_alloc ?_ _)); exact BK346.out⟩
        have n2_ : Aside0 ((((w17.setCell ⟨gb350, 0, none⟩ (.string t347)).setCell ⟨gb350, 1, none⟩ (.string t348)).setCell ⟨gb350, 2, none⟩ (.int .i64 t349)).heap[gb350]? = some (.cells #[.string t347, .string t348, .int .i64 t349] 25 (0, 0))) := ⟨by (with_reducible repeat (first | refine blk_drewN ?_ _ | refine blk_drew ?_ | refine blk_alloc ?_ _)); refine blk_put (cs := #[.string t347, .string t348, .int .i64 0]) ?_ 2 _ rfl; (with_reducible repeat (first | refine blk_drewN ?_ _ | refine blk_drew ?_ | refine blk_alloc ?_ _)); refine blk_put (cs := #[.string t347, .string (⟨#[]⟩ : ByteArray), .int .i64 0]) ?_ 1 _ rfl; (with_reducible repeat (first | refine blk_drewN ?_ _ | refine blk_drew ?_ | refine blk_alloc ?_ _)); refine blk_put (cs := #[.string (⟨#[]⟩ : ByteArray), .string (⟨#[]⟩ : ByteArray), .int .i64 0]) ?_ 0 _ rfl; (with_reducible repeat (first | refine blk_drewN ?_ _ | refine blk_drew ?_ | refine blk_alloc ?_ _)); exact BK350.out⟩
        have n3_ : Aside0 (Below w.heap.size w (((w17.setCell ⟨gb350, 0, none⟩ (.string t347)).setCell ⟨gb350, 1, none⟩ (.string t348)).setCell ⟨gb350, 2, none⟩ (.int .i64 t349))) := ⟨by repeat (first | (with_reducible first | exact HB.out | apply below_alloc | apply pw_below_drewN | apply below_drew1 | refine below_set ?_ GE342.out | refine below_set ?_ GE346.out | refine below_set ?_ GE350.out) | exact HB.out)⟩
        (try clear BK342)
        (try clear BK346)
        (try clear BK350)
        (try clear HB)
        generalize (((w17.setCell ⟨gb350, 0, none⟩ (.string t347)).setCell ⟨gb350, 1, none⟩ (.string t348)).setCell ⟨gb350, 2, none⟩ (.int .i64 t349)) = w26 at n0_ n1_ n2_ n3_ ⊢
        have BK342 := n0_
        have BK346 := n1_
        have BK350 := n2_
        have HB := n3_
        clear n0_ n1_ n2_ n3_
        have n0_ := Aside0.mk (blk_drew BK342.out)
        have n1_ := Aside0.mk (blk_drew BK346.out)
        have n2_ := Aside0.mk (blk_drew BK350.out)
        have n3_ := Aside0.mk (below_drew1 HB.out)
        clear BK342
        clear BK346
        clear BK350
        clear HB
        have BK342 := n0_
        have BK346 := n1_
        have BK350 := n2_
        have HB := n3_
        clear n0_ n1_ n2_ n3_
        refine start_ (n := 10) (S := fun w' => w'.cell? ⟨gb346, 0, none⟩ = some (.string t343) ∧ w'.cell? ⟨gb346, 1, none⟩ = some (.string t344) ∧ w'.cell? ⟨gb346, 2, none⟩ = some (.int .i64 t345) ∧ w'.cell? ⟨gb350, 0, none⟩ = some (.string t347) ∧ w'.cell? ⟨gb350, 1, none⟩ = some (.string t348) ∧ w'.cell? ⟨gb350, 2, none⟩ = some (.int .i64 t349) ∧ w'.cell? ⟨gb342, 0, none⟩ = some (.string t338) ∧ w'.cell? ⟨gb342, 1, none⟩ = some (.string t339) ∧ w'.cell? ⟨gb342, 2, none⟩ = some (.int .i64 t340)) (ds := []) #[false, false, false, false, false, false, false, false, false, false] (by kernel_rfl) rfl rfl ⟨(blk_cell BK346.out 0).trans rfl, (blk_cell BK346.out 1).trans rfl, (blk_cell BK346.out 2).trans rfl, (blk_cell BK350.out 0).trans rfl, (blk_cell BK350.out 1).trans rfl, (blk_cell BK350.out 2).trans rfl, (blk_cell BK342.out 0).trans rfl, (blk_cell BK342.out 1).trans rfl, (blk_cell BK342.out 2).trans rfl⟩ (fun hHeld => ?_); refine with_tabW laws_FnHashers.tab6 laws_FnHashers.bits6 (fun HT_ HW_ => ?_)
        generalize w26.drew = w27 at BK342 BK346 BK350 HB hHeld ⊢
        refine take_ (i := 0) (N := some 20) (v := ?_) (a' := ?_) #[true, false, false, false, false, false, false, false, false, false] rfl rfl (take_ofW HT_.out HW_.out (by kernel_rfl)) (fun _ _ _ h => h) (Or.inl ⟨by rfl, ?_⟩) hHeld ?_ ?_
        rotate_left
        · rintro w' ⟨s0, s1, s2, s3, s4, s5, s6, s7, s8⟩
          go_simp
          with_reducible rfl
        rotate_left
        · simp only [Act.put, List.setIfInBounds_toArray, List.set_cons_zero, List.set_cons_succ, i64_w, i32_w]
          rfl
        refine take_ (i := 1) (N := some 21) (v := ?_) (a' := ?_) #[true, true, false, false, false, false, false, false, false, false] rfl rfl (take_ofW HT_.out HW_.out (by kernel_rfl)) (fun _ _ _ h => h) (Or.inl ⟨by rfl, ?_⟩) hHeld ?_ ?_
        rotate_left
        · rintro w' ⟨s0, s1, s2, s3, s4, s5, s6, s7, s8⟩
          go_simp
          with_reducible rfl
        rotate_left
        · simp only [Act.put, List.setIfInBounds_toArray, List.set_cons_zero, List.set_cons_succ, i64_w, i32_w]
          rfl
        refine pure_ (i := 2) (N := some 22) (v := ?_) (a' := ?_) #[true, true, true, false, false, false, false, false, false, false] rfl rfl (any_of HT_.out (by kernel_rfl)) (fun _ _ _ h => h) (Or.inl ⟨by rfl, ?_⟩) ?_ ?_
        rotate_left
        · intro w'
          go_simp
          with_reducible rfl
        rotate_left
        · simp only [Act.put, List.setIfInBounds_toArray, List.set_cons_zero, List.set_cons_succ, i64_w, i32_w]
          rfl
        refine pure_ (i := 3) (N := some 23) (v := ?_) (a' := ?_) #[true, true, true, true, false, false, false, false, false, false] rfl rfl (any_of HT_.out (by kernel_rfl)) (fun _ _ _ h => h) (Or.inl ⟨by rfl, ?_⟩) ?_ ?_
        rotate_left
        · intro w'
          go_simp
          with_reducible rfl
        rotate_left
        · simp only [Act.put, List.setIfInBounds_toArray, List.set_cons_zero, List.set_cons_succ, i64_w, i32_w]
          rfl
        refine take_ (i := 4) (N := some 24) (v := ?_) (a' := ?_) #[true, true, true, true, true, false, false, false, false, false] rfl rfl (take_ofW HT_.out HW_.out (by kernel_rfl)) (fun _ _ _ h => h) (Or.inl ⟨by rfl, ?_⟩) hHeld ?_ ?_
        rotate_left
        · rintro w' ⟨s0, s1, s2, s3, s4, s5, s6, s7, s8⟩
          go_simp
          with_reducible rfl
        rotate_left
        · simp only [Act.put, List.setIfInBounds_toArray, List.set_cons_zero, List.set_cons_succ, i64_w, i32_w]
          rfl
        refine take_ (i := 6) (N := some 26) (v := ?_) (a' := ?_) #[true, true, true, true, true, false, true, false, false, false] rfl rfl (take_ofW HT_.out HW_.out (by kernel_rfl)) (fun _ _ _ h => h) (Or.inl ⟨by rfl, ?_⟩) hHeld ?_ ?_
        rotate_left
        · rintro w' ⟨s0, s1, s2, s3, s4, s5, s6, s7, s8⟩
          go_simp
          with_reducible rfl
        rotate_left
        · simp only [Act.put, List.setIfInBounds_toArray, List.set_cons_zero, List.set_cons_succ, i64_w, i32_w]
          rfl
        refine one_ (i := 5) (N := some 25) #[true, true, true, true, true, true, true, false, false, false] rfl rfl (one_of HT_.out (by kernel_rfl)) (by decide) (fun K hK => ?_)
        refine goes_ Try.func21 (by kernel_rfl) rfl #[.agg #[.string t338, .string t339, .int .i64 t340]] (by rfl) rfl rfl (by (try simp only [List.map_toArray, List.map_cons, List.map_nil]); first | done | rfl | (simp only [List.length_drop, List.length_take]; rfl)) ?_
        with_reducible refine (impl_HasherOk.calls t338 t339 t340 t351 _ A24.out).mono ?_
        rintro e w28 ⟨rfl, hb⟩
        refine ⟨_, rfl, ?_⟩
        have n0_ := Aside0.mk (blk_below (g := gb342) (o := .cells #[.string t338, .string t339, .int .i64 t340] 25 (0, 0)) (by (with_reducible repeat (first | refine blk_drewN ?_ _ | refine blk_drew ?_ | refine blk_alloc ?_ _)); exact BK342.out) hb)
        have n1_ := Aside0.mk (blk_below (g := gb346) (o := .cells #[.string t343, .string t344, .int .i64 t345] 25 (0, 0)) (by (with_reducible repeat (first | refine blk_drewN ?_ _ | refine blk_drew ?_ | refine blk_alloc ?_ _)); exact BK346.out) hb)
        have n2_ := Aside0.mk (blk_below (g := gb350) (o := .cells #[.string t347, .string t348, .int .i64 t349] 25 (0, 0)) (by (with_reducible repeat (first | refine blk_drewN ?_ _ | refine blk_drew ?_ | refine blk_alloc ?_ _)); exact BK350.out) hb)
        have n3_ := Aside0.mk (below_step (by repeat (first | (with_reducible first | exact HB.out | apply below_alloc | apply pw_below_drewN | apply below_drew1 | refine below_set ?_ GE342.out | refine below_set ?_ GE346.out | refine below_set ?_ GE350.out) | exact HB.out)) hb)
        clear BK342
        clear BK346
        clear BK350
        clear HB
        have BK342 := n0_
        have BK346 := n1_
        have BK350 := n2_
        have HB := n3_
        clear n0_ n1_ n2_ n3_
        (try clear hb)
        (try clear hb2)
        (try clear hk)
        (try clear hi)
        refine hK.out _ _ ⟨(blk_cell BK346.out 0).trans rfl, (blk_cell BK346.out 1).trans rfl, (blk_cell BK346.out 2).trans rfl, (blk_cell BK350.out 0).trans rfl, (blk_cell BK350.out 1).trans rfl, (blk_cell BK350.out 2).trans rfl, (blk_cell BK342.out 0).trans rfl, (blk_cell BK342.out 1).trans rfl, (blk_cell BK342.out 2).trans rfl⟩ (fun hHeld => ?_)
        clear hK K
        refine norm_ (a' := ?_) ?_ ?_
        rotate_left
        · show Act.put _ (some 25) _ = _
          simp only [Act.put, List.setIfInBounds_toArray, List.set_cons_zero, List.set_cons_succ, i64_w, i32_w]
          rfl
        refine one_ (i := 7) (N := some 27) #[true, true, true, true, true, true, true, true, false, false] rfl rfl (one_of HT_.out (by kernel_rfl)) (by decide) (fun K hK => ?_)
        refine goes_ Try.func22 (by kernel_rfl) rfl #[.agg #[.string t338, .string t339, .int .i64 t340]] (by rfl) rfl rfl (by (try simp only [List.map_toArray, List.map_cons, List.map_nil]); first | done | rfl | (simp only [List.length_drop, List.length_take]; rfl)) ?_
        with_reducible refine (spec_HasherOk.calls t338 t339 t340 t352 _ A25.out).mono ?_
        rintro e w29 ⟨rfl, hb⟩
        refine ⟨_, rfl, ?_⟩
        have n0_ := Aside0.mk (blk_below (g := gb342) (o := .cells #[.string t338, .string t339, .int .i64 t340] 25 (0, 0)) (by (with_reducible repeat (first | refine blk_drewN ?_ _ | refine blk_drew ?_ | refine blk_alloc ?_ _)); exact BK342.out) hb)
        have n1_ := Aside0.mk (blk_below (g := gb346) (o := .cells #[.string t343, .string t344, .int .i64 t345] 25 (0, 0)) (by (with_reducible repeat (first | refine blk_drewN ?_ _ | refine blk_drew ?_ | refine blk_alloc ?_ _)); exact BK346.out) hb)
        have n2_ := Aside0.mk (blk_below (g := gb350) (o := .cells #[.string t347, .string t348, .int .i64 t349] 25 (0, 0)) (by (with_reducible repeat (first | refine blk_drewN ?_ _ | refine blk_drew ?_ | refine blk_alloc ?_ _)); exact BK350.out) hb)
        have n3_ := Aside0.mk (below_step (by repeat (first | (with_reducible first | exact HB.out | apply below_alloc | apply pw_below_drewN | apply below_drew1 | refine below_set ?_ GE342.out | refine below_set ?_ GE346.out | refine below_set ?_ GE350.out) | exact HB.out)) hb)
        clear BK342
        clear BK346
        clear BK350
        clear HB
        have BK342 := n0_
        have BK346 := n1_
        have BK350 := n2_
        have HB := n3_
        clear n0_ n1_ n2_ n3_
        (try clear hb)
        (try clear hb2)
        (try clear hk)
        (try clear hi)
        refine hK.out _ _ ⟨(blk_cell BK346.out 0).trans rfl, (blk_cell BK346.out 1).trans rfl, (blk_cell BK346.out 2).trans rfl, (blk_cell BK350.out 0).trans rfl, (blk_cell BK350.out 1).trans rfl, (blk_cell BK350.out 2).trans rfl, (blk_cell BK342.out 0).trans rfl, (blk_cell BK342.out 1).trans rfl, (blk_cell BK342.out 2).trans rfl⟩ (fun hHeld => ?_)
        clear hK K
        refine norm_ (a' := ?_) ?_ ?_
        rotate_left
        · show Act.put _ (some 27) _ = _
          simp only [Act.put, List.setIfInBounds_toArray, List.set_cons_zero, List.set_cons_succ, i64_w, i32_w]
          rfl
        refine pure_ (i := 8) (N := some 28) (v := ?_) (a' := ?_) #[true, true, true, true, true, true, true, true, true, false] rfl rfl (any_of HT_.out (by kernel_rfl)) (fun _ _ _ h => h) (Or.inl ⟨by rfl, ?_⟩) ?_ ?_
        rotate_left
        · intro w'
          go_simp
          with_reducible rfl
        rotate_left
        · simp only [Act.put, List.setIfInBounds_toArray, List.set_cons_zero, List.set_cons_succ, i64_w, i32_w]
          rfl
        refine pure_ (i := 9) (N := some 29) (v := ?_) (a' := ?_) #[true, true, true, true, true, true, true, true, true, true] rfl rfl (any_of HT_.out (by kernel_rfl)) (fun _ _ _ h => h) (Or.inl ⟨by rfl, ?_⟩) ?_ ?_
        rotate_left
        · intro w'
          go_simp
          with_reducible rfl
        rotate_left
        · simp only [Act.put, List.setIfInBounds_toArray, List.set_cons_zero, List.set_cons_succ, i64_w, i32_w]
          rfl
        refine done_ (done_of HT_.out (by kernel_rfl)) ?_
        try go_wp2
        go_meet
        case rel => exact ⟨_, ((t351 != t352)), (by first | rfl | (simp; done) | (simp [*]; done)), H', ⟨by first | omega | exact Nat.le_refl _⟩, ⟨by (with_reducible repeat (first | refine blk_drewN ?_ _ | refine blk_drew ?_ | refine blk_alloc ?_ _)); exact BK342.out⟩, ⟨by (with_reducible repeat (first | refine blk_drewN ?_ _ | refine blk_drew ?_ | refine blk_alloc ?_ _)); exact BK346.out⟩, ⟨by (with_reducible repeat (first | refine blk_drewN ?_ _ | refine blk_drew ?_ | refine blk_alloc ?_ _)); exact BK350.out⟩, ⟨by repeat (first | (with_reducible first | exact HB.out | apply below_alloc | apply pw_below_drewN | apply below_drew1 | refine below_set ?_ GE342.out | refine below_set ?_ GE346.out | refine below_set ?_ GE350.out) | exact HB.out)⟩⟩
    case rest =>
      clear HC7
      try clear c1
      try clear c2
      try clear p2
      try clear c3
      try clear c6
      try clear c11
      try clear c13
      try clear c18
      try clear c19
      try clear c20
      try clear c21
      try clear c21b0
      try clear c22
      try clear hcz10_0
      try clear hcz10_1
      try clear hcz10_2
      try clear hcz14_0
      try clear hcz14_1
      try clear hcz14_2
      try clear hcz15_0
      try clear hcz15_1
      try clear hcz15_2
      try clear hcz20_0
      try clear hcz20_1
      try clear hcz20_2
      try clear hfz10_0
      try clear hfz10_1
      try clear hfz10_2
      try clear hfz14_0
      try clear hfz14_1
      try clear hfz14_2
      try clear hfz15_0
      try clear hfz15_1
      try clear hfz15_2
      try clear hfz20_0
      try clear hfz20_1
      try clear hfz20_2
      obtain ⟨kq, x29_6, rfl, HA, HJ6, BK342, BK346, BK350, HB⟩ := hcut
      cases kq with
      | zero => exact absurd HA.out (by simp [laws_FnHashers.j0])
      | succ kj6 =>
        have H := HA.out
        clear HA
        simp only [laws_FnHashers.j0] at H
        by_cases c30 : x29_6 = true
        · subst c30
          have H1 : (some false) = some r := by rw [if_pos rfl] at H; exact H
          clear H
          have H := H1
          clear H1
          obtain rfl := Option.some.inj H
          go_wp2
          go_ret
          exact ⟨by first | rfl | (simp [errW_none, errW_some] <;> rfl) | (simp [*, errW_none, errW_some] <;> rfl), by repeat (first | (with_reducible first | exact HB.out | apply below_alloc | apply pw_below_drewN | apply below_drew1 | refine below_set ?_ GE342.out | refine below_set ?_ GE346.out | refine below_set ?_ GE350.out) | exact HB.out)⟩
        · replace c30 := Bool.eq_false_iff.mpr c30
          subst c30
          have H1 : ((spec_HasherOk.f t338 t339 t340).bind fun t353 => (if t353 = true then ((impl_HasherOk.f t343 t344 t345).bind fun t354 => (if t354 = true then ((impl_HashEnd.f kj6 t343 t344 t345).bind fun t355 => (if (t355.size : Int) = 32 then (if (t343.toList == t338.toList && (t344.toList == t339.toList && (t345 == t340))) = true then (some true) else (some (t345 == (wrap64 (t340 + (t341.size : Int)))))) else (some false))) else (some false))) else (if (t343.toList == t338.toList && (t344.toList == t339.toList && (t345 == t340))) = true then ((impl_HashEnd.f kj6 t338 t339 t340).bind fun t356 => (some (t356.toList == ([] : List UInt8)))) else (some false)))) = some r := by rw [if_neg (show ¬ (false = true) by decide)] at H; exact H
          clear H
          have H := H1
          clear H1
          replace H := Option.bind_eq_some_iff.mp H
          obtain ⟨t353, A310, H⟩ := H
          replace H : (if t353 = true then ((impl_HasherOk.f t343 t344 t345).bind fun t354 => (if t354 = true then ((impl_HashEnd.f kj6 t343 t344 t345).bind fun t355 => (if (t355.size : Int) = 32 then (if (t343.toList == t338.toList && (t344.toList == t339.toList && (t345 == t340))) = true then (some true) else (some (t345 == (wrap64 (t340 + (t341.size : Int)))))) else (some false))) else (some false))) else (if (t343.toList == t338.toList && (t344.toList == t339.toList && (t345 == t340))) = true then ((impl_HashEnd.f kj6 t338 t339 t340).bind fun t356 => (some (t356.toList == ([] : List UInt8)))) else (some false))) = some r := H
          have A31 := Aside0.mk A310
          clear A310
          by_cases c32 : t353 = true
          · subst c32
            have H1 : ((impl_HasherOk.f t343 t344 t345).bind fun t354 => (if t354 = true then ((impl_HashEnd.f kj6 t343 t344 t345).bind fun t355 => (if (t355.size : Int) = 32 then (if (t343.toList == t338.toList && (t344.toList == t339.toList && (t345 == t340))) = true then (some true) else (some (t345 == (wrap64 (t340 + (t341.size : Int)))))) else (some false))) else (some false))) = some r := by rw [if_pos rfl] at H; exact H
            clear H
            have H := H1
            clear H1
            replace H := Option.bind_eq_some_iff.mp H
            obtain ⟨t354, A330, H⟩ := H
            replace H : (if t354 = true then ((impl_HashEnd.f kj6 t343 t344 t345).bind fun t355 => (if (t355.size : Int) = 32 then (if (t343.toList == t338.toList && (t344.toList == t339.toList && (t345 == t340))) = true then (some true) else (some (t345 == (wrap64 (t340 + (t341.size : Int)))))) else (some false))) else (some false)) = some r := H
            have A33 := Aside0.mk A330
            clear A330
            by_cases c34 : t354 = true
            · subst c34
              have H1 : ((impl_HashEnd.f kj6 t343 t344 t345).bind fun t355 => (if (t355.size : Int) = 32 then (if (t343.toList == t338.toList && (t344.toList == t339.toList && (t345 == t340))) = true then (some true) else (some (t345 == (wrap64 (t340 + (t341.size : Int)))))) else (some false))) = some r := by rw [if_pos rfl] at H; exact H
              clear H
              have H := H1
              clear H1
              replace H := Option.bind_eq_some_iff.mp H
              obtain ⟨t355, A350, H⟩ := H
              replace H : (if (t355.size : Int) = 32 then (if (t343.toList == t338.toList && (t344.toList == t339.toList && (t345 == t340))) = true then (some true) else (some (t345 == (wrap64 (t340 + (t341.size : Int)))))) else (some false)) = some r := H
              have A35 := Aside0.mk A350
              clear A350
              by_cases c36 : (t355.size : Int) = 32
              · rw [if_pos c36] at H
                have c36b0 : ((t355.size : Int) == 32) = true := beq_iff_eq.mpr c36
                have c36b1 : ((t355.size : Int) != 32) = false := bne_eq_false_iff_eq.mpr c36
                clear c36
                by_cases c37 : (t343.toList == t338.toList && (t344.toList == t339.toList && (t345 == t340))) = true
                · rw [if_pos c37] at H
                  have c37b0 : (t343.toList == t338.toList && (t344.toList == t339.toList && (t345 == t340))) = true := c37
                  (try (have c37b1 : decide (t343.toList = t338.toList && (t344.toList == t339.toList && (t345 == t340))) = true := by simpa using c37))
                  (try (have c37b2 : (t343.toList == t338.toList && (t344.toList == t339.toList && (t345 == t340))) = true := by simpa using c37))
                  clear c37
                  obtain rfl := Option.some.inj H
                  have hnb38 := NB342_346.out
                  have hnc38 := NB346_342.out
                  have hnb39 := NB342_350.out
                  have hnc39 := NB350_342.out
                  have hcz40_0 : wc.cell? ⟨gb342, 0, none⟩ = some (.string t338) := (blk_cell BK342.out 0).trans rfl
                  have hcz40_1 : wc.cell? ⟨gb342, 1, none⟩ = some (.string t339) := (blk_cell BK342.out 1).trans rfl
                  have hcz40_2 : wc.cell? ⟨gb342, 2, none⟩ = some (.int .i64 t340) := (blk_cell BK342.out 2).trans rfl
                  have hfz40_0 := blk_frozen BK342.out 0
                  have hfz40_1 := blk_frozen BK342.out 1
                  have hfz40_2 := blk_frozen BK342.out 2
                  go_wp2_with (first | ((with_reducible refine gate_callee (f := 22) rfl ?_); refine goesL_ (some 31) rfl rfl Try.func22 (by kernel_rfl) rfl #[.agg #[.string t338, .string t339, .int .i64 t340]] rfl (by (try simp only [List.map_toArray, List.map_cons, List.map_nil]); first | done | rfl | (simp only [List.length_drop, List.length_take]; rfl)) ?_; (with_reducible refine (spec_HasherOk.calls t338 t339 t340 true _ A31.out).mono ?_); rintro e w41 ⟨rfl, hb⟩; refine ⟨_, rfl, ?_⟩; have n0_ := Aside0.mk (blk_below (g := gb342) (o := .cells #[.string t338, .string t339, .int .i64 t340] 25 (0, 0)) (by (with_reducible repeat (first | refine blk_drewN ?_ _ | refine blk_drew ?_ | refine blk_alloc ?_ _)); exact BK342.out) hb); have n1_ := Aside0.mk (blk_below (g := gb346) (o := .cells #[.string t343, .string t344, .int .i64 t345] 25 (0, 0)) (by (with_reducible repeat (first | refine blk_drewN ?_ _ | refine blk_drew ?_ | refine blk_alloc ?_ _)); exact BK346.out) hb); have n2_ := Aside0.mk (blk_below (g := gb350) (o := .cells #[.string t347, .string t348, .int .i64 t349] 25 (0, 0)) (by (with_reducible repeat (first | refine blk_drewN ?_ _ | refine blk_drew ?_ | refine blk_alloc ?_ _)); exact BK350.out) hb); have n3_ := Aside0.mk (below_step (by repeat (first | (with_reducible first | exact HB.out | apply below_alloc | apply pw_below_drewN | apply below_drew1 | refine below_set ?_ GE342.out | refine below_set ?_ GE346.out | refine below_set ?_ GE350.out) | exact HB.out)) hb); clear BK342; clear BK346; clear BK350; clear HB; have BK342 := n0_; have BK346 := n1_; have BK350 := n2_; have HB := n3_; clear n0_ n1_ n2_ n3_; (try clear hb); (try clear hb2); (try clear hk); (try clear hi); have hnb42 := NB346_350.out; have hnc42 := NB350_346.out; have hcz43_0 : w41.cell? ⟨gb346, 0, none⟩ = some (.string t343) := (blk_cell BK346.out 0).trans rfl; have hcz43_1 : w41.cell? ⟨gb346, 1, none⟩ = some (.string t344) := (blk_cell BK346.out 1).trans rfl; have hcz43_2 : w41.cell? ⟨gb346, 2, none⟩ = some (.int .i64 t345) := (blk_cell BK346.out 2).trans rfl; have hfz43_0 := blk_frozen BK346.out 0; have hfz43_1 := blk_frozen BK346.out 1; have hfz43_2 := blk_frozen BK346.out 2; (try have hcygb342_0 : _ = some (.string t338) := (blk_cell BK342.out 0).trans rfl); (try have hcygb342_1 : _ = some (.string t339) := (blk_cell BK342.out 1).trans rfl); (try have hcygb342_2 : _ = some (.int .i64 t340) := (blk_cell BK342.out 2).trans rfl); (try have hcygb350_0 : _ = some (.string t347) := (blk_cell BK350.out 0).trans rfl); (try have hcygb350_1 : _ = some (.string t348) := (blk_cell BK350.out 1).trans rfl); (try have hcygb350_2 : _ = some (.int .i64 t349) := (blk_cell BK350.out 2).trans rfl)) | ((with_reducible refine gate_callee (f := 21) rfl ?_); refine goesL_ (some 42) rfl rfl Try.func21 (by kernel_rfl) rfl #[.agg #[.string t343, .string t344, .int .i64 t345]] rfl (by (try simp only [List.map_toArray, List.map_cons, List.map_nil]); first | done | rfl | (simp only [List.length_drop, List.length_take]; rfl)) ?_; (with_reducible refine (impl_HasherOk.calls t343 t344 t345 true _ A33.out).mono ?_); rintro e w44 ⟨rfl, hb⟩; refine ⟨_, rfl, ?_⟩; have n0_ := Aside0.mk (blk_below (g := gb342) (o := .cells #[.string t338, .string t339, .int .i64 t340] 25 (0, 0)) (by (with_reducible repeat (first | refine blk_drewN ?_ _ | refine blk_drew ?_ | refine blk_alloc ?_ _)); exact BK342.out) hb); have n1_ := Aside0.mk (blk_below (g := gb346) (o := .cells #[.string t343, .string t344, .int .i64 t345] 25 (0, 0)) (by (with_reducible repeat (first | refine blk_drewN ?_ _ | refine blk_drew ?_ | refine blk_alloc ?_ _)); exact BK346.out) hb); have n2_ := Aside0.mk (blk_below (g := gb350) (o := .cells #[.string t347, .string t348, .int .i64 t349] 25 (0, 0)) (by (with_reducible repeat (first | refine blk_drewN ?_ _ | refine blk_drew ?_ | refine blk_alloc ?_ _)); exact BK350.out) hb); have n3_ := Aside0.mk (below_step (by repeat (first | (with_reducible first | exact HB.out | apply below_alloc | apply pw_below_drewN | apply below_drew1 | refine below_set ?_ GE342.out | refine below_set ?_ GE346.out | refine below_set ?_ GE350.out) | exact HB.out)) hb); clear BK342; clear BK346; clear BK350; clear HB; have BK342 := n0_; have BK346 := n1_; have BK350 := n2_; have HB := n3_; clear n0_ n1_ n2_ n3_; (try clear hb); (try clear hb2); (try clear hk); (try clear hi); have hcz45_0 : w44.cell? ⟨gb346, 0, none⟩ = some (.string t343) := (blk_cell BK346.out 0).trans rfl; have hcz45_1 : w44.cell? ⟨gb346, 1, none⟩ = some (.string t344) := (blk_cell BK346.out 1).trans rfl; have hcz45_2 : w44.cell? ⟨gb346, 2, none⟩ = some (.int .i64 t345) := (blk_cell BK346.out 2).trans rfl; have hfz45_0 := blk_frozen BK346.out 0; have hfz45_1 := blk_frozen BK346.out 1; have hfz45_2 := blk_frozen BK346.out 2; (try have hcygb342_0 : _ = some (.string t338) := (blk_cell BK342.out 0).trans rfl); (try have hcygb342_1 : _ = some (.string t339) := (blk_cell BK342.out 1).trans rfl); (try have hcygb342_2 : _ = some (.int .i64 t340) := (blk_cell BK342.out 2).trans rfl); (try have hcygb350_0 : _ = some (.string t347) := (blk_cell BK350.out 0).trans rfl); (try have hcygb350_1 : _ = some (.string t348) := (blk_cell BK350.out 1).trans rfl); (try have hcygb350_2 : _ = some (.int .i64 t349) := (blk_cell BK350.out 2).trans rfl)) | (go_at_call 16; (with_reducible refine (impl_HashEnd.calls kj6 t343 t344 t345 t355 _ A35.out).mono ?_); rintro e w46 ⟨rfl, hb⟩; have n0_ := Aside0.mk (blk_below (g := gb342) (o := .cells #[.string t338, .string t339, .int .i64 t340] 25 (0, 0)) (by (with_reducible repeat (first | refine blk_drewN ?_ _ | refine blk_drew ?_ | refine blk_alloc ?_ _)); exact BK342.out) hb); have n1_ := Aside0.mk (blk_below (g := gb346) (o := .cells #[.string t343, .string t344, .int .i64 t345] 25 (0, 0)) (by (with_reducible repeat (first | refine blk_drewN ?_ _ | refine blk_drew ?_ | refine blk_alloc ?_ _)); exact BK346.out) hb); have n2_ := Aside0.mk (blk_below (g := gb350) (o := .cells #[.string t347, .string t348, .int .i64 t349] 25 (0, 0)) (by (with_reducible repeat (first | refine blk_drewN ?_ _ | refine blk_drew ?_ | refine blk_alloc ?_ _)); exact BK350.out) hb); have n3_ := Aside0.mk (below_step (by repeat (first | (with_reducible first | exact HB.out | apply below_alloc | apply pw_below_drewN | apply below_drew1 | refine below_set ?_ GE342.out | refine below_set ?_ GE346.out | refine below_set ?_ GE350.out) | exact HB.out)) hb); clear BK342; clear BK346; clear BK350; clear HB; have BK342 := n0_; have BK346 := n1_; have BK350 := n2_; have HB := n3_; clear n0_ n1_ n2_ n3_; (try clear hb); (try clear hb2); (try clear hk); (try clear hi); have hcz47_0 : w46.cell? ⟨gb346, 0, none⟩ = some (.string t343) := (blk_cell BK346.out 0).trans rfl; have hcz47_1 : w46.cell? ⟨gb346, 1, none⟩ = some (.string t344) := (blk_cell BK346.out 1).trans rfl; have hcz47_2 : w46.cell? ⟨gb346, 2, none⟩ = some (.int .i64 t345) := (blk_cell BK346.out 2).trans rfl; have hfz47_0 := blk_frozen BK346.out 0; have hfz47_1 := blk_frozen BK346.out 1; have hfz47_2 := blk_frozen BK346.out 2; have hcz48_0 : w46.cell? ⟨gb342, 0, none⟩ = some (.string t338) := (blk_cell BK342.out 0).trans rfl; have hcz48_1 : w46.cell? ⟨gb342, 1, none⟩ = some (.string t339) := (blk_cell BK342.out 1).trans rfl; have hcz48_2 : w46.cell? ⟨gb342, 2, none⟩ = some (.int .i64 t340) := (blk_cell BK342.out 2).trans rfl; have hfz48_0 := blk_frozen BK342.out 0; have hfz48_1 := blk_frozen BK342.out 1; have hfz48_2 := blk_frozen BK342.out 2; (try have hcygb350_0 : _ = some (.string t347) := (blk_cell BK350.out 0).trans rfl); (try have hcygb350_1 : _ = some (.string t348) := (blk_cell BK350.out 1).trans rfl); (try have hcygb350_2 : _ = some (.int .i64 t349) := (blk_cell BK350.out 2).trans rfl)))
                  go_ret
                  exact ⟨by first | rfl | (simp [errW_none, errW_some] <;> rfl) | (simp [*, errW_none, errW_some] <;> rfl), by repeat (first | (with_reducible first | exact HB.out | apply below_alloc | apply pw_below_drewN | apply below_drew1 | refine below_set ?_ GE342.out | refine below_set ?_ GE346.out | refine below_set ?_ GE350.out) | exact HB.out)⟩
                · rw [if_neg c37] at H
                  have c37b0 : (t343.toList == t338.toList && (t344.toList == t339.toList && (t345 == t340))) = false := by simpa using c37
                  (try (have c37b1 : decide (t343.toList = t338.toList && (t344.toList == t339.toList && (t345 == t340))) = false := by simpa using c37))
                  (try (have c37b2 : (t343.toList == t338.toList && (t344.toList == t339.toList && (t345 == t340))) = false := by simpa using c37))
                  (try (have c37b3 : ¬ (t343.toList = t338.toList && (t344.toList == t339.toList && (t345 == t340))) := by simpa using c37))
                  clear c37
                  obtain rfl := Option.some.inj H
                  have hnb49 := NB342_346.out
                  have hnc49 := NB346_342.out
                  have hnb50 := NB342_350.out
                  have hnc50 := NB350_342.out
                  have hcz51_0 : wc.cell? ⟨gb342, 0, none⟩ = some (.string t338) := (blk_cell BK342.out 0).trans rfl
                  have hcz51_1 : wc.cell? ⟨gb342, 1, none⟩ = some (.string t339) := (blk_cell BK342.out 1).trans rfl
                  have hcz51_2 : wc.cell? ⟨gb342, 2, none⟩ = some (.int .i64 t340) := (blk_cell BK342.out 2).trans rfl
                  have hfz51_0 := blk_frozen BK342.out 0
                  have hfz51_1 := blk_frozen BK342.out 1
                  have hfz51_2 := blk_frozen BK342.out 2
                  go_wp2_with (first | ((with_reducible refine gate_callee (f := 22) rfl ?_); refine goesL_ (some 31) rfl rfl Try.func22 (by kernel_rfl) rfl #[.agg #[.string t338, .string t339, .int .i64 t340]] rfl (by (try simp only [List.map_toArray, List.map_cons, List.map_nil]); first | done | rfl | (simp only [List.length_drop, List.length_take]; rfl)) ?_; (with_reducible refine (spec_HasherOk.calls t338 t339 t340 true _ A31.out).mono ?_); rintro e w52 ⟨rfl, hb⟩; refine ⟨_, rfl, ?_⟩; have n0_ := Aside0.mk (blk_below (g := gb342) (o := .cells #[.string t338, .string t339, .int .i64 t340] 25 (0, 0)) (by (with_reducible repeat (first | refine blk_drewN ?_ _ | refine blk_drew ?_ | refine blk_alloc ?_ _)); exact BK342.out) hb); have n1_ := Aside0.mk (blk_below (g := gb346) (o := .cells #[.string t343, .string t344, .int .i64 t345] 25 (0, 0)) (by (with_reducible repeat (first | refine blk_drewN ?_ _ | refine blk_drew ?_ | refine blk_alloc ?_ _)); exact BK346.out) hb); have n2_ := Aside0.mk (blk_below (g := gb350) (o := .cells #[.string t347, .string t348, .int .i64 t349] 25 (0, 0)) (by (with_reducible repeat (first | refine blk_drewN ?_ _ | refine blk_drew ?_ | refine blk_alloc ?_ _)); exact BK350.out) hb); have n3_ := Aside0.mk (below_step (by repeat (first | (with_reducible first | exact HB.out | apply below_alloc | apply pw_below_drewN | apply below_drew1 | refine below_set ?_ GE342.out | refine below_set ?_ GE346.out | refine below_set ?_ GE350.out) | exact HB.out)) hb); clear BK342; clear BK346; clear BK350; clear HB; have BK342 := n0_; have BK346 := n1_; have BK350 := n2_; have HB := n3_; clear n0_ n1_ n2_ n3_; (try clear hb); (try clear hb2); (try clear hk); (try clear hi); have hnb53 := NB346_350.out; have hnc53 := NB350_346.out; have hcz54_0 : w52.cell? ⟨gb346, 0, none⟩ = some (.string t343) := (blk_cell BK346.out 0).trans rfl; have hcz54_1 : w52.cell? ⟨gb346, 1, none⟩ = some (.string t344) := (blk_cell BK346.out 1).trans rfl; have hcz54_2 : w52.cell? ⟨gb346, 2, none⟩ = some (.int .i64 t345) := (blk_cell BK346.out 2).trans rfl; have hfz54_0 := blk_frozen BK346.out 0; have hfz54_1 := blk_frozen BK346.out 1; have hfz54_2 := blk_frozen BK346.out 2; (try have hcygb342_0 : _ = some (.string t338) := (blk_cell BK342.out 0).trans rfl); (try have hcygb342_1 : _ = some (.string t339) := (blk_cell BK342.out 1).trans rfl); (try have hcygb342_2 : _ = some (.int .i64 t340) := (blk_cell BK342.out 2).trans rfl); (try have hcygb350_0 : _ = some (.string t347) := (blk_cell BK350.out 0).trans rfl); (try have hcygb350_1 : _ = some (.string t348) := (blk_cell BK350.out 1).trans rfl); (try have hcygb350_2 : _ = some (.int .i64 t349) := (blk_cell BK350.out 2).trans rfl)) | ((with_reducible refine gate_callee (f := 21) rfl ?_); refine goesL_ (some 42) rfl rfl Try.func21 (by kernel_rfl) rfl #[.agg #[.string t343, .string t344, .int .i64 t345]] rfl (by (try simp only [List.map_toArray, List.map_cons, List.map_nil]); first | done | rfl | (simp only [List.length_drop, List.length_take]; rfl)) ?_; (with_reducible refine (impl_HasherOk.calls t343 t344 t345 true _ A33.out).mono ?_); rintro e w55 ⟨rfl, hb⟩; refine ⟨_, rfl, ?_⟩; have n0_ := Aside0.mk (blk_below (g := gb342) (o := .cells #[.string t338, .string t339, .int .i64 t340] 25 (0, 0)) (by (with_reducible repeat (first | refine blk_drewN ?_ _ | refine blk_drew ?_ | refine blk_alloc ?_ _)); exact BK342.out) hb); have n1_ := Aside0.mk (blk_below (g := gb346) (o := .cells #[.string t343, .string t344, .int .i64 t345] 25 (0, 0)) (by (with_reducible repeat (first | refine blk_drewN ?_ _ | refine blk_drew ?_ | refine blk_alloc ?_ _)); exact BK346.out) hb); have n2_ := Aside0.mk (blk_below (g := gb350) (o := .cells #[.string t347, .string t348, .int .i64 t349] 25 (0, 0)) (by (with_reducible repeat (first | refine blk_drewN ?_ _ | refine blk_drew ?_ | refine blk_alloc ?_ _)); exact BK350.out) hb); have n3_ := Aside0.mk (below_step (by repeat (first | (with_reducible first | exact HB.out | apply below_alloc | apply pw_below_drewN | apply below_drew1 | refine below_set ?_ GE342.out | refine below_set ?_ GE346.out | refine below_set ?_ GE350.out) | exact HB.out)) hb); clear BK342; clear BK346; clear BK350; clear HB; have BK342 := n0_; have BK346 := n1_; have BK350 := n2_; have HB := n3_; clear n0_ n1_ n2_ n3_; (try clear hb); (try clear hb2); (try clear hk); (try clear hi); have hcz56_0 : w55.cell? ⟨gb346, 0, none⟩ = some (.string t343) := (blk_cell BK346.out 0).trans rfl; have hcz56_1 : w55.cell? ⟨gb346, 1, none⟩ = some (.string t344) := (blk_cell BK346.out 1).trans rfl; have hcz56_2 : w55.cell? ⟨gb346, 2, none⟩ = some (.int .i64 t345) := (blk_cell BK346.out 2).trans rfl; have hfz56_0 := blk_frozen BK346.out 0; have hfz56_1 := blk_frozen BK346.out 1; have hfz56_2 := blk_frozen BK346.out 2; (try have hcygb342_0 : _ = some (.string t338) := (blk_cell BK342.out 0).trans rfl); (try have hcygb342_1 : _ = some (.string t339) := (blk_cell BK342.out 1).trans rfl); (try have hcygb342_2 : _ = some (.int .i64 t340) := (blk_cell BK342.out 2).trans rfl); (try have hcygb350_0 : _ = some (.string t347) := (blk_cell BK350.out 0).trans rfl); (try have hcygb350_1 : _ = some (.string t348) := (blk_cell BK350.out 1).trans rfl); (try have hcygb350_2 : _ = some (.int .i64 t349) := (blk_cell BK350.out 2).trans rfl)) | (go_at_call 16; (with_reducible refine (impl_HashEnd.calls kj6 t343 t344 t345 t355 _ A35.out).mono ?_); rintro e w57 ⟨rfl, hb⟩; have n0_ := Aside0.mk (blk_below (g := gb342) (o := .cells #[.string t338, .string t339, .int .i64 t340] 25 (0, 0)) (by (with_reducible repeat (first | refine blk_drewN ?_ _ | refine blk_drew ?_ | refine blk_alloc ?_ _)); exact BK342.out) hb); have n1_ := Aside0.mk (blk_below (g := gb346) (o := .cells #[.string t343, .string t344, .int .i64 t345] 25 (0, 0)) (by (with_reducible repeat (first | refine blk_drewN ?_ _ | refine blk_drew ?_ | refine blk_alloc ?_ _)); exact BK346.out) hb); have n2_ := Aside0.mk (blk_below (g := gb350) (o := .cells #[.string t347, .string t348, .int .i64 t349] 25 (0, 0)) (by (with_reducible repeat (first | refine blk_drewN ?_ _ | refine blk_drew ?_ | refine blk_alloc ?_ _)); exact BK350.out) hb); have n3_ := Aside0.mk (below_step (by repeat (first | (with_reducible first | exact HB.out | apply below_alloc | apply pw_below_drewN | apply below_drew1 | refine below_set ?_ GE342.out | refine below_set ?_ GE346.out | refine below_set ?_ GE350.out) | exact HB.out)) hb); clear BK342; clear BK346; clear BK350; clear HB; have BK342 := n0_; have BK346 := n1_; have BK350 := n2_; have HB := n3_; clear n0_ n1_ n2_ n3_; (try clear hb); (try clear hb2); (try clear hk); (try clear hi); have hcz58_0 : w57.cell? ⟨gb346, 0, none⟩ = some (.string t343) := (blk_cell BK346.out 0).trans rfl; have hcz58_1 : w57.cell? ⟨gb346, 1, none⟩ = some (.string t344) := (blk_cell BK346.out 1).trans rfl; have hcz58_2 : w57.cell? ⟨gb346, 2, none⟩ = some (.int .i64 t345) := (blk_cell BK346.out 2).trans rfl; have hfz58_0 := blk_frozen BK346.out 0; have hfz58_1 := blk_frozen BK346.out 1; have hfz58_2 := blk_frozen BK346.out 2; have hcz59_0 : w57.cell? ⟨gb342, 0, none⟩ = some (.string t338) := (blk_cell BK342.out 0).trans rfl; have hcz59_1 : w57.cell? ⟨gb342, 1, none⟩ = some (.string t339) := (blk_cell BK342.out 1).trans rfl; have hcz59_2 : w57.cell? ⟨gb342, 2, none⟩ = some (.int .i64 t340) := (blk_cell BK342.out 2).trans rfl; have hfz59_0 := blk_frozen BK342.out 0; have hfz59_1 := blk_frozen BK342.out 1; have hfz59_2 := blk_frozen BK342.out 2; (try have hcygb350_0 : _ = some (.string t347) := (blk_cell BK350.out 0).trans rfl); (try have hcygb350_1 : _ = some (.string t348) := (blk_cell BK350.out 1).trans rfl); (try have hcygb350_2 : _ = some (.int .i64 t349) := (blk_cell BK350.out 2).trans rfl)))
                  go_ret
                  exact ⟨by first | rfl | (simp [errW_none, errW_some] <;> rfl) | (simp [*, errW_none, errW_some] <;> rfl), by repeat (first | (with_reducible first | exact HB.out | apply below_alloc | apply pw_below_drewN | apply below_drew1 | refine below_set ?_ GE342.out | refine below_set ?_ GE346.out | refine below_set ?_ GE350.out) | exact HB.out)⟩
              · rw [if_neg c36] at H
                have c36b0 : ((t355.size : Int) == 32) = false := beq_eq_false_iff_ne.mpr c36
                have c36b1 : ((t355.size : Int) != 32) = true := bne_iff_ne.mpr c36
                obtain rfl := Option.some.inj H
                have hnb60 := NB342_346.out
                have hnc60 := NB346_342.out
                have hnb61 := NB342_350.out
                have hnc61 := NB350_342.out
                have hcz62_0 : wc.cell? ⟨gb342, 0, none⟩ = some (.string t338) := (blk_cell BK342.out 0).trans rfl
                have hcz62_1 : wc.cell? ⟨gb342, 1, none⟩ = some (.string t339) := (blk_cell BK342.out 1).trans rfl
                have hcz62_2 : wc.cell? ⟨gb342, 2, none⟩ = some (.int .i64 t340) := (blk_cell BK342.out 2).trans rfl
                have hfz62_0 := blk_frozen BK342.out 0
                have hfz62_1 := blk_frozen BK342.out 1
                have hfz62_2 := blk_frozen BK342.out 2
                go_wp2_with (first | ((with_reducible refine gate_callee (f := 22) rfl ?_); refine goesL_ (some 31) rfl rfl Try.func22 (by kernel_rfl) rfl #[.agg #[.string t338, .string t339, .int .i64 t340]] rfl (by (try simp only [List.map_toArray, List.map_cons, List.map_nil]); first | done | rfl | (simp only [List.length_drop, List.length_take]; rfl)) ?_; (with_reducible refine (spec_HasherOk.calls t338 t339 t340 true _ A31.out).mono ?_); rintro e w63 ⟨rfl, hb⟩; refine ⟨_, rfl, ?_⟩; have n0_ := Aside0.mk (blk_below (g := gb342) (o := .cells #[.string t338, .string t339, .int .i64 t340] 25 (0, 0)) (by (with_reducible repeat (first | refine blk_drewN ?_ _ | refine blk_drew ?_ | refine blk_alloc ?_ _)); exact BK342.out) hb); have n1_ := Aside0.mk (blk_below (g := gb346) (o := .cells #[.string t343, .string t344, .int .i64 t345] 25 (0, 0)) (by (with_reducible repeat (first | refine blk_drewN ?_ _ | refine blk_drew ?_ | refine blk_alloc ?_ _)); exact BK346.out) hb); have n2_ := Aside0.mk (blk_below (g := gb350) (o := .cells #[.string t347, .string t348, .int .i64 t349] 25 (0, 0)) (by (with_reducible repeat (first | refine blk_drewN ?_ _ | refine blk_drew ?_ | refine blk_alloc ?_ _)); exact BK350.out) hb); have n3_ := Aside0.mk (below_step (by repeat (first | (with_reducible first | exact HB.out | apply below_alloc | apply pw_below_drewN | apply below_drew1 | refine below_set ?_ GE342.out | refine below_set ?_ GE346.out | refine below_set ?_ GE350.out) | exact HB.out)) hb); clear BK342; clear BK346; clear BK350; clear HB; have BK342 := n0_; have BK346 := n1_; have BK350 := n2_; have HB := n3_; clear n0_ n1_ n2_ n3_; (try clear hb); (try clear hb2); (try clear hk); (try clear hi); have hnb64 := NB346_350.out; have hnc64 := NB350_346.out; have hcz65_0 : w63.cell? ⟨gb346, 0, none⟩ = some (.string t343) := (blk_cell BK346.out 0).trans rfl; have hcz65_1 : w63.cell? ⟨gb346, 1, none⟩ = some (.string t344) := (blk_cell BK346.out 1).trans rfl; have hcz65_2 : w63.cell? ⟨gb346, 2, none⟩ = some (.int .i64 t345) := (blk_cell BK346.out 2).trans rfl; have hfz65_0 := blk_frozen BK346.out 0; have hfz65_1 := blk_frozen BK346.out 1; have hfz65_2 := blk_frozen BK346.out 2; (try have hcygb342_0 : _ = some (.string t338) := (blk_cell BK342.out 0).trans rfl); (try have hcygb342_1 : _ = some (.string t339) := (blk_cell BK342.out 1).trans rfl); (try have hcygb342_2 : _ = some (.int .i64 t340) := (blk_cell BK342.out 2).trans rfl); (try have hcygb350_0 : _ = some (.string t347) := (blk_cell BK350.out 0).trans rfl); (try have hcygb350_1 : _ = some (.string t348) := (blk_cell BK350.out 1).trans rfl); (try have hcygb350_2 : _ = some (.int .i64 t349) := (blk_cell BK350.out 2).trans rfl)) | ((with_reducible refine gate_callee (f := 21) rfl ?_); refine goesL_ (some 42) rfl rfl Try.func21 (by kernel_rfl) rfl #[.agg #[.string t343, .string t344, .int .i64 t345]] rfl (by (try simp only [List.map_toArray, List.map_cons, List.map_nil]); first | done | rfl | (simp only [List.length_drop, List.length_take]; rfl)) ?_; (with_reducible refine (impl_HasherOk.calls t343 t344 t345 true _ A33.out).mono ?_); rintro e w66 ⟨rfl, hb⟩; refine ⟨_, rfl, ?_⟩; have n0_ := Aside0.mk (blk_below (g := gb342) (o := .cells #[.string t338, .string t339, .int .i64 t340] 25 (0, 0)) (by (with_reducible repeat (first | refine blk_drewN ?_ _ | refine blk_drew ?_ | refine blk_alloc ?_ _)); exact BK342.out) hb); have n1_ := Aside0.mk (blk_below (g := gb346) (o := .cells #[.string t343, .string t344, .int .i64 t345] 25 (0, 0)) (by (with_reducible repeat (first | refine blk_drewN ?_ _ | refine blk_drew ?_ | refine blk_alloc ?_ _)); exact BK346.out) hb); have n2_ := Aside0.mk (blk_below (g := gb350) (o := .cells #[.string t347, .string t348, .int .i64 t349] 25 (0, 0)) (by (with_reducible repeat (first | refine blk_drewN ?_ _ | refine blk_drew ?_ | refine blk_alloc ?_ _)); exact BK350.out) hb); have n3_ := Aside0.mk (below_step (by repeat (first | (with_reducible first | exact HB.out | apply below_alloc | apply pw_below_drewN | apply below_drew1 | refine below_set ?_ GE342.out | refine below_set ?_ GE346.out | refine below_set ?_ GE350.out) | exact HB.out)) hb); clear BK342; clear BK346; clear BK350; clear HB; have BK342 := n0_; have BK346 := n1_; have BK350 := n2_; have HB := n3_; clear n0_ n1_ n2_ n3_; (try clear hb); (try clear hb2); (try clear hk); (try clear hi); have hcz67_0 : w66.cell? ⟨gb346, 0, none⟩ = some (.string t343) := (blk_cell BK346.out 0).trans rfl; have hcz67_1 : w66.cell? ⟨gb346, 1, none⟩ = some (.string t344) := (blk_cell BK346.out 1).trans rfl; have hcz67_2 : w66.cell? ⟨gb346, 2, none⟩ = some (.int .i64 t345) := (blk_cell BK346.out 2).trans rfl; have hfz67_0 := blk_frozen BK346.out 0; have hfz67_1 := blk_frozen BK346.out 1; have hfz67_2 := blk_frozen BK346.out 2; (try have hcygb342_0 : _ = some (.string t338) := (blk_cell BK342.out 0).trans rfl); (try have hcygb342_1 : _ = some (.string t339) := (blk_cell BK342.out 1).trans rfl); (try have hcygb342_2 : _ = some (.int .i64 t340) := (blk_cell BK342.out 2).trans rfl); (try have hcygb350_0 : _ = some (.string t347) := (blk_cell BK350.out 0).trans rfl); (try have hcygb350_1 : _ = some (.string t348) := (blk_cell BK350.out 1).trans rfl); (try have hcygb350_2 : _ = some (.int .i64 t349) := (blk_cell BK350.out 2).trans rfl)) | (go_at_call 16; (with_reducible refine (impl_HashEnd.calls kj6 t343 t344 t345 t355 _ A35.out).mono ?_); rintro e w68 ⟨rfl, hb⟩; have n0_ := Aside0.mk (blk_below (g := gb342) (o := .cells #[.string t338, .string t339, .int .i64 t340] 25 (0, 0)) (by (with_reducible repeat (first | refine blk_drewN ?_ _ | refine blk_drew ?_ | refine blk_alloc ?_ _)); exact BK342.out) hb); have n1_ := Aside0.mk (blk_below (g := gb346) (o := .cells #[.string t343, .string t344, .int .i64 t345] 25 (0, 0)) (by (with_reducible repeat (first | refine blk_drewN ?_ _ | refine blk_drew ?_ | refine blk_alloc ?_ _)); exact BK346.out) hb); have n2_ := Aside0.mk (blk_below (g := gb350) (o := .cells #[.string t347, .string t348, .int .i64 t349] 25 (0, 0)) (by (with_reducible repeat (first | refine blk_drewN ?_ _ | refine blk_drew ?_ | refine blk_alloc ?_ _)); exact BK350.out) hb); have n3_ := Aside0.mk (below_step (by repeat (first | (with_reducible first | exact HB.out | apply below_alloc | apply pw_below_drewN | apply below_drew1 | refine below_set ?_ GE342.out | refine below_set ?_ GE346.out | refine below_set ?_ GE350.out) | exact HB.out)) hb); clear BK342; clear BK346; clear BK350; clear HB; have BK342 := n0_; have BK346 := n1_; have BK350 := n2_; have HB := n3_; clear n0_ n1_ n2_ n3_; (try clear hb); (try clear hb2); (try clear hk); (try clear hi); (try have hcygb342_0 : _ = some (.string t338) := (blk_cell BK342.out 0).trans rfl); (try have hcygb342_1 : _ = some (.string t339) := (blk_cell BK342.out 1).trans rfl); (try have hcygb342_2 : _ = some (.int .i64 t340) := (blk_cell BK342.out 2).trans rfl); (try have hcygb346_0 : _ = some (.string t343) := (blk_cell BK346.out 0).trans rfl); (try have hcygb346_1 : _ = some (.string t344) := (blk_cell BK346.out 1).trans rfl); (try have hcygb346_2 : _ = some (.int .i64 t345) := (blk_cell BK346.out 2).trans rfl); (try have hcygb350_0 : _ = some (.string t347) := (blk_cell BK350.out 0).trans rfl); (try have hcygb350_1 : _ = some (.string t348) := (blk_cell BK350.out 1).trans rfl); (try have hcygb350_2 : _ = some (.int .i64 t349) := (blk_cell BK350.out 2).trans rfl)))
                go_ret
                exact ⟨by first | rfl | (simp [errW_none, errW_some] <;> rfl) | (simp [*, errW_none, errW_some] <;> rfl), by repeat (first | (with_reducible first | exact HB.out | apply below_alloc | apply pw_below_drewN | apply below_drew1 | refine below_set ?_ GE342.out | refine below_set ?_ GE346.out | refine below_set ?_ GE350.out) | exact HB.out)⟩
            · replace c34 := Bool.eq_false_iff.mpr c34
              subst c34
              have H1 : (some false) = some r := by rw [if_neg (show ¬ (false = true) by decide)] at H; exact H
              clear H
              have H := H1
              clear H1
              obtain rfl := Option.some.inj H
              have hnb69 := NB342_346.out
              have hnc69 := NB346_342.out
              have hnb70 := NB342_350.out
              have hnc70 := NB350_342.out
              have hcz71_0 : wc.cell? ⟨gb342, 0, none⟩ = some (.string t338) := (blk_cell BK342.out 0).trans rfl
              have hcz71_1 : wc.cell? ⟨gb342, 1, none⟩ = some (.string t339) := (blk_cell BK342.out 1).trans rfl
              have hcz71_2 : wc.cell? ⟨gb342, 2, none⟩ = some (.int .i64 t340) := (blk_cell BK342.out 2).trans rfl
              have hfz71_0 := blk_frozen BK342.out 0
              have hfz71_1 := blk_frozen BK342.out 1
              have hfz71_2 := blk_frozen BK342.out 2
              go_wp2_with (first | ((with_reducible refine gate_callee (f := 22) rfl ?_); refine goesL_ (some 31) rfl rfl Try.func22 (by kernel_rfl) rfl #[.agg #[.string t338, .string t339, .int .i64 t340]] rfl (by (try simp only [List.map_toArray, List.map_cons, List.map_nil]); first | done | rfl | (simp only [List.length_drop, List.length_take]; rfl)) ?_; (with_reducible refine (spec_HasherOk.calls t338 t339 t340 true _ A31.out).mono ?_); rintro e w72 ⟨rfl, hb⟩; refine ⟨_, rfl, ?_⟩; have n0_ := Aside0.mk (blk_below (g := gb342) (o := .cells #[.string t338, .string t339, .int .i64 t340] 25 (0, 0)) (by (with_reducible repeat (first | refine blk_drewN ?_ _ | refine blk_drew ?_ | refine blk_alloc ?_ _)); exact BK342.out) hb); have n1_ := Aside0.mk (blk_below (g := gb346) (o := .cells #[.string t343, .string t344, .int .i64 t345] 25 (0, 0)) (by (with_reducible repeat (first | refine blk_drewN ?_ _ | refine blk_drew ?_ | refine blk_alloc ?_ _)); exact BK346.out) hb); have n2_ := Aside0.mk (blk_below (g := gb350) (o := .cells #[.string t347, .string t348, .int .i64 t349] 25 (0, 0)) (by (with_reducible repeat (first | refine blk_drewN ?_ _ | refine blk_drew ?_ | refine blk_alloc ?_ _)); exact BK350.out) hb); have n3_ := Aside0.mk (below_step (by repeat (first | (with_reducible first | exact HB.out | apply below_alloc | apply pw_below_drewN | apply below_drew1 | refine below_set ?_ GE342.out | refine below_set ?_ GE346.out | refine below_set ?_ GE350.out) | exact HB.out)) hb); clear BK342; clear BK346; clear BK350; clear HB; have BK342 := n0_; have BK346 := n1_; have BK350 := n2_; have HB := n3_; clear n0_ n1_ n2_ n3_; (try clear hb); (try clear hb2); (try clear hk); (try clear hi); have hnb73 := NB346_350.out; have hnc73 := NB350_346.out; have hcz74_0 : w72.cell? ⟨gb346, 0, none⟩ = some (.string t343) := (blk_cell BK346.out 0).trans rfl; have hcz74_1 : w72.cell? ⟨gb346, 1, none⟩ = some (.string t344) := (blk_cell BK346.out 1).trans rfl; have hcz74_2 : w72.cell? ⟨gb346, 2, none⟩ = some (.int .i64 t345) := (blk_cell BK346.out 2).trans rfl; have hfz74_0 := blk_frozen BK346.out 0; have hfz74_1 := blk_frozen BK346.out 1; have hfz74_2 := blk_frozen BK346.out 2; (try have hcygb342_0 : _ = some (.string t338) := (blk_cell BK342.out 0).trans rfl); (try have hcygb342_1 : _ = some (.string t339) := (blk_cell BK342.out 1).trans rfl); (try have hcygb342_2 : _ = some (.int .i64 t340) := (blk_cell BK342.out 2).trans rfl); (try have hcygb350_0 : _ = some (.string t347) := (blk_cell BK350.out 0).trans rfl); (try have hcygb350_1 : _ = some (.string t348) := (blk_cell BK350.out 1).trans rfl); (try have hcygb350_2 : _ = some (.int .i64 t349) := (blk_cell BK350.out 2).trans rfl)) | ((with_reducible refine gate_callee (f := 21) rfl ?_); refine goesL_ (some 42) rfl rfl Try.func21 (by kernel_rfl) rfl #[.agg #[.string t343, .string t344, .int .i64 t345]] rfl (by (try simp only [List.map_toArray, List.map_cons, List.map_nil]); first | done | rfl | (simp only [List.length_drop, List.length_take]; rfl)) ?_; (with_reducible refine (impl_HasherOk.calls t343 t344 t345 false _ A33.out).mono ?_); rintro e w75 ⟨rfl, hb⟩; refine ⟨_, rfl, ?_⟩; have n0_ := Aside0.mk (blk_below (g := gb342) (o := .cells #[.string t338, .string t339, .int .i64 t340] 25 (0, 0)) (by (with_reducible repeat (first | refine blk_drewN ?_ _ | refine blk_drew ?_ | refine blk_alloc ?_ _)); exact BK342.out) hb); have n1_ := Aside0.mk (blk_below (g := gb346) (o := .cells #[.string t343, .string t344, .int .i64 t345] 25 (0, 0)) (by (with_reducible repeat (first | refine blk_drewN ?_ _ | refine blk_drew ?_ | refine blk_alloc ?_ _)); exact BK346.out) hb); have n2_ := Aside0.mk (blk_below (g := gb350) (o := .cells #[.string t347, .string t348, .int .i64 t349] 25 (0, 0)) (by (with_reducible repeat (first | refine blk_drewN ?_ _ | refine blk_drew ?_ | refine blk_alloc ?_ _)); exact BK350.out) hb); have n3_ := Aside0.mk (below_step (by repeat (first | (with_reducible first | exact HB.out | apply below_alloc | apply pw_below_drewN | apply below_drew1 | refine below_set ?_ GE342.out | refine below_set ?_ GE346.out | refine below_set ?_ GE350.out) | exact HB.out)) hb); clear BK342; clear BK346; clear BK350; clear HB; have BK342 := n0_; have BK346 := n1_; have BK350 := n2_; have HB := n3_; clear n0_ n1_ n2_ n3_; (try clear hb); (try clear hb2); (try clear hk); (try clear hi); (try have hcygb342_0 : _ = some (.string t338) := (blk_cell BK342.out 0).trans rfl); (try have hcygb342_1 : _ = some (.string t339) := (blk_cell BK342.out 1).trans rfl); (try have hcygb342_2 : _ = some (.int .i64 t340) := (blk_cell BK342.out 2).trans rfl); (try have hcygb346_0 : _ = some (.string t343) := (blk_cell BK346.out 0).trans rfl); (try have hcygb346_1 : _ = some (.string t344) := (blk_cell BK346.out 1).trans rfl); (try have hcygb346_2 : _ = some (.int .i64 t345) := (blk_cell BK346.out 2).trans rfl); (try have hcygb350_0 : _ = some (.string t347) := (blk_cell BK350.out 0).trans rfl); (try have hcygb350_1 : _ = some (.string t348) := (blk_cell BK350.out 1).trans rfl); (try have hcygb350_2 : _ = some (.int .i64 t349) := (blk_cell BK350.out 2).trans rfl)))
              go_ret
              exact ⟨by first | rfl | (simp [errW_none, errW_some] <;> rfl) | (simp [*, errW_none, errW_some] <;> rfl), by repeat (first | (with_reducible first | exact HB.out | apply below_alloc | apply pw_below_drewN | apply below_drew1 | refine below_set ?_ GE342.out | refine below_set ?_ GE346.out | refine below_set ?_ GE350.out) | exact HB.out)⟩
          · replace c32 := Bool.eq_false_iff.mpr c32
            subst c32
            have H1 : (if (t343.toList == t338.toList && (t344.toList == t339.toList && (t345 == t340))) = true then ((impl_HashEnd.f kj6 t338 t339 t340).bind fun t356 => (some (t356.toList == ([] : List UInt8)))) else (some false)) = some r := by rw [if_neg (show ¬ (false = true) by decide)] at H; exact H
            clear H
            have H := H1
            clear H1
            by_cases c76 : (t343.toList == t338.toList && (t344.toList == t339.toList && (t345 == t340))) = true
            · rw [if_pos c76] at H
              have c76b0 : (t343.toList == t338.toList && (t344.toList == t339.toList && (t345 == t340))) = true := c76
              (try (have c76b1 : decide (t343.toList = t338.toList && (t344.toList == t339.toList && (t345 == t340))) = true := by simpa using c76))
              (try (have c76b2 : (t343.toList == t338.toList && (t344.toList == t339.toList && (t345 == t340))) = true := by simpa using c76))
              clear c76
              replace H := Option.bind_eq_some_iff.mp H
              obtain ⟨t356, A770, H⟩ := H
              replace H : (some (t356.toList == ([] : List UInt8))) = some r := H
              have A77 := Aside0.mk A770
              clear A770
              obtain rfl := Option.some.inj H
              have hnb78 := NB342_346.out
              have hnc78 := NB346_342.out
              have hnb79 := NB342_350.out
              have hnc79 := NB350_342.out
              have hcz80_0 : wc.cell? ⟨gb342, 0, none⟩ = some (.string t338) := (blk_cell BK342.out 0).trans rfl
              have hcz80_1 : wc.cell? ⟨gb342, 1, none⟩ = some (.string t339) := (blk_cell BK342.out 1).trans rfl
              have hcz80_2 : wc.cell? ⟨gb342, 2, none⟩ = some (.int .i64 t340) := (blk_cell BK342.out 2).trans rfl
              have hfz80_0 := blk_frozen BK342.out 0
              have hfz80_1 := blk_frozen BK342.out 1
              have hfz80_2 := blk_frozen BK342.out 2
              go_wp2_with (first | ((with_reducible refine gate_callee (f := 22) rfl ?_); refine goesL_ (some 31) rfl rfl Try.func22 (by kernel_rfl) rfl #[.agg #[.string t338, .string t339, .int .i64 t340]] rfl (by (try simp only [List.map_toArray, List.map_cons, List.map_nil]); first | done | rfl | (simp only [List.length_drop, List.length_take]; rfl)) ?_; (with_reducible refine (spec_HasherOk.calls t338 t339 t340 false _ A31.out).mono ?_); rintro e w81 ⟨rfl, hb⟩; refine ⟨_, rfl, ?_⟩; have n0_ := Aside0.mk (blk_below (g := gb342) (o := .cells #[.string t338, .string t339, .int .i64 t340] 25 (0, 0)) (by (with_reducible repeat (first | refine blk_drewN ?_ _ | refine blk_drew ?_ | refine blk_alloc ?_ _)); exact BK342.out) hb); have n1_ := Aside0.mk (blk_below (g := gb346) (o := .cells #[.string t343, .string t344, .int .i64 t345] 25 (0, 0)) (by (with_reducible repeat (first | refine blk_drewN ?_ _ | refine blk_drew ?_ | refine blk_alloc ?_ _)); exact BK346.out) hb); have n2_ := Aside0.mk (blk_below (g := gb350) (o := .cells #[.string t347, .string t348, .int .i64 t349] 25 (0, 0)) (by (with_reducible repeat (first | refine blk_drewN ?_ _ | refine blk_drew ?_ | refine blk_alloc ?_ _)); exact BK350.out) hb); have n3_ := Aside0.mk (below_step (by repeat (first | (with_reducible first | exact HB.out | apply below_alloc | apply pw_below_drewN | apply below_drew1 | refine below_set ?_ GE342.out | refine below_set ?_ GE346.out | refine below_set ?_ GE350.out) | exact HB.out)) hb); clear BK342; clear BK346; clear BK350; clear HB; have BK342 := n0_; have BK346 := n1_; have BK350 := n2_; have HB := n3_; clear n0_ n1_ n2_ n3_; (try clear hb); (try clear hb2); (try clear hk); (try clear hi); have hnb82 := NB346_350.out; have hnc82 := NB350_346.out; have hcz83_0 : w81.cell? ⟨gb346, 0, none⟩ = some (.string t343) := (blk_cell BK346.out 0).trans rfl; have hcz83_1 : w81.cell? ⟨gb346, 1, none⟩ = some (.string t344) := (blk_cell BK346.out 1).trans rfl; have hcz83_2 : w81.cell? ⟨gb346, 2, none⟩ = some (.int .i64 t345) := (blk_cell BK346.out 2).trans rfl; have hfz83_0 := blk_frozen BK346.out 0; have hfz83_1 := blk_frozen BK346.out 1; have hfz83_2 := blk_frozen BK346.out 2; have hcz84_0 : w81.cell? ⟨gb342, 0, none⟩ = some (.string t338) := (blk_cell BK342.out 0).trans rfl; have hcz84_1 : w81.cell? ⟨gb342, 1, none⟩ = some (.string t339) := (blk_cell BK342.out 1).trans rfl; have hcz84_2 : w81.cell? ⟨gb342, 2, none⟩ = some (.int .i64 t340) := (blk_cell BK342.out 2).trans rfl; have hfz84_0 := blk_frozen BK342.out 0; have hfz84_1 := blk_frozen BK342.out 1; have hfz84_2 := blk_frozen BK342.out 2; (try have hcygb350_0 : _ = some (.string t347) := (blk_cell BK350.out 0).trans rfl); (try have hcygb350_1 : _ = some (.string t348) := (blk_cell BK350.out 1).trans rfl); (try have hcygb350_2 : _ = some (.int .i64 t349) := (blk_cell BK350.out 2).trans rfl)) | (go_at_call 16; (with_reducible refine (impl_HashEnd.calls kj6 t338 t339 t340 t356 _ A77.out).mono ?_); rintro e w85 ⟨rfl, hb⟩; have n0_ := Aside0.mk (blk_below (g := gb342) (o := .cells #[.string t338, .string t339, .int .i64 t340] 25 (0, 0)) (by (with_reducible repeat (first | refine blk_drewN ?_ _ | refine blk_drew ?_ | refine blk_alloc ?_ _)); exact BK342.out) hb); have n1_ := Aside0.mk (blk_below (g := gb346) (o := .cells #[.string t343, .string t344, .int .i64 t345] 25 (0, 0)) (by (with_reducible repeat (first | refine blk_drewN ?_ _ | refine blk_drew ?_ | refine blk_alloc ?_ _)); exact BK346.out) hb); have n2_ := Aside0.mk (blk_below (g := gb350) (o := .cells #[.string t347, .string t348, .int .i64 t349] 25 (0, 0)) (by (with_reducible repeat (first | refine blk_drewN ?_ _ | refine blk_drew ?_ | refine blk_alloc ?_ _)); exact BK350.out) hb); have n3_ := Aside0.mk (below_step (by repeat (first | (with_reducible first | exact HB.out | apply below_alloc | apply pw_below_drewN | apply below_drew1 | refine below_set ?_ GE342.out | refine below_set ?_ GE346.out | refine below_set ?_ GE350.out) | exact HB.out)) hb); clear BK342; clear BK346; clear BK350; clear HB; have BK342 := n0_; have BK346 := n1_; have BK350 := n2_; have HB := n3_; clear n0_ n1_ n2_ n3_; (try clear hb); (try clear hb2); (try clear hk); (try clear hi); (try have hcygb342_0 : _ = some (.string t338) := (blk_cell BK342.out 0).trans rfl); (try have hcygb342_1 : _ = some (.string t339) := (blk_cell BK342.out 1).trans rfl); (try have hcygb342_2 : _ = some (.int .i64 t340) := (blk_cell BK342.out 2).trans rfl); (try have hcygb346_0 : _ = some (.string t343) := (blk_cell BK346.out 0).trans rfl); (try have hcygb346_1 : _ = some (.string t344) := (blk_cell BK346.out 1).trans rfl); (try have hcygb346_2 : _ = some (.int .i64 t345) := (blk_cell BK346.out 2).trans rfl); (try have hcygb350_0 : _ = some (.string t347) := (blk_cell BK350.out 0).trans rfl); (try have hcygb350_1 : _ = some (.string t348) := (blk_cell BK350.out 1).trans rfl); (try have hcygb350_2 : _ = some (.int .i64 t349) := (blk_cell BK350.out 2).trans rfl)))
              go_ret
              exact ⟨by first | rfl | (simp [errW_none, errW_some] <;> rfl) | (simp [*, errW_none, errW_some] <;> rfl), by repeat (first | (with_reducible first | exact HB.out | apply below_alloc | apply pw_below_drewN | apply below_drew1 | refine below_set ?_ GE342.out | refine below_set ?_ GE346.out | refine below_set ?_ GE350.out) | exact HB.out)⟩
            · rw [if_neg c76] at H
              have c76b0 : (t343.toList == t338.toList && (t344.toList == t339.toList && (t345 == t340))) = false := by simpa using c76
              (try (have c76b1 : decide (t343.toList = t338.toList && (t344.toList == t339.toList && (t345 == t340))) = false := by simpa using c76))
              (try (have c76b2 : (t343.toList == t338.toList && (t344.toList == t339.toList && (t345 == t340))) = false := by simpa using c76))
              (try (have c76b3 : ¬ (t343.toList = t338.toList && (t344.toList == t339.toList && (t345 == t340))) := by simpa using c76))
              clear c76
              obtain rfl := Option.some.inj H
              have hnb86 := NB342_346.out
              have hnc86 := NB346_342.out
              have hnb87 := NB342_350.out
              have hnc87 := NB350_342.out
              have hcz88_0 : wc.cell? ⟨gb342, 0, none⟩ = some (.string t338) := (blk_cell BK342.out 0).trans rfl
              have hcz88_1 : wc.cell? ⟨gb342, 1, none⟩ = some (.string t339) := (blk_cell BK342.out 1).trans rfl
              have hcz88_2 : wc.cell? ⟨gb342, 2, none⟩ = some (.int .i64 t340) := (blk_cell BK342.out 2).trans rfl
              have hfz88_0 := blk_frozen BK342.out 0
              have hfz88_1 := blk_frozen BK342.out 1
              have hfz88_2 := blk_frozen BK342.out 2
              go_wp2_with (first | ((with_reducible refine gate_callee (f := 22) rfl ?_); refine goesL_ (some 31) rfl rfl Try.func22 (by kernel_rfl) rfl #[.agg #[.string t338, .string t339, .int .i64 t340]] rfl (by (try simp only [List.map_toArray, List.map_cons, List.map_nil]); first | done | rfl | (simp only [List.length_drop, List.length_take]; rfl)) ?_; (with_reducible refine (spec_HasherOk.calls t338 t339 t340 false _ A31.out).mono ?_); rintro e w89 ⟨rfl, hb⟩; refine ⟨_, rfl, ?_⟩; have n0_ := Aside0.mk (blk_below (g := gb342) (o := .cells #[.string t338, .string t339, .int .i64 t340] 25 (0, 0)) (by (with_reducible repeat (first | refine blk_drewN ?_ _ | refine blk_drew ?_ | refine blk_alloc ?_ _)); exact BK342.out) hb); have n1_ := Aside0.mk (blk_below (g := gb346) (o := .cells #[.string t343, .string t344, .int .i64 t345] 25 (0, 0)) (by (with_reducible repeat (first | refine blk_drewN ?_ _ | refine blk_drew ?_ | refine blk_alloc ?_ _)); exact BK346.out) hb); have n2_ := Aside0.mk (blk_below (g := gb350) (o := .cells #[.string t347, .string t348, .int .i64 t349] 25 (0, 0)) (by (with_reducible repeat (first | refine blk_drewN ?_ _ | refine blk_drew ?_ | refine blk_alloc ?_ _)); exact BK350.out) hb); have n3_ := Aside0.mk (below_step (by repeat (first | (with_reducible first | exact HB.out | apply below_alloc | apply pw_below_drewN | apply below_drew1 | refine below_set ?_ GE342.out | refine below_set ?_ GE346.out | refine below_set ?_ GE350.out) | exact HB.out)) hb); clear BK342; clear BK346; clear BK350; clear HB; have BK342 := n0_; have BK346 := n1_; have BK350 := n2_; have HB := n3_; clear n0_ n1_ n2_ n3_; (try clear hb); (try clear hb2); (try clear hk); (try clear hi); have hnb90 := NB346_350.out; have hnc90 := NB350_346.out; have hcz91_0 : w89.cell? ⟨gb346, 0, none⟩ = some (.string t343) := (blk_cell BK346.out 0).trans rfl; have hcz91_1 : w89.cell? ⟨gb346, 1, none⟩ = some (.string t344) := (blk_cell BK346.out 1).trans rfl; have hcz91_2 : w89.cell? ⟨gb346, 2, none⟩ = some (.int .i64 t345) := (blk_cell BK346.out 2).trans rfl; have hfz91_0 := blk_frozen BK346.out 0; have hfz91_1 := blk_frozen BK346.out 1; have hfz91_2 := blk_frozen BK346.out 2; have hcz92_0 : w89.cell? ⟨gb342, 0, none⟩ = some (.string t338) := (blk_cell BK342.out 0).trans rfl; have hcz92_1 : w89.cell? ⟨gb342, 1, none⟩ = some (.string t339) := (blk_cell BK342.out 1).trans rfl; have hcz92_2 : w89.cell? ⟨gb342, 2, none⟩ = some (.int .i64 t340) := (blk_cell BK342.out 2).trans rfl; have hfz92_0 := blk_frozen BK342.out 0; have hfz92_1 := blk_frozen BK342.out 1; have hfz92_2 := blk_frozen BK342.out 2; (try have hcygb350_0 : _ = some (.string t347) := (blk_cell BK350.out 0).trans rfl); (try have hcygb350_1 : _ = some (.string t348) := (blk_cell BK350.out 1).trans rfl); (try have hcygb350_2 : _ = some (.int .i64 t349) := (blk_cell BK350.out 2).trans rfl)))
              go_ret
              exact ⟨by first | rfl | (simp [errW_none, errW_some] <;> rfl) | (simp [*, errW_none, errW_some] <;> rfl), by repeat (first | (with_reducible first | exact HB.out | apply below_alloc | apply pw_below_drewN | apply below_drew1 | refine below_set ?_ GE342.out | refine below_set ?_ GE346.out | refine below_set ?_ GE350.out) | exact HB.out)⟩

/-- THE ONE PURE STATEMENT of laws_FnHashers: yours. -/
def laws_FnHashers.Pure : Prop := ∀ (l0 : List Int), l0.length ≤ maxLen → l0.length * 1 ≤ 140737488351232 → (∀ x ∈ l0, (Lit.int .u8 x).wf = true) → ∃ k, laws_FnHashers.f k l0 = some true
theorem laws_FnHashers.walk (P : laws_FnHashers.Pure) (a0 : Option Addr) (len0 cap0 : Nat) (z0 : List Int) (w : World) (w0 : (a0 = none ∧ len0 = 0 ∧ cap0 = 0 ∧ z0 = []) ∨ ∃ x, a0 = some x ∧ len0 ≤ cap0 ∧ cap0 ≤ maxLen ∧ z0.length = cap0 ∧ (∀ i, i < z0.length → w.cell? (x.add i) = some (.int .u8 (z0.getD i 0))) ∧ ∀ n ∈ z0, (Lit.int .u8 n).wf = true) (y0 : len0 * 1 ≤ 140737488351232) :
    Calls Try.prog 6 #[.slice a0 len0 cap0] w fun e w' => e = .returned (.bool true) ∧ Below w.heap.size w w' := by
  obtain ⟨l0, rfl, hr0, hm0, hw0, hc0⟩ := ReadsInt.ofRowC w0
  obtain ⟨k, h⟩ := P l0 hm0 y0 hw0
  refine (laws_FnHashers.calls k _ _ l0 true w (Kd.C_of_reads (d := (0 : Int)) (h1 := fun _ => rfl) hr0) hc0 h).mono ?_
  rintro e w' ⟨rfl, hd⟩
  exact ⟨rfl, hd⟩

end Go.Proofs.Ytbiapgneafgdeaa.QFnHashers
