/- What is proved here: contracts of functions that the law FnDigests reaches, each told as a plain function. Conditions: those of each contract. (Written by a program of ours.) -/
import Derived.Test.YtbiapgneafgdeaaQFnDigestsx0
import Derived.Test.YtbiapgneafgdeaaQFnDigestsx1
import Derived.Test.YtbiapgneafgdeaaQFnDigestsx2
import Derived.Test.YtbiapgneafgdeaaQFnDigestsx5
import Derived.Test.YtbiapgneafgdeaaQFnDigestsx6
import Derived.Test.YtbiapgneafgdeaaQFnDigestsx7
namespace Go.Proofs.Ytbiapgneafgdeaa.QFnDigests
open Go.RowKit Go.Proofs.YtbiapgneafgdeaaW.PrintWords Go.Proofs.YtbiapgneafgdeaaW.PrintLast Go.Proofs.YtbiapgneafgdeaaW.PrintMore
attribute [local go_sem] max2_int min2_int max_two min_two max_three min_three max_four min_four   -- for this text's walks alone
set_option linter.unusedVariables false
set_option linter.unusedSimpArgs false

/-! ### laws_FnDigests: function 7 -/
def laws_FnDigests.f (k : Nat) (l0 : List Int) : Option (Bool) := (laws_big.f l0).bind fun t351 => (if t351 = true then (some true) else ((spec_DrawDigestOf.f k l0).bind fun t352 => ((spec_DrawPlaces.f k l0).bind fun t353 => (if 0 < (t353.length : Int) then (if (wrap64 ((t352.size : Int) + 1)) = 0 then (none) else ((impl_HasherNew.f k).bind fun bt357 => (if 0 ≤ (Int.tmod (rd t353 0) (wrap64 ((t352.size : Int) + 1))) then (if (Int.tmod (rd t353 0) (wrap64 ((t352.size : Int) + 1))) ≤ (t352.size : Int) then ((impl_HashMore.f k bt357.1 bt357.2.1 bt357.2.2 (t352.extract 0 ((Int.tmod (rd t353 0) (wrap64 ((t352.size : Int) + 1))) : Int).toNat)).bind fun bt361 => ((impl_HashMore.f k bt361.1 bt361.2.1 bt361.2.2 (t352.extract ((Int.tmod (rd t353 0) (wrap64 ((t352.size : Int) + 1))) : Int).toNat t352.size)).bind fun bt364 => ((impl_DigestOf.f k t352).bind fun t368 => ((impl_HasherOk.f bt361.1 bt361.2.1 bt361.2.2).bind fun t369 => (if t369 = true then ((impl_HasherOk.f bt364.1 bt364.2.1 bt364.2.2).bind fun t370 => (if t370 = true then ((impl_HashEnd.f k bt364.1 bt364.2.1 bt364.2.2).bind fun t371 => (if t371.toList = t368.toList then (if (t368.size : Int) = 32 then ((spec_DigestOf.f k t352).bind fun t372 => (if t368.toList = t372.toList then (if bt364.2.2 = (t352.size : Int) then ((impl_HashMore.f k bt364.1 bt364.2.1 bt364.2.2 (⟨#[]⟩ : ByteArray)).bind fun bt373 => ((impl_HashEnd.f k bt373.1 bt373.2.1 bt373.2.2).bind fun t376 => (some (t376.toList == t368.toList)))) else (some false)) else (some false))) else (some false)) else (some false))) else (some false))) else (some false)))))) else (none)) else (none)))) else (none)))))
theorem laws_FnDigests.mono : ∀ a0 k, LeO (laws_FnDigests.f k a0) (laws_FnDigests.f (k + 1) a0) := by
  intro a0 k
  unfold laws_FnDigests.f
  repeat' first
      | (with_reducible exact impl_DigestOf.mono _ _)
      | (with_reducible exact impl_HashEnd.mono _ _ _ _)
      | (with_reducible exact impl_HashMore.mono _ _ _ _ _)
      | (with_reducible exact impl_HasherNew.mono _)
      | (with_reducible exact spec_DigestOf.mono _ _)
      | (with_reducible exact spec_DrawDigestOf.mono _ _)
      | (with_reducible exact spec_DrawPlaces.mono _ _)
      | (with_reducible exact LeO.refl _)
      | (with_reducible exact LeO.none _)
      | (with_reducible refine LeO.ite ?_ ?_)
      | (with_reducible refine LeO.bind ?_ (fun _ => ?_))
      | exact impl_DigestOf.mono _ _
      | exact impl_HashEnd.mono _ _ _ _
      | exact impl_HashMore.mono _ _ _ _ _
      | exact impl_HasherNew.mono _
      | exact spec_DigestOf.mono _ _
      | exact spec_DrawDigestOf.mono _ _
      | exact spec_DrawPlaces.mono _ _
      | exact LeO.none _
      | refine LeO.ite ?_ ?_
      | refine LeO.bind ?_ (fun _ => ?_)
set_option maxHeartbeats 8000000 in
set_option maxRecDepth 100000 in
theorem laws_FnDigests.calls (k : Nat) (A0 : Option Addr) (c0 : Nat) (l0 : List Int) (r : Bool) (w : World) (hr0 : Kd.C (Kd.int .u8) w A0 l0.length l0) (hc0 : l0.length ≤ c0) (hr_ : r = true) (h : laws_FnDigests.f k l0 = some r) :
    Calls Try.prog 7 #[.slice A0 l0.length c0] w fun e w' => e = .returned (.bool r) ∧ Below w.heap.size w w' := by
  have hu25 := Try.underlying25
  have HR0 := Aside0.mk hr0
  have HC0 := Aside0.mk hc0
  clear hr0 hc0
  have HB := Aside0.mk (Below.refl w.heap.size w)
  have H : ((laws_big.f l0).bind fun t351 => (if t351 = true then (some true) else ((spec_DrawDigestOf.f k l0).bind fun t352 => ((spec_DrawPlaces.f k l0).bind fun t353 => (if 0 < (t353.length : Int) then (if (wrap64 ((t352.size : Int) + 1)) = 0 then (none) else ((impl_HasherNew.f k).bind fun bt357 => (if 0 ≤ (Int.tmod (rd t353 0) (wrap64 ((t352.size : Int) + 1))) then (if (Int.tmod (rd t353 0) (wrap64 ((t352.size : Int) + 1))) ≤ (t352.size : Int) then ((impl_HashMore.f k bt357.1 bt357.2.1 bt357.2.2 (t352.extract 0 ((Int.tmod (rd t353 0) (wrap64 ((t352.size : Int) + 1))) : Int).toNat)).bind fun bt361 => ((impl_HashMore.f k bt361.1 bt361.2.1 bt361.2.2 (t352.extract ((Int.tmod (rd t353 0) (wrap64 ((t352.size : Int) + 1))) : Int).toNat t352.size)).bind fun bt364 => ((impl_DigestOf.f k t352).bind fun t368 => ((impl_HasherOk.f bt361.1 bt361.2.1 bt361.2.2).bind fun t369 => (if t369 = true then ((impl_HasherOk.f bt364.1 bt364.2.1 bt364.2.2).bind fun t370 => (if t370 = true then ((impl_HashEnd.f k bt364.1 bt364.2.1 bt364.2.2).bind fun t371 => (if t371.toList = t368.toList then (if (t368.size : Int) = 32 then ((spec_DigestOf.f k t352).bind fun t372 => (if t368.toList = t372.toList then (if bt364.2.2 = (t352.size : Int) then ((impl_HashMore.f k bt364.1 bt364.2.1 bt364.2.2 (⟨#[]⟩ : ByteArray)).bind fun bt373 => ((impl_HashEnd.f k bt373.1 bt373.2.1 bt373.2.2).bind fun t376 => (some (t376.toList == t368.toList)))) else (some false)) else (some false))) else (some false)) else (some false))) else (some false))) else (some false)))))) else (none)) else (none)))) else (none)))))) = some r := h
  clear h
  replace H := Option.bind_eq_some_iff.mp H
  obtain ⟨t351, A20, H⟩ := H
  replace H : (if t351 = true then (some true) else ((spec_DrawDigestOf.f k l0).bind fun t352 => ((spec_DrawPlaces.f k l0).bind fun t353 => (if 0 < (t353.length : Int) then (if (wrap64 ((t352.size : Int) + 1)) = 0 then (none) else ((impl_HasherNew.f k).bind fun bt357 => (if 0 ≤ (Int.tmod (rd t353 0) (wrap64 ((t352.size : Int) + 1))) then (if (Int.tmod (rd t353 0) (wrap64 ((t352.size : Int) + 1))) ≤ (t352.size : Int) then ((impl_HashMore.f k bt357.1 bt357.2.1 bt357.2.2 (t352.extract 0 ((Int.tmod (rd t353 0) (wrap64 ((t352.size : Int) + 1))) : Int).toNat)).bind fun bt361 => ((impl_HashMore.f k bt361.1 bt361.2.1 bt361.2.2 (t352.extract ((Int.tmod (rd t353 0) (wrap64 ((t352.size : Int) + 1))) : Int).toNat t352.size)).bind fun bt364 => ((impl_DigestOf.f k t352).bind fun t368 => ((impl_HasherOk.f bt361.1 bt361.2.1 bt361.2.2).bind fun t369 => (if t369 = true then ((impl_HasherOk.f bt364.1 bt364.2.1 bt364.2.2).bind fun t370 => (if t370 = true then ((impl_HashEnd.f k bt364.1 bt364.2.1 bt364.2.2).bind fun t371 => (if t371.toList = t368.toList then (if (t368.size : Int) = 32 then ((spec_DigestOf.f k t352).bind fun t372 => (if t368.toList = t372.toList then (if bt364.2.2 = (t352.size : Int) then ((impl_HashMore.f k bt364.1 bt364.2.1 bt364.2.2 (⟨#[]⟩ : ByteArray)).bind fun bt373 => ((impl_HashEnd.f k bt373.1 bt373.2.1 bt373.2.2).bind fun t376 => (some (t376.toList == t368.toList)))) else (some false)) else (some false))) else (some false)) else (some false))) else (some false))) else (some false)))))) else (none)) else (none)))) else (none))))) = some r := H
  have A2 := Aside0.mk A20
  clear A20
  by_cases c3 : t351 = true
  · subst c3
    have H1 : (some true) = some r := by rw [if_pos rfl] at H; exact H
    clear H
    have H := H1
    clear H1
    obtain rfl := Option.some.inj H
    go_enter Try.func7, Try.ntmps7
    go_wp2_with (first | ((with_reducible refine gate_callee (f := 19) rfl ?_); refine goesL_ (some 9) rfl rfl Try.func19 (by kernel_rfl) rfl #[.slice A0 l0.length c0] rfl (by (try simp only [List.map_toArray, List.map_cons, List.map_nil]); first | done | rfl | (simp only [List.length_drop, List.length_take]; rfl)) ?_; (with_reducible refine (laws_big.calls _ _ l0 true _ ?side1 ?side2 A2.out).mono ?_); (case side1 => repeat (first | exact HR0.out | (with_reducible refine Kd.C_alloc ?_ _) | (with_reducible refine Kd.C_drewN ?_ _) | (with_reducible refine Kd.C_drew ?_))); (case side2 => exact HC0.out); rintro e w' ⟨rfl, ⟨nd, rfl⟩⟩; refine ⟨_, rfl, ?_⟩))
    go_ret
    exact ⟨by first | rfl | (simp [errW_none, errW_some] <;> rfl) | (simp [*, errW_none, errW_some] <;> rfl), by repeat (first | (with_reducible first | exact HB.out | apply below_alloc | apply pw_below_drewN | apply below_drew1) | exact HB.out)⟩
  · replace c3 := Bool.eq_false_iff.mpr c3
    subst c3
    have H1 : ((spec_DrawDigestOf.f k l0).bind fun t352 => ((spec_DrawPlaces.f k l0).bind fun t353 => (if 0 < (t353.length : Int) then (if (wrap64 ((t352.size : Int) + 1)) = 0 then (none) else ((impl_HasherNew.f k).bind fun bt357 => (if 0 ≤ (Int.tmod (rd t353 0) (wrap64 ((t352.size : Int) + 1))) then (if (Int.tmod (rd t353 0) (wrap64 ((t352.size : Int) + 1))) ≤ (t352.size : Int) then ((impl_HashMore.f k bt357.1 bt357.2.1 bt357.2.2 (t352.extract 0 ((Int.tmod (rd t353 0) (wrap64 ((t352.size : Int) + 1))) : Int).toNat)).bind fun bt361 => ((impl_HashMore.f k bt361.1 bt361.2.1 bt361.2.2 (t352.extract ((Int.tmod (rd t353 0) (wrap64 ((t352.size : Int) + 1))) : Int).toNat t352.size)).bind fun bt364 => ((impl_DigestOf.f k t352).bind fun t368 => ((impl_HasherOk.f bt361.1 bt361.2.1 bt361.2.2).bind fun t369 => (if t369 = true then ((impl_HasherOk.f bt364.1 bt364.2.1 bt364.2.2).bind fun t370 => (if t370 = true then ((impl_HashEnd.f k bt364.1 bt364.2.1 bt364.2.2).bind fun t371 => (if t371.toList = t368.toList then (if (t368.size : Int) = 32 then ((spec_DigestOf.f k t352).bind fun t372 => (if t368.toList = t372.toList then (if bt364.2.2 = (t352.size : Int) then ((impl_HashMore.f k bt364.1 bt364.2.1 bt364.2.2 (⟨#[]⟩ : ByteArray)).bind fun bt373 => ((impl_HashEnd.f k bt373.1 bt373.2.1 bt373.2.2).bind fun t376 => (some (t376.toList == t368.toList)))) else (some false)) else (some false))) else (some false)) else (some false))) else (some false))) else (some false)))))) else (none)) else (none)))) else (none)))) = some r := by rw [if_neg (show ¬ (false = true) by decide)] at H; exact H
    clear H
    have H := H1
    clear H1
    replace H := Option.bind_eq_some_iff.mp H
    obtain ⟨t352, A40, H⟩ := H
    replace H : ((spec_DrawPlaces.f k l0).bind fun t353 => (if 0 < (t353.length : Int) then (if (wrap64 ((t352.size : Int) + 1)) = 0 then (none) else ((impl_HasherNew.f k).bind fun bt357 => (if 0 ≤ (Int.tmod (rd t353 0) (wrap64 ((t352.size : Int) + 1))) then (if (Int.tmod (rd t353 0) (wrap64 ((t352.size : Int) + 1))) ≤ (t352.size : Int) then ((impl_HashMore.f k bt357.1 bt357.2.1 bt357.2.2 (t352.extract 0 ((Int.tmod (rd t353 0) (wrap64 ((t352.size : Int) + 1))) : Int).toNat)).bind fun bt361 => ((impl_HashMore.f k bt361.1 bt361.2.1 bt361.2.2 (t352.extract ((Int.tmod (rd t353 0) (wrap64 ((t352.size : Int) + 1))) : Int).toNat t352.size)).bind fun bt364 => ((impl_DigestOf.f k t352).bind fun t368 => ((impl_HasherOk.f bt361.1 bt361.2.1 bt361.2.2).bind fun t369 => (if t369 = true then ((impl_HasherOk.f bt364.1 bt364.2.1 bt364.2.2).bind fun t370 => (if t370 = true then ((impl_HashEnd.f k bt364.1 bt364.2.1 bt364.2.2).bind fun t371 => (if t371.toList = t368.toList then (if (t368.size : Int) = 32 then ((spec_DigestOf.f k t352).bind fun t372 => (if t368.toList = t372.toList then (if bt364.2.2 = (t352.size : Int) then ((impl_HashMore.f k bt364.1 bt364.2.1 bt364.2.2 (⟨#[]⟩ : ByteArray)).bind fun bt373 => ((impl_HashEnd.f k bt373.1 bt373.2.1 bt373.2.2).bind fun t376 => (some (t376.toList == t368.toList)))) else (some false)) else (some false))) else (some false)) else (some false))) else (some false))) else (some false)))))) else (none)) else (none)))) else (none))) = some r := H
    have A4 := Aside0.mk A40
    clear A40
    replace H := Option.bind_eq_some_iff.mp H
    obtain ⟨t353, A50, H⟩ := H
    replace H : (if 0 < (t353.length : Int) then (if (wrap64 ((t352.size : Int) + 1)) = 0 then (none) else ((impl_HasherNew.f k).bind fun bt357 => (if 0 ≤ (Int.tmod (rd t353 0) (wrap64 ((t352.size : Int) + 1))) then (if (Int.tmod (rd t353 0) (wrap64 ((t352.size : Int) + 1))) ≤ (t352.size : Int) then ((impl_HashMore.f k bt357.1 bt357.2.1 bt357.2.2 (t352.extract 0 ((Int.tmod (rd t353 0) (wrap64 ((t352.size : Int) + 1))) : Int).toNat)).bind fun bt361 => ((impl_HashMore.f k bt361.1 bt361.2.1 bt361.2.2 (t352.extract ((Int.tmod (rd t353 0) (wrap64 ((t352.size : Int) + 1))) : Int).toNat t352.size)).bind fun bt364 => ((impl_DigestOf.f k t352).bind fun t368 => ((impl_HasherOk.f bt361.1 bt361.2.1 bt361.2.2).bind fun t369 => (if t369 = true then ((impl_HasherOk.f bt364.1 bt364.2.1 bt364.2.2).bind fun t370 => (if t370 = true then ((impl_HashEnd.f k bt364.1 bt364.2.1 bt364.2.2).bind fun t371 => (if t371.toList = t368.toList then (if (t368.size : Int) = 32 then ((spec_DigestOf.f k t352).bind fun t372 => (if t368.toList = t372.toList then (if bt364.2.2 = (t352.size : Int) then ((impl_HashMore.f k bt364.1 bt364.2.1 bt364.2.2 (⟨#[]⟩ : ByteArray)).bind fun bt373 => ((impl_HashEnd.f k bt373.1 bt373.2.1 bt373.2.2).bind fun t376 => (some (t376.toList == t368.toList)))) else (some false)) else (some false))) else (some false)) else (some false))) else (some false))) else (some false)))))) else (none)) else (none)))) else (none)) = some r := H
    have A5 := Aside0.mk A50
    clear A50
    by_cases c6 : 0 < (t353.length : Int)
    · rw [if_pos c6] at H
      have c6b0 : decide (0 < (t353.length : Int)) = true := decide_eq_true c6
      have c6b1 : decide (0 < t353.length) = true := decide_eq_true (by omega)
      clear c6
      by_cases c7 : (wrap64 ((t352.size : Int) + 1)) = 0
      · rw [if_pos c7] at H
        exact absurd H (by simp)
      · rw [if_neg c7] at H
        have c7b0 : ((wrap64 ((t352.size : Int) + 1)) == 0) = false := beq_eq_false_iff_ne.mpr c7
        have c7b1 : ((wrap64 ((t352.size : Int) + 1)) != 0) = true := bne_iff_ne.mpr c7
        replace H := Option.bind_eq_some_iff.mp H
        obtain ⟨⟨t357, t358, t359⟩, A80, H⟩ := H
        replace H : (if 0 ≤ (Int.tmod (rd t353 0) (wrap64 ((t352.size : Int) + 1))) then (if (Int.tmod (rd t353 0) (wrap64 ((t352.size : Int) + 1))) ≤ (t352.size : Int) then ((impl_HashMore.f k t357 t358 t359 (t352.extract 0 ((Int.tmod (rd t353 0) (wrap64 ((t352.size : Int) + 1))) : Int).toNat)).bind fun bt361 => ((impl_HashMore.f k bt361.1 bt361.2.1 bt361.2.2 (t352.extract ((Int.tmod (rd t353 0) (wrap64 ((t352.size : Int) + 1))) : Int).toNat t352.size)).bind fun bt364 => ((impl_DigestOf.f k t352).bind fun t368 => ((impl_HasherOk.f bt361.1 bt361.2.1 bt361.2.2).bind fun t369 => (if t369 = true then ((impl_HasherOk.f bt364.1 bt364.2.1 bt364.2.2).bind fun t370 => (if t370 = true then ((impl_HashEnd.f k bt364.1 bt364.2.1 bt364.2.2).bind fun t371 => (if t371.toList = t368.toList then (if (t368.size : Int) = 32 then ((spec_DigestOf.f k t352).bind fun t372 => (if t368.toList = t372.toList then (if bt364.2.2 = (t352.size : Int) then ((impl_HashMore.f k bt364.1 bt364.2.1 bt364.2.2 (⟨#[]⟩ : ByteArray)).bind fun bt373 => ((impl_HashEnd.f k bt373.1 bt373.2.1 bt373.2.2).bind fun t376 => (some (t376.toList == t368.toList)))) else (some false)) else (some false))) else (some false)) else (some false))) else (some false))) else (some false)))))) else (none)) else (none)) = some r := H
        have A8 := Aside0.mk A80
        clear A80
        obtain ⟨ji9, hji9⟩ : ∃ j_ : Int, (Int.tmod (rd t353 0) (wrap64 ((t352.size : Int) + 1))) = j_ := ⟨_, rfl⟩
        replace H : (if 0 ≤ (ji9) then (if (ji9) ≤ (t352.size : Int) then ((impl_HashMore.f k t357 t358 t359 (t352.extract 0 ((ji9) : Int).toNat)).bind fun bt361 => ((impl_HashMore.f k bt361.1 bt361.2.1 bt361.2.2 (t352.extract ((ji9) : Int).toNat t352.size)).bind fun bt364 => ((impl_DigestOf.f k t352).bind fun t368 => ((impl_HasherOk.f bt361.1 bt361.2.1 bt361.2.2).bind fun t369 => (if t369 = true then ((impl_HasherOk.f bt364.1 bt364.2.1 bt364.2.2).bind fun t370 => (if t370 = true then ((impl_HashEnd.f k bt364.1 bt364.2.1 bt364.2.2).bind fun t371 => (if t371.toList = t368.toList then (if (t368.size : Int) = 32 then ((spec_DigestOf.f k t352).bind fun t372 => (if t368.toList = t372.toList then (if bt364.2.2 = (t352.size : Int) then ((impl_HashMore.f k bt364.1 bt364.2.1 bt364.2.2 (⟨#[]⟩ : ByteArray)).bind fun bt373 => ((impl_HashEnd.f k bt373.1 bt373.2.1 bt373.2.2).bind fun t376 => (some (t376.toList == t368.toList)))) else (some false)) else (some false))) else (some false)) else (some false))) else (some false))) else (some false)))))) else (none)) else (none)) = some r := by first | (rw [hji9] at H; exact H) | (simp only [hji9] at H ⊢; exact H)
        (try rw [hji9] at A2)
        (try rw [hji9] at A4)
        (try rw [hji9] at A5)
        (try rw [hji9] at A8)
        by_cases c10 : 0 ≤ (ji9)
        · rw [if_pos c10] at H
          have c10b0 := eq_true c10
          have c10b1 : decide (0 ≤ (ji9)) = true := decide_eq_true c10
          clear c10
          by_cases c11 : (ji9) ≤ (t352.size : Int)
          · rw [if_pos c11] at H
            have c11b0 := eq_true c11
            have c11b1 : decide ((ji9) ≤ (t352.size : Int)) = true := decide_eq_true c11
            clear c11
            replace H := Option.bind_eq_some_iff.mp H
            obtain ⟨⟨t361, t362, t363⟩, A120, H⟩ := H
            replace H : ((impl_HashMore.f k t361 t362 t363 (t352.extract ((ji9) : Int).toNat t352.size)).bind fun bt364 => ((impl_DigestOf.f k t352).bind fun t368 => ((impl_HasherOk.f t361 t362 t363).bind fun t369 => (if t369 = true then ((impl_HasherOk.f bt364.1 bt364.2.1 bt364.2.2).bind fun t370 => (if t370 = true then ((impl_HashEnd.f k bt364.1 bt364.2.1 bt364.2.2).bind fun t371 => (if t371.toList = t368.toList then (if (t368.size : Int) = 32 then ((spec_DigestOf.f k t352).bind fun t372 => (if t368.toList = t372.toList then (if bt364.2.2 = (t352.size : Int) then ((impl_HashMore.f k bt364.1 bt364.2.1 bt364.2.2 (⟨#[]⟩ : ByteArray)).bind fun bt373 => ((impl_HashEnd.f k bt373.1 bt373.2.1 bt373.2.2).bind fun t376 => (some (t376.toList == t368.toList)))) else (some false)) else (some false))) else (some false)) else (some false))) else (some false))) else (some false))))) = some r := H
            have A12 := Aside0.mk A120
            clear A120
            have c13b0 := eq_true (of_decide_eq_true (by first | (with_reducible assumption) | assumption) : 0 ≤ (ji9))
            have c14b0 := eq_true (of_decide_eq_true (by first | (with_reducible assumption) | assumption) : (ji9) ≤ (t352.size : Int))
            replace H := Option.bind_eq_some_iff.mp H
            obtain ⟨⟨t364, t365, t366⟩, A150, H⟩ := H
            replace H : ((impl_DigestOf.f k t352).bind fun t368 => ((impl_HasherOk.f t361 t362 t363).bind fun t369 => (if t369 = true then ((impl_HasherOk.f t364 t365 t366).bind fun t370 => (if t370 = true then ((impl_HashEnd.f k t364 t365 t366).bind fun t371 => (if t371.toList = t368.toList then (if (t368.size : Int) = 32 then ((spec_DigestOf.f k t352).bind fun t372 => (if t368.toList = t372.toList then (if t366 = (t352.size : Int) then ((impl_HashMore.f k t364 t365 t366 (⟨#[]⟩ : ByteArray)).bind fun bt373 => ((impl_HashEnd.f k bt373.1 bt373.2.1 bt373.2.2).bind fun t376 => (some (t376.toList == t368.toList)))) else (some false)) else (some false))) else (some false)) else (some false))) else (some false))) else (some false)))) = some r := H
            have A15 := Aside0.mk A150
            clear A150
            replace H := Option.bind_eq_some_iff.mp H
            obtain ⟨t368, A160, H⟩ := H
            replace H : ((impl_HasherOk.f t361 t362 t363).bind fun t369 => (if t369 = true then ((impl_HasherOk.f t364 t365 t366).bind fun t370 => (if t370 = true then ((impl_HashEnd.f k t364 t365 t366).bind fun t371 => (if t371.toList = t368.toList then (if (t368.size : Int) = 32 then ((spec_DigestOf.f k t352).bind fun t372 => (if t368.toList = t372.toList then (if t366 = (t352.size : Int) then ((impl_HashMore.f k t364 t365 t366 (⟨#[]⟩ : ByteArray)).bind fun bt373 => ((impl_HashEnd.f k bt373.1 bt373.2.1 bt373.2.2).bind fun t376 => (some (t376.toList == t368.toList)))) else (some false)) else (some false))) else (some false)) else (some false))) else (some false))) else (some false))) = some r := H
            have A16 := Aside0.mk A160
            clear A160
            replace H := Option.bind_eq_some_iff.mp H
            obtain ⟨t369, A170, H⟩ := H
            replace H : (if t369 = true then ((impl_HasherOk.f t364 t365 t366).bind fun t370 => (if t370 = true then ((impl_HashEnd.f k t364 t365 t366).bind fun t371 => (if t371.toList = t368.toList then (if (t368.size : Int) = 32 then ((spec_DigestOf.f k t352).bind fun t372 => (if t368.toList = t372.toList then (if t366 = (t352.size : Int) then ((impl_HashMore.f k t364 t365 t366 (⟨#[]⟩ : ByteArray)).bind fun bt373 => ((impl_HashEnd.f k bt373.1 bt373.2.1 bt373.2.2).bind fun t376 => (some (t376.toList == t368.toList)))) else (some false)) else (some false))) else (some false)) else (some false))) else (some false))) else (some false)) = some r := H
            have A17 := Aside0.mk A170
            clear A170
            by_cases c18 : t369 = true
            · subst c18
              have H1 : ((impl_HasherOk.f t364 t365 t366).bind fun t370 => (if t370 = true then ((impl_HashEnd.f k t364 t365 t366).bind fun t371 => (if t371.toList = t368.toList then (if (t368.size : Int) = 32 then ((spec_DigestOf.f k t352).bind fun t372 => (if t368.toList = t372.toList then (if t366 = (t352.size : Int) then ((impl_HashMore.f k t364 t365 t366 (⟨#[]⟩ : ByteArray)).bind fun bt373 => ((impl_HashEnd.f k bt373.1 bt373.2.1 bt373.2.2).bind fun t376 => (some (t376.toList == t368.toList)))) else (some false)) else (some false))) else (some false)) else (some false))) else (some false))) = some r := by rw [if_pos rfl] at H; exact H
              clear H
              have H := H1
              clear H1
              replace H := Option.bind_eq_some_iff.mp H
              obtain ⟨t370, A190, H⟩ := H
              replace H : (if t370 = true then ((impl_HashEnd.f k t364 t365 t366).bind fun t371 => (if t371.toList = t368.toList then (if (t368.size : Int) = 32 then ((spec_DigestOf.f k t352).bind fun t372 => (if t368.toList = t372.toList then (if t366 = (t352.size : Int) then ((impl_HashMore.f k t364 t365 t366 (⟨#[]⟩ : ByteArray)).bind fun bt373 => ((impl_HashEnd.f k bt373.1 bt373.2.1 bt373.2.2).bind fun t376 => (some (t376.toList == t368.toList)))) else (some false)) else (some false))) else (some false)) else (some false))) else (some false)) = some r := H
              have A19 := Aside0.mk A190
              clear A190
              by_cases c20 : t370 = true
              · subst c20
                have H1 : ((impl_HashEnd.f k t364 t365 t366).bind fun t371 => (if t371.toList = t368.toList then (if (t368.size : Int) = 32 then ((spec_DigestOf.f k t352).bind fun t372 => (if t368.toList = t372.toList then (if t366 = (t352.size : Int) then ((impl_HashMore.f k t364 t365 t366 (⟨#[]⟩ : ByteArray)).bind fun bt373 => ((impl_HashEnd.f k bt373.1 bt373.2.1 bt373.2.2).bind fun t376 => (some (t376.toList == t368.toList)))) else (some false)) else (some false))) else (some false)) else (some false))) = some r := by rw [if_pos rfl] at H; exact H
                clear H
                have H := H1
                clear H1
                replace H := Option.bind_eq_some_iff.mp H
                obtain ⟨t371, A210, H⟩ := H
                replace H : (if t371.toList = t368.toList then (if (t368.size : Int) = 32 then ((spec_DigestOf.f k t352).bind fun t372 => (if t368.toList = t372.toList then (if t366 = (t352.size : Int) then ((impl_HashMore.f k t364 t365 t366 (⟨#[]⟩ : ByteArray)).bind fun bt373 => ((impl_HashEnd.f k bt373.1 bt373.2.1 bt373.2.2).bind fun t376 => (some (t376.toList == t368.toList)))) else (some false)) else (some false))) else (some false)) else (some false)) = some r := H
                have A21 := Aside0.mk A210
                clear A210
                by_cases c22 : t371.toList = t368.toList
                · rw [if_pos c22] at H
                  have c22b0 : (t371.toList == t368.toList) = true := beq_iff_eq.mpr c22
                  have c22b1 : (t371.toList != t368.toList) = false := bne_eq_false_iff_eq.mpr c22
                  clear c22
                  by_cases c23 : (t368.size : Int) = 32
                  · rw [if_pos c23] at H
                    have c23b0 : ((t368.size : Int) == 32) = true := beq_iff_eq.mpr c23
                    have c23b1 : ((t368.size : Int) != 32) = false := bne_eq_false_iff_eq.mpr c23
                    clear c23
                    replace H := Option.bind_eq_some_iff.mp H
                    obtain ⟨t372, A240, H⟩ := H
                    replace H : (if t368.toList = t372.toList then (if t366 = (t352.size : Int) then ((impl_HashMore.f k t364 t365 t366 (⟨#[]⟩ : ByteArray)).bind fun bt373 => ((impl_HashEnd.f k bt373.1 bt373.2.1 bt373.2.2).bind fun t376 => (some (t376.toList == t368.toList)))) else (some false)) else (some false)) = some r := H
                    have A24 := Aside0.mk A240
                    clear A240
                    by_cases c25 : t368.toList = t372.toList
                    · rw [if_pos c25] at H
                      have c25b0 : (t368.toList == t372.toList) = true := beq_iff_eq.mpr c25
                      have c25b1 : (t368.toList != t372.toList) = false := bne_eq_false_iff_eq.mpr c25
                      clear c25
                      by_cases c26 : t366 = (t352.size : Int)
                      · rw [if_pos c26] at H
                        have c26b0 : (t366 == (t352.size : Int)) = true := beq_iff_eq.mpr c26
                        have c26b1 : (t366 != (t352.size : Int)) = false := bne_eq_false_iff_eq.mpr c26
                        clear c26
                        replace H := Option.bind_eq_some_iff.mp H
                        obtain ⟨⟨t373, t374, t375⟩, A270, H⟩ := H
                        replace H : ((impl_HashEnd.f k t373 t374 t375).bind fun t376 => (some (t376.toList == t368.toList))) = some r := H
                        have A27 := Aside0.mk A270
                        clear A270
                        replace H := Option.bind_eq_some_iff.mp H
                        obtain ⟨t376, A280, H⟩ := H
                        replace H : (some (t376.toList == t368.toList)) = some r := H
                        have A28 := Aside0.mk A280
                        clear A280
                        obtain rfl := Option.some.inj H
                        go_enter Try.func7, Try.ntmps7
                        try go_wp2_with (first | ((with_reducible refine gate_callee (f := 19) rfl ?_); refine goesL_ (some 9) rfl rfl Try.func19 (by kernel_rfl) rfl #[.slice A0 l0.length c0] rfl (by (try simp only [List.map_toArray, List.map_cons, List.map_nil]); first | done | rfl | (simp only [List.length_drop, List.length_take]; rfl)) ?_; (with_reducible refine (laws_big.calls _ _ l0 false _ ?side1 ?side2 A2.out).mono ?_); (case side1 => repeat (first | exact HR0.out | (with_reducible refine Kd.C_alloc ?_ _) | (with_reducible refine Kd.C_drewN ?_ _) | (with_reducible refine Kd.C_drew ?_))); (case side2 => exact HC0.out); rintro e w' ⟨rfl, ⟨nd, rfl⟩⟩; refine ⟨_, rfl, ?_⟩) | ((with_reducible refine gate_callee (f := 23) rfl ?_); refine goesL_ (some 11) rfl rfl Try.func23 (by kernel_rfl) rfl #[.slice A0 l0.length c0] rfl (by (try simp only [List.map_toArray, List.map_cons, List.map_nil]); first | done | rfl | (simp only [List.length_drop, List.length_take]; rfl)) ?_; (with_reducible refine (spec_DrawDigestOf.calls k _ _ l0 t352 _ ?side1 ?side2 A4.out).mono ?_); (case side1 => repeat (first | exact HR0.out | (with_reducible refine Kd.C_alloc ?_ _) | (with_reducible refine Kd.C_drewN ?_ _) | (with_reducible refine Kd.C_drew ?_))); (case side2 => exact HC0.out); rintro e w29 ⟨rfl, hb⟩; refine ⟨_, rfl, ?_⟩; have n0_ := Aside0.mk (below_step (by repeat (first | (with_reducible first | exact HB.out | apply below_alloc | apply pw_below_drewN | apply below_drew1) | exact HB.out)) hb); clear HB; have HB := n0_; clear n0_; (try clear hb); (try clear hb2); (try clear hk); (try clear hi)) | ((with_reducible refine gate_callee (f := 24) rfl ?_); refine goesL_ (some 13) rfl rfl Try.func24 (by kernel_rfl) rfl #[.slice A0 l0.length c0] rfl (by (try simp only [List.map_toArray, List.map_cons, List.map_nil]); first | done | rfl | (simp only [List.length_drop, List.length_take]; rfl)) ?_; (with_reducible refine (spec_DrawPlaces.calls k _ _ l0 t353 _ ?side1 ?side2 A5.out).mono ?_); (case side1 => repeat (first | exact (Kd.C_below HR0.out HB.out) | (with_reducible refine Kd.C_alloc ?_ _) | (with_reducible refine Kd.C_drewN ?_ _) | (with_reducible refine Kd.C_drew ?_))); (case side2 => exact HC0.out); rintro e w30 ⟨v354, rfl, ho0, hb⟩; refine ⟨_, rfl, ?_⟩; have n0_ := Aside0.mk (Kd.R_lower ho0 (below_size (by repeat (first | (with_reducible first | exact HB.out | apply below_alloc | apply pw_below_drewN | apply below_drew1) | exact HB.out)))); have n1_ := Aside0.mk (below_step (by repeat (first | (with_reducible first | exact HB.out | apply below_alloc | apply pw_below_drewN | apply below_drew1) | exact HB.out)) hb); clear HB; have HO355 := n0_; have HB := n1_; clear n0_ n1_; (try clear hb); (try clear hb2); (try clear hk); (try clear hi); (try clear ho0); obtain ⟨Ao31, co31, eo31⟩ := Kd.R_slice HO355.out; subst eo31; have p356 : 0 ≤ (0 : Int) := (by omega); have q356 : 0 < (t353.length : Int) := of_decide_eq_true (by first | (with_reducible assumption) | assumption); obtain ⟨ad356, e356, hx356_0⟩ := Kd.at_int (Kd.R_reads' HO355.out).2.2 0 p356 q356; cases e356; have qi356 : (0 < t353.length) = True := eq_true (by omega); (try rw [show ((0 : Int)).toNat = 0 from rfl] at hx356_0); (try rw [Addr.add_zero'] at hx356_0); replace p356 := eq_true p356; replace q356 := eq_true q356) | ((with_reducible refine gate_callee (f := 25) rfl ?_); refine goesL_ (some 20) rfl rfl Try.func25 (by kernel_rfl) rfl #[] rfl (by (try simp only [List.map_toArray, List.map_cons, List.map_nil]); first | done | rfl | (simp only [List.length_drop, List.length_take]; rfl)) ?_; (with_reducible refine (impl_HasherNew.calls k  t357 t358 t359 _ A8.out).mono ?_); rintro e w32 ⟨rfl, hb⟩; refine ⟨_, rfl, ?_⟩; have n0_ := Aside0.mk (Kd.R_below (by (with_reducible repeat (first | apply Kd.R_alloc | apply Kd.R_drewN | apply Kd.R_drew)); exact HO355.out) hb); have n1_ := Aside0.mk (below_step (by repeat (first | (with_reducible first | exact HB.out | apply below_alloc | apply pw_below_drewN | apply below_drew1) | exact HB.out)) hb); clear HO355; clear HB; have HO355 := n0_; have HB := n1_; clear n0_ n1_; (try clear hb); (try clear hb2); (try clear hk); (try clear hi)) | ((with_reducible refine gate_dst (N := 5) rfl ?_); (try (refine gate_guard (by rfl) ?_; dsimp only)); refine box_event ?hg (N := 5) ?hd (cs := #[.string (⟨#[]⟩ : ByteArray), .string (⟨#[]⟩ : ByteArray), .int .i64 0]) (t := 25) ?hr ?_; (case hd => rfl); (case hg => rfl); (case hr => first | (go_simp; done) | (go_simp; rfl)); intro gb360 hg w33 hbox hb; have n0_ := Aside0.mk (Kd.R_below (by (with_reducible repeat (first | apply Kd.R_alloc | apply Kd.R_drewN | apply Kd.R_drew)); exact HO355.out) hb); have n1_ := Aside0.mk (below_step (by repeat (first | (with_reducible first | exact HB.out | apply below_alloc | apply pw_below_drewN | apply below_drew1) | exact HB.out)) hb); have n2_ := Aside0.mk (hbox); have n3_ := Aside0.mk ((by rw [hg]; exact (below_size (by repeat (first | (with_reducible first | exact HB.out | apply below_alloc | apply pw_below_drewN | apply below_drew1) | exact HB.out))) : w.heap.size ≤ gb360)); have n4_ := Aside0.mk ((by rw [hg]; exact (below_size (by repeat (first | (with_reducible first | exact HB.out | apply below_alloc | apply pw_below_drewN | apply below_drew1) | exact HB.out))) : w.heap.size ≤ gb360)); clear HO355; clear HB; have HO355 := n0_; have HB := n1_; have BK360 := n2_; have GW360 := n3_; have GE360 := n4_; clear n0_ n1_ n2_ n3_ n4_; clear hb hbox hg; have hcz34_0 : w33.cell? ⟨gb360, 0, none⟩ = some (.string (⟨#[]⟩ : ByteArray)) := (blk_cell BK360.out 0).trans rfl; have hcz34_1 : w33.cell? ⟨gb360, 1, none⟩ = some (.string (⟨#[]⟩ : ByteArray)) := (blk_cell BK360.out 1).trans rfl; have hcz34_2 : w33.cell? ⟨gb360, 2, none⟩ = some (.int .i64 0) := (blk_cell BK360.out 2).trans rfl; have hfz34_0 := blk_frozen BK360.out 0; have hfz34_1 := blk_frozen BK360.out 1; have hfz34_2 := blk_frozen BK360.out 2))
                        have n0_ : Aside0 (Kd.R (Kd.int .i64) 3 (((w33.setCell ⟨gb360, 0, none⟩ (.string t357)).setCell ⟨gb360, 1, none⟩ (.string t358)).setCell ⟨gb360, 2, none⟩ (.int .i64 t359)) w.heap.size (fun _ => True) (.slice (some ad356) t353.length co31) t353) := ⟨by (with_reducible repeat (first | apply Kd.R_alloc | apply Kd.R_drewN | apply Kd.R_drew)); exact Kd.R_mono (Kd.R_far (p := ⟨gb360, 2, none⟩) (Kd.R_far (p := ⟨gb360, 1, none⟩) (Kd.R_far (p := ⟨gb360, 0, none⟩) (Kd.R_types HO355.out BK360.out (by decide)) (fun _ hk => hk.2) (.string t357)) (fun _ hk => hk.2) (.string t358)) (fun _ hk => hk.2) (.int .i64 t359)) (fun _ hk => trivial)⟩
                        have n1_ : Aside0 ((((w33.setCell ⟨gb360, 0, none⟩ (.string t357)).setCell ⟨gb360, 1, none⟩ (.string t358)).setCell ⟨gb360, 2, none⟩ (.int .i64 t359)).heap[gb360]? = some (.cells #[.string t357, .string t358, .int .i64 t359] 25 (0, 0))) := ⟨by (with_reducible repeat (first | refine blk_drewN ?_ _ | refine blk_drew ?_ | refine blk_alloc ?_ _)); refine blk_put (cs := #[.string t357, .string t358, .int .i64 0]) ?_ 2 _ rfl; (with_reducible repeat (first | refine blk_drewN ?_ _ | refine blk_drew ?_ | refine blk_alloc ?_ _)); refine blk_put (cs := #[.string t357, .string (⟨#[]⟩ : ByteArray), .int .i64 0]) ?_ 1 _ rfl; (with_reducible repeat (first | refine blk_drewN ?_ _ | refine blk_drew ?_ | refine blk_alloc ?_ _)); refine blk_put (cs := #[.string (⟨#[]⟩ : ByteArray), .string (⟨#[]⟩ : ByteArray), .int .i64 0]) ?_ 0 _ rfl; (with_reducible repeat (first | refine blk_drewN ?_ _ | refine blk_drew ?_ | refine blk_alloc ?_ _)); exact BK360.out⟩
                        have n2_ : Aside0 (Below w.heap.size w (((w33.setCell ⟨gb360, 0, none⟩ (.string t357)).setCell ⟨gb360, 1, none⟩ (.string t358)).setCell ⟨gb360, 2, none⟩ (.int .i64 t359))) := ⟨by repeat (first | (with_reducible first | exact HB.out | apply below_alloc | apply pw_below_drewN | apply below_drew1 | refine below_set ?_ GE360.out) | exact HB.out)⟩
                        (try clear HO355)
                        (try clear BK360)
                        (try clear HB)
                        generalize (((w33.setCell ⟨gb360, 0, none⟩ (.string t357)).setCell ⟨gb360, 1, none⟩ (.string t358)).setCell ⟨gb360, 2, none⟩ (.int .i64 t359)) = w35 at n0_ n1_ n2_ ⊢
                        have HO355 := n0_
                        have BK360 := n1_
                        have HB := n2_
                        clear n0_ n1_ n2_
                        have n0_ := Aside0.mk (Kd.R_drew HO355.out)
                        have n1_ := Aside0.mk (blk_drew BK360.out)
                        have n2_ := Aside0.mk (below_drew1 HB.out)
                        clear HO355
                        clear BK360
                        clear HB
                        have HO355 := n0_
                        have BK360 := n1_
                        have HB := n2_
                        clear n0_ n1_ n2_
                        refine start_ (n := 6) (S := fun w' => w'.cell? ⟨gb360, 0, none⟩ = some (.string t357) ∧ w'.cell? ⟨gb360, 1, none⟩ = some (.string t358) ∧ w'.cell? ⟨gb360, 2, none⟩ = some (.int .i64 t359)) (ds := [5]) #[false, false, false, false, false, false] (by kernel_rfl) rfl rfl ⟨(blk_cell BK360.out 0).trans rfl, (blk_cell BK360.out 1).trans rfl, (blk_cell BK360.out 2).trans rfl⟩ (fun hHeld => ?_)
                        generalize w35.drew = w36 at HO355 BK360 HB hHeld ⊢
                        refine pure_ (i := 1) (N := some 22) (v := ?_) (a' := ?_) #[false, true, false, false, false, false] rfl rfl (by kernel_rfl) (fun _ _ _ h => h) (Or.inl ⟨by rfl, ?_⟩) ?_ ?_
                        rotate_left
                        · intro w'
                          go_simp
                          with_reducible rfl
                        rotate_left
                        · simp only [Act.put, List.setIfInBounds_toArray, List.set_cons_zero, List.set_cons_succ, i64_w, i32_w]
                          rfl
                        refine pure_ (i := 2) (N := some 23) (v := ?_) (a' := ?_) #[false, true, true, false, false, false] rfl rfl (by kernel_rfl) (fun _ _ _ h => h) (Or.inl ⟨by rfl, ?_⟩) ?_ ?_
                        rotate_left
                        · intro w'
                          go_simp
                          with_reducible rfl
                        rotate_left
                        · simp only [Act.put, List.setIfInBounds_toArray, List.set_cons_zero, List.set_cons_succ, i64_w, i32_w]
                          rfl
                        refine pure_ (i := 3) (N := some 24) (v := ?_) (a' := ?_) #[false, true, true, true, false, false] rfl rfl (by kernel_rfl) (fun _ _ _ h => h) (Or.inl ⟨by rfl, ?_⟩) ?_ ?_
                        rotate_left
                        · intro w'
                          go_simp
                          with_reducible rfl
                        rotate_left
                        · simp only [Act.put, List.setIfInBounds_toArray, List.set_cons_zero, List.set_cons_succ, i64_w, i32_w]
                          rfl
                        refine take_ (i := 0) (N := some 21) (v := ?_) (a' := ?_) #[true, true, true, true, false, false] rfl rfl (by kernel_rfl) (fun _ _ _ h => h) (Or.inl ⟨by rfl, ?_⟩) hHeld ?_ ?_
                        rotate_left
                        · rintro w' ⟨s0, s1, s2⟩
                          go_simp
                          with_reducible rfl
                        rotate_left
                        · simp only [Act.put, List.setIfInBounds_toArray, List.set_cons_zero, List.set_cons_succ, i64_w, i32_w]
                          rfl
                        refine one_ (i := 4) (N := some 25) #[true, true, true, true, true, false] rfl rfl (by kernel_rfl) (by decide) (fun K hK => ?_)
                        refine goes_ Try.func13 (by kernel_rfl) rfl #[.agg #[.string t357, .string t358, .int .i64 t359], .string (t352.extract 0 ((ji9) : Int).toNat)] (by rfl) rfl rfl (by (try simp only [List.map_toArray, List.map_cons, List.map_nil]); first | done | (simp only [hji9]; rfl) | rfl | (simp only [List.length_drop, List.length_take]; rfl)) ?_
                        with_reducible refine (impl_HashMore.calls k t357 t358 t359 (t352.extract 0 ((ji9) : Int).toNat) t361 t362 t363 _ A12.out).mono ?_
                        rintro e w37 ⟨rfl, hb⟩
                        refine ⟨_, rfl, ?_⟩
                        have n0_ := Aside0.mk (Kd.R_below (by (with_reducible repeat (first | apply Kd.R_alloc | apply Kd.R_drewN | apply Kd.R_drew)); exact HO355.out) hb)
                        have n1_ := Aside0.mk (blk_below (g := gb360) (o := .cells #[.string t357, .string t358, .int .i64 t359] 25 (0, 0)) (by (with_reducible repeat (first | refine blk_drewN ?_ _ | refine blk_drew ?_ | refine blk_alloc ?_ _)); exact BK360.out) hb)
                        have n2_ := Aside0.mk (below_step (by repeat (first | (with_reducible first | exact HB.out | apply below_alloc | apply pw_below_drewN | apply below_drew1 | refine below_set ?_ GE360.out) | exact HB.out)) hb)
                        clear HO355
                        clear BK360
                        clear HB
                        have HO355 := n0_
                        have BK360 := n1_
                        have HB := n2_
                        clear n0_ n1_ n2_
                        (try clear hb)
                        (try clear hb2)
                        (try clear hk)
                        (try clear hi)
                        refine hK.out _ _ ⟨(blk_cell BK360.out 0).trans rfl, (blk_cell BK360.out 1).trans rfl, (blk_cell BK360.out 2).trans rfl⟩ (fun hHeld => ?_)
                        clear hK K
                        refine norm_ (a' := ?_) ?_ ?_
                        rotate_left
                        · show Act.put _ (some 25) _ = _
                          simp only [Act.put, List.setIfInBounds_toArray, List.set_cons_zero, List.set_cons_succ, i64_w, i32_w]
                          rfl
                        refine last_ (i := 5) (N := none) #[true, true, true, true, true, true] rfl rfl (by kernel_rfl) (by decide) (fun K hK => ?_)
                        have hs38 : w37.cell? ⟨gb360, 0, none⟩ = some (.string t357) := (blk_cell BK360.out 0).trans rfl
                        have hfs38 := blk_frozen BK360.out 0
                        have hs39 : w37.cell? ⟨gb360, 1, none⟩ = some (.string t358) := (blk_cell BK360.out 1).trans rfl
                        have hfs39 := blk_frozen BK360.out 1
                        have hs40 : w37.cell? ⟨gb360, 2, none⟩ = some (.int .i64 t359) := (blk_cell BK360.out 2).trans rfl
                        have hfs40 := blk_frozen BK360.out 2
                        refine skip_ (w1 := ?_) (by rfl) rfl ?_ ?_
                        rotate_left
                        · go_simp
                          rfl
                        refine hK.out _ _ ?_
                        clear hK K
                        refine done_ (by kernel_rfl) ?_
                        try go_wp2
                        have n0_ : Aside0 (Kd.R (Kd.int .i64) 3 (((w37.setCell ⟨gb360, 0, none⟩ (.string t361)).setCell ⟨gb360, 1, none⟩ (.string t362)).setCell ⟨gb360, 2, none⟩ (.int .i64 t363)) w.heap.size (fun _ => True) (.slice (some ad356) t353.length co31) t353) := ⟨by (with_reducible repeat (first | apply Kd.R_alloc | apply Kd.R_drewN | apply Kd.R_drew)); exact Kd.R_mono (Kd.R_far (p := ⟨gb360, 2, none⟩) (Kd.R_far (p := ⟨gb360, 1, none⟩) (Kd.R_far (p := ⟨gb360, 0, none⟩) (Kd.R_types HO355.out BK360.out (by decide)) (fun _ hk => hk.2) (.string t361)) (fun _ hk => hk.2) (.string t362)) (fun _ hk => hk.2) (.int .i64 t363)) (fun _ hk => trivial)⟩
                        have n1_ : Aside0 ((((w37.setCell ⟨gb360, 0, none⟩ (.string t361)).setCell ⟨gb360, 1, none⟩ (.string t362)).setCell ⟨gb360, 2, none⟩ (.int .i64 t363)).heap[gb360]? = some (.cells #[.string t361, .string t362, .int .i64 t363] 25 (0, 0))) := ⟨by (with_reducible repeat (first | refine blk_drewN ?_ _ | refine blk_drew ?_ | refine blk_alloc ?_ _)); refine blk_put (cs := #[.string t361, .string t362, .int .i64 t359]) ?_ 2 _ rfl; (with_reducible repeat (first | refine blk_drewN ?_ _ | refine blk_drew ?_ | refine blk_alloc ?_ _)); refine blk_put (cs := #[.string t361, .string t358, .int .i64 t359]) ?_ 1 _ rfl; (with_reducible repeat (first | refine blk_drewN ?_ _ | refine blk_drew ?_ | refine blk_alloc ?_ _)); refine blk_put (cs := #[.string t357, .string t358, .int .i64 t359]) ?_ 0 _ rfl; (with_reducible repeat (first | refine blk_drewN ?_ _ | refine blk_drew ?_ | refine blk_alloc ?_ _)); exact BK360.out⟩
                        have n2_ : Aside0 (Below w.heap.size w (((w37.setCell ⟨gb360, 0, none⟩ (.string t361)).setCell ⟨gb360, 1, none⟩ (.string t362)).setCell ⟨gb360, 2, none⟩ (.int .i64 t363))) := ⟨by repeat (first | (with_reducible first | exact HB.out | apply below_alloc | apply pw_below_drewN | apply below_drew1 | refine below_set ?_ GE360.out) | exact HB.out)⟩
                        (try clear HO355)
                        (try clear BK360)
                        (try clear HB)
                        generalize (((w37.setCell ⟨gb360, 0, none⟩ (.string t361)).setCell ⟨gb360, 1, none⟩ (.string t362)).setCell ⟨gb360, 2, none⟩ (.int .i64 t363)) = w41 at n0_ n1_ n2_ ⊢
                        have HO355 := n0_
                        have BK360 := n1_
                        have HB := n2_
                        clear n0_ n1_ n2_
                        have n0_ := Aside0.mk (Kd.R_drew HO355.out)
                        have n1_ := Aside0.mk (blk_drew BK360.out)
                        have n2_ := Aside0.mk (below_drew1 HB.out)
                        clear HO355
                        clear BK360
                        clear HB
                        have HO355 := n0_
                        have BK360 := n1_
                        have HB := n2_
                        clear n0_ n1_ n2_
                        refine start_ (n := 7) (S := fun w' => w'.cell? ⟨gb360, 0, none⟩ = some (.string t361) ∧ w'.cell? ⟨gb360, 1, none⟩ = some (.string t362) ∧ w'.cell? ⟨gb360, 2, none⟩ = some (.int .i64 t363)) (ds := []) #[false, false, false, false, false, false, false] (by kernel_rfl) rfl rfl ⟨(blk_cell BK360.out 0).trans rfl, (blk_cell BK360.out 1).trans rfl, (blk_cell BK360.out 2).trans rfl⟩ (fun hHeld => ?_)
                        generalize w41.drew = w42 at HO355 BK360 HB hHeld ⊢
                        refine pure_ (i := 1) (N := some 27) (v := ?_) (a' := ?_) #[false, true, false, false, false, false, false] rfl rfl (by kernel_rfl) (fun _ _ _ h => h) (Or.inl ⟨by rfl, ?_⟩) ?_ ?_
                        rotate_left
                        · intro w'
                          go_simp
                          with_reducible rfl
                        rotate_left
                        · simp only [Act.put, List.setIfInBounds_toArray, List.set_cons_zero, List.set_cons_succ, i64_w, i32_w]
                          rfl
                        refine pure_ (i := 2) (N := some 28) (v := ?_) (a' := ?_) #[false, true, true, false, false, false, false] rfl rfl (by kernel_rfl) (fun _ _ _ h => h) (Or.inl ⟨by rfl, ?_⟩) ?_ ?_
                        rotate_left
                        · intro w'
                          go_simp
                          with_reducible rfl
                        rotate_left
                        · simp only [Act.put, List.setIfInBounds_toArray, List.set_cons_zero, List.set_cons_succ, i64_w, i32_w]
                          rfl
                        refine pure_ (i := 3) (N := some 29) (v := ?_) (a' := ?_) #[false, true, true, true, false, false, false] rfl rfl (by kernel_rfl) (fun _ _ _ h => h) (Or.inl ⟨by rfl, ?_⟩) ?_ ?_
                        rotate_left
                        · intro w'
                          go_simp
                          with_reducible rfl
                        rotate_left
                        · simp only [Act.put, List.setIfInBounds_toArray, List.set_cons_zero, List.set_cons_succ, i64_w, i32_w]
                          rfl
                        refine take_ (i := 0) (N := some 26) (v := ?_) (a' := ?_) #[true, true, true, true, false, false, false] rfl rfl (by kernel_rfl) (fun _ _ _ h => h) (Or.inl ⟨by rfl, ?_⟩) hHeld ?_ ?_
                        rotate_left
                        · rintro w' ⟨s0, s1, s2⟩
                          go_simp
                          with_reducible rfl
                        rotate_left
                        · simp only [Act.put, List.setIfInBounds_toArray, List.set_cons_zero, List.set_cons_succ, i64_w, i32_w]
                          rfl
                        refine join_ (σ := Nat) 1 #[true, true, true, true, true, true, false] (fun s_ => [(30, .agg #[.string t364, .string t365, .int .i64 t366]), (6, .pointer (some ⟨s_, 0, none⟩))]) (fun s_ w' => (w'.cell? ⟨gb360, 0, none⟩ = some (.string t361) ∧ w'.cell? ⟨gb360, 1, none⟩ = some (.string t362) ∧ w'.cell? ⟨gb360, 2, none⟩ = some (.int .i64 t363)) ∧ (Kd.R (Kd.int .i64) 3 w' w.heap.size (fun _ => True) (.slice (some ad356) t353.length co31) t353) ∧ (w'.heap[gb360]? = some (.cells #[.string t361, .string t362, .int .i64 t363] 25 (0, 0))) ∧ (w'.heap[s_]? = some (.cells #[.string (⟨#[]⟩ : ByteArray), .string (⟨#[]⟩ : ByteArray), .int .i64 0] 25 (0, 0))) ∧ (w.heap.size ≤ s_) ∧ (w.heap.size ≤ s_) ∧ (gb360 ≠ s_) ∧ (s_ ≠ gb360) ∧ (Below w.heap.size w w')) ?_ ?_
                        rotate_left
                        · intro hCont
                          refine two_ (i := 4) (j := 5) (Ni := some 30) (Nj := some 6) #[true, true, true, true, true, false, false] #[true, true, true, true, false, true, false] rfl rfl rfl rfl (by kernel_rfl) (by decide) (by decide) (fun K hK => ?_) (fun K hK => ?_)
                          · skip
                            refine goes_ Try.func13 (by kernel_rfl) rfl #[.agg #[.string t361, .string t362, .int .i64 t363], .string (t352.extract ((ji9) : Int).toNat t352.size)] (by rfl) rfl rfl (by (try simp only [List.map_toArray, List.map_cons, List.map_nil]); first | done | (simp only [hji9]; rfl) | rfl | (simp only [List.length_drop, List.length_take]; rfl)) ?_
                            with_reducible refine (impl_HashMore.calls k t361 t362 t363 (t352.extract ((ji9) : Int).toNat t352.size) t364 t365 t366 _ A15.out).mono ?_
                            rintro e w43 ⟨rfl, hb⟩
                            refine ⟨_, rfl, ?_⟩
                            have n0_ := Aside0.mk (Kd.R_below (by (with_reducible repeat (first | apply Kd.R_alloc | apply Kd.R_drewN | apply Kd.R_drew)); exact HO355.out) hb)
                            have n1_ := Aside0.mk (blk_below (g := gb360) (o := .cells #[.string t361, .string t362, .int .i64 t363] 25 (0, 0)) (by (with_reducible repeat (first | refine blk_drewN ?_ _ | refine blk_drew ?_ | refine blk_alloc ?_ _)); exact BK360.out) hb)
                            have n2_ := Aside0.mk (below_step (by repeat (first | (with_reducible first | exact HB.out | apply below_alloc | apply pw_below_drewN | apply below_drew1 | refine below_set ?_ GE360.out) | exact HB.out)) hb)
                            clear HO355
                            clear BK360
                            clear HB
                            have HO355 := n0_
                            have BK360 := n1_
                            have HB := n2_
                            clear n0_ n1_ n2_
                            (try clear hb)
                            (try clear hb2)
                            (try clear hk)
                            (try clear hi)
                            refine hK.out _ _ ⟨(blk_cell BK360.out 0).trans rfl, (blk_cell BK360.out 1).trans rfl, (blk_cell BK360.out 2).trans rfl⟩ (fun hHeld => ?_)
                            clear hK K
                            refine norm_ (a' := ?_) ?_ ?_
                            rotate_left
                            · show Act.put _ (some 30) _ = _
                              simp only [Act.put, List.setIfInBounds_toArray, List.set_cons_zero, List.set_cons_succ, i64_w, i32_w]
                              rfl
                            refine one_ (i := 5) (N := some 6) #[true, true, true, true, true, true, false] rfl rfl (by kernel_rfl) (by decide) (fun K hK => ?_)
                            refine box_step ?hg (N := 6) ?hd (cs := #[.string (⟨#[]⟩ : ByteArray), .string (⟨#[]⟩ : ByteArray), .int .i64 0]) (t := 25) ?hr ?_; (case hd => rfl); (case hg => rfl); (case hr => first | (go_simp; done) | (go_simp; rfl))
                            intro gb367 hg w44 hbox hb
                            have n0_ := Aside0.mk (Kd.R_below (by (with_reducible repeat (first | apply Kd.R_alloc | apply Kd.R_drewN | apply Kd.R_drew)); exact HO355.out) hb)
                            have n1_ := Aside0.mk (blk_below (g := gb360) (o := .cells #[.string t361, .string t362, .int .i64 t363] 25 (0, 0)) (by (with_reducible repeat (first | refine blk_drewN ?_ _ | refine blk_drew ?_ | refine blk_alloc ?_ _)); exact BK360.out) hb)
                            have n2_ := Aside0.mk (below_step (by repeat (first | (with_reducible first | exact HB.out | apply below_alloc | apply pw_below_drewN | apply below_drew1 | refine below_set ?_ GE360.out) | exact HB.out)) hb)
                            have n3_ := Aside0.mk (hbox)
                            have n4_ := Aside0.mk ((by rw [hg]; exact (below_size (by repeat (first | (with_reducible first | exact HB.out | apply below_alloc | apply pw_below_drewN | apply below_drew1 | refine below_set ?_ GE360.out) | exact HB.out))) : w.heap.size ≤ gb367))
                            have n5_ := Aside0.mk ((by rw [hg]; exact (below_size (by repeat (first | (with_reducible first | exact HB.out | apply below_alloc | apply pw_below_drewN | apply below_drew1 | refine below_set ?_ GE360.out) | exact HB.out))) : w.heap.size ≤ gb367))
                            have n6_ := Aside0.mk ((by rw [hg]; exact Nat.ne_of_lt (blk_lt (g := gb360) (o := .cells #[.string t361, .string t362, .int .i64 t363] 25 (0, 0)) (by (with_reducible repeat (first | refine blk_drewN ?_ _ | refine blk_drew ?_ | refine blk_alloc ?_ _)); exact BK360.out)) : gb360 ≠ gb367))
                            have n7_ := Aside0.mk ((by rw [hg]; exact Nat.ne_of_gt (blk_lt (g := gb360) (o := .cells #[.string t361, .string t362, .int .i64 t363] 25 (0, 0)) (by (with_reducible repeat (first | refine blk_drewN ?_ _ | refine blk_drew ?_ | refine blk_alloc ?_ _)); exact BK360.out)) : gb367 ≠ gb360))
                            clear HO355
                            clear BK360
                            clear HB
                            have HO355 := n0_
                            have BK360 := n1_
                            have HB := n2_
                            have BK367 := n3_
                            have GW367 := n4_
                            have GE367 := n5_
                            have NB360_367 := n6_
                            have NB367_360 := n7_
                            clear n0_ n1_ n2_ n3_ n4_ n5_ n6_ n7_
                            clear hb hbox hg
                            refine hK.out _ _ ⟨(blk_cell BK360.out 0).trans rfl, (blk_cell BK360.out 1).trans rfl, (blk_cell BK360.out 2).trans rfl⟩ (fun hHeld => ?_)
                            clear hK K
                            refine norm_ (a' := ?_) ?_ ?_
                            rotate_left
                            · show Act.put _ (some 6) _ = _
                              simp only [Act.put, List.setIfInBounds_toArray, List.set_cons_zero, List.set_cons_succ, i64_w, i32_w]
                              rfl
                            exact norm_ (by simp only [putAll, Act.put, List.setIfInBounds_toArray, List.set_cons_zero, List.set_cons_succ]) (hCont (gb367) _ ⟨hHeld, (by (with_reducible repeat (first | apply Kd.R_alloc | apply Kd.R_drewN | apply Kd.R_drew)); exact HO355.out), (by (with_reducible repeat (first | refine blk_drewN ?_ _ | refine blk_drew ?_ | refine blk_alloc ?_ _)); exact BK360.out), (by (with_reducible repeat (first | refine blk_drewN ?_ _ | refine blk_drew ?_ | refine blk_alloc ?_ _)); exact BK367.out), GW367.out, GE367.out, NB360_367.out, NB367_360.out, (by repeat (first | (with_reducible first | exact HB.out | apply below_alloc | apply pw_below_drewN | apply below_drew1 | refine below_set ?_ GE360.out | refine below_set ?_ GE367.out) | exact HB.out))⟩)
                          · skip
                            refine box_step ?hg (N := 6) ?hd (cs := #[.string (⟨#[]⟩ : ByteArray), .string (⟨#[]⟩ : ByteArray), .int .i64 0]) (t := 25) ?hr ?_; (case hd => rfl); (case hg => rfl); (case hr => first | (go_simp; done) | (go_simp; rfl))
                            intro gb367 hg w43 hbox hb
                            have n0_ := Aside0.mk (Kd.R_below (by (with_reducible repeat (first | apply Kd.R_alloc | apply Kd.R_drewN | apply Kd.R_drew)); exact HO355.out) hb)
                            have n1_ := Aside0.mk (blk_below (g := gb360) (o := .cells #[.string t361, .string t362, .int .i64 t363] 25 (0, 0)) (by (with_reducible repeat (first | refine blk_drewN ?_ _ | refine blk_drew ?_ | refine blk_alloc ?_ _)); exact BK360.out) hb)
                            have n2_ := Aside0.mk (below_step (by repeat (first | (with_reducible first | exact HB.out | apply below_alloc | apply pw_below_drewN | apply below_drew1 | refine below_set ?_ GE360.out) | exact HB.out)) hb)
                            have n3_ := Aside0.mk (hbox)
                            have n4_ := Aside0.mk ((by rw [hg]; exact (below_size (by repeat (first | (with_reducible first | exact HB.out | apply below_alloc | apply pw_below_drewN | apply below_drew1 | refine below_set ?_ GE360.out) | exact HB.out))) : w.heap.size ≤ gb367))
                            have n5_ := Aside0.mk ((by rw [hg]; exact (below_size (by repeat (first | (with_reducible first | exact HB.out | apply below_alloc | apply pw_below_drewN | apply below_drew1 | refine below_set ?_ GE360.out) | exact HB.out))) : w.heap.size ≤ gb367))
                            have n6_ := Aside0.mk ((by rw [hg]; exact Nat.ne_of_lt (blk_lt (g := gb360) (o := .cells #[.string t361, .string t362, .int .i64 t363] 25 (0, 0)) (by (with_reducible repeat (first | refine blk_drewN ?_ _ | refine blk_drew ?_ | refine blk_alloc ?_ _)); exact BK360.out)) : gb360 ≠ gb367))
                            have n7_ := Aside0.mk ((by rw [hg]; exact Nat.ne_of_gt (blk_lt (g := gb360) (o := .cells #[.string t361, .string t362, .int .i64 t363] 25 (0, 0)) (by (with_reducible repeat (first | refine blk_drewN ?_ _ | refine blk_drew ?_ | refine blk_alloc ?_ _)); exact BK360.out)) : gb367 ≠ gb360))
                            clear HO355
                            clear BK360
                            clear HB
                            have HO355 := n0_
                            have BK360 := n1_
                            have HB := n2_
                            have BK367 := n3_
                            have GW367 := n4_
                            have GE367 := n5_
                            have NB360_367 := n6_
                            have NB367_360 := n7_
                            clear n0_ n1_ n2_ n3_ n4_ n5_ n6_ n7_
                            clear hb hbox hg
                            refine hK.out _ _ ⟨(blk_cell BK360.out 0).trans rfl, (blk_cell BK360.out 1).trans rfl, (blk_cell BK360.out 2).trans rfl⟩ (fun hHeld => ?_)
                            clear hK K
                            refine norm_ (a' := ?_) ?_ ?_
                            rotate_left
                            · show Act.put _ (some 6) _ = _
                              simp only [Act.put, List.setIfInBounds_toArray, List.set_cons_zero, List.set_cons_succ, i64_w, i32_w]
                              rfl
                            refine one_ (i := 4) (N := some 30) #[true, true, true, true, true, true, false] rfl rfl (by kernel_rfl) (by decide) (fun K hK => ?_)
                            refine goes_ Try.func13 (by kernel_rfl) rfl #[.agg #[.string t361, .string t362, .int .i64 t363], .string (t352.extract ((ji9) : Int).toNat t352.size)] (by rfl) rfl rfl (by (try simp only [List.map_toArray, List.map_cons, List.map_nil]); first | done | (simp only [hji9]; rfl) | rfl | (simp only [List.length_drop, List.length_take]; rfl)) ?_
                            with_reducible refine (impl_HashMore.calls k t361 t362 t363 (t352.extract ((ji9) : Int).toNat t352.size) t364 t365 t366 _ A15.out).mono ?_
                            rintro e w44 ⟨rfl, hb⟩
                            refine ⟨_, rfl, ?_⟩
                            have n0_ := Aside0.mk (Kd.R_below (by (with_reducible repeat (first | apply Kd.R_alloc | apply Kd.R_drewN | apply Kd.R_drew)); exact HO355.out) hb)
                            have n1_ := Aside0.mk (blk_below (g := gb360) (o := .cells #[.string t361, .string t362, .int .i64 t363] 25 (0, 0)) (by (with_reducible repeat (first | refine blk_drewN ?_ _ | refine blk_drew ?_ | refine blk_alloc ?_ _)); exact BK360.out) hb)
                            have n2_ := Aside0.mk (blk_below (g := gb367) (o := .cells #[.string (⟨#[]⟩ : ByteArray), .string (⟨#[]⟩ : ByteArray), .int .i64 0] 25 (0, 0)) (by (with_reducible repeat (first | refine blk_drewN ?_ _ | refine blk_drew ?_ | refine blk_alloc ?_ _)); exact BK367.out) hb)
                            have n3_ := Aside0.mk (below_step (by repeat (first | (with_reducible first | exact HB.out | apply below_alloc | apply pw_below_drewN | apply below_drew1 | refine below_set ?_ GE360.out | refine below_set ?_ GE367.out) | exact HB.out)) hb)
                            clear HO355
                            clear BK360
                            clear BK367
                            clear HB
                            have HO355 := n0_
                            have BK360 := n1_
                            have BK367 := n2_
                            have HB := n3_
                            clear n0_ n1_ n2_ n3_
                            (try clear hb)
                            (try clear hb2)
                            (try clear hk)
                            (try clear hi)
                            refine hK.out _ _ ⟨(blk_cell BK360.out 0).trans rfl, (blk_cell BK360.out 1).trans rfl, (blk_cell BK360.out 2).trans rfl⟩ (fun hHeld => ?_)
                            clear hK K
                            refine norm_ (a' := ?_) ?_ ?_
                            rotate_left
                            · show Act.put _ (some 30) _ = _
                              simp only [Act.put, List.setIfInBounds_toArray, List.set_cons_zero, List.set_cons_succ, i64_w, i32_w]
                              rfl
                            exact norm_ (by simp only [putAll, Act.put, List.setIfInBounds_toArray, List.set_cons_zero, List.set_cons_succ]) (hCont (gb367) _ ⟨hHeld, (by (with_reducible repeat (first | apply Kd.R_alloc | apply Kd.R_drewN | apply Kd.R_drew)); exact HO355.out), (by (with_reducible repeat (first | refine blk_drewN ?_ _ | refine blk_drew ?_ | refine blk_alloc ?_ _)); exact BK360.out), (by (with_reducible repeat (first | refine blk_drewN ?_ _ | refine blk_drew ?_ | refine blk_alloc ?_ _)); exact BK367.out), GW367.out, GE367.out, NB360_367.out, NB367_360.out, (by repeat (first | (with_reducible first | exact HB.out | apply below_alloc | apply pw_below_drewN | apply below_drew1 | refine below_set ?_ GE360.out | refine below_set ?_ GE367.out) | exact HB.out))⟩)
                        rintro gb367 w45 ⟨hS_, h0_, h1_, h2_, h3_, h4_, h5_, h6_, h7_⟩
                        have n0_ : Aside0 (Kd.R (Kd.int .i64) 3 w45 w.heap.size (fun _ => True) (.slice (some ad356) t353.length co31) t353) := ⟨h0_⟩
                        have n1_ : Aside0 (w45.heap[gb360]? = some (.cells #[.string t361, .string t362, .int .i64 t363] 25 (0, 0))) := ⟨h1_⟩
                        have n2_ : Aside0 (w45.heap[gb367]? = some (.cells #[.string (⟨#[]⟩ : ByteArray), .string (⟨#[]⟩ : ByteArray), .int .i64 0] 25 (0, 0))) := ⟨h2_⟩
                        have n3_ : Aside0 (w.heap.size ≤ gb367) := ⟨h3_⟩
                        have n4_ : Aside0 (w.heap.size ≤ gb367) := ⟨h4_⟩
                        have n5_ : Aside0 (gb360 ≠ gb367) := ⟨h5_⟩
                        have n6_ : Aside0 (gb367 ≠ gb360) := ⟨h6_⟩
                        have n7_ : Aside0 (Below w.heap.size w w45) := ⟨h7_⟩
                        clear HO355
                        clear BK360
                        clear HB
                        clear h0_ h1_ h2_ h3_ h4_ h5_ h6_ h7_
                        have HO355 := n0_
                        have BK360 := n1_
                        have BK367 := n2_
                        have GW367 := n3_
                        have GE367 := n4_
                        have NB360_367 := n5_
                        have NB367_360 := n6_
                        have HB := n7_
                        clear n0_ n1_ n2_ n3_ n4_ n5_ n6_ n7_
                        have hHeld : w45.cell? ⟨gb360, 0, none⟩ = some (.string t361) ∧ w45.cell? ⟨gb360, 1, none⟩ = some (.string t362) ∧ w45.cell? ⟨gb360, 2, none⟩ = some (.int .i64 t363) := hS_
                        refine norm_ (a' := ?_) ?_ ?_
                        rotate_left
                        · simp only [putAll, Act.put, List.setIfInBounds_toArray, List.set_cons_zero, List.set_cons_succ]
                          rfl
                        refine one_ (i := 6) (N := none) #[true, true, true, true, true, true, true] rfl rfl (by kernel_rfl) (by decide) (fun K hK => ?_)
                        have hs46 : w45.cell? ⟨gb367, 0, none⟩ = some (.string (⟨#[]⟩ : ByteArray)) := (blk_cell BK367.out 0).trans rfl
                        have hfs46 := blk_frozen BK367.out 0
                        have hns46_0 := NB360_367.out
                        have hms46_0 := NB367_360.out
                        have hs47 : w45.cell? ⟨gb367, 1, none⟩ = some (.string (⟨#[]⟩ : ByteArray)) := (blk_cell BK367.out 1).trans rfl
                        have hfs47 := blk_frozen BK367.out 1
                        have hns47_0 := NB360_367.out
                        have hms47_0 := NB367_360.out
                        have hs48 : w45.cell? ⟨gb367, 2, none⟩ = some (.int .i64 0) := (blk_cell BK367.out 2).trans rfl
                        have hfs48 := blk_frozen BK367.out 2
                        have hns48_0 := NB360_367.out
                        have hms48_0 := NB367_360.out
                        refine skip_ (w1 := ?_) (by rfl) rfl ?_ ?_
                        rotate_left
                        · go_simp
                          rfl
                        refine hK.out _ _ ⟨((cell_far (p := ⟨gb367, _, none⟩) NB360_367.out _).trans (((cell_far (p := ⟨gb367, _, none⟩) NB360_367.out _).trans (((cell_far (p := ⟨gb367, _, none⟩) NB360_367.out _).trans (hHeld.1)))))), ((cell_far (p := ⟨gb367, _, none⟩) NB360_367.out _).trans (((cell_far (p := ⟨gb367, _, none⟩) NB360_367.out _).trans (((cell_far (p := ⟨gb367, _, none⟩) NB360_367.out _).trans (hHeld.2.1)))))), ((cell_far (p := ⟨gb367, _, none⟩) NB360_367.out _).trans (((cell_far (p := ⟨gb367, _, none⟩) NB360_367.out _).trans (((cell_far (p := ⟨gb367, _, none⟩) NB360_367.out _).trans (hHeld.2.2))))))⟩ (fun hHeld => ?_)
                        clear hK K
                        refine done_ (by kernel_rfl) ?_
                        try go_wp2_with (first | ((with_reducible refine gate_callee (f := 18) rfl ?_); refine goesL_ (some 32) rfl rfl Try.func18 (by kernel_rfl) rfl #[.string t352] rfl (by (try simp only [List.map_toArray, List.map_cons, List.map_nil]); first | done | rfl | (simp only [List.length_drop, List.length_take]; rfl)) ?_; (with_reducible refine (impl_DigestOf.calls k t352 t368 _ A16.out).mono ?_); rintro e w49 ⟨rfl, hb⟩; refine ⟨_, rfl, ?_⟩; have n0_ := Aside0.mk (Kd.R_below (by (with_reducible repeat (first | apply Kd.R_alloc | apply Kd.R_drewN | apply Kd.R_drew)); exact (Kd.R_mono (Kd.R_far (p := ⟨gb367, 2, none⟩) (Kd.R_far (p := ⟨gb367, 1, none⟩) (Kd.R_far (p := ⟨gb367, 0, none⟩) (Kd.R_types HO355.out BK367.out (by decide)) (fun _ hk => hk.2) (.string t364)) (fun _ hk => hk.2) (.string t365)) (fun _ hk => hk.2) (.int .i64 t366)) (fun _ h_ => h_.1))) hb); have n1_ := Aside0.mk (blk_below (g := gb360) (o := .cells #[.string t361, .string t362, .int .i64 t363] 25 (0, 0)) (by (with_reducible repeat (first | refine blk_drewN ?_ _ | refine blk_drew ?_ | refine blk_alloc ?_ _)); refine blk_far ?_ NB360_367.out _; (with_reducible repeat (first | refine blk_drewN ?_ _ | refine blk_drew ?_ | refine blk_alloc ?_ _)); refine blk_far ?_ NB360_367.out _; (with_reducible repeat (first | refine blk_drewN ?_ _ | refine blk_drew ?_ | refine blk_alloc ?_ _)); refine blk_far ?_ NB360_367.out _; (with_reducible repeat (first | refine blk_drewN ?_ _ | refine blk_drew ?_ | refine blk_alloc ?_ _)); exact BK360.out) hb); have n2_ := Aside0.mk (blk_below (g := gb367) (o := .cells #[.string t364, .string t365, .int .i64 t366] 25 (0, 0)) (by (with_reducible repeat (first | refine blk_drewN ?_ _ | refine blk_drew ?_ | refine blk_alloc ?_ _)); refine blk_put (cs := #[.string t364, .string t365, .int .i64 0]) ?_ 2 _ rfl; (with_reducible repeat (first | refine blk_drewN ?_ _ | refine blk_drew ?_ | refine blk_alloc ?_ _)); refine blk_put (cs := #[.string t364, .string (⟨#[]⟩ : ByteArray), .int .i64 0]) ?_ 1 _ rfl; (with_reducible repeat (first | refine blk_drewN ?_ _ | refine blk_drew ?_ | refine blk_alloc ?_ _)); refine blk_put (cs := #[.string (⟨#[]⟩ : ByteArray), .string (⟨#[]⟩ : ByteArray), .int .i64 0]) ?_ 0 _ rfl; (with_reducible repeat (first | refine blk_drewN ?_ _ | refine blk_drew ?_ | refine blk_alloc ?_ _)); exact BK367.out) hb); have n3_ := Aside0.mk (below_step (by repeat (first | (with_reducible first | exact HB.out | apply below_alloc | apply pw_below_drewN | apply below_drew1 | refine below_set ?_ GE360.out | refine below_set ?_ GE367.out) | exact HB.out)) hb); clear HO355; clear BK360; clear BK367; clear HB; have HO355 := n0_; have BK360 := n1_; have BK367 := n2_; have HB := n3_; clear n0_ n1_ n2_ n3_; (try clear hb); (try clear hb2); (try clear hk); (try clear hi); have hnb50 := NB360_367.out; have hnc50 := NB367_360.out; have hcz51_0 : w49.cell? ⟨gb360, 0, none⟩ = some (.string t361) := (blk_cell BK360.out 0).trans rfl; have hcz51_1 : w49.cell? ⟨gb360, 1, none⟩ = some (.string t362) := (blk_cell BK360.out 1).trans rfl; have hcz51_2 : w49.cell? ⟨gb360, 2, none⟩ = some (.int .i64 t363) := (blk_cell BK360.out 2).trans rfl; have hfz51_0 := blk_frozen BK360.out 0; have hfz51_1 := blk_frozen BK360.out 1; have hfz51_2 := blk_frozen BK360.out 2; (try have hcygb367_0 : _ = some (.string t364) := (blk_cell BK367.out 0).trans rfl); (try have hcygb367_1 : _ = some (.string t365) := (blk_cell BK367.out 1).trans rfl); (try have hcygb367_2 : _ = some (.int .i64 t366) := (blk_cell BK367.out 2).trans rfl)) | ((with_reducible refine gate_callee (f := 21) rfl ?_); refine goesL_ (some 34) rfl rfl Try.func21 (by kernel_rfl) rfl #[.agg #[.string t361, .string t362, .int .i64 t363]] rfl (by (try simp only [List.map_toArray, List.map_cons, List.map_nil]); first | done | rfl | (simp only [List.length_drop, List.length_take]; rfl)) ?_; (with_reducible refine (impl_HasherOk.calls t361 t362 t363 true _ A17.out).mono ?_); rintro e w52 ⟨rfl, hb⟩; refine ⟨_, rfl, ?_⟩; have n0_ := Aside0.mk (Kd.R_below (by (with_reducible repeat (first | apply Kd.R_alloc | apply Kd.R_drewN | apply Kd.R_drew)); exact HO355.out) hb); have n1_ := Aside0.mk (blk_below (g := gb360) (o := .cells #[.string t361, .string t362, .int .i64 t363] 25 (0, 0)) (by (with_reducible repeat (first | refine blk_drewN ?_ _ | refine blk_drew ?_ | refine blk_alloc ?_ _)); exact BK360.out) hb); have n2_ := Aside0.mk (blk_below (g := gb367) (o := .cells #[.string t364, .string t365, .int .i64 t366] 25 (0, 0)) (by (with_reducible repeat (first | refine blk_drewN ?_ _ | refine blk_drew ?_ | refine blk_alloc ?_ _)); exact BK367.out) hb); have n3_ := Aside0.mk (below_step (by repeat (first | (with_reducible first | exact HB.out | apply below_alloc | apply pw_below_drewN | apply below_drew1 | refine below_set ?_ GE360.out | refine below_set ?_ GE367.out) | exact HB.out)) hb); clear HO355; clear BK360; clear BK367; clear HB; have HO355 := n0_; have BK360 := n1_; have BK367 := n2_; have HB := n3_; clear n0_ n1_ n2_ n3_; (try clear hb); (try clear hb2); (try clear hk); (try clear hi); have hcz53_0 : w52.cell? ⟨gb367, 0, none⟩ = some (.string t364) := (blk_cell BK367.out 0).trans rfl; have hcz53_1 : w52.cell? ⟨gb367, 1, none⟩ = some (.string t365) := (blk_cell BK367.out 1).trans rfl; have hcz53_2 : w52.cell? ⟨gb367, 2, none⟩ = some (.int .i64 t366) := (blk_cell BK367.out 2).trans rfl; have hfz53_0 := blk_frozen BK367.out 0; have hfz53_1 := blk_frozen BK367.out 1; have hfz53_2 := blk_frozen BK367.out 2; (try have hcygb360_0 : _ = some (.string t361) := (blk_cell BK360.out 0).trans rfl); (try have hcygb360_1 : _ = some (.string t362) := (blk_cell BK360.out 1).trans rfl); (try have hcygb360_2 : _ = some (.int .i64 t363) := (blk_cell BK360.out 2).trans rfl)) | (go_at_call 21; (with_reducible refine (impl_HasherOk.calls t364 t365 t366 true _ A19.out).mono ?_); rintro e w54 ⟨rfl, hb⟩; have n0_ := Aside0.mk (Kd.R_below (by (with_reducible repeat (first | apply Kd.R_alloc | apply Kd.R_drewN | apply Kd.R_drew)); exact HO355.out) hb); have n1_ := Aside0.mk (blk_below (g := gb360) (o := .cells #[.string t361, .string t362, .int .i64 t363] 25 (0, 0)) (by (with_reducible repeat (first | refine blk_drewN ?_ _ | refine blk_drew ?_ | refine blk_alloc ?_ _)); exact BK360.out) hb); have n2_ := Aside0.mk (blk_below (g := gb367) (o := .cells #[.string t364, .string t365, .int .i64 t366] 25 (0, 0)) (by (with_reducible repeat (first | refine blk_drewN ?_ _ | refine blk_drew ?_ | refine blk_alloc ?_ _)); exact BK367.out) hb); have n3_ := Aside0.mk (below_step (by repeat (first | (with_reducible first | exact HB.out | apply below_alloc | apply pw_below_drewN | apply below_drew1 | refine below_set ?_ GE360.out | refine below_set ?_ GE367.out) | exact HB.out)) hb); clear HO355; clear BK360; clear BK367; clear HB; have HO355 := n0_; have BK360 := n1_; have BK367 := n2_; have HB := n3_; clear n0_ n1_ n2_ n3_; (try clear hb); (try clear hb2); (try clear hk); (try clear hi); have hcz55_0 : w54.cell? ⟨gb367, 0, none⟩ = some (.string t364) := (blk_cell BK367.out 0).trans rfl; have hcz55_1 : w54.cell? ⟨gb367, 1, none⟩ = some (.string t365) := (blk_cell BK367.out 1).trans rfl; have hcz55_2 : w54.cell? ⟨gb367, 2, none⟩ = some (.int .i64 t366) := (blk_cell BK367.out 2).trans rfl; have hfz55_0 := blk_frozen BK367.out 0; have hfz55_1 := blk_frozen BK367.out 1; have hfz55_2 := blk_frozen BK367.out 2; (try have hcygb360_0 : _ = some (.string t361) := (blk_cell BK360.out 0).trans rfl); (try have hcygb360_1 : _ = some (.string t362) := (blk_cell BK360.out 1).trans rfl); (try have hcygb360_2 : _ = some (.int .i64 t363) := (blk_cell BK360.out 2).trans rfl)) | (go_at_call 16; (with_reducible refine (impl_HashEnd.calls k t364 t365 t366 t371 _ A21.out).mono ?_); rintro e w56 ⟨rfl, hb⟩; have n0_ := Aside0.mk (Kd.R_below (by (with_reducible repeat (first | apply Kd.R_alloc | apply Kd.R_drewN | apply Kd.R_drew)); exact HO355.out) hb); have n1_ := Aside0.mk (blk_below (g := gb360) (o := .cells #[.string t361, .string t362, .int .i64 t363] 25 (0, 0)) (by (with_reducible repeat (first | refine blk_drewN ?_ _ | refine blk_drew ?_ | refine blk_alloc ?_ _)); exact BK360.out) hb); have n2_ := Aside0.mk (blk_below (g := gb367) (o := .cells #[.string t364, .string t365, .int .i64 t366] 25 (0, 0)) (by (with_reducible repeat (first | refine blk_drewN ?_ _ | refine blk_drew ?_ | refine blk_alloc ?_ _)); exact BK367.out) hb); have n3_ := Aside0.mk (below_step (by repeat (first | (with_reducible first | exact HB.out | apply below_alloc | apply pw_below_drewN | apply below_drew1 | refine below_set ?_ GE360.out | refine below_set ?_ GE367.out) | exact HB.out)) hb); clear HO355; clear BK360; clear BK367; clear HB; have HO355 := n0_; have BK360 := n1_; have BK367 := n2_; have HB := n3_; clear n0_ n1_ n2_ n3_; (try clear hb); (try clear hb2); (try clear hk); (try clear hi); (try have hcygb360_0 : _ = some (.string t361) := (blk_cell BK360.out 0).trans rfl); (try have hcygb360_1 : _ = some (.string t362) := (blk_cell BK360.out 1).trans rfl); (try have hcygb360_2 : _ = some (.int .i64 t363) := (blk_cell BK360.out 2).trans rfl); (try have hcygb367_0 : _ = some (.string t364) := (blk_cell BK367.out 0).trans rfl); (try have hcygb367_1 : _ = some (.string t365) := (blk_cell BK367.out 1).trans rfl); (try have hcygb367_2 : _ = some (.int .i64 t366) := (blk_cell BK367.out 2).trans rfl)) | (go_at_call 17; (with_reducible refine (spec_DigestOf.calls k t352 t372 _ A24.out).mono ?_); rintro e w57 ⟨rfl, hb⟩; have n0_ := Aside0.mk (Kd.R_below (by (with_reducible repeat (first | apply Kd.R_alloc | apply Kd.R_drewN | apply Kd.R_drew)); exact HO355.out) hb); have n1_ := Aside0.mk (blk_below (g := gb360) (o := .cells #[.string t361, .string t362, .int .i64 t363] 25 (0, 0)) (by (with_reducible repeat (first | refine blk_drewN ?_ _ | refine blk_drew ?_ | refine blk_alloc ?_ _)); exact BK360.out) hb); have n2_ := Aside0.mk (blk_below (g := gb367) (o := .cells #[.string t364, .string t365, .int .i64 t366] 25 (0, 0)) (by (with_reducible repeat (first | refine blk_drewN ?_ _ | refine blk_drew ?_ | refine blk_alloc ?_ _)); exact BK367.out) hb); have n3_ := Aside0.mk (below_step (by repeat (first | (with_reducible first | exact HB.out | apply below_alloc | apply pw_below_drewN | apply below_drew1 | refine below_set ?_ GE360.out | refine below_set ?_ GE367.out) | exact HB.out)) hb); clear HO355; clear BK360; clear BK367; clear HB; have HO355 := n0_; have BK360 := n1_; have BK367 := n2_; have HB := n3_; clear n0_ n1_ n2_ n3_; (try clear hb); (try clear hb2); (try clear hk); (try clear hi); have hcz58_0 : w57.cell? ⟨gb367, 0, none⟩ = some (.string t364) := (blk_cell BK367.out 0).trans rfl; have hcz58_1 : w57.cell? ⟨gb367, 1, none⟩ = some (.string t365) := (blk_cell BK367.out 1).trans rfl; have hcz58_2 : w57.cell? ⟨gb367, 2, none⟩ = some (.int .i64 t366) := (blk_cell BK367.out 2).trans rfl; have hfz58_0 := blk_frozen BK367.out 0; have hfz58_1 := blk_frozen BK367.out 1; have hfz58_2 := blk_frozen BK367.out 2; (try have hcygb360_0 : _ = some (.string t361) := (blk_cell BK360.out 0).trans rfl); (try have hcygb360_1 : _ = some (.string t362) := (blk_cell BK360.out 1).trans rfl); (try have hcygb360_2 : _ = some (.int .i64 t363) := (blk_cell BK360.out 2).trans rfl)) | (go_at_call 13; (with_reducible refine (impl_HashMore.calls k t364 t365 t366 (⟨#[]⟩ : ByteArray) t373 t374 t375 _ A27.out).mono ?_); rintro e w59 ⟨rfl, hb⟩; have n0_ := Aside0.mk (Kd.R_below (by (with_reducible repeat (first | apply Kd.R_alloc | apply Kd.R_drewN | apply Kd.R_drew)); exact HO355.out) hb); have n1_ := Aside0.mk (blk_below (g := gb360) (o := .cells #[.string t361, .string t362, .int .i64 t363] 25 (0, 0)) (by (with_reducible repeat (first | refine blk_drewN ?_ _ | refine blk_drew ?_ | refine blk_alloc ?_ _)); exact BK360.out) hb); have n2_ := Aside0.mk (blk_below (g := gb367) (o := .cells #[.string t364, .string t365, .int .i64 t366] 25 (0, 0)) (by (with_reducible repeat (first | refine blk_drewN ?_ _ | refine blk_drew ?_ | refine blk_alloc ?_ _)); exact BK367.out) hb); have n3_ := Aside0.mk (below_step (by repeat (first | (with_reducible first | exact HB.out | apply below_alloc | apply pw_below_drewN | apply below_drew1 | refine below_set ?_ GE360.out | refine below_set ?_ GE367.out) | exact HB.out)) hb); clear HO355; clear BK360; clear BK367; clear HB; have HO355 := n0_; have BK360 := n1_; have BK367 := n2_; have HB := n3_; clear n0_ n1_ n2_ n3_; (try clear hb); (try clear hb2); (try clear hk); (try clear hi); (try have hcygb360_0 : _ = some (.string t361) := (blk_cell BK360.out 0).trans rfl); (try have hcygb360_1 : _ = some (.string t362) := (blk_cell BK360.out 1).trans rfl); (try have hcygb360_2 : _ = some (.int .i64 t363) := (blk_cell BK360.out 2).trans rfl); (try have hcygb367_0 : _ = some (.string t364) := (blk_cell BK367.out 0).trans rfl); (try have hcygb367_1 : _ = some (.string t365) := (blk_cell BK367.out 1).trans rfl); (try have hcygb367_2 : _ = some (.int .i64 t366) := (blk_cell BK367.out 2).trans rfl)) | (go_at_call 16; (with_reducible refine (impl_HashEnd.calls k t373 t374 t375 t376 _ A28.out).mono ?_); rintro e w60 ⟨rfl, hb⟩; have n0_ := Aside0.mk (Kd.R_below (by (with_reducible repeat (first | apply Kd.R_alloc | apply Kd.R_drewN | apply Kd.R_drew)); exact HO355.out) hb); have n1_ := Aside0.mk (blk_below (g := gb360) (o := .cells #[.string t361, .string t362, .int .i64 t363] 25 (0, 0)) (by (with_reducible repeat (first | refine blk_drewN ?_ _ | refine blk_drew ?_ | refine blk_alloc ?_ _)); exact BK360.out) hb); have n2_ := Aside0.mk (blk_below (g := gb367) (o := .cells #[.string t364, .string t365, .int .i64 t366] 25 (0, 0)) (by (with_reducible repeat (first | refine blk_drewN ?_ _ | refine blk_drew ?_ | refine blk_alloc ?_ _)); exact BK367.out) hb); have n3_ := Aside0.mk (below_step (by repeat (first | (with_reducible first | exact HB.out | apply below_alloc | apply pw_below_drewN | apply below_drew1 | refine below_set ?_ GE360.out | refine below_set ?_ GE367.out) | exact HB.out)) hb); clear HO355; clear BK360; clear BK367; clear HB; have HO355 := n0_; have BK360 := n1_; have BK367 := n2_; have HB := n3_; clear n0_ n1_ n2_ n3_; (try clear hb); (try clear hb2); (try clear hk); (try clear hi); (try have hcygb360_0 : _ = some (.string t361) := (blk_cell BK360.out 0).trans rfl); (try have hcygb360_1 : _ = some (.string t362) := (blk_cell BK360.out 1).trans rfl); (try have hcygb360_2 : _ = some (.int .i64 t363) := (blk_cell BK360.out 2).trans rfl); (try have hcygb367_0 : _ = some (.string t364) := (blk_cell BK367.out 0).trans rfl); (try have hcygb367_1 : _ = some (.string t365) := (blk_cell BK367.out 1).trans rfl); (try have hcygb367_2 : _ = some (.int .i64 t366) := (blk_cell BK367.out 2).trans rfl)))
                        go_ret
                        exact ⟨by first | rfl | (simp [errW_none, errW_some] <;> rfl) | (simp only [← hji9]; first | rfl | (simp [errW_none, errW_some] <;> rfl)) | (simp [*, errW_none, errW_some] <;> rfl), by repeat (first | (with_reducible first | exact HB.out | apply below_alloc | apply pw_below_drewN | apply below_drew1 | refine below_set ?_ GE360.out | refine below_set ?_ GE367.out) | exact HB.out)⟩
                      · rw [if_neg c26] at H
                        have c26b0 : (t366 == (t352.size : Int)) = false := beq_eq_false_iff_ne.mpr c26
                        have c26b1 : (t366 != (t352.size : Int)) = true := bne_iff_ne.mpr c26
                        exact absurd (H.trans (congrArg some hr_)) (by simp)
                    · rw [if_neg c25] at H
                      have c25b0 : (t368.toList == t372.toList) = false := beq_eq_false_iff_ne.mpr c25
                      have c25b1 : (t368.toList != t372.toList) = true := bne_iff_ne.mpr c25
                      exact absurd (H.trans (congrArg some hr_)) (by simp)
                  · rw [if_neg c23] at H
                    have c23b0 : ((t368.size : Int) == 32) = false := beq_eq_false_iff_ne.mpr c23
                    have c23b1 : ((t368.size : Int) != 32) = true := bne_iff_ne.mpr c23
                    exact absurd (H.trans (congrArg some hr_)) (by simp)
                · rw [if_neg c22] at H
                  have c22b0 : (t371.toList == t368.toList) = false := beq_eq_false_iff_ne.mpr c22
                  have c22b1 : (t371.toList != t368.toList) = true := bne_iff_ne.mpr c22
                  exact absurd (H.trans (congrArg some hr_)) (by simp)
              · replace c20 := Bool.eq_false_iff.mpr c20
                subst c20
                have H1 : (some false) = some r := by rw [if_neg (show ¬ (false = true) by decide)] at H; exact H
                clear H
                have H := H1
                clear H1
                exact absurd (H.trans (congrArg some hr_)) (by simp)
            · replace c18 := Bool.eq_false_iff.mpr c18
              subst c18
              have H1 : (some false) = some r := by rw [if_neg (show ¬ (false = true) by decide)] at H; exact H
              clear H
              have H := H1
              clear H1
              exact absurd (H.trans (congrArg some hr_)) (by simp)
          · rw [if_neg c11] at H
            exact absurd H (by simp)
        · rw [if_neg c10] at H
          exact absurd H (by simp)
    · rw [if_neg c6] at H
      exact absurd H (by simp)

/-- THE ONE PURE STATEMENT of laws_FnDigests: yours. -/
def laws_FnDigests.Pure : Prop := ∀ (l0 : List Int), l0.length ≤ maxLen → l0.length * 1 ≤ 140737488351232 → (∀ x ∈ l0, (Lit.int .u8 x).wf = true) → ∃ k, laws_FnDigests.f k l0 = some true
theorem laws_FnDigests.walk (P : laws_FnDigests.Pure) (a0 : Option Addr) (len0 cap0 : Nat) (z0 : List Int) (w : World) (w0 : (a0 = none ∧ len0 = 0 ∧ cap0 = 0 ∧ z0 = []) ∨ ∃ x, a0 = some x ∧ len0 ≤ cap0 ∧ cap0 ≤ maxLen ∧ z0.length = cap0 ∧ (∀ i, i < z0.length → w.cell? (x.add i) = some (.int .u8 (z0.getD i 0))) ∧ ∀ n ∈ z0, (Lit.int .u8 n).wf = true) (y0 : len0 * 1 ≤ 140737488351232) :
    Calls Try.prog 7 #[.slice a0 len0 cap0] w fun e w' => e = .returned (.bool true) ∧ Below w.heap.size w w' := by
  obtain ⟨l0, rfl, hr0, hm0, hw0, hc0⟩ := ReadsInt.ofRowC w0
  obtain ⟨k, h⟩ := P l0 hm0 y0 hw0
  refine (laws_FnDigests.calls k _ _ l0 true w (Kd.C_of_reads (d := (0 : Int)) (h1 := fun _ => rfl) hr0) hc0 rfl h).mono ?_
  rintro e w' ⟨rfl, hd⟩
  exact ⟨rfl, hd⟩

end Go.Proofs.Ytbiapgneafgdeaa.QFnDigests
