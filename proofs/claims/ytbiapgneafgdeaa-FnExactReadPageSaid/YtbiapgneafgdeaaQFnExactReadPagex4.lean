/- What is proved here: contracts of functions that the law FnExactReadPage reaches, each told as a plain function. Conditions: those of each contract. (Written by a program of ours.) -/
import Derived.Test.YtbiapgneafgdeaaQFnExactReadPagex0
import Derived.Test.YtbiapgneafgdeaaQFnExactReadPagex1
import Derived.Test.YtbiapgneafgdeaaQFnExactReadPagex2
import Derived.Test.YtbiapgneafgdeaaQFnExactReadPagex3
namespace Go.Proofs.Ytbiapgneafgdeaa.QFnExactReadPage
open Go.RowKit Go.Proofs.YtbiapgneafgdeaaW.PrintWords Go.Proofs.YtbiapgneafgdeaaW.PrintLast Go.Proofs.YtbiapgneafgdeaaW.PrintMore
attribute [local go_sem] max2_int min2_int max_two min_two max_three min_three max_four min_four   -- for this text's walks alone
set_option linter.unusedVariables false
set_option linter.unusedSimpArgs false

/-! ### spec_ReadPage: function 26 -/
open Go.Proofs.Ytbiapgneafgdeaa.Rp
set_option maxHeartbeats 4000000 in
set_option maxRecDepth 1000000 in
theorem spec_l06Var.walk_ (k g : Nat) (s : ByteArray) (at_ : Int) (bad : Bool) (n nx : Int) (ok : Bool) (w : World) (hg : Cur g s at_ bad w) (hr : spec_ReadVar.f k s at_ = some (n, nx, ok))
    (v a' : Int) (bad' : Bool) (hv : (if bad = true ∨ ok = false then 0 else n) = v) (ha : (if bad = true ∨ ok = false then at_ else nx) = a') (hbb : (bad || !ok) = bad') :
    Calls Try.prog 53 #[.pointer (some ⟨g, 0, none⟩)] w fun e w' => e = .returned (.int .i64 v) ∧ Cur g s a' bad' w' ∧ Beside g w w' := by
  have HG := Aside0.mk hg
  have HR := Aside0.mk hr
  have HV := Aside0.mk hv
  have HA := Aside0.mk ha
  have HBB := Aside0.mk hbb
  clear hg hr hv ha hbb
  unfold Cur at HG
  go_enter Try.func53, Try.ntmps53
  try go_wp2
  refine start_ (n := 16) (S := fun w' => w'.cell? ⟨g, 0, none⟩ = some (.string s) ∧ w'.cell? ⟨g, 1, none⟩ = some (.int .i64 at_) ∧ w'.heap[g]? = some (.cells #[.string s, .int .i64 at_, .bool bad] 75 (0, 0)) ∧ Below w.heap.size w w') (ds := []) #[false, false, false, false, false, false, false, false, false, false, false, false, false, false, false, false] (by kernel_rfl) rfl rfl ⟨(blk_cell HG.out 0).trans rfl, (blk_cell HG.out 1).trans rfl, HG.out, below_drew1 (Below.refl _ _)⟩ (fun hHeld => ?_)
  refine pure_ (i := 0) (N := some 7) (v := ?_) (a' := ?_) #[true, false, false, false, false, false, false, false, false, false, false, false, false, false, false, false] rfl rfl (by kernel_rfl) (fun _ _ _ h => h) (Or.inl ⟨by rfl, ?_⟩) ?_ ?_
  rotate_left
  · intro w'
    go_simp
    with_reducible rfl
  rotate_left
  · simp only [Act.put, List.setIfInBounds_toArray, List.set_cons_zero, List.set_cons_succ, i64_w, i32_w]
    rfl
  refine pure_ (i := 1) (N := some 8) (v := ?_) (a' := ?_) #[true, true, false, false, false, false, false, false, false, false, false, false, false, false, false, false] rfl rfl (by kernel_rfl) (fun _ _ _ h => h) (Or.inl ⟨by rfl, ?_⟩) ?_ ?_
  rotate_left
  · intro w'
    go_simp
    with_reducible rfl
  rotate_left
  · simp only [Act.put, List.setIfInBounds_toArray, List.set_cons_zero, List.set_cons_succ, i64_w, i32_w]
    rfl
  refine pure_ (i := 2) (N := some 9) (v := ?_) (a' := ?_) #[true, true, true, false, false, false, false, false, false, false, false, false, false, false, false, false] rfl rfl (by kernel_rfl) (fun _ _ _ h => h) (Or.inl ⟨by rfl, ?_⟩) ?_ ?_
  rotate_left
  · intro w'
    go_simp
    with_reducible rfl
  rotate_left
  · simp only [Act.put, List.setIfInBounds_toArray, List.set_cons_zero, List.set_cons_succ, i64_w, i32_w]
    rfl
  refine pure_ (i := 4) (N := some 11) (v := ?_) (a' := ?_) #[true, true, true, false, true, false, false, false, false, false, false, false, false, false, false, false] rfl rfl (by kernel_rfl) (fun _ _ _ h => h) (Or.inl ⟨by rfl, ?_⟩) ?_ ?_
  rotate_left
  · intro w'
    go_simp
    with_reducible rfl
  rotate_left
  · simp only [Act.put, List.setIfInBounds_toArray, List.set_cons_zero, List.set_cons_succ, i64_w, i32_w]
    rfl
  refine pure_ (i := 5) (N := some 12) (v := ?_) (a' := ?_) #[true, true, true, false, true, true, false, false, false, false, false, false, false, false, false, false] rfl rfl (by kernel_rfl) (fun _ _ _ h => h) (Or.inl ⟨by rfl, ?_⟩) ?_ ?_
  rotate_left
  · intro w'
    go_simp
    with_reducible rfl
  rotate_left
  · simp only [Act.put, List.setIfInBounds_toArray, List.set_cons_zero, List.set_cons_succ, i64_w, i32_w]
    rfl
  refine pure_ (i := 6) (N := some 13) (v := ?_) (a' := ?_) #[true, true, true, false, true, true, true, false, false, false, false, false, false, false, false, false] rfl rfl (by kernel_rfl) (fun _ _ _ h => h) (Or.inl ⟨by rfl, ?_⟩) ?_ ?_
  rotate_left
  · intro w'
    go_simp
    with_reducible rfl
  rotate_left
  · simp only [Act.put, List.setIfInBounds_toArray, List.set_cons_zero, List.set_cons_succ, i64_w, i32_w]
    rfl
  refine take_ (i := 3) (N := some 10) (v := ?_) (a' := ?_) #[true, true, true, true, true, true, true, false, false, false, false, false, false, false, false, false] rfl rfl (by kernel_rfl) (fun _ _ _ h => h) (Or.inl ⟨by rfl, ?_⟩) hHeld ?_ ?_
  rotate_left
  · rintro w' ⟨s0, s1, s2, s3⟩
    go_simp
    with_reducible rfl
  rotate_left
  · simp only [Act.put, List.setIfInBounds_toArray, List.set_cons_zero, List.set_cons_succ, i64_w, i32_w]
    rfl
  refine take_ (i := 7) (N := some 14) (v := ?_) (a' := ?_) #[true, true, true, true, true, true, true, true, false, false, false, false, false, false, false, false] rfl rfl (by kernel_rfl) (fun _ _ _ h => h) (Or.inl ⟨by rfl, ?_⟩) hHeld ?_ ?_
  rotate_left
  · rintro w' ⟨s0, s1, s2, s3⟩
    go_simp
    with_reducible rfl
  rotate_left
  · simp only [Act.put, List.setIfInBounds_toArray, List.set_cons_zero, List.set_cons_succ, i64_w, i32_w]
    rfl
  refine one_ (i := 8) (N := some 15) #[true, true, true, true, true, true, true, true, true, false, false, false, false, false, false, false] rfl rfl (by kernel_rfl) (by decide) (fun K hK => ?_)
  refine goes_ Try.func71 (by kernel_rfl) rfl #[.string s, .int .i64 at_] (by rfl) rfl rfl (by simp only [List.map_toArray, List.map_cons, List.map_nil]; rfl) ?_
  with_reducible refine (spec_ReadVar.calls k s at_ n nx ok _ HR.out).mono ?_
  rintro e w3 ⟨rfl, hb⟩
  refine ⟨_, rfl, ?_⟩
  refine hK.out _ _ ⟨pw_cell_below hb hHeld.1, pw_cell_below hb hHeld.2.1, blk_below hHeld.2.2.1 hb, below_step hHeld.2.2.2 hb⟩ (fun hHeld => ?_)
  clear hK K
  refine norm_ (a' := ?_) ?_ ?_
  rotate_left
  · show Act.put _ (some 15) _ = _
    simp only [Act.put, List.setIfInBounds_toArray, List.set_cons_zero, List.set_cons_succ, i64_w, i32_w]
    rfl
  refine pure_ (i := 9) (N := some 6) (v := ?_) (a' := ?_) #[true, true, true, true, true, true, true, true, true, true, false, false, false, false, false, false] rfl rfl (by kernel_rfl) (fun _ _ _ h => h) (Or.inl ⟨by rfl, ?_⟩) ?_ ?_
  rotate_left
  · intro w'
    go_simp
    with_reducible rfl
  rotate_left
  · simp only [Act.put, List.setIfInBounds_toArray, List.set_cons_zero, List.set_cons_succ, i64_w, i32_w]
    rfl
  refine pure_ (i := 10) (N := some 16) (v := ?_) (a' := ?_) #[true, true, true, true, true, true, true, true, true, true, true, false, false, false, false, false] rfl rfl (by kernel_rfl) (fun _ _ _ h => h) (Or.inl ⟨by rfl, ?_⟩) ?_ ?_
  rotate_left
  · intro w'
    go_simp
    with_reducible rfl
  rotate_left
  · simp only [Act.put, List.setIfInBounds_toArray, List.set_cons_zero, List.set_cons_succ, i64_w, i32_w]
    rfl
  refine pure_ (i := 11) (N := some 17) (v := ?_) (a' := ?_) #[true, true, true, true, true, true, true, true, true, true, true, true, false, false, false, false] rfl rfl (by kernel_rfl) (fun _ _ _ h => h) (Or.inl ⟨by rfl, ?_⟩) ?_ ?_
  rotate_left
  · intro w'
    go_simp
    with_reducible rfl
  rotate_left
  · simp only [Act.put, List.setIfInBounds_toArray, List.set_cons_zero, List.set_cons_succ, i64_w, i32_w]
    rfl
  refine pure_ (i := 12) (N := some 18) (v := ?_) (a' := ?_) #[true, true, true, true, true, true, true, true, true, true, true, true, true, false, false, false] rfl rfl (by kernel_rfl) (fun _ _ _ h => h) (Or.inl ⟨by rfl, ?_⟩) ?_ ?_
  rotate_left
  · intro w'
    go_simp
    with_reducible rfl
  rotate_left
  · simp only [Act.put, List.setIfInBounds_toArray, List.set_cons_zero, List.set_cons_succ, i64_w, i32_w]
    rfl
  refine pure_ (i := 13) (N := some 3) (v := ?_) (a' := ?_) #[true, true, true, true, true, true, true, true, true, true, true, true, true, true, false, false] rfl rfl (by kernel_rfl) (fun _ _ _ h => h) (Or.inl ⟨by rfl, ?_⟩) ?_ ?_
  rotate_left
  · intro w'
    go_simp
    with_reducible rfl
  rotate_left
  · simp only [Act.put, List.setIfInBounds_toArray, List.set_cons_zero, List.set_cons_succ, i64_w, i32_w]
    rfl
  refine pure_ (i := 14) (N := some 4) (v := ?_) (a' := ?_) #[true, true, true, true, true, true, true, true, true, true, true, true, true, true, true, false] rfl rfl (by kernel_rfl) (fun _ _ _ h => h) (Or.inl ⟨by rfl, ?_⟩) ?_ ?_
  rotate_left
  · intro w'
    go_simp
    with_reducible rfl
  rotate_left
  · simp only [Act.put, List.setIfInBounds_toArray, List.set_cons_zero, List.set_cons_succ, i64_w, i32_w]
    rfl
  refine pure_ (i := 15) (N := some 5) (v := ?_) (a' := ?_) #[true, true, true, true, true, true, true, true, true, true, true, true, true, true, true, true] rfl rfl (by kernel_rfl) (fun _ _ _ h => h) (Or.inl ⟨by rfl, ?_⟩) ?_ ?_
  rotate_left
  · intro w'
    go_simp
    with_reducible rfl
  rotate_left
  · simp only [Act.put, List.setIfInBounds_toArray, List.set_cons_zero, List.set_cons_succ, i64_w, i32_w]
    rfl
  refine done_ (by kernel_rfl) ?_

  have HG3 := Aside0.mk hHeld.2.2.1
  have HB3 := Aside0.mk hHeld.2.2.2
  clear hHeld hb HG HR
  have hc2 : w3.cell? ⟨g, 2, none⟩ = some (.bool bad) := (blk_cell HG3.out 2).trans rfl
  have hc1 : w3.cell? ⟨g, 1, none⟩ = some (.int .i64 at_) := (blk_cell HG3.out 1).trans rfl
  have hf1 := blk_frozen HG3.out 1
  have hf2 := blk_frozen HG3.out 2
  cases bad with
  | true =>
    go_wp2_with (fail)
    go_ret
    obtain rfl := HV.out
    obtain rfl := HA.out
    obtain rfl := HBB.out
    refine ⟨by simp, ?_, Beside.set (Beside.of_below HB3.out) _ _⟩
    have e := blk_set HG3.out 2 (.bool true)
    simpa [Cur] using e
  | false =>
    cases ok with
    | true =>
      go_wp2_with (fail)
      go_ret
      obtain rfl := HV.out
      obtain rfl := HA.out
      obtain rfl := HBB.out
      refine ⟨by simp, ?_, Beside.set (Beside.of_below HB3.out) _ _⟩
      have e := blk_set HG3.out 1 (.int .i64 nx)
      simpa [Cur] using e
    | false =>
      go_wp2_with (fail)
      go_ret
      obtain rfl := HV.out
      obtain rfl := HA.out
      obtain rfl := HBB.out
      refine ⟨by simp, ?_, Beside.set (Beside.of_below HB3.out) _ _⟩
      have e := blk_set HG3.out 2 (.bool true)
      simpa [Cur] using e
/-- One number, off the reader's state. -/
def spec_l06Var.rd (k : Nat) (s : ByteArray) (a : Int) (bad : Bool) : Option (Int × Int × Bool) :=
  (spec_ReadVar.f k s a).bind fun r => some (if bad = true ∨ r.2.2 = false then 0 else r.1, if bad = true ∨ r.2.2 = false then a else r.2.1, bad || !r.2.2)
theorem spec_l06Var.calls_ (k g : Nat) (s : ByteArray) (a : Int) (bad : Bool) (v a' : Int) (bad' : Bool) (w : World) (hg : Cur g s a bad w) (h : spec_l06Var.rd k s a bad = some (v, a', bad')) :
    Calls Try.prog 53 #[.pointer (some ⟨g, 0, none⟩)] w fun e w' => e = .returned (.int .i64 v) ∧ Cur g s a' bad' w' ∧ Beside g w w' := by
  unfold spec_l06Var.rd at h
  obtain ⟨⟨n, nx, ok⟩, hr, e⟩ := Option.bind_eq_some_iff.mp h
  simp only [Option.some.injEq, Prod.mk.injEq] at e
  obtain ⟨rfl, rfl, rfl⟩ := e
  exact spec_l06Var.walk_ k g s a bad n nx ok w hg hr _ _ _ rfl rfl rfl
def spec_ReadPage.fin (k : Nat) (t s : ByteArray) (v1 v2 v3 v4 a4 : Int) (b4 : Bool) : Option (Int × Int × Int × Int × Int × ByteArray × Bool) :=
  if b4 = true then some (0, 0, 0, 0, 0, (⟨#[]⟩ : ByteArray), false) else
  if 0 < s.size ∧ 0 ≤ a4 ∧ a4 ≤ (s.size : Int) then
    ((spec_PageText.f k (bt s 0) v1 v2 v3 v4 (s.extract a4.toNat s.size)).bind fun b =>
      if b.2 = true ∧ b.1 = t then some (bt s 0, v1, v2, v3, v4, s.extract a4.toNat s.size, true) else some (0, 0, 0, 0, 0, (⟨#[]⟩ : ByteArray), false))
  else none

set_option maxHeartbeats 4000000 in
set_option maxRecDepth 1000000 in
theorem spec_ReadPage.bad_ (k : Nat) (t s : ByteArray) (ok b0 : Bool) (v1 a1 v2 a2 v3 a3 v4 a4 : Int) (b1 b2 b3 : Bool) (w : World)
    (hu : spec_Unsealed.f k t = some (s, ok)) (h0 : (!ok || decide ((s.size : Int) < 1)) = b0) (h1 : spec_l06Var.rd k s 1 b0 = some (v1, a1, b1)) (h2 : spec_l06Var.rd k s a1 b1 = some (v2, a2, b2)) (h3 : spec_l06Var.rd k s a2 b2 = some (v3, a3, b3)) (h4 : spec_l06Var.rd k s a3 b3 = some (v4, a4, true)) :
    Calls Try.prog 26 #[.string t] w fun e w' => e = .returned (.tuple #[.agg #[.int .i64 0, .int .i64 0, .int .i64 0, .int .i64 0, .int .i64 0, .string (⟨#[]⟩ : ByteArray)], .bool false]) ∧ Below w.heap.size w w' := by
  have hu44 := Try.underlying44
  have HB := Aside0.mk (Below.refl w.heap.size w)
  have HU := Aside0.mk hu
  have H1 := Aside0.mk h1
  have H2 := Aside0.mk h2
  have H3 := Aside0.mk h3
  have H4 := Aside0.mk h4
  clear hu h1 h2 h3 h4
  have hi44 : (Try.prog.info? 44).map (·.size) = some 6 := by kernel_rfl
  have HI := Aside0.mk hi44
  clear hi44
  cases ok with
  | false =>
    go_enter Try.func26, Try.ntmps26
    go_wp2_with (first | ((with_reducible refine gate_dst (N := 2) rfl ?_); refine box_event ?hg (N := 2) ?hd (cs := #[.int .i64 0, .int .i64 0, .int .i64 0, .int .i64 0, .int .i64 0, .string (⟨#[]⟩ : ByteArray)]) (t := 44) ?hr ?_; (case hd => rfl); (case hg => rfl); (case hr => first | (go_simp; done) | (go_simp; rfl)); intro a hg w1 hbox hb; have BA := Aside0.mk hbox; have HB1 := Aside0.mk (below_step HB.out hb); have GA := Aside0.mk ((by rw [hg]; exact below_size HB.out) : w.heap.size ≤ a); clear hg hbox hb HB) | ((with_reducible refine gate_callee (f := 52) rfl ?_); (with_reducible refine gate_dst (N := 12) rfl ?_); refine goesL_ (some 12) rfl rfl Try.func52 (by kernel_rfl) rfl #[.string t] rfl (by (try simp only [List.map_toArray, List.map_cons, List.map_nil]); first | done | rfl) ?_; (with_reducible refine (spec_Unsealed.calls k t s _ _ HU.out).mono ?_); rintro e w2 ⟨rfl, hb⟩; refine ⟨_, rfl, ?_⟩; have BA2 := Aside0.mk (blk_below BA.out hb); have HB2 := Aside0.mk (below_step HB1.out hb); clear hb BA HB1) | ((with_reducible refine gate_dst (N := 24) rfl ?_); refine box_event ?hg (N := 24) ?hd (cs := #[.string s, .int .i64 1, .bool b0]) (t := 75) ?hr ?_; (case hd => rfl); (case hg => rfl); (case hr => rw [← h0]; first | (go_simp; done) | (go_simp; rfl)); intro g hg w3 hbox hb; have R3 := Aside0.mk (⟨blk_below BA2.out hb, hbox, (by rw [hg]; exact Nat.ne_of_lt (blk_lt BA2.out)), GA.out, (by rw [hg]; exact below_size HB2.out), below_step HB2.out hb⟩ : R1 w a g _ s 1 b0 w3); clear hg hbox hb BA2 HB2 GA) | ((with_reducible refine gate_callee (f := 53) rfl ?_); (with_reducible refine gate_dst (N := 26) rfl ?_); refine goesL_ (some 26) rfl rfl Try.func53 (by kernel_rfl) rfl #[.pointer (some ⟨g, 0, none⟩)] rfl (by (try simp only [List.map_toArray, List.map_cons, List.map_nil]); first | done | rfl) ?_; (with_reducible refine (spec_l06Var.calls_ k g s 1 b0 v1 a1 b1 _ R3.out.cur H1.out).mono ?_); rintro e w4 ⟨rfl, hc, hb⟩; refine ⟨_, rfl, ?_⟩; have R4 := Aside0.mk (R3.out.call hc hb); clear hc hb R3) | ((with_reducible refine gate_dst (N := 7) rfl ?_); refine box_event ?hg (N := 7) ?hd (cs := #[.int .i64 0, .int .i64 0, .int .i64 0, .int .i64 0, .int .i64 0, .string (⟨#[]⟩ : ByteArray)]) (t := 44) ?hr ?_; (case hd => rfl); (case hg => rfl); (case hr => first | (go_simp; done) | (go_simp; rfl)); intro gp hg w5 hbox hb; have R5 := Aside0.mk (R4.out.box hg hbox hb); clear hg hbox hb R4; have hz0 : w5.cell? ⟨gp, 0, none⟩ = some (.int .i64 0) := (blk_cell R5.out.page 0).trans rfl; have hz1 : w5.cell? ⟨gp, 1, none⟩ = some (.int .i64 0) := (blk_cell R5.out.page 1).trans rfl; have hz2 : w5.cell? ⟨gp, 2, none⟩ = some (.int .i64 0) := (blk_cell R5.out.page 2).trans rfl; have hz3 : w5.cell? ⟨gp, 3, none⟩ = some (.int .i64 0) := (blk_cell R5.out.page 3).trans rfl; have hz4 : w5.cell? ⟨gp, 4, none⟩ = some (.int .i64 0) := (blk_cell R5.out.page 4).trans rfl; have hz5 : w5.cell? ⟨gp, 5, none⟩ = some (.string (⟨#[]⟩ : ByteArray)) := (blk_cell R5.out.page 5).trans rfl; have hy0 := blk_frozen R5.out.page 0; have hy1 := blk_frozen R5.out.page 1; have hy2 := blk_frozen R5.out.page 2; have hy3 := blk_frozen R5.out.page 3; have hy4 := blk_frozen R5.out.page 4; have hy5 := blk_frozen R5.out.page 5) | ((with_reducible refine gate_store (t := 44) (p := 7) rfl ?_); refine row_event rfl 44 (.tmp 7) (.tmp 27) rfl gp #[.int .i64 0, .int .i64 v1, .int .i64 0, .int .i64 0, .int .i64 0, .string (⟨#[]⟩ : ByteArray)] rfl (by first | rfl | (go_simp; done) | (go_simp; rfl)) 44 _ R5.out.page HI.out rfl (by simp [Value.oneCell']) ?_; intro w6 hw; have R6 := Aside0.mk (show RP w a gp g _ _ s a1 b1 w6 from by rw [hw]; exact R5.out.row _); clear hw R5) | ((with_reducible refine gate_callee (f := 53) rfl ?_); (with_reducible refine gate_dst (N := 29) rfl ?_); refine goesL_ (some 29) rfl rfl Try.func53 (by kernel_rfl) rfl #[.pointer (some ⟨g, 0, none⟩)] rfl (by (try simp only [List.map_toArray, List.map_cons, List.map_nil]); first | done | rfl) ?_; (with_reducible refine (spec_l06Var.calls_ k g s a1 b1 v2 a2 b2 _ (R6.out).cur H2.out).mono ?_); rintro e w7 ⟨rfl, hc, hb⟩; refine ⟨_, rfl, ?_⟩; have R7 := Aside0.mk ((R6.out).call hc hb); clear hc hb; clear R6; have hzw72 : w7.cell? ⟨gp, 2, none⟩ = some (.int .i64 0) := (blk_cell R7.out.page 2).trans rfl; have hyw72 := blk_frozen R7.out.page 2) | ((with_reducible refine gate_store (t := 3) (p := 30) rfl ?_); refine store_event (t := 3) (p := 30) (v := ?vo_30) (w1 := (w7.setCell ⟨gp, 2, none⟩ (.int .i64 v2))) ?hg ?ho ?hn ?hr ?_; (case ho => rfl); (case hg => rfl); (case hn => rfl); (case hr => first | (go_simp; done) | (go_simp; rfl)); intro w8 hw; have R8 := Aside0.mk (show RP w a gp g _ #[.int .i64 0, .int .i64 v1, .int .i64 v2, .int .i64 0, .int .i64 0, .string (⟨#[]⟩ : ByteArray)] s a2 b2 w8 from by rw [hw]; exact R7.out.put 2 _ rfl); clear hw R7) | ((with_reducible refine gate_callee (f := 53) rfl ?_); (with_reducible refine gate_dst (N := 32) rfl ?_); refine goesL_ (some 32) rfl rfl Try.func53 (by kernel_rfl) rfl #[.pointer (some ⟨g, 0, none⟩)] rfl (by (try simp only [List.map_toArray, List.map_cons, List.map_nil]); first | done | rfl) ?_; (with_reducible refine (spec_l06Var.calls_ k g s a2 b2 v3 a3 b3 _ (R8.out).cur H3.out).mono ?_); rintro e w9 ⟨rfl, hc, hb⟩; refine ⟨_, rfl, ?_⟩; have R9 := Aside0.mk ((R8.out).call hc hb); clear hc hb; clear R8; have hzw93 : w9.cell? ⟨gp, 3, none⟩ = some (.int .i64 0) := (blk_cell R9.out.page 3).trans rfl; have hyw93 := blk_frozen R9.out.page 3) | ((with_reducible refine gate_store (t := 3) (p := 33) rfl ?_); refine store_event (t := 3) (p := 33) (v := ?vo_33) (w1 := (w9.setCell ⟨gp, 3, none⟩ (.int .i64 v3))) ?hg ?ho ?hn ?hr ?_; (case ho => rfl); (case hg => rfl); (case hn => rfl); (case hr => first | (go_simp; done) | (go_simp; rfl)); intro w10 hw; have R10 := Aside0.mk (show RP w a gp g _ #[.int .i64 0, .int .i64 v1, .int .i64 v2, .int .i64 v3, .int .i64 0, .string (⟨#[]⟩ : ByteArray)] s a3 b3 w10 from by rw [hw]; exact R9.out.put 3 _ rfl); clear hw R9) | ((with_reducible refine gate_callee (f := 53) rfl ?_); (with_reducible refine gate_dst (N := 35) rfl ?_); refine goesL_ (some 35) rfl rfl Try.func53 (by kernel_rfl) rfl #[.pointer (some ⟨g, 0, none⟩)] rfl (by (try simp only [List.map_toArray, List.map_cons, List.map_nil]); first | done | rfl) ?_; (with_reducible refine (spec_l06Var.calls_ k g s a3 b3 v4 a4 true _ (R10.out).cur H4.out).mono ?_); rintro e w11 ⟨rfl, hc, hb⟩; refine ⟨_, rfl, ?_⟩; have R11 := Aside0.mk ((R10.out).call hc hb); clear hc hb; clear R10; have hzw114 : w11.cell? ⟨gp, 4, none⟩ = some (.int .i64 0) := (blk_cell R11.out.page 4).trans rfl; have hyw114 := blk_frozen R11.out.page 4) | ((with_reducible refine gate_store (t := 3) (p := 36) rfl ?_); refine store_event (t := 3) (p := 36) (v := ?vo_36) (w1 := (w11.setCell ⟨gp, 4, none⟩ (.int .i64 v4))) ?hg ?ho ?hn ?hr ?_; (case ho => rfl); (case hg => rfl); (case hn => rfl); (case hr => first | (go_simp; done) | (go_simp; rfl)); intro w12 hw; have R12 := Aside0.mk (show RP w a gp g _ #[.int .i64 0, .int .i64 v1, .int .i64 v2, .int .i64 v3, .int .i64 v4, .string (⟨#[]⟩ : ByteArray)] s a4 _ w12 from by rw [hw]; exact R11.out.put 4 _ rfl); clear hw R11; have hb12 : w12.cell? ⟨g, 2, none⟩ = some (.bool true) := (blk_cell R12.out.cur 2).trans rfl; have ha12 : w12.cell? ⟨g, 1, none⟩ = some (.int .i64 a4) := (blk_cell R12.out.cur 1).trans rfl; have hzw120 : w12.cell? ⟨gp, 0, none⟩ = some (.int .i64 0) := (blk_cell R12.out.page 0).trans rfl; have hyw120 := blk_frozen R12.out.page 0; have hzw125 : w12.cell? ⟨gp, 5, none⟩ = some (.string (⟨#[]⟩ : ByteArray)) := (blk_cell R12.out.page 5).trans rfl; have hyw125 := blk_frozen R12.out.page 5) | ((with_reducible refine gate_store (t := 44) (p := 2) rfl ?_); refine row_event rfl 44 (.tmp 2) (.tmp 41) rfl a #[.int .i64 0, .int .i64 0, .int .i64 0, .int .i64 0, .int .i64 0, .string (⟨#[]⟩ : ByteArray)] rfl (by first | rfl | (go_simp; done) | (go_simp; rfl)) 44 _ R12.out.res HI.out rfl (by simp [Value.oneCell']) ?_; intro w16 hw; have RZ := Aside0.mk (show w16.heap[a]? = _ ∧ Below w.heap.size w w16 from by rw [hw]; exact R12.out.res_row _); clear hw))
    refine bodyPost_ret (results_row_tmp rfl _ _ a 44 #[.int .i64 0, .int .i64 0, .int .i64 0, .int .i64 0, .int .i64 0, .string (⟨#[]⟩ : ByteArray)] (0, 0) _ _ rfl rfl RZ.out.1 hu44 rfl HI.out) rfl ?_
    exact ⟨rfl, RZ.out.2⟩
  | true =>
    go_enter Try.func26, Try.ntmps26
    go_wp2_with (first | ((with_reducible refine gate_dst (N := 2) rfl ?_); refine box_event ?hg (N := 2) ?hd (cs := #[.int .i64 0, .int .i64 0, .int .i64 0, .int .i64 0, .int .i64 0, .string (⟨#[]⟩ : ByteArray)]) (t := 44) ?hr ?_; (case hd => rfl); (case hg => rfl); (case hr => first | (go_simp; done) | (go_simp; rfl)); intro a hg w1 hbox hb; have BA := Aside0.mk hbox; have HB1 := Aside0.mk (below_step HB.out hb); have GA := Aside0.mk ((by rw [hg]; exact below_size HB.out) : w.heap.size ≤ a); clear hg hbox hb HB) | ((with_reducible refine gate_callee (f := 52) rfl ?_); (with_reducible refine gate_dst (N := 12) rfl ?_); refine goesL_ (some 12) rfl rfl Try.func52 (by kernel_rfl) rfl #[.string t] rfl (by (try simp only [List.map_toArray, List.map_cons, List.map_nil]); first | done | rfl) ?_; (with_reducible refine (spec_Unsealed.calls k t s _ _ HU.out).mono ?_); rintro e w2 ⟨rfl, hb⟩; refine ⟨_, rfl, ?_⟩; have BA2 := Aside0.mk (blk_below BA.out hb); have HB2 := Aside0.mk (below_step HB1.out hb); clear hb BA HB1) | ((with_reducible refine gate_dst (N := 24) rfl ?_); refine box_event ?hg (N := 24) ?hd (cs := #[.string s, .int .i64 1, .bool b0]) (t := 75) ?hr ?_; (case hd => rfl); (case hg => rfl); (case hr => rw [← h0]; first | (go_simp; done) | (go_simp; rfl)); intro g hg w3 hbox hb; have R3 := Aside0.mk (⟨blk_below BA2.out hb, hbox, (by rw [hg]; exact Nat.ne_of_lt (blk_lt BA2.out)), GA.out, (by rw [hg]; exact below_size HB2.out), below_step HB2.out hb⟩ : R1 w a g _ s 1 b0 w3); clear hg hbox hb BA2 HB2 GA) | ((with_reducible refine gate_callee (f := 53) rfl ?_); (with_reducible refine gate_dst (N := 26) rfl ?_); refine goesL_ (some 26) rfl rfl Try.func53 (by kernel_rfl) rfl #[.pointer (some ⟨g, 0, none⟩)] rfl (by (try simp only [List.map_toArray, List.map_cons, List.map_nil]); first | done | rfl) ?_; (with_reducible refine (spec_l06Var.calls_ k g s 1 b0 v1 a1 b1 _ R3.out.cur H1.out).mono ?_); rintro e w4 ⟨rfl, hc, hb⟩; refine ⟨_, rfl, ?_⟩; have R4 := Aside0.mk (R3.out.call hc hb); clear hc hb R3) | ((with_reducible refine gate_dst (N := 7) rfl ?_); refine box_event ?hg (N := 7) ?hd (cs := #[.int .i64 0, .int .i64 0, .int .i64 0, .int .i64 0, .int .i64 0, .string (⟨#[]⟩ : ByteArray)]) (t := 44) ?hr ?_; (case hd => rfl); (case hg => rfl); (case hr => first | (go_simp; done) | (go_simp; rfl)); intro gp hg w5 hbox hb; have R5 := Aside0.mk (R4.out.box hg hbox hb); clear hg hbox hb R4; have hz0 : w5.cell? ⟨gp, 0, none⟩ = some (.int .i64 0) := (blk_cell R5.out.page 0).trans rfl; have hz1 : w5.cell? ⟨gp, 1, none⟩ = some (.int .i64 0) := (blk_cell R5.out.page 1).trans rfl; have hz2 : w5.cell? ⟨gp, 2, none⟩ = some (.int .i64 0) := (blk_cell R5.out.page 2).trans rfl; have hz3 : w5.cell? ⟨gp, 3, none⟩ = some (.int .i64 0) := (blk_cell R5.out.page 3).trans rfl; have hz4 : w5.cell? ⟨gp, 4, none⟩ = some (.int .i64 0) := (blk_cell R5.out.page 4).trans rfl; have hz5 : w5.cell? ⟨gp, 5, none⟩ = some (.string (⟨#[]⟩ : ByteArray)) := (blk_cell R5.out.page 5).trans rfl; have hy0 := blk_frozen R5.out.page 0; have hy1 := blk_frozen R5.out.page 1; have hy2 := blk_frozen R5.out.page 2; have hy3 := blk_frozen R5.out.page 3; have hy4 := blk_frozen R5.out.page 4; have hy5 := blk_frozen R5.out.page 5) | ((with_reducible refine gate_store (t := 44) (p := 7) rfl ?_); refine row_event rfl 44 (.tmp 7) (.tmp 27) rfl gp #[.int .i64 0, .int .i64 v1, .int .i64 0, .int .i64 0, .int .i64 0, .string (⟨#[]⟩ : ByteArray)] rfl (by first | rfl | (go_simp; done) | (go_simp; rfl)) 44 _ R5.out.page HI.out rfl (by simp [Value.oneCell']) ?_; intro w6 hw; have R6 := Aside0.mk (show RP w a gp g _ _ s a1 b1 w6 from by rw [hw]; exact R5.out.row _); clear hw R5) | ((with_reducible refine gate_callee (f := 53) rfl ?_); (with_reducible refine gate_dst (N := 29) rfl ?_); refine goesL_ (some 29) rfl rfl Try.func53 (by kernel_rfl) rfl #[.pointer (some ⟨g, 0, none⟩)] rfl (by (try simp only [List.map_toArray, List.map_cons, List.map_nil]); first | done | rfl) ?_; (with_reducible refine (spec_l06Var.calls_ k g s a1 b1 v2 a2 b2 _ (R6.out).cur H2.out).mono ?_); rintro e w7 ⟨rfl, hc, hb⟩; refine ⟨_, rfl, ?_⟩; have R7 := Aside0.mk ((R6.out).call hc hb); clear hc hb; clear R6; have hzw72 : w7.cell? ⟨gp, 2, none⟩ = some (.int .i64 0) := (blk_cell R7.out.page 2).trans rfl; have hyw72 := blk_frozen R7.out.page 2) | ((with_reducible refine gate_store (t := 3) (p := 30) rfl ?_); refine store_event (t := 3) (p := 30) (v := ?vo_30) (w1 := (w7.setCell ⟨gp, 2, none⟩ (.int .i64 v2))) ?hg ?ho ?hn ?hr ?_; (case ho => rfl); (case hg => rfl); (case hn => rfl); (case hr => first | (go_simp; done) | (go_simp; rfl)); intro w8 hw; have R8 := Aside0.mk (show RP w a gp g _ #[.int .i64 0, .int .i64 v1, .int .i64 v2, .int .i64 0, .int .i64 0, .string (⟨#[]⟩ : ByteArray)] s a2 b2 w8 from by rw [hw]; exact R7.out.put 2 _ rfl); clear hw R7) | ((with_reducible refine gate_callee (f := 53) rfl ?_); (with_reducible refine gate_dst (N := 32) rfl ?_); refine goesL_ (some 32) rfl rfl Try.func53 (by kernel_rfl) rfl #[.pointer (some ⟨g, 0, none⟩)] rfl (by (try simp only [List.map_toArray, List.map_cons, List.map_nil]); first | done | rfl) ?_; (with_reducible refine (spec_l06Var.calls_ k g s a2 b2 v3 a3 b3 _ (R8.out).cur H3.out).mono ?_); rintro e w9 ⟨rfl, hc, hb⟩; refine ⟨_, rfl, ?_⟩; have R9 := Aside0.mk ((R8.out).call hc hb); clear hc hb; clear R8; have hzw93 : w9.cell? ⟨gp, 3, none⟩ = some (.int .i64 0) := (blk_cell R9.out.page 3).trans rfl; have hyw93 := blk_frozen R9.out.page 3) | ((with_reducible refine gate_store (t := 3) (p := 33) rfl ?_); refine store_event (t := 3) (p := 33) (v := ?vo_33) (w1 := (w9.setCell ⟨gp, 3, none⟩ (.int .i64 v3))) ?hg ?ho ?hn ?hr ?_; (case ho => rfl); (case hg => rfl); (case hn => rfl); (case hr => first | (go_simp; done) | (go_simp; rfl)); intro w10 hw; have R10 := Aside0.mk (show RP w a gp g _ #[.int .i64 0, .int .i64 v1, .int .i64 v2, .int .i64 v3, .int .i64 0, .string (⟨#[]⟩ : ByteArray)] s a3 b3 w10 from by rw [hw]; exact R9.out.put 3 _ rfl); clear hw R9) | ((with_reducible refine gate_callee (f := 53) rfl ?_); (with_reducible refine gate_dst (N := 35) rfl ?_); refine goesL_ (some 35) rfl rfl Try.func53 (by kernel_rfl) rfl #[.pointer (some ⟨g, 0, none⟩)] rfl (by (try simp only [List.map_toArray, List.map_cons, List.map_nil]); first | done | rfl) ?_; (with_reducible refine (spec_l06Var.calls_ k g s a3 b3 v4 a4 true _ (R10.out).cur H4.out).mono ?_); rintro e w11 ⟨rfl, hc, hb⟩; refine ⟨_, rfl, ?_⟩; have R11 := Aside0.mk ((R10.out).call hc hb); clear hc hb; clear R10; have hzw114 : w11.cell? ⟨gp, 4, none⟩ = some (.int .i64 0) := (blk_cell R11.out.page 4).trans rfl; have hyw114 := blk_frozen R11.out.page 4) | ((with_reducible refine gate_store (t := 3) (p := 36) rfl ?_); refine store_event (t := 3) (p := 36) (v := ?vo_36) (w1 := (w11.setCell ⟨gp, 4, none⟩ (.int .i64 v4))) ?hg ?ho ?hn ?hr ?_; (case ho => rfl); (case hg => rfl); (case hn => rfl); (case hr => first | (go_simp; done) | (go_simp; rfl)); intro w12 hw; have R12 := Aside0.mk (show RP w a gp g _ #[.int .i64 0, .int .i64 v1, .int .i64 v2, .int .i64 v3, .int .i64 v4, .string (⟨#[]⟩ : ByteArray)] s a4 _ w12 from by rw [hw]; exact R11.out.put 4 _ rfl); clear hw R11; have hb12 : w12.cell? ⟨g, 2, none⟩ = some (.bool true) := (blk_cell R12.out.cur 2).trans rfl; have ha12 : w12.cell? ⟨g, 1, none⟩ = some (.int .i64 a4) := (blk_cell R12.out.cur 1).trans rfl; have hzw120 : w12.cell? ⟨gp, 0, none⟩ = some (.int .i64 0) := (blk_cell R12.out.page 0).trans rfl; have hyw120 := blk_frozen R12.out.page 0; have hzw125 : w12.cell? ⟨gp, 5, none⟩ = some (.string (⟨#[]⟩ : ByteArray)) := (blk_cell R12.out.page 5).trans rfl; have hyw125 := blk_frozen R12.out.page 5) | ((with_reducible refine gate_store (t := 44) (p := 2) rfl ?_); refine row_event rfl 44 (.tmp 2) (.tmp 41) rfl a #[.int .i64 0, .int .i64 0, .int .i64 0, .int .i64 0, .int .i64 0, .string (⟨#[]⟩ : ByteArray)] rfl (by first | rfl | (go_simp; done) | (go_simp; rfl)) 44 _ R12.out.res HI.out rfl (by simp [Value.oneCell']) ?_; intro w16 hw; have RZ := Aside0.mk (show w16.heap[a]? = _ ∧ Below w.heap.size w w16 from by rw [hw]; exact R12.out.res_row _); clear hw))
    refine bodyPost_ret (results_row_tmp rfl _ _ a 44 #[.int .i64 0, .int .i64 0, .int .i64 0, .int .i64 0, .int .i64 0, .string (⟨#[]⟩ : ByteArray)] (0, 0) _ _ rfl rfl RZ.out.1 hu44 rfl HI.out) rfl ?_
    exact ⟨rfl, RZ.out.2⟩
set_option maxHeartbeats 4000000 in
set_option maxRecDepth 1000000 in
theorem spec_ReadPage.nr_ (k : Nat) (t s : ByteArray) (ok b0 : Bool) (v1 a1 v2 a2 v3 a3 v4 a4 : Int) (b1 b2 b3 : Bool) (back : ByteArray) (w : World)
    (hu : spec_Unsealed.f k t = some (s, ok)) (h0 : (!ok || decide ((s.size : Int) < 1)) = b0) (h1 : spec_l06Var.rd k s 1 b0 = some (v1, a1, b1)) (h2 : spec_l06Var.rd k s a1 b1 = some (v2, a2, b2)) (h3 : spec_l06Var.rd k s a2 b2 = some (v3, a3, b3)) (h4 : spec_l06Var.rd k s a3 b3 = some (v4, a4, false))
    (hs : 0 < s.size) (ha : 0 ≤ a4) (hb : a4 ≤ (s.size : Int)) (hp : spec_PageText.f k (bt s 0) v1 v2 v3 v4 (s.extract a4.toNat s.size) = some (back, false)) :
    Calls Try.prog 26 #[.string t] w fun e w' => e = .returned (.tuple #[.agg #[.int .i64 0, .int .i64 0, .int .i64 0, .int .i64 0, .int .i64 0, .string (⟨#[]⟩ : ByteArray)], .bool false]) ∧ Below w.heap.size w w' := by
  have hu44 := Try.underlying44
  have HB := Aside0.mk (Below.refl w.heap.size w)
  have HU := Aside0.mk hu
  have H1 := Aside0.mk h1
  have H2 := Aside0.mk h2
  have H3 := Aside0.mk h3
  have H4 := Aside0.mk h4
  clear hu h1 h2 h3 h4
  have hi44 : (Try.prog.info? 44).map (·.size) = some 6 := by kernel_rfl
  have HI := Aside0.mk hi44
  clear hi44
  have hs0 := hs
  have hs1 : decide (0 < s.size) = true := decide_eq_true hs
  have hx : ∀ h : 0 < s.size, ((s[0]'h).toNat : Int) = bt s 0 := bt_at s 0
  have hxw : wrap64 (bt s 0) = bt s 0 := by have := bt_range s 0; unfold wrap64; omega
  have hl0 : decide (0 ≤ a4) = true := decide_eq_true ha
  have hl1 : decide (a4 ≤ (s.size : Int)) = true := decide_eq_true hb
  have hl2 := eq_true ha
  have hl3 := eq_true hb
  have HP := Aside0.mk hp
  clear hs ha hb hp
  cases ok with
  | false =>
    go_enter Try.func26, Try.ntmps26
    go_wp2_with (first | ((with_reducible refine gate_dst (N := 2) rfl ?_); refine box_event ?hg (N := 2) ?hd (cs := #[.int .i64 0, .int .i64 0, .int .i64 0, .int .i64 0, .int .i64 0, .string (⟨#[]⟩ : ByteArray)]) (t := 44) ?hr ?_; (case hd => rfl); (case hg => rfl); (case hr => first | (go_simp; done) | (go_simp; rfl)); intro a hg w1 hbox hb; have BA := Aside0.mk hbox; have HB1 := Aside0.mk (below_step HB.out hb); have GA := Aside0.mk ((by rw [hg]; exact below_size HB.out) : w.heap.size ≤ a); clear hg hbox hb HB) | ((with_reducible refine gate_callee (f := 52) rfl ?_); (with_reducible refine gate_dst (N := 12) rfl ?_); refine goesL_ (some 12) rfl rfl Try.func52 (by kernel_rfl) rfl #[.string t] rfl (by (try simp only [List.map_toArray, List.map_cons, List.map_nil]); first | done | rfl) ?_; (with_reducible refine (spec_Unsealed.calls k t s _ _ HU.out).mono ?_); rintro e w2 ⟨rfl, hb⟩; refine ⟨_, rfl, ?_⟩; have BA2 := Aside0.mk (blk_below BA.out hb); have HB2 := Aside0.mk (below_step HB1.out hb); clear hb BA HB1) | ((with_reducible refine gate_dst (N := 24) rfl ?_); refine box_event ?hg (N := 24) ?hd (cs := #[.string s, .int .i64 1, .bool b0]) (t := 75) ?hr ?_; (case hd => rfl); (case hg => rfl); (case hr => rw [← h0]; first | (go_simp; done) | (go_simp; rfl)); intro g hg w3 hbox hb; have R3 := Aside0.mk (⟨blk_below BA2.out hb, hbox, (by rw [hg]; exact Nat.ne_of_lt (blk_lt BA2.out)), GA.out, (by rw [hg]; exact below_size HB2.out), below_step HB2.out hb⟩ : R1 w a g _ s 1 b0 w3); clear hg hbox hb BA2 HB2 GA) | ((with_reducible refine gate_callee (f := 53) rfl ?_); (with_reducible refine gate_dst (N := 26) rfl ?_); refine goesL_ (some 26) rfl rfl Try.func53 (by kernel_rfl) rfl #[.pointer (some ⟨g, 0, none⟩)] rfl (by (try simp only [List.map_toArray, List.map_cons, List.map_nil]); first | done | rfl) ?_; (with_reducible refine (spec_l06Var.calls_ k g s 1 b0 v1 a1 b1 _ R3.out.cur H1.out).mono ?_); rintro e w4 ⟨rfl, hc, hb⟩; refine ⟨_, rfl, ?_⟩; have R4 := Aside0.mk (R3.out.call hc hb); clear hc hb R3) | ((with_reducible refine gate_dst (N := 7) rfl ?_); refine box_event ?hg (N := 7) ?hd (cs := #[.int .i64 0, .int .i64 0, .int .i64 0, .int .i64 0, .int .i64 0, .string (⟨#[]⟩ : ByteArray)]) (t := 44) ?hr ?_; (case hd => rfl); (case hg => rfl); (case hr => first | (go_simp; done) | (go_simp; rfl)); intro gp hg w5 hbox hb; have R5 := Aside0.mk (R4.out.box hg hbox hb); clear hg hbox hb R4; have hz0 : w5.cell? ⟨gp, 0, none⟩ = some (.int .i64 0) := (blk_cell R5.out.page 0).trans rfl; have hz1 : w5.cell? ⟨gp, 1, none⟩ = some (.int .i64 0) := (blk_cell R5.out.page 1).trans rfl; have hz2 : w5.cell? ⟨gp, 2, none⟩ = some (.int .i64 0) := (blk_cell R5.out.page 2).trans rfl; have hz3 : w5.cell? ⟨gp, 3, none⟩ = some (.int .i64 0) := (blk_cell R5.out.page 3).trans rfl; have hz4 : w5.cell? ⟨gp, 4, none⟩ = some (.int .i64 0) := (blk_cell R5.out.page 4).trans rfl; have hz5 : w5.cell? ⟨gp, 5, none⟩ = some (.string (⟨#[]⟩ : ByteArray)) := (blk_cell R5.out.page 5).trans rfl; have hy0 := blk_frozen R5.out.page 0; have hy1 := blk_frozen R5.out.page 1; have hy2 := blk_frozen R5.out.page 2; have hy3 := blk_frozen R5.out.page 3; have hy4 := blk_frozen R5.out.page 4; have hy5 := blk_frozen R5.out.page 5) | ((with_reducible refine gate_store (t := 44) (p := 7) rfl ?_); refine row_event rfl 44 (.tmp 7) (.tmp 27) rfl gp #[.int .i64 0, .int .i64 v1, .int .i64 0, .int .i64 0, .int .i64 0, .string (⟨#[]⟩ : ByteArray)] rfl (by first | rfl | (go_simp; done) | (go_simp; rfl)) 44 _ R5.out.page HI.out rfl (by simp [Value.oneCell']) ?_; intro w6 hw; have R6 := Aside0.mk (show RP w a gp g _ _ s a1 b1 w6 from by rw [hw]; exact R5.out.row _); clear hw R5) | ((with_reducible refine gate_callee (f := 53) rfl ?_); (with_reducible refine gate_dst (N := 29) rfl ?_); refine goesL_ (some 29) rfl rfl Try.func53 (by kernel_rfl) rfl #[.pointer (some ⟨g, 0, none⟩)] rfl (by (try simp only [List.map_toArray, List.map_cons, List.map_nil]); first | done | rfl) ?_; (with_reducible refine (spec_l06Var.calls_ k g s a1 b1 v2 a2 b2 _ (R6.out).cur H2.out).mono ?_); rintro e w7 ⟨rfl, hc, hb⟩; refine ⟨_, rfl, ?_⟩; have R7 := Aside0.mk ((R6.out).call hc hb); clear hc hb; clear R6; have hzw72 : w7.cell? ⟨gp, 2, none⟩ = some (.int .i64 0) := (blk_cell R7.out.page 2).trans rfl; have hyw72 := blk_frozen R7.out.page 2) | ((with_reducible refine gate_store (t := 3) (p := 30) rfl ?_); refine store_event (t := 3) (p := 30) (v := ?vo_30) (w1 := (w7.setCell ⟨gp, 2, none⟩ (.int .i64 v2))) ?hg ?ho ?hn ?hr ?_; (case ho => rfl); (case hg => rfl); (case hn => rfl); (case hr => first | (go_simp; done) | (go_simp; rfl)); intro w8 hw; have R8 := Aside0.mk (show RP w a gp g _ #[.int .i64 0, .int .i64 v1, .int .i64 v2, .int .i64 0, .int .i64 0, .string (⟨#[]⟩ : ByteArray)] s a2 b2 w8 from by rw [hw]; exact R7.out.put 2 _ rfl); clear hw R7) | ((with_reducible refine gate_callee (f := 53) rfl ?_); (with_reducible refine gate_dst (N := 32) rfl ?_); refine goesL_ (some 32) rfl rfl Try.func53 (by kernel_rfl) rfl #[.pointer (some ⟨g, 0, none⟩)] rfl (by (try simp only [List.map_toArray, List.map_cons, List.map_nil]); first | done | rfl) ?_; (with_reducible refine (spec_l06Var.calls_ k g s a2 b2 v3 a3 b3 _ (R8.out).cur H3.out).mono ?_); rintro e w9 ⟨rfl, hc, hb⟩; refine ⟨_, rfl, ?_⟩; have R9 := Aside0.mk ((R8.out).call hc hb); clear hc hb; clear R8; have hzw93 : w9.cell? ⟨gp, 3, none⟩ = some (.int .i64 0) := (blk_cell R9.out.page 3).trans rfl; have hyw93 := blk_frozen R9.out.page 3) | ((with_reducible refine gate_store (t := 3) (p := 33) rfl ?_); refine store_event (t := 3) (p := 33) (v := ?vo_33) (w1 := (w9.setCell ⟨gp, 3, none⟩ (.int .i64 v3))) ?hg ?ho ?hn ?hr ?_; (case ho => rfl); (case hg => rfl); (case hn => rfl); (case hr => first | (go_simp; done) | (go_simp; rfl)); intro w10 hw; have R10 := Aside0.mk (show RP w a gp g _ #[.int .i64 0, .int .i64 v1, .int .i64 v2, .int .i64 v3, .int .i64 0, .string (⟨#[]⟩ : ByteArray)] s a3 b3 w10 from by rw [hw]; exact R9.out.put 3 _ rfl); clear hw R9) | ((with_reducible refine gate_callee (f := 53) rfl ?_); (with_reducible refine gate_dst (N := 35) rfl ?_); refine goesL_ (some 35) rfl rfl Try.func53 (by kernel_rfl) rfl #[.pointer (some ⟨g, 0, none⟩)] rfl (by (try simp only [List.map_toArray, List.map_cons, List.map_nil]); first | done | rfl) ?_; (with_reducible refine (spec_l06Var.calls_ k g s a3 b3 v4 a4 false _ (R10.out).cur H4.out).mono ?_); rintro e w11 ⟨rfl, hc, hb⟩; refine ⟨_, rfl, ?_⟩; have R11 := Aside0.mk ((R10.out).call hc hb); clear hc hb; clear R10; have hzw114 : w11.cell? ⟨gp, 4, none⟩ = some (.int .i64 0) := (blk_cell R11.out.page 4).trans rfl; have hyw114 := blk_frozen R11.out.page 4) | ((with_reducible refine gate_store (t := 3) (p := 36) rfl ?_); refine store_event (t := 3) (p := 36) (v := ?vo_36) (w1 := (w11.setCell ⟨gp, 4, none⟩ (.int .i64 v4))) ?hg ?ho ?hn ?hr ?_; (case ho => rfl); (case hg => rfl); (case hn => rfl); (case hr => first | (go_simp; done) | (go_simp; rfl)); intro w12 hw; have R12 := Aside0.mk (show RP w a gp g _ #[.int .i64 0, .int .i64 v1, .int .i64 v2, .int .i64 v3, .int .i64 v4, .string (⟨#[]⟩ : ByteArray)] s a4 _ w12 from by rw [hw]; exact R11.out.put 4 _ rfl); clear hw R11; have hb12 : w12.cell? ⟨g, 2, none⟩ = some (.bool false) := (blk_cell R12.out.cur 2).trans rfl; have ha12 : w12.cell? ⟨g, 1, none⟩ = some (.int .i64 a4) := (blk_cell R12.out.cur 1).trans rfl; have hzw120 : w12.cell? ⟨gp, 0, none⟩ = some (.int .i64 0) := (blk_cell R12.out.page 0).trans rfl; have hyw120 := blk_frozen R12.out.page 0; have hzw125 : w12.cell? ⟨gp, 5, none⟩ = some (.string (⟨#[]⟩ : ByteArray)) := (blk_cell R12.out.page 5).trans rfl; have hyw125 := blk_frozen R12.out.page 5) | ((with_reducible refine gate_store (t := 3) (p := 45) rfl ?_); refine store_event (t := 3) (p := 45) (v := ?vo_45) (w1 := (w12.setCell ⟨gp, 0, none⟩ (.int .i64 (bt s 0)))) ?hg ?ho ?hn ?hr ?_; (case ho => rfl); (case hg => rfl); (case hn => rfl); (case hr => first | (go_simp; done) | (go_simp; rfl)); intro w13 hw; have R13 := Aside0.mk (show RP w a gp g _ #[.int .i64 (bt s 0), .int .i64 v1, .int .i64 v2, .int .i64 v3, .int .i64 v4, .string (⟨#[]⟩ : ByteArray)] s a4 false w13 from by rw [hw]; exact R12.out.put 0 _ rfl); clear hw R12; have ha13 : w13.cell? ⟨g, 1, none⟩ = some (.int .i64 a4) := (blk_cell R13.out.cur 1).trans rfl; have hzw135 : w13.cell? ⟨gp, 5, none⟩ = some (.string (⟨#[]⟩ : ByteArray)) := (blk_cell R13.out.page 5).trans rfl; have hyw135 := blk_frozen R13.out.page 5) | ((with_reducible refine gate_store (t := 9) (p := 52) rfl ?_); refine store_event (t := 9) (p := 52) (v := ?vo_52) (w1 := (w13.setCell ⟨gp, 5, none⟩ (.string (s.extract a4.toNat s.size)))) ?hg ?ho ?hn ?hr ?_; (case ho => rfl); (case hg => rfl); (case hn => rfl); (case hr => first | (go_simp; done) | (go_simp; rfl)); intro w14 hw; have R14 := Aside0.mk (show RP w a gp g _ #[.int .i64 (bt s 0), .int .i64 v1, .int .i64 v2, .int .i64 v3, .int .i64 v4, .string (s.extract a4.toNat s.size)] s a4 false w14 from by rw [hw]; exact R13.out.put 5 _ rfl); clear hw R13) | ((with_reducible refine gate_dst (N := 54) rfl ?_); refine wpList_load_row rfl 44 (.tmp 7) rfl gp rfl 44 _ (0, 0) _ R14.out.page hu44 rfl HI.out ?_) | ((with_reducible refine gate_callee (f := 54) rfl ?_); (with_reducible refine gate_dst (N := 55) rfl ?_); refine goesL_ (some 55) rfl rfl Try.func54 (by kernel_rfl) rfl #[.agg #[.int .i64 (bt s 0), .int .i64 v1, .int .i64 v2, .int .i64 v3, .int .i64 v4, .string (s.extract a4.toNat s.size)]] rfl (by (try simp only [List.map_toArray, List.map_cons, List.map_nil]); first | done | rfl) ?_; (with_reducible refine (spec_PageText.calls k (bt s 0) v1 v2 v3 v4 (s.extract a4.toNat s.size) back _ _ HP.out).mono ?_); rintro e w15 ⟨rfl, hb⟩; refine ⟨_, rfl, ?_⟩; have R15 := Aside0.mk (R14.out.kept hb); clear hb R14) | ((with_reducible refine gate_store (t := 44) (p := 2) rfl ?_); refine row_event rfl 44 (.tmp 2) (.tmp 65) rfl a #[.int .i64 0, .int .i64 0, .int .i64 0, .int .i64 0, .int .i64 0, .string (⟨#[]⟩ : ByteArray)] rfl (by first | rfl | (go_simp; done) | (go_simp; rfl)) 44 _ R15.out.res HI.out rfl (by simp [Value.oneCell']) ?_; intro w16 hw; have RZ := Aside0.mk (show w16.heap[a]? = _ ∧ Below w.heap.size w w16 from by rw [hw]; exact R15.out.res_row _); clear hw))
    refine bodyPost_ret (results_row_tmp rfl _ _ a 44 #[.int .i64 0, .int .i64 0, .int .i64 0, .int .i64 0, .int .i64 0, .string (⟨#[]⟩ : ByteArray)] (0, 0) _ _ rfl rfl RZ.out.1 hu44 rfl HI.out) rfl ?_
    exact ⟨rfl, RZ.out.2⟩
  | true =>
    go_enter Try.func26, Try.ntmps26
    go_wp2_with (first | ((with_reducible refine gate_dst (N := 2) rfl ?_); refine box_event ?hg (N := 2) ?hd (cs := #[.int .i64 0, .int .i64 0, .int .i64 0, .int .i64 0, .int .i64 0, .string (⟨#[]⟩ : ByteArray)]) (t := 44) ?hr ?_; (case hd => rfl); (case hg => rfl); (case hr => first | (go_simp; done) | (go_simp; rfl)); intro a hg w1 hbox hb; have BA := Aside0.mk hbox; have HB1 := Aside0.mk (below_step HB.out hb); have GA := Aside0.mk ((by rw [hg]; exact below_size HB.out) : w.heap.size ≤ a); clear hg hbox hb HB) | ((with_reducible refine gate_callee (f := 52) rfl ?_); (with_reducible refine gate_dst (N := 12) rfl ?_); refine goesL_ (some 12) rfl rfl Try.func52 (by kernel_rfl) rfl #[.string t] rfl (by (try simp only [List.map_toArray, List.map_cons, List.map_nil]); first | done | rfl) ?_; (with_reducible refine (spec_Unsealed.calls k t s _ _ HU.out).mono ?_); rintro e w2 ⟨rfl, hb⟩; refine ⟨_, rfl, ?_⟩; have BA2 := Aside0.mk (blk_below BA.out hb); have HB2 := Aside0.mk (below_step HB1.out hb); clear hb BA HB1) | ((with_reducible refine gate_dst (N := 24) rfl ?_); refine box_event ?hg (N := 24) ?hd (cs := #[.string s, .int .i64 1, .bool b0]) (t := 75) ?hr ?_; (case hd => rfl); (case hg => rfl); (case hr => rw [← h0]; first | (go_simp; done) | (go_simp; rfl)); intro g hg w3 hbox hb; have R3 := Aside0.mk (⟨blk_below BA2.out hb, hbox, (by rw [hg]; exact Nat.ne_of_lt (blk_lt BA2.out)), GA.out, (by rw [hg]; exact below_size HB2.out), below_step HB2.out hb⟩ : R1 w a g _ s 1 b0 w3); clear hg hbox hb BA2 HB2 GA) | ((with_reducible refine gate_callee (f := 53) rfl ?_); (with_reducible refine gate_dst (N := 26) rfl ?_); refine goesL_ (some 26) rfl rfl Try.func53 (by kernel_rfl) rfl #[.pointer (some ⟨g, 0, none⟩)] rfl (by (try simp only [List.map_toArray, List.map_cons, List.map_nil]); first | done | rfl) ?_; (with_reducible refine (spec_l06Var.calls_ k g s 1 b0 v1 a1 b1 _ R3.out.cur H1.out).mono ?_); rintro e w4 ⟨rfl, hc, hb⟩; refine ⟨_, rfl, ?_⟩; have R4 := Aside0.mk (R3.out.call hc hb); clear hc hb R3) | ((with_reducible refine gate_dst (N := 7) rfl ?_); refine box_event ?hg (N := 7) ?hd (cs := #[.int .i64 0, .int .i64 0, .int .i64 0, .int .i64 0, .int .i64 0, .string (⟨#[]⟩ : ByteArray)]) (t := 44) ?hr ?_; (case hd => rfl); (case hg => rfl); (case hr => first | (go_simp; done) | (go_simp; rfl)); intro gp hg w5 hbox hb; have R5 := Aside0.mk (R4.out.box hg hbox hb); clear hg hbox hb R4; have hz0 : w5.cell? ⟨gp, 0, none⟩ = some (.int .i64 0) := (blk_cell R5.out.page 0).trans rfl; have hz1 : w5.cell? ⟨gp, 1, none⟩ = some (.int .i64 0) := (blk_cell R5.out.page 1).trans rfl; have hz2 : w5.cell? ⟨gp, 2, none⟩ = some (.int .i64 0) := (blk_cell R5.out.page 2).trans rfl; have hz3 : w5.cell? ⟨gp, 3, none⟩ = some (.int .i64 0) := (blk_cell R5.out.page 3).trans rfl; have hz4 : w5.cell? ⟨gp, 4, none⟩ = some (.int .i64 0) := (blk_cell R5.out.page 4).trans rfl; have hz5 : w5.cell? ⟨gp, 5, none⟩ = some (.string (⟨#[]⟩ : ByteArray)) := (blk_cell R5.out.page 5).trans rfl; have hy0 := blk_frozen R5.out.page 0; have hy1 := blk_frozen R5.out.page 1; have hy2 := blk_frozen R5.out.page 2; have hy3 := blk_frozen R5.out.page 3; have hy4 := blk_frozen R5.out.page 4; have hy5 := blk_frozen R5.out.page 5) | ((with_reducible refine gate_store (t := 44) (p := 7) rfl ?_); refine row_event rfl 44 (.tmp 7) (.tmp 27) rfl gp #[.int .i64 0, .int .i64 v1, .int .i64 0, .int .i64 0, .int .i64 0, .string (⟨#[]⟩ : ByteArray)] rfl (by first | rfl | (go_simp; done) | (go_simp; rfl)) 44 _ R5.out.page HI.out rfl (by simp [Value.oneCell']) ?_; intro w6 hw; have R6 := Aside0.mk (show RP w a gp g _ _ s a1 b1 w6 from by rw [hw]; exact R5.out.row _); clear hw R5) | ((with_reducible refine gate_callee (f := 53) rfl ?_); (with_reducible refine gate_dst (N := 29) rfl ?_); refine goesL_ (some 29) rfl rfl Try.func53 (by kernel_rfl) rfl #[.pointer (some ⟨g, 0, none⟩)] rfl (by (try simp only [List.map_toArray, List.map_cons, List.map_nil]); first | done | rfl) ?_; (with_reducible refine (spec_l06Var.calls_ k g s a1 b1 v2 a2 b2 _ (R6.out).cur H2.out).mono ?_); rintro e w7 ⟨rfl, hc, hb⟩; refine ⟨_, rfl, ?_⟩; have R7 := Aside0.mk ((R6.out).call hc hb); clear hc hb; clear R6; have hzw72 : w7.cell? ⟨gp, 2, none⟩ = some (.int .i64 0) := (blk_cell R7.out.page 2).trans rfl; have hyw72 := blk_frozen R7.out.page 2) | ((with_reducible refine gate_store (t := 3) (p := 30) rfl ?_); refine store_event (t := 3) (p := 30) (v := ?vo_30) (w1 := (w7.setCell ⟨gp, 2, none⟩ (.int .i64 v2))) ?hg ?ho ?hn ?hr ?_; (case ho => rfl); (case hg => rfl); (case hn => rfl); (case hr => first | (go_simp; done) | (go_simp; rfl)); intro w8 hw; have R8 := Aside0.mk (show RP w a gp g _ #[.int .i64 0, .int .i64 v1, .int .i64 v2, .int .i64 0, .int .i64 0, .string (⟨#[]⟩ : ByteArray)] s a2 b2 w8 from by rw [hw]; exact R7.out.put 2 _ rfl); clear hw R7) | ((with_reducible refine gate_callee (f := 53) rfl ?_); (with_reducible refine gate_dst (N := 32) rfl ?_); refine goesL_ (some 32) rfl rfl Try.func53 (by kernel_rfl) rfl #[.pointer (some ⟨g, 0, none⟩)] rfl (by (try simp only [List.map_toArray, List.map_cons, List.map_nil]); first | done | rfl) ?_; (with_reducible refine (spec_l06Var.calls_ k g s a2 b2 v3 a3 b3 _ (R8.out).cur H3.out).mono ?_); rintro e w9 ⟨rfl, hc, hb⟩; refine ⟨_, rfl, ?_⟩; have R9 := Aside0.mk ((R8.out).call hc hb); clear hc hb; clear R8; have hzw93 : w9.cell? ⟨gp, 3, none⟩ = some (.int .i64 0) := (blk_cell R9.out.page 3).trans rfl; have hyw93 := blk_frozen R9.out.page 3) | ((with_reducible refine gate_store (t := 3) (p := 33) rfl ?_); refine store_event (t := 3) (p := 33) (v := ?vo_33) (w1 := (w9.setCell ⟨gp, 3, none⟩ (.int .i64 v3))) ?hg ?ho ?hn ?hr ?_; (case ho => rfl); (case hg => rfl); (case hn => rfl); (case hr => first | (go_simp; done) | (go_simp; rfl)); intro w10 hw; have R10 := Aside0.mk (show RP w a gp g _ #[.int .i64 0, .int .i64 v1, .int .i64 v2, .int .i64 v3, .int .i64 0, .string (⟨#[]⟩ : ByteArray)] s a3 b3 w10 from by rw [hw]; exact R9.out.put 3 _ rfl); clear hw R9) | ((with_reducible refine gate_callee (f := 53) rfl ?_); (with_reducible refine gate_dst (N := 35) rfl ?_); refine goesL_ (some 35) rfl rfl Try.func53 (by kernel_rfl) rfl #[.pointer (some ⟨g, 0, none⟩)] rfl (by (try simp only [List.map_toArray, List.map_cons, List.map_nil]); first | done | rfl) ?_; (with_reducible refine (spec_l06Var.calls_ k g s a3 b3 v4 a4 false _ (R10.out).cur H4.out).mono ?_); rintro e w11 ⟨rfl, hc, hb⟩; refine ⟨_, rfl, ?_⟩; have R11 := Aside0.mk ((R10.out).call hc hb); clear hc hb; clear R10; have hzw114 : w11.cell? ⟨gp, 4, none⟩ = some (.int .i64 0) := (blk_cell R11.out.page 4).trans rfl; have hyw114 := blk_frozen R11.out.page 4) | ((with_reducible refine gate_store (t := 3) (p := 36) rfl ?_); refine store_event (t := 3) (p := 36) (v := ?vo_36) (w1 := (w11.setCell ⟨gp, 4, none⟩ (.int .i64 v4))) ?hg ?ho ?hn ?hr ?_; (case ho => rfl); (case hg => rfl); (case hn => rfl); (case hr => first | (go_simp; done) | (go_simp; rfl)); intro w12 hw; have R12 := Aside0.mk (show RP w a gp g _ #[.int .i64 0, .int .i64 v1, .int .i64 v2, .int .i64 v3, .int .i64 v4, .string (⟨#[]⟩ : ByteArray)] s a4 _ w12 from by rw [hw]; exact R11.out.put 4 _ rfl); clear hw R11; have hb12 : w12.cell? ⟨g, 2, none⟩ = some (.bool false) := (blk_cell R12.out.cur 2).trans rfl; have ha12 : w12.cell? ⟨g, 1, none⟩ = some (.int .i64 a4) := (blk_cell R12.out.cur 1).trans rfl; have hzw120 : w12.cell? ⟨gp, 0, none⟩ = some (.int .i64 0) := (blk_cell R12.out.page 0).trans rfl; have hyw120 := blk_frozen R12.out.page 0; have hzw125 : w12.cell? ⟨gp, 5, none⟩ = some (.string (⟨#[]⟩ : ByteArray)) := (blk_cell R12.out.page 5).trans rfl; have hyw125 := blk_frozen R12.out.page 5) | ((with_reducible refine gate_store (t := 3) (p := 45) rfl ?_); refine store_event (t := 3) (p := 45) (v := ?vo_45) (w1 := (w12.setCell ⟨gp, 0, none⟩ (.int .i64 (bt s 0)))) ?hg ?ho ?hn ?hr ?_; (case ho => rfl); (case hg => rfl); (case hn => rfl); (case hr => first | (go_simp; done) | (go_simp; rfl)); intro w13 hw; have R13 := Aside0.mk (show RP w a gp g _ #[.int .i64 (bt s 0), .int .i64 v1, .int .i64 v2, .int .i64 v3, .int .i64 v4, .string (⟨#[]⟩ : ByteArray)] s a4 false w13 from by rw [hw]; exact R12.out.put 0 _ rfl); clear hw R12; have ha13 : w13.cell? ⟨g, 1, none⟩ = some (.int .i64 a4) := (blk_cell R13.out.cur 1).trans rfl; have hzw135 : w13.cell? ⟨gp, 5, none⟩ = some (.string (⟨#[]⟩ : ByteArray)) := (blk_cell R13.out.page 5).trans rfl; have hyw135 := blk_frozen R13.out.page 5) | ((with_reducible refine gate_store (t := 9) (p := 52) rfl ?_); refine store_event (t := 9) (p := 52) (v := ?vo_52) (w1 := (w13.setCell ⟨gp, 5, none⟩ (.string (s.extract a4.toNat s.size)))) ?hg ?ho ?hn ?hr ?_; (case ho => rfl); (case hg => rfl); (case hn => rfl); (case hr => first | (go_simp; done) | (go_simp; rfl)); intro w14 hw; have R14 := Aside0.mk (show RP w a gp g _ #[.int .i64 (bt s 0), .int .i64 v1, .int .i64 v2, .int .i64 v3, .int .i64 v4, .string (s.extract a4.toNat s.size)] s a4 false w14 from by rw [hw]; exact R13.out.put 5 _ rfl); clear hw R13) | ((with_reducible refine gate_dst (N := 54) rfl ?_); refine wpList_load_row rfl 44 (.tmp 7) rfl gp rfl 44 _ (0, 0) _ R14.out.page hu44 rfl HI.out ?_) | ((with_reducible refine gate_callee (f := 54) rfl ?_); (with_reducible refine gate_dst (N := 55) rfl ?_); refine goesL_ (some 55) rfl rfl Try.func54 (by kernel_rfl) rfl #[.agg #[.int .i64 (bt s 0), .int .i64 v1, .int .i64 v2, .int .i64 v3, .int .i64 v4, .string (s.extract a4.toNat s.size)]] rfl (by (try simp only [List.map_toArray, List.map_cons, List.map_nil]); first | done | rfl) ?_; (with_reducible refine (spec_PageText.calls k (bt s 0) v1 v2 v3 v4 (s.extract a4.toNat s.size) back _ _ HP.out).mono ?_); rintro e w15 ⟨rfl, hb⟩; refine ⟨_, rfl, ?_⟩; have R15 := Aside0.mk (R14.out.kept hb); clear hb R14) | ((with_reducible refine gate_store (t := 44) (p := 2) rfl ?_); refine row_event rfl 44 (.tmp 2) (.tmp 65) rfl a #[.int .i64 0, .int .i64 0, .int .i64 0, .int .i64 0, .int .i64 0, .string (⟨#[]⟩ : ByteArray)] rfl (by first | rfl | (go_simp; done) | (go_simp; rfl)) 44 _ R15.out.res HI.out rfl (by simp [Value.oneCell']) ?_; intro w16 hw; have RZ := Aside0.mk (show w16.heap[a]? = _ ∧ Below w.heap.size w w16 from by rw [hw]; exact R15.out.res_row _); clear hw))
    refine bodyPost_ret (results_row_tmp rfl _ _ a 44 #[.int .i64 0, .int .i64 0, .int .i64 0, .int .i64 0, .int .i64 0, .string (⟨#[]⟩ : ByteArray)] (0, 0) _ _ rfl rfl RZ.out.1 hu44 rfl HI.out) rfl ?_
    exact ⟨rfl, RZ.out.2⟩
set_option maxHeartbeats 4000000 in
set_option maxRecDepth 1000000 in
theorem spec_ReadPage.ne_ (k : Nat) (t s : ByteArray) (ok b0 : Bool) (v1 a1 v2 a2 v3 a3 v4 a4 : Int) (b1 b2 b3 : Bool) (back : ByteArray) (w : World)
    (hu : spec_Unsealed.f k t = some (s, ok)) (h0 : (!ok || decide ((s.size : Int) < 1)) = b0) (h1 : spec_l06Var.rd k s 1 b0 = some (v1, a1, b1)) (h2 : spec_l06Var.rd k s a1 b1 = some (v2, a2, b2)) (h3 : spec_l06Var.rd k s a2 b2 = some (v3, a3, b3)) (h4 : spec_l06Var.rd k s a3 b3 = some (v4, a4, false))
    (hs : 0 < s.size) (ha : 0 ≤ a4) (hb : a4 ≤ (s.size : Int)) (hp : spec_PageText.f k (bt s 0) v1 v2 v3 v4 (s.extract a4.toNat s.size) = some (back, true)) (hq : back ≠ t) :
    Calls Try.prog 26 #[.string t] w fun e w' => e = .returned (.tuple #[.agg #[.int .i64 0, .int .i64 0, .int .i64 0, .int .i64 0, .int .i64 0, .string (⟨#[]⟩ : ByteArray)], .bool false]) ∧ Below w.heap.size w w' := by
  have hu44 := Try.underlying44
  have HB := Aside0.mk (Below.refl w.heap.size w)
  have HU := Aside0.mk hu
  have H1 := Aside0.mk h1
  have H2 := Aside0.mk h2
  have H3 := Aside0.mk h3
  have H4 := Aside0.mk h4
  clear hu h1 h2 h3 h4
  have hi44 : (Try.prog.info? 44).map (·.size) = some 6 := by kernel_rfl
  have HI := Aside0.mk hi44
  clear hi44
  have hq0 : (back.toList == t.toList) = false := beq_eq_false_iff_ne.mpr (fun k => hq (toList_inj_ k))
  have hq1 : (back.toList != t.toList) = true := bne_iff_ne.mpr (fun k => hq (toList_inj_ k))
  have hs0 := hs
  have hs1 : decide (0 < s.size) = true := decide_eq_true hs
  have hx : ∀ h : 0 < s.size, ((s[0]'h).toNat : Int) = bt s 0 := bt_at s 0
  have hxw : wrap64 (bt s 0) = bt s 0 := by have := bt_range s 0; unfold wrap64; omega
  have hl0 : decide (0 ≤ a4) = true := decide_eq_true ha
  have hl1 : decide (a4 ≤ (s.size : Int)) = true := decide_eq_true hb
  have hl2 := eq_true ha
  have hl3 := eq_true hb
  have HP := Aside0.mk hp
  clear hs ha hb hp
  cases ok with
  | false =>
    go_enter Try.func26, Try.ntmps26
    go_wp2_with (first | ((with_reducible refine gate_dst (N := 2) rfl ?_); refine box_event ?hg (N := 2) ?hd (cs := #[.int .i64 0, .int .i64 0, .int .i64 0, .int .i64 0, .int .i64 0, .string (⟨#[]⟩ : ByteArray)]) (t := 44) ?hr ?_; (case hd => rfl); (case hg => rfl); (case hr => first | (go_simp; done) | (go_simp; rfl)); intro a hg w1 hbox hb; have BA := Aside0.mk hbox; have HB1 := Aside0.mk (below_step HB.out hb); have GA := Aside0.mk ((by rw [hg]; exact below_size HB.out) : w.heap.size ≤ a); clear hg hbox hb HB) | ((with_reducible refine gate_callee (f := 52) rfl ?_); (with_reducible refine gate_dst (N := 12) rfl ?_); refine goesL_ (some 12) rfl rfl Try.func52 (by kernel_rfl) rfl #[.string t] rfl (by (try simp only [List.map_toArray, List.map_cons, List.map_nil]); first | done | rfl) ?_; (with_reducible refine (spec_Unsealed.calls k t s _ _ HU.out).mono ?_); rintro e w2 ⟨rfl, hb⟩; refine ⟨_, rfl, ?_⟩; have BA2 := Aside0.mk (blk_below BA.out hb); have HB2 := Aside0.mk (below_step HB1.out hb); clear hb BA HB1) | ((with_reducible refine gate_dst (N := 24) rfl ?_); refine box_event ?hg (N := 24) ?hd (cs := #[.string s, .int .i64 1, .bool b0]) (t := 75) ?hr ?_; (case hd => rfl); (case hg => rfl); (case hr => rw [← h0]; first | (go_simp; done) | (go_simp; rfl)); intro g hg w3 hbox hb; have R3 := Aside0.mk (⟨blk_below BA2.out hb, hbox, (by rw [hg]; exact Nat.ne_of_lt (blk_lt BA2.out)), GA.out, (by rw [hg]; exact below_size HB2.out), below_step HB2.out hb⟩ : R1 w a g _ s 1 b0 w3); clear hg hbox hb BA2 HB2 GA) | ((with_reducible refine gate_callee (f := 53) rfl ?_); (with_reducible refine gate_dst (N := 26) rfl ?_); refine goesL_ (some 26) rfl rfl Try.func53 (by kernel_rfl) rfl #[.pointer (some ⟨g, 0, none⟩)] rfl (by (try simp only [List.map_toArray, List.map_cons, List.map_nil]); first | done | rfl) ?_; (with_reducible refine (spec_l06Var.calls_ k g s 1 b0 v1 a1 b1 _ R3.out.cur H1.out).mono ?_); rintro e w4 ⟨rfl, hc, hb⟩; refine ⟨_, rfl, ?_⟩; have R4 := Aside0.mk (R3.out.call hc hb); clear hc hb R3) | ((with_reducible refine gate_dst (N := 7) rfl ?_); refine box_event ?hg (N := 7) ?hd (cs := #[.int .i64 0, .int .i64 0, .int .i64 0, .int .i64 0, .int .i64 0, .string (⟨#[]⟩ : ByteArray)]) (t := 44) ?hr ?_; (case hd => rfl); (case hg => rfl); (case hr => first | (go_simp; done) | (go_simp; rfl)); intro gp hg w5 hbox hb; have R5 := Aside0.mk (R4.out.box hg hbox hb); clear hg hbox hb R4; have hz0 : w5.cell? ⟨gp, 0, none⟩ = some (.int .i64 0) := (blk_cell R5.out.page 0).trans rfl; have hz1 : w5.cell? ⟨gp, 1, none⟩ = some (.int .i64 0) := (blk_cell R5.out.page 1).trans rfl; have hz2 : w5.cell? ⟨gp, 2, none⟩ = some (.int .i64 0) := (blk_cell R5.out.page 2).trans rfl; have hz3 : w5.cell? ⟨gp, 3, none⟩ = some (.int .i64 0) := (blk_cell R5.out.page 3).trans rfl; have hz4 : w5.cell? ⟨gp, 4, none⟩ = some (.int .i64 0) := (blk_cell R5.out.page 4).trans rfl; have hz5 : w5.cell? ⟨gp, 5, none⟩ = some (.string (⟨#[]⟩ : ByteArray)) := (blk_cell R5.out.page 5).trans rfl; have hy0 := blk_frozen R5.out.page 0; have hy1 := blk_frozen R5.out.page 1; have hy2 := blk_frozen R5.out.page 2; have hy3 := blk_frozen R5.out.page 3; have hy4 := blk_frozen R5.out.page 4; have hy5 := blk_frozen R5.out.page 5) | ((with_reducible refine gate_store (t := 44) (p := 7) rfl ?_); refine row_event rfl 44 (.tmp 7) (.tmp 27) rfl gp #[.int .i64 0, .int .i64 v1, .int .i64 0, .int .i64 0, .int .i64 0, .string (⟨#[]⟩ : ByteArray)] rfl (by first | rfl | (go_simp; done) | (go_simp; rfl)) 44 _ R5.out.page HI.out rfl (by simp [Value.oneCell']) ?_; intro w6 hw; have R6 := Aside0.mk (show RP w a gp g _ _ s a1 b1 w6 from by rw [hw]; exact R5.out.row _); clear hw R5) | ((with_reducible refine gate_callee (f := 53) rfl ?_); (with_reducible refine gate_dst (N := 29) rfl ?_); refine goesL_ (some 29) rfl rfl Try.func53 (by kernel_rfl) rfl #[.pointer (some ⟨g, 0, none⟩)] rfl (by (try simp only [List.map_toArray, List.map_cons, List.map_nil]); first | done | rfl) ?_; (with_reducible refine (spec_l06Var.calls_ k g s a1 b1 v2 a2 b2 _ (R6.out).cur H2.out).mono ?_); rintro e w7 ⟨rfl, hc, hb⟩; refine ⟨_, rfl, ?_⟩; have R7 := Aside0.mk ((R6.out).call hc hb); clear hc hb; clear R6; have hzw72 : w7.cell? ⟨gp, 2, none⟩ = some (.int .i64 0) := (blk_cell R7.out.page 2).trans rfl; have hyw72 := blk_frozen R7.out.page 2) | ((with_reducible refine gate_store (t := 3) (p := 30) rfl ?_); refine store_event (t := 3) (p := 30) (v := ?vo_30) (w1 := (w7.setCell ⟨gp, 2, none⟩ (.int .i64 v2))) ?hg ?ho ?hn ?hr ?_; (case ho => rfl); (case hg => rfl); (case hn => rfl); (case hr => first | (go_simp; done) | (go_simp; rfl)); intro w8 hw; have R8 := Aside0.mk (show RP w a gp g _ #[.int .i64 0, .int .i64 v1, .int .i64 v2, .int .i64 0, .int .i64 0, .string (⟨#[]⟩ : ByteArray)] s a2 b2 w8 from by rw [hw]; exact R7.out.put 2 _ rfl); clear hw R7) | ((with_reducible refine gate_callee (f := 53) rfl ?_); (with_reducible refine gate_dst (N := 32) rfl ?_); refine goesL_ (some 32) rfl rfl Try.func53 (by kernel_rfl) rfl #[.pointer (some ⟨g, 0, none⟩)] rfl (by (try simp only [List.map_toArray, List.map_cons, List.map_nil]); first | done | rfl) ?_; (with_reducible refine (spec_l06Var.calls_ k g s a2 b2 v3 a3 b3 _ (R8.out).cur H3.out).mono ?_); rintro e w9 ⟨rfl, hc, hb⟩; refine ⟨_, rfl, ?_⟩; have R9 := Aside0.mk ((R8.out).call hc hb); clear hc hb; clear R8; have hzw93 : w9.cell? ⟨gp, 3, none⟩ = some (.int .i64 0) := (blk_cell R9.out.page 3).trans rfl; have hyw93 := blk_frozen R9.out.page 3) | ((with_reducible refine gate_store (t := 3) (p := 33) rfl ?_); refine store_event (t := 3) (p := 33) (v := ?vo_33) (w1 := (w9.setCell ⟨gp, 3, none⟩ (.int .i64 v3))) ?hg ?ho ?hn ?hr ?_; (case ho => rfl); (case hg => rfl); (case hn => rfl); (case hr => first | (go_simp; done) | (go_simp; rfl)); intro w10 hw; have R10 := Aside0.mk (show RP w a gp g _ #[.int .i64 0, .int .i64 v1, .int .i64 v2, .int .i64 v3, .int .i64 0, .string (⟨#[]⟩ : ByteArray)] s a3 b3 w10 from by rw [hw]; exact R9.out.put 3 _ rfl); clear hw R9) | ((with_reducible refine gate_callee (f := 53) rfl ?_); (with_reducible refine gate_dst (N := 35) rfl ?_); refine goesL_ (some 35) rfl rfl Try.func53 (by kernel_rfl) rfl #[.pointer (some ⟨g, 0, none⟩)] rfl (by (try simp only [List.map_toArray, List.map_cons, List.map_nil]); first | done | rfl) ?_; (with_reducible refine (spec_l06Var.calls_ k g s a3 b3 v4 a4 false _ (R10.out).cur H4.out).mono ?_); rintro e w11 ⟨rfl, hc, hb⟩; refine ⟨_, rfl, ?_⟩; have R11 := Aside0.mk ((R10.out).call hc hb); clear hc hb; clear R10; have hzw114 : w11.cell? ⟨gp, 4, none⟩ = some (.int .i64 0) := (blk_cell R11.out.page 4).trans rfl; have hyw114 := blk_frozen R11.out.page 4) | ((with_reducible refine gate_store (t := 3) (p := 36) rfl ?_); refine store_event (t := 3) (p := 36) (v := ?vo_36) (w1 := (w11.setCell ⟨gp, 4, none⟩ (.int .i64 v4))) ?hg ?ho ?hn ?hr ?_; (case ho => rfl); (case hg => rfl); (case hn => rfl); (case hr => first | (go_simp; done) | (go_simp; rfl)); intro w12 hw; have R12 := Aside0.mk (show RP w a gp g _ #[.int .i64 0, .int .i64 v1, .int .i64 v2, .int .i64 v3, .int .i64 v4, .string (⟨#[]⟩ : ByteArray)] s a4 _ w12 from by rw [hw]; exact R11.out.put 4 _ rfl); clear hw R11; have hb12 : w12.cell? ⟨g, 2, none⟩ = some (.bool false) := (blk_cell R12.out.cur 2).trans rfl; have ha12 : w12.cell? ⟨g, 1, none⟩ = some (.int .i64 a4) := (blk_cell R12.out.cur 1).trans rfl; have hzw120 : w12.cell? ⟨gp, 0, none⟩ = some (.int .i64 0) := (blk_cell R12.out.page 0).trans rfl; have hyw120 := blk_frozen R12.out.page 0; have hzw125 : w12.cell? ⟨gp, 5, none⟩ = some (.string (⟨#[]⟩ : ByteArray)) := (blk_cell R12.out.page 5).trans rfl; have hyw125 := blk_frozen R12.out.page 5) | ((with_reducible refine gate_store (t := 3) (p := 45) rfl ?_); refine store_event (t := 3) (p := 45) (v := ?vo_45) (w1 := (w12.setCell ⟨gp, 0, none⟩ (.int .i64 (bt s 0)))) ?hg ?ho ?hn ?hr ?_; (case ho => rfl); (case hg => rfl); (case hn => rfl); (case hr => first | (go_simp; done) | (go_simp; rfl)); intro w13 hw; have R13 := Aside0.mk (show RP w a gp g _ #[.int .i64 (bt s 0), .int .i64 v1, .int .i64 v2, .int .i64 v3, .int .i64 v4, .string (⟨#[]⟩ : ByteArray)] s a4 false w13 from by rw [hw]; exact R12.out.put 0 _ rfl); clear hw R12; have ha13 : w13.cell? ⟨g, 1, none⟩ = some (.int .i64 a4) := (blk_cell R13.out.cur 1).trans rfl; have hzw135 : w13.cell? ⟨gp, 5, none⟩ = some (.string (⟨#[]⟩ : ByteArray)) := (blk_cell R13.out.page 5).trans rfl; have hyw135 := blk_frozen R13.out.page 5) | ((with_reducible refine gate_store (t := 9) (p := 52) rfl ?_); refine store_event (t := 9) (p := 52) (v := ?vo_52) (w1 := (w13.setCell ⟨gp, 5, none⟩ (.string (s.extract a4.toNat s.size)))) ?hg ?ho ?hn ?hr ?_; (case ho => rfl); (case hg => rfl); (case hn => rfl); (case hr => first | (go_simp; done) | (go_simp; rfl)); intro w14 hw; have R14 := Aside0.mk (show RP w a gp g _ #[.int .i64 (bt s 0), .int .i64 v1, .int .i64 v2, .int .i64 v3, .int .i64 v4, .string (s.extract a4.toNat s.size)] s a4 false w14 from by rw [hw]; exact R13.out.put 5 _ rfl); clear hw R13) | ((with_reducible refine gate_dst (N := 54) rfl ?_); refine wpList_load_row rfl 44 (.tmp 7) rfl gp rfl 44 _ (0, 0) _ R14.out.page hu44 rfl HI.out ?_) | ((with_reducible refine gate_callee (f := 54) rfl ?_); (with_reducible refine gate_dst (N := 55) rfl ?_); refine goesL_ (some 55) rfl rfl Try.func54 (by kernel_rfl) rfl #[.agg #[.int .i64 (bt s 0), .int .i64 v1, .int .i64 v2, .int .i64 v3, .int .i64 v4, .string (s.extract a4.toNat s.size)]] rfl (by (try simp only [List.map_toArray, List.map_cons, List.map_nil]); first | done | rfl) ?_; (with_reducible refine (spec_PageText.calls k (bt s 0) v1 v2 v3 v4 (s.extract a4.toNat s.size) back _ _ HP.out).mono ?_); rintro e w15 ⟨rfl, hb⟩; refine ⟨_, rfl, ?_⟩; have R15 := Aside0.mk (R14.out.kept hb); clear hb R14) | ((with_reducible refine gate_store (t := 44) (p := 2) rfl ?_); refine row_event rfl 44 (.tmp 2) (.tmp 65) rfl a #[.int .i64 0, .int .i64 0, .int .i64 0, .int .i64 0, .int .i64 0, .string (⟨#[]⟩ : ByteArray)] rfl (by first | rfl | (go_simp; done) | (go_simp; rfl)) 44 _ R15.out.res HI.out rfl (by simp [Value.oneCell']) ?_; intro w16 hw; have RZ := Aside0.mk (show w16.heap[a]? = _ ∧ Below w.heap.size w w16 from by rw [hw]; exact R15.out.res_row _); clear hw))
    refine bodyPost_ret (results_row_tmp rfl _ _ a 44 #[.int .i64 0, .int .i64 0, .int .i64 0, .int .i64 0, .int .i64 0, .string (⟨#[]⟩ : ByteArray)] (0, 0) _ _ rfl rfl RZ.out.1 hu44 rfl HI.out) rfl ?_
    exact ⟨rfl, RZ.out.2⟩
  | true =>
    go_enter Try.func26, Try.ntmps26
    go_wp2_with (first | ((with_reducible refine gate_dst (N := 2) rfl ?_); refine box_event ?hg (N := 2) ?hd (cs := #[.int .i64 0, .int .i64 0, .int .i64 0, .int .i64 0, .int .i64 0, .string (⟨#[]⟩ : ByteArray)]) (t := 44) ?hr ?_; (case hd => rfl); (case hg => rfl); (case hr => first | (go_simp; done) | (go_simp; rfl)); intro a hg w1 hbox hb; have BA := Aside0.mk hbox; have HB1 := Aside0.mk (below_step HB.out hb); have GA := Aside0.mk ((by rw [hg]; exact below_size HB.out) : w.heap.size ≤ a); clear hg hbox hb HB) | ((with_reducible refine gate_callee (f := 52) rfl ?_); (with_reducible refine gate_dst (N := 12) rfl ?_); refine goesL_ (some 12) rfl rfl Try.func52 (by kernel_rfl) rfl #[.string t] rfl (by (try simp only [List.map_toArray, List.map_cons, List.map_nil]); first | done | rfl) ?_; (with_reducible refine (spec_Unsealed.calls k t s _ _ HU.out).mono ?_); rintro e w2 ⟨rfl, hb⟩; refine ⟨_, rfl, ?_⟩; have BA2 := Aside0.mk (blk_below BA.out hb); have HB2 := Aside0.mk (below_step HB1.out hb); clear hb BA HB1) | ((with_reducible refine gate_dst (N := 24) rfl ?_); refine box_event ?hg (N := 24) ?hd (cs := #[.string s, .int .i64 1, .bool b0]) (t := 75) ?hr ?_; (case hd => rfl); (case hg => rfl); (case hr => rw [← h0]; first | (go_simp; done) | (go_simp; rfl)); intro g hg w3 hbox hb; have R3 := Aside0.mk (⟨blk_below BA2.out hb, hbox, (by rw [hg]; exact Nat.ne_of_lt (blk_lt BA2.out)), GA.out, (by rw [hg]; exact below_size HB2.out), below_step HB2.out hb⟩ : R1 w a g _ s 1 b0 w3); clear hg hbox hb BA2 HB2 GA) | ((with_reducible refine gate_callee (f := 53) rfl ?_); (with_reducible refine gate_dst (N := 26) rfl ?_); refine goesL_ (some 26) rfl rfl Try.func53 (by kernel_rfl) rfl #[.pointer (some ⟨g, 0, none⟩)] rfl (by (try simp only [List.map_toArray, List.map_cons, List.map_nil]); first | done | rfl) ?_; (with_reducible refine (spec_l06Var.calls_ k g s 1 b0 v1 a1 b1 _ R3.out.cur H1.out).mono ?_); rintro e w4 ⟨rfl, hc, hb⟩; refine ⟨_, rfl, ?_⟩; have R4 := Aside0.mk (R3.out.call hc hb); clear hc hb R3) | ((with_reducible refine gate_dst (N := 7) rfl ?_); refine box_event ?hg (N := 7) ?hd (cs := #[.int .i64 0, .int .i64 0, .int .i64 0, .int .i64 0, .int .i64 0, .string (⟨#[]⟩ : ByteArray)]) (t := 44) ?hr ?_; (case hd => rfl); (case hg => rfl); (case hr => first | (go_simp; done) | (go_simp; rfl)); intro gp hg w5 hbox hb; have R5 := Aside0.mk (R4.out.box hg hbox hb); clear hg hbox hb R4; have hz0 : w5.cell? ⟨gp, 0, none⟩ = some (.int .i64 0) := (blk_cell R5.out.page 0).trans rfl; have hz1 : w5.cell? ⟨gp, 1, none⟩ = some (.int .i64 0) := (blk_cell R5.out.page 1).trans rfl; have hz2 : w5.cell? ⟨gp, 2, none⟩ = some (.int .i64 0) := (blk_cell R5.out.page 2).trans rfl; have hz3 : w5.cell? ⟨gp, 3, none⟩ = some (.int .i64 0) := (blk_cell R5.out.page 3).trans rfl; have hz4 : w5.cell? ⟨gp, 4, none⟩ = some (.int .i64 0) := (blk_cell R5.out.page 4).trans rfl; have hz5 : w5.cell? ⟨gp, 5, none⟩ = some (.string (⟨#[]⟩ : ByteArray)) := (blk_cell R5.out.page 5).trans rfl; have hy0 := blk_frozen R5.out.page 0; have hy1 := blk_frozen R5.out.page 1; have hy2 := blk_frozen R5.out.page 2; have hy3 := blk_frozen R5.out.page 3; have hy4 := blk_frozen R5.out.page 4; have hy5 := blk_frozen R5.out.page 5) | ((with_reducible refine gate_store (t := 44) (p := 7) rfl ?_); refine row_event rfl 44 (.tmp 7) (.tmp 27) rfl gp #[.int .i64 0, .int .i64 v1, .int .i64 0, .int .i64 0, .int .i64 0, .string (⟨#[]⟩ : ByteArray)] rfl (by first | rfl | (go_simp; done) | (go_simp; rfl)) 44 _ R5.out.page HI.out rfl (by simp [Value.oneCell']) ?_; intro w6 hw; have R6 := Aside0.mk (show RP w a gp g _ _ s a1 b1 w6 from by rw [hw]; exact R5.out.row _); clear hw R5) | ((with_reducible refine gate_callee (f := 53) rfl ?_); (with_reducible refine gate_dst (N := 29) rfl ?_); refine goesL_ (some 29) rfl rfl Try.func53 (by kernel_rfl) rfl #[.pointer (some ⟨g, 0, none⟩)] rfl (by (try simp only [List.map_toArray, List.map_cons, List.map_nil]); first | done | rfl) ?_; (with_reducible refine (spec_l06Var.calls_ k g s a1 b1 v2 a2 b2 _ (R6.out).cur H2.out).mono ?_); rintro e w7 ⟨rfl, hc, hb⟩; refine ⟨_, rfl, ?_⟩; have R7 := Aside0.mk ((R6.out).call hc hb); clear hc hb; clear R6; have hzw72 : w7.cell? ⟨gp, 2, none⟩ = some (.int .i64 0) := (blk_cell R7.out.page 2).trans rfl; have hyw72 := blk_frozen R7.out.page 2) | ((with_reducible refine gate_store (t := 3) (p := 30) rfl ?_); refine store_event (t := 3) (p := 30) (v := ?vo_30) (w1 := (w7.setCell ⟨gp, 2, none⟩ (.int .i64 v2))) ?hg ?ho ?hn ?hr ?_; (case ho => rfl); (case hg => rfl); (case hn => rfl); (case hr => first | (go_simp; done) | (go_simp; rfl)); intro w8 hw; have R8 := Aside0.mk (show RP w a gp g _ #[.int .i64 0, .int .i64 v1, .int .i64 v2, .int .i64 0, .int .i64 0, .string (⟨#[]⟩ : ByteArray)] s a2 b2 w8 from by rw [hw]; exact R7.out.put 2 _ rfl); clear hw R7) | ((with_reducible refine gate_callee (f := 53) rfl ?_); (with_reducible refine gate_dst (N := 32) rfl ?_); refine goesL_ (some 32) rfl rfl Try.func53 (by kernel_rfl) rfl #[.pointer (some ⟨g, 0, none⟩)] rfl (by (try simp only [List.map_toArray, List.map_cons, List.map_nil]); first | done | rfl) ?_; (with_reducible refine (spec_l06Var.calls_ k g s a2 b2 v3 a3 b3 _ (R8.out).cur H3.out).mono ?_); rintro e w9 ⟨rfl, hc, hb⟩; refine ⟨_, rfl, ?_⟩; have R9 := Aside0.mk ((R8.out).call hc hb); clear hc hb; clear R8; have hzw93 : w9.cell? ⟨gp, 3, none⟩ = some (.int .i64 0) := (blk_cell R9.out.page 3).trans rfl; have hyw93 := blk_frozen R9.out.page 3) | ((with_reducible refine gate_store (t := 3) (p := 33) rfl ?_); refine store_event (t := 3) (p := 33) (v := ?vo_33) (w1 := (w9.setCell ⟨gp, 3, none⟩ (.int .i64 v3))) ?hg ?ho ?hn ?hr ?_; (case ho => rfl); (case hg => rfl); (case hn => rfl); (case hr => first | (go_simp; done) | (go_simp; rfl)); intro w10 hw; have R10 := Aside0.mk (show RP w a gp g _ #[.int .i64 0, .int .i64 v1, .int .i64 v2, .int .i64 v3, .int .i64 0, .string (⟨#[]⟩ : ByteArray)] s a3 b3 w10 from by rw [hw]; exact R9.out.put 3 _ rfl); clear hw R9) | ((with_reducible refine gate_callee (f := 53) rfl ?_); (with_reducible refine gate_dst (N := 35) rfl ?_); refine goesL_ (some 35) rfl rfl Try.func53 (by kernel_rfl) rfl #[.pointer (some ⟨g, 0, none⟩)] rfl (by (try simp only [List.map_toArray, List.map_cons, List.map_nil]); first | done | rfl) ?_; (with_reducible refine (spec_l06Var.calls_ k g s a3 b3 v4 a4 false _ (R10.out).cur H4.out).mono ?_); rintro e w11 ⟨rfl, hc, hb⟩; refine ⟨_, rfl, ?_⟩; have R11 := Aside0.mk ((R10.out).call hc hb); clear hc hb; clear R10; have hzw114 : w11.cell? ⟨gp, 4, none⟩ = some (.int .i64 0) := (blk_cell R11.out.page 4).trans rfl; have hyw114 := blk_frozen R11.out.page 4) | ((with_reducible refine gate_store (t := 3) (p := 36) rfl ?_); refine store_event (t := 3) (p := 36) (v := ?vo_36) (w1 := (w11.setCell ⟨gp, 4, none⟩ (.int .i64 v4))) ?hg ?ho ?hn ?hr ?_; (case ho => rfl); (case hg => rfl); (case hn => rfl); (case hr => first | (go_simp; done) | (go_simp; rfl)); intro w12 hw; have R12 := Aside0.mk (show RP w a gp g _ #[.int .i64 0, .int .i64 v1, .int .i64 v2, .int .i64 v3, .int .i64 v4, .string (⟨#[]⟩ : ByteArray)] s a4 _ w12 from by rw [hw]; exact R11.out.put 4 _ rfl); clear hw R11; have hb12 : w12.cell? ⟨g, 2, none⟩ = some (.bool false) := (blk_cell R12.out.cur 2).trans rfl; have ha12 : w12.cell? ⟨g, 1, none⟩ = some (.int .i64 a4) := (blk_cell R12.out.cur 1).trans rfl; have hzw120 : w12.cell? ⟨gp, 0, none⟩ = some (.int .i64 0) := (blk_cell R12.out.page 0).trans rfl; have hyw120 := blk_frozen R12.out.page 0; have hzw125 : w12.cell? ⟨gp, 5, none⟩ = some (.string (⟨#[]⟩ : ByteArray)) := (blk_cell R12.out.page 5).trans rfl; have hyw125 := blk_frozen R12.out.page 5) | ((with_reducible refine gate_store (t := 3) (p := 45) rfl ?_); refine store_event (t := 3) (p := 45) (v := ?vo_45) (w1 := (w12.setCell ⟨gp, 0, none⟩ (.int .i64 (bt s 0)))) ?hg ?ho ?hn ?hr ?_; (case ho => rfl); (case hg => rfl); (case hn => rfl); (case hr => first | (go_simp; done) | (go_simp; rfl)); intro w13 hw; have R13 := Aside0.mk (show RP w a gp g _ #[.int .i64 (bt s 0), .int .i64 v1, .int .i64 v2, .int .i64 v3, .int .i64 v4, .string (⟨#[]⟩ : ByteArray)] s a4 false w13 from by rw [hw]; exact R12.out.put 0 _ rfl); clear hw R12; have ha13 : w13.cell? ⟨g, 1, none⟩ = some (.int .i64 a4) := (blk_cell R13.out.cur 1).trans rfl; have hzw135 : w13.cell? ⟨gp, 5, none⟩ = some (.string (⟨#[]⟩ : ByteArray)) := (blk_cell R13.out.page 5).trans rfl; have hyw135 := blk_frozen R13.out.page 5) | ((with_reducible refine gate_store (t := 9) (p := 52) rfl ?_); refine store_event (t := 9) (p := 52) (v := ?vo_52) (w1 := (w13.setCell ⟨gp, 5, none⟩ (.string (s.extract a4.toNat s.size)))) ?hg ?ho ?hn ?hr ?_; (case ho => rfl); (case hg => rfl); (case hn => rfl); (case hr => first | (go_simp; done) | (go_simp; rfl)); intro w14 hw; have R14 := Aside0.mk (show RP w a gp g _ #[.int .i64 (bt s 0), .int .i64 v1, .int .i64 v2, .int .i64 v3, .int .i64 v4, .string (s.extract a4.toNat s.size)] s a4 false w14 from by rw [hw]; exact R13.out.put 5 _ rfl); clear hw R13) | ((with_reducible refine gate_dst (N := 54) rfl ?_); refine wpList_load_row rfl 44 (.tmp 7) rfl gp rfl 44 _ (0, 0) _ R14.out.page hu44 rfl HI.out ?_) | ((with_reducible refine gate_callee (f := 54) rfl ?_); (with_reducible refine gate_dst (N := 55) rfl ?_); refine goesL_ (some 55) rfl rfl Try.func54 (by kernel_rfl) rfl #[.agg #[.int .i64 (bt s 0), .int .i64 v1, .int .i64 v2, .int .i64 v3, .int .i64 v4, .string (s.extract a4.toNat s.size)]] rfl (by (try simp only [List.map_toArray, List.map_cons, List.map_nil]); first | done | rfl) ?_; (with_reducible refine (spec_PageText.calls k (bt s 0) v1 v2 v3 v4 (s.extract a4.toNat s.size) back _ _ HP.out).mono ?_); rintro e w15 ⟨rfl, hb⟩; refine ⟨_, rfl, ?_⟩; have R15 := Aside0.mk (R14.out.kept hb); clear hb R14) | ((with_reducible refine gate_store (t := 44) (p := 2) rfl ?_); refine row_event rfl 44 (.tmp 2) (.tmp 65) rfl a #[.int .i64 0, .int .i64 0, .int .i64 0, .int .i64 0, .int .i64 0, .string (⟨#[]⟩ : ByteArray)] rfl (by first | rfl | (go_simp; done) | (go_simp; rfl)) 44 _ R15.out.res HI.out rfl (by simp [Value.oneCell']) ?_; intro w16 hw; have RZ := Aside0.mk (show w16.heap[a]? = _ ∧ Below w.heap.size w w16 from by rw [hw]; exact R15.out.res_row _); clear hw))
    refine bodyPost_ret (results_row_tmp rfl _ _ a 44 #[.int .i64 0, .int .i64 0, .int .i64 0, .int .i64 0, .int .i64 0, .string (⟨#[]⟩ : ByteArray)] (0, 0) _ _ rfl rfl RZ.out.1 hu44 rfl HI.out) rfl ?_
    exact ⟨rfl, RZ.out.2⟩
set_option maxHeartbeats 4000000 in
set_option maxRecDepth 1000000 in
theorem spec_ReadPage.ok_ (k : Nat) (t s : ByteArray) (ok b0 : Bool) (v1 a1 v2 a2 v3 a3 v4 a4 : Int) (b1 b2 b3 : Bool) (w : World)
    (hu : spec_Unsealed.f k t = some (s, ok)) (h0 : (!ok || decide ((s.size : Int) < 1)) = b0) (h1 : spec_l06Var.rd k s 1 b0 = some (v1, a1, b1)) (h2 : spec_l06Var.rd k s a1 b1 = some (v2, a2, b2)) (h3 : spec_l06Var.rd k s a2 b2 = some (v3, a3, b3)) (h4 : spec_l06Var.rd k s a3 b3 = some (v4, a4, false))
    (hs : 0 < s.size) (ha : 0 ≤ a4) (hb : a4 ≤ (s.size : Int)) (hp : spec_PageText.f k (bt s 0) v1 v2 v3 v4 (s.extract a4.toNat s.size) = some (t, true)) :
    Calls Try.prog 26 #[.string t] w fun e w' => e = .returned (.tuple #[.agg #[.int .i64 (bt s 0), .int .i64 v1, .int .i64 v2, .int .i64 v3, .int .i64 v4, .string (s.extract a4.toNat s.size)], .bool true]) ∧ Below w.heap.size w w' := by
  have hu44 := Try.underlying44
  have HB := Aside0.mk (Below.refl w.heap.size w)
  have HU := Aside0.mk hu
  have H1 := Aside0.mk h1
  have H2 := Aside0.mk h2
  have H3 := Aside0.mk h3
  have H4 := Aside0.mk h4
  clear hu h1 h2 h3 h4
  have hi44 : (Try.prog.info? 44).map (·.size) = some 6 := by kernel_rfl
  have HI := Aside0.mk hi44
  clear hi44
  have hs0 := hs
  have hs1 : decide (0 < s.size) = true := decide_eq_true hs
  have hx : ∀ h : 0 < s.size, ((s[0]'h).toNat : Int) = bt s 0 := bt_at s 0
  have hxw : wrap64 (bt s 0) = bt s 0 := by have := bt_range s 0; unfold wrap64; omega
  have hl0 : decide (0 ≤ a4) = true := decide_eq_true ha
  have hl1 : decide (a4 ≤ (s.size : Int)) = true := decide_eq_true hb
  have hl2 := eq_true ha
  have hl3 := eq_true hb
  have HP := Aside0.mk hp
  clear hs ha hb hp
  cases ok with
  | false =>
    go_enter Try.func26, Try.ntmps26
    go_wp2_with (first | ((with_reducible refine gate_dst (N := 2) rfl ?_); refine box_event ?hg (N := 2) ?hd (cs := #[.int .i64 0, .int .i64 0, .int .i64 0, .int .i64 0, .int .i64 0, .string (⟨#[]⟩ : ByteArray)]) (t := 44) ?hr ?_; (case hd => rfl); (case hg => rfl); (case hr => first | (go_simp; done) | (go_simp; rfl)); intro a hg w1 hbox hb; have BA := Aside0.mk hbox; have HB1 := Aside0.mk (below_step HB.out hb); have GA := Aside0.mk ((by rw [hg]; exact below_size HB.out) : w.heap.size ≤ a); clear hg hbox hb HB) | ((with_reducible refine gate_callee (f := 52) rfl ?_); (with_reducible refine gate_dst (N := 12) rfl ?_); refine goesL_ (some 12) rfl rfl Try.func52 (by kernel_rfl) rfl #[.string t] rfl (by (try simp only [List.map_toArray, List.map_cons, List.map_nil]); first | done | rfl) ?_; (with_reducible refine (spec_Unsealed.calls k t s _ _ HU.out).mono ?_); rintro e w2 ⟨rfl, hb⟩; refine ⟨_, rfl, ?_⟩; have BA2 := Aside0.mk (blk_below BA.out hb); have HB2 := Aside0.mk (below_step HB1.out hb); clear hb BA HB1) | ((with_reducible refine gate_dst (N := 24) rfl ?_); refine box_event ?hg (N := 24) ?hd (cs := #[.string s, .int .i64 1, .bool b0]) (t := 75) ?hr ?_; (case hd => rfl); (case hg => rfl); (case hr => rw [← h0]; first | (go_simp; done) | (go_simp; rfl)); intro g hg w3 hbox hb; have R3 := Aside0.mk (⟨blk_below BA2.out hb, hbox, (by rw [hg]; exact Nat.ne_of_lt (blk_lt BA2.out)), GA.out, (by rw [hg]; exact below_size HB2.out), below_step HB2.out hb⟩ : R1 w a g _ s 1 b0 w3); clear hg hbox hb BA2 HB2 GA) | ((with_reducible refine gate_callee (f := 53) rfl ?_); (with_reducible refine gate_dst (N := 26) rfl ?_); refine goesL_ (some 26) rfl rfl Try.func53 (by kernel_rfl) rfl #[.pointer (some ⟨g, 0, none⟩)] rfl (by (try simp only [List.map_toArray, List.map_cons, List.map_nil]); first | done | rfl) ?_; (with_reducible refine (spec_l06Var.calls_ k g s 1 b0 v1 a1 b1 _ R3.out.cur H1.out).mono ?_); rintro e w4 ⟨rfl, hc, hb⟩; refine ⟨_, rfl, ?_⟩; have R4 := Aside0.mk (R3.out.call hc hb); clear hc hb R3) | ((with_reducible refine gate_dst (N := 7) rfl ?_); refine box_event ?hg (N := 7) ?hd (cs := #[.int .i64 0, .int .i64 0, .int .i64 0, .int .i64 0, .int .i64 0, .string (⟨#[]⟩ : ByteArray)]) (t := 44) ?hr ?_; (case hd => rfl); (case hg => rfl); (case hr => first | (go_simp; done) | (go_simp; rfl)); intro gp hg w5 hbox hb; have R5 := Aside0.mk (R4.out.box hg hbox hb); clear hg hbox hb R4; have hz0 : w5.cell? ⟨gp, 0, none⟩ = some (.int .i64 0) := (blk_cell R5.out.page 0).trans rfl; have hz1 : w5.cell? ⟨gp, 1, none⟩ = some (.int .i64 0) := (blk_cell R5.out.page 1).trans rfl; have hz2 : w5.cell? ⟨gp, 2, none⟩ = some (.int .i64 0) := (blk_cell R5.out.page 2).trans rfl; have hz3 : w5.cell? ⟨gp, 3, none⟩ = some (.int .i64 0) := (blk_cell R5.out.page 3).trans rfl; have hz4 : w5.cell? ⟨gp, 4, none⟩ = some (.int .i64 0) := (blk_cell R5.out.page 4).trans rfl; have hz5 : w5.cell? ⟨gp, 5, none⟩ = some (.string (⟨#[]⟩ : ByteArray)) := (blk_cell R5.out.page 5).trans rfl; have hy0 := blk_frozen R5.out.page 0; have hy1 := blk_frozen R5.out.page 1; have hy2 := blk_frozen R5.out.page 2; have hy3 := blk_frozen R5.out.page 3; have hy4 := blk_frozen R5.out.page 4; have hy5 := blk_frozen R5.out.page 5) | ((with_reducible refine gate_store (t := 44) (p := 7) rfl ?_); refine row_event rfl 44 (.tmp 7) (.tmp 27) rfl gp #[.int .i64 0, .int .i64 v1, .int .i64 0, .int .i64 0, .int .i64 0, .string (⟨#[]⟩ : ByteArray)] rfl (by first | rfl | (go_simp; done) | (go_simp; rfl)) 44 _ R5.out.page HI.out rfl (by simp [Value.oneCell']) ?_; intro w6 hw; have R6 := Aside0.mk (show RP w a gp g _ _ s a1 b1 w6 from by rw [hw]; exact R5.out.row _); clear hw R5) | ((with_reducible refine gate_callee (f := 53) rfl ?_); (with_reducible refine gate_dst (N := 29) rfl ?_); refine goesL_ (some 29) rfl rfl Try.func53 (by kernel_rfl) rfl #[.pointer (some ⟨g, 0, none⟩)] rfl (by (try simp only [List.map_toArray, List.map_cons, List.map_nil]); first | done | rfl) ?_; (with_reducible refine (spec_l06Var.calls_ k g s a1 b1 v2 a2 b2 _ (R6.out).cur H2.out).mono ?_); rintro e w7 ⟨rfl, hc, hb⟩; refine ⟨_, rfl, ?_⟩; have R7 := Aside0.mk ((R6.out).call hc hb); clear hc hb; clear R6; have hzw72 : w7.cell? ⟨gp, 2, none⟩ = some (.int .i64 0) := (blk_cell R7.out.page 2).trans rfl; have hyw72 := blk_frozen R7.out.page 2) | ((with_reducible refine gate_store (t := 3) (p := 30) rfl ?_); refine store_event (t := 3) (p := 30) (v := ?vo_30) (w1 := (w7.setCell ⟨gp, 2, none⟩ (.int .i64 v2))) ?hg ?ho ?hn ?hr ?_; (case ho => rfl); (case hg => rfl); (case hn => rfl); (case hr => first | (go_simp; done) | (go_simp; rfl)); intro w8 hw; have R8 := Aside0.mk (show RP w a gp g _ #[.int .i64 0, .int .i64 v1, .int .i64 v2, .int .i64 0, .int .i64 0, .string (⟨#[]⟩ : ByteArray)] s a2 b2 w8 from by rw [hw]; exact R7.out.put 2 _ rfl); clear hw R7) | ((with_reducible refine gate_callee (f := 53) rfl ?_); (with_reducible refine gate_dst (N := 32) rfl ?_); refine goesL_ (some 32) rfl rfl Try.func53 (by kernel_rfl) rfl #[.pointer (some ⟨g, 0, none⟩)] rfl (by (try simp only [List.map_toArray, List.map_cons, List.map_nil]); first | done | rfl) ?_; (with_reducible refine (spec_l06Var.calls_ k g s a2 b2 v3 a3 b3 _ (R8.out).cur H3.out).mono ?_); rintro e w9 ⟨rfl, hc, hb⟩; refine ⟨_, rfl, ?_⟩; have R9 := Aside0.mk ((R8.out).call hc hb); clear hc hb; clear R8; have hzw93 : w9.cell? ⟨gp, 3, none⟩ = some (.int .i64 0) := (blk_cell R9.out.page 3).trans rfl; have hyw93 := blk_frozen R9.out.page 3) | ((with_reducible refine gate_store (t := 3) (p := 33) rfl ?_); refine store_event (t := 3) (p := 33) (v := ?vo_33) (w1 := (w9.setCell ⟨gp, 3, none⟩ (.int .i64 v3))) ?hg ?ho ?hn ?hr ?_; (case ho => rfl); (case hg => rfl); (case hn => rfl); (case hr => first | (go_simp; done) | (go_simp; rfl)); intro w10 hw; have R10 := Aside0.mk (show RP w a gp g _ #[.int .i64 0, .int .i64 v1, .int .i64 v2, .int .i64 v3, .int .i64 0, .string (⟨#[]⟩ : ByteArray)] s a3 b3 w10 from by rw [hw]; exact R9.out.put 3 _ rfl); clear hw R9) | ((with_reducible refine gate_callee (f := 53) rfl ?_); (with_reducible refine gate_dst (N := 35) rfl ?_); refine goesL_ (some 35) rfl rfl Try.func53 (by kernel_rfl) rfl #[.pointer (some ⟨g, 0, none⟩)] rfl (by (try simp only [List.map_toArray, List.map_cons, List.map_nil]); first | done | rfl) ?_; (with_reducible refine (spec_l06Var.calls_ k g s a3 b3 v4 a4 false _ (R10.out).cur H4.out).mono ?_); rintro e w11 ⟨rfl, hc, hb⟩; refine ⟨_, rfl, ?_⟩; have R11 := Aside0.mk ((R10.out).call hc hb); clear hc hb; clear R10; have hzw114 : w11.cell? ⟨gp, 4, none⟩ = some (.int .i64 0) := (blk_cell R11.out.page 4).trans rfl; have hyw114 := blk_frozen R11.out.page 4) | ((with_reducible refine gate_store (t := 3) (p := 36) rfl ?_); refine store_event (t := 3) (p := 36) (v := ?vo_36) (w1 := (w11.setCell ⟨gp, 4, none⟩ (.int .i64 v4))) ?hg ?ho ?hn ?hr ?_; (case ho => rfl); (case hg => rfl); (case hn => rfl); (case hr => first | (go_simp; done) | (go_simp; rfl)); intro w12 hw; have R12 := Aside0.mk (show RP w a gp g _ #[.int .i64 0, .int .i64 v1, .int .i64 v2, .int .i64 v3, .int .i64 v4, .string (⟨#[]⟩ : ByteArray)] s a4 _ w12 from by rw [hw]; exact R11.out.put 4 _ rfl); clear hw R11; have hb12 : w12.cell? ⟨g, 2, none⟩ = some (.bool false) := (blk_cell R12.out.cur 2).trans rfl; have ha12 : w12.cell? ⟨g, 1, none⟩ = some (.int .i64 a4) := (blk_cell R12.out.cur 1).trans rfl; have hzw120 : w12.cell? ⟨gp, 0, none⟩ = some (.int .i64 0) := (blk_cell R12.out.page 0).trans rfl; have hyw120 := blk_frozen R12.out.page 0; have hzw125 : w12.cell? ⟨gp, 5, none⟩ = some (.string (⟨#[]⟩ : ByteArray)) := (blk_cell R12.out.page 5).trans rfl; have hyw125 := blk_frozen R12.out.page 5) | ((with_reducible refine gate_store (t := 3) (p := 45) rfl ?_); refine store_event (t := 3) (p := 45) (v := ?vo_45) (w1 := (w12.setCell ⟨gp, 0, none⟩ (.int .i64 (bt s 0)))) ?hg ?ho ?hn ?hr ?_; (case ho => rfl); (case hg => rfl); (case hn => rfl); (case hr => first | (go_simp; done) | (go_simp; rfl)); intro w13 hw; have R13 := Aside0.mk (show RP w a gp g _ #[.int .i64 (bt s 0), .int .i64 v1, .int .i64 v2, .int .i64 v3, .int .i64 v4, .string (⟨#[]⟩ : ByteArray)] s a4 false w13 from by rw [hw]; exact R12.out.put 0 _ rfl); clear hw R12; have ha13 : w13.cell? ⟨g, 1, none⟩ = some (.int .i64 a4) := (blk_cell R13.out.cur 1).trans rfl; have hzw135 : w13.cell? ⟨gp, 5, none⟩ = some (.string (⟨#[]⟩ : ByteArray)) := (blk_cell R13.out.page 5).trans rfl; have hyw135 := blk_frozen R13.out.page 5) | ((with_reducible refine gate_store (t := 9) (p := 52) rfl ?_); refine store_event (t := 9) (p := 52) (v := ?vo_52) (w1 := (w13.setCell ⟨gp, 5, none⟩ (.string (s.extract a4.toNat s.size)))) ?hg ?ho ?hn ?hr ?_; (case ho => rfl); (case hg => rfl); (case hn => rfl); (case hr => first | (go_simp; done) | (go_simp; rfl)); intro w14 hw; have R14 := Aside0.mk (show RP w a gp g _ #[.int .i64 (bt s 0), .int .i64 v1, .int .i64 v2, .int .i64 v3, .int .i64 v4, .string (s.extract a4.toNat s.size)] s a4 false w14 from by rw [hw]; exact R13.out.put 5 _ rfl); clear hw R13) | ((with_reducible refine gate_dst (N := 54) rfl ?_); refine wpList_load_row rfl 44 (.tmp 7) rfl gp rfl 44 _ (0, 0) _ R14.out.page hu44 rfl HI.out ?_) | ((with_reducible refine gate_callee (f := 54) rfl ?_); (with_reducible refine gate_dst (N := 55) rfl ?_); refine goesL_ (some 55) rfl rfl Try.func54 (by kernel_rfl) rfl #[.agg #[.int .i64 (bt s 0), .int .i64 v1, .int .i64 v2, .int .i64 v3, .int .i64 v4, .string (s.extract a4.toNat s.size)]] rfl (by (try simp only [List.map_toArray, List.map_cons, List.map_nil]); first | done | rfl) ?_; (with_reducible refine (spec_PageText.calls k (bt s 0) v1 v2 v3 v4 (s.extract a4.toNat s.size) t _ _ HP.out).mono ?_); rintro e w15 ⟨rfl, hb⟩; refine ⟨_, rfl, ?_⟩; have R15 := Aside0.mk (R14.out.kept hb); clear hb R14) | ((with_reducible refine gate_dst (N := 66) rfl ?_); refine wpList_load_row rfl 44 (.tmp 7) rfl gp rfl 44 _ (0, 0) _ R15.out.page hu44 rfl HI.out ?_) | ((with_reducible refine gate_store (t := 44) (p := 2) rfl ?_); refine row_event rfl 44 (.tmp 2) (.tmp 66) rfl a #[.int .i64 (bt s 0), .int .i64 v1, .int .i64 v2, .int .i64 v3, .int .i64 v4, .string (s.extract a4.toNat s.size)] rfl (by first | rfl | (go_simp; done) | (go_simp; rfl)) 44 _ R15.out.res HI.out rfl (by simp [Value.oneCell']) ?_; intro w16 hw; have RZ := Aside0.mk (show w16.heap[a]? = _ ∧ Below w.heap.size w w16 from by rw [hw]; exact R15.out.res_row _); clear hw))
    refine bodyPost_ret (results_row_tmp rfl _ _ a 44 #[.int .i64 (bt s 0), .int .i64 v1, .int .i64 v2, .int .i64 v3, .int .i64 v4, .string (s.extract a4.toNat s.size)] (0, 0) _ _ rfl rfl RZ.out.1 hu44 rfl HI.out) rfl ?_
    exact ⟨rfl, RZ.out.2⟩
  | true =>
    go_enter Try.func26, Try.ntmps26
    go_wp2_with (first | ((with_reducible refine gate_dst (N := 2) rfl ?_); refine box_event ?hg (N := 2) ?hd (cs := #[.int .i64 0, .int .i64 0, .int .i64 0, .int .i64 0, .int .i64 0, .string (⟨#[]⟩ : ByteArray)]) (t := 44) ?hr ?_; (case hd => rfl); (case hg => rfl); (case hr => first | (go_simp; done) | (go_simp; rfl)); intro a hg w1 hbox hb; have BA := Aside0.mk hbox; have HB1 := Aside0.mk (below_step HB.out hb); have GA := Aside0.mk ((by rw [hg]; exact below_size HB.out) : w.heap.size ≤ a); clear hg hbox hb HB) | ((with_reducible refine gate_callee (f := 52) rfl ?_); (with_reducible refine gate_dst (N := 12) rfl ?_); refine goesL_ (some 12) rfl rfl Try.func52 (by kernel_rfl) rfl #[.string t] rfl (by (try simp only [List.map_toArray, List.map_cons, List.map_nil]); first | done | rfl) ?_; (with_reducible refine (spec_Unsealed.calls k t s _ _ HU.out).mono ?_); rintro e w2 ⟨rfl, hb⟩; refine ⟨_, rfl, ?_⟩; have BA2 := Aside0.mk (blk_below BA.out hb); have HB2 := Aside0.mk (below_step HB1.out hb); clear hb BA HB1) | ((with_reducible refine gate_dst (N := 24) rfl ?_); refine box_event ?hg (N := 24) ?hd (cs := #[.string s, .int .i64 1, .bool b0]) (t := 75) ?hr ?_; (case hd => rfl); (case hg => rfl); (case hr => rw [← h0]; first | (go_simp; done) | (go_simp; rfl)); intro g hg w3 hbox hb; have R3 := Aside0.mk (⟨blk_below BA2.out hb, hbox, (by rw [hg]; exact Nat.ne_of_lt (blk_lt BA2.out)), GA.out, (by rw [hg]; exact below_size HB2.out), below_step HB2.out hb⟩ : R1 w a g _ s 1 b0 w3); clear hg hbox hb BA2 HB2 GA) | ((with_reducible refine gate_callee (f := 53) rfl ?_); (with_reducible refine gate_dst (N := 26) rfl ?_); refine goesL_ (some 26) rfl rfl Try.func53 (by kernel_rfl) rfl #[.pointer (some ⟨g, 0, none⟩)] rfl (by (try simp only [List.map_toArray, List.map_cons, List.map_nil]); first | done | rfl) ?_; (with_reducible refine (spec_l06Var.calls_ k g s 1 b0 v1 a1 b1 _ R3.out.cur H1.out).mono ?_); rintro e w4 ⟨rfl, hc, hb⟩; refine ⟨_, rfl, ?_⟩; have R4 := Aside0.mk (R3.out.call hc hb); clear hc hb R3) | ((with_reducible refine gate_dst (N := 7) rfl ?_); refine box_event ?hg (N := 7) ?hd (cs := #[.int .i64 0, .int .i64 0, .int .i64 0, .int .i64 0, .int .i64 0, .string (⟨#[]⟩ : ByteArray)]) (t := 44) ?hr ?_; (case hd => rfl); (case hg => rfl); (case hr => first | (go_simp; done) | (go_simp; rfl)); intro gp hg w5 hbox hb; have R5 := Aside0.mk (R4.out.box hg hbox hb); clear hg hbox hb R4; have hz0 : w5.cell? ⟨gp, 0, none⟩ = some (.int .i64 0) := (blk_cell R5.out.page 0).trans rfl; have hz1 : w5.cell? ⟨gp, 1, none⟩ = some (.int .i64 0) := (blk_cell R5.out.page 1).trans rfl; have hz2 : w5.cell? ⟨gp, 2, none⟩ = some (.int .i64 0) := (blk_cell R5.out.page 2).trans rfl; have hz3 : w5.cell? ⟨gp, 3, none⟩ = some (.int .i64 0) := (blk_cell R5.out.page 3).trans rfl; have hz4 : w5.cell? ⟨gp, 4, none⟩ = some (.int .i64 0) := (blk_cell R5.out.page 4).trans rfl; have hz5 : w5.cell? ⟨gp, 5, none⟩ = some (.string (⟨#[]⟩ : ByteArray)) := (blk_cell R5.out.page 5).trans rfl; have hy0 := blk_frozen R5.out.page 0; have hy1 := blk_frozen R5.out.page 1; have hy2 := blk_frozen R5.out.page 2; have hy3 := blk_frozen R5.out.page 3; have hy4 := blk_frozen R5.out.page 4; have hy5 := blk_frozen R5.out.page 5) | ((with_reducible refine gate_store (t := 44) (p := 7) rfl ?_); refine row_event rfl 44 (.tmp 7) (.tmp 27) rfl gp #[.int .i64 0, .int .i64 v1, .int .i64 0, .int .i64 0, .int .i64 0, .string (⟨#[]⟩ : ByteArray)] rfl (by first | rfl | (go_simp; done) | (go_simp; rfl)) 44 _ R5.out.page HI.out rfl (by simp [Value.oneCell']) ?_; intro w6 hw; have R6 := Aside0.mk (show RP w a gp g _ _ s a1 b1 w6 from by rw [hw]; exact R5.out.row _); clear hw R5) | ((with_reducible refine gate_callee (f := 53) rfl ?_); (with_reducible refine gate_dst (N := 29) rfl ?_); refine goesL_ (some 29) rfl rfl Try.func53 (by kernel_rfl) rfl #[.pointer (some ⟨g, 0, none⟩)] rfl (by (try simp only [List.map_toArray, List.map_cons, List.map_nil]); first | done | rfl) ?_; (with_reducible refine (spec_l06Var.calls_ k g s a1 b1 v2 a2 b2 _ (R6.out).cur H2.out).mono ?_); rintro e w7 ⟨rfl, hc, hb⟩; refine ⟨_, rfl, ?_⟩; have R7 := Aside0.mk ((R6.out).call hc hb); clear hc hb; clear R6; have hzw72 : w7.cell? ⟨gp, 2, none⟩ = some (.int .i64 0) := (blk_cell R7.out.page 2).trans rfl; have hyw72 := blk_frozen R7.out.page 2) | ((with_reducible refine gate_store (t := 3) (p := 30) rfl ?_); refine store_event (t := 3) (p := 30) (v := ?vo_30) (w1 := (w7.setCell ⟨gp, 2, none⟩ (.int .i64 v2))) ?hg ?ho ?hn ?hr ?_; (case ho => rfl); (case hg => rfl); (case hn => rfl); (case hr => first | (go_simp; done) | (go_simp; rfl)); intro w8 hw; have R8 := Aside0.mk (show RP w a gp g _ #[.int .i64 0, .int .i64 v1, .int .i64 v2, .int .i64 0, .int .i64 0, .string (⟨#[]⟩ : ByteArray)] s a2 b2 w8 from by rw [hw]; exact R7.out.put 2 _ rfl); clear hw R7) | ((with_reducible refine gate_callee (f := 53) rfl ?_); (with_reducible refine gate_dst (N := 32) rfl ?_); refine goesL_ (some 32) rfl rfl Try.func53 (by kernel_rfl) rfl #[.pointer (some ⟨g, 0, none⟩)] rfl (by (try simp only [List.map_toArray, List.map_cons, List.map_nil]); first | done | rfl) ?_; (with_reducible refine (spec_l06Var.calls_ k g s a2 b2 v3 a3 b3 _ (R8.out).cur H3.out).mono ?_); rintro e w9 ⟨rfl, hc, hb⟩; refine ⟨_, rfl, ?_⟩; have R9 := Aside0.mk ((R8.out).call hc hb); clear hc hb; clear R8; have hzw93 : w9.cell? ⟨gp, 3, none⟩ = some (.int .i64 0) := (blk_cell R9.out.page 3).trans rfl; have hyw93 := blk_frozen R9.out.page 3) | ((with_reducible refine gate_store (t := 3) (p := 33) rfl ?_); refine store_event (t := 3) (p := 33) (v := ?vo_33) (w1 := (w9.setCell ⟨gp, 3, none⟩ (.int .i64 v3))) ?hg ?ho ?hn ?hr ?_; (case ho => rfl); (case hg => rfl); (case hn => rfl); (case hr => first | (go_simp; done) | (go_simp; rfl)); intro w10 hw; have R10 := Aside0.mk (show RP w a gp g _ #[.int .i64 0, .int .i64 v1, .int .i64 v2, .int .i64 v3, .int .i64 0, .string (⟨#[]⟩ : ByteArray)] s a3 b3 w10 from by rw [hw]; exact R9.out.put 3 _ rfl); clear hw R9) | ((with_reducible refine gate_callee (f := 53) rfl ?_); (with_reducible refine gate_dst (N := 35) rfl ?_); refine goesL_ (some 35) rfl rfl Try.func53 (by kernel_rfl) rfl #[.pointer (some ⟨g, 0, none⟩)] rfl (by (try simp only [List.map_toArray, List.map_cons, List.map_nil]); first | done | rfl) ?_; (with_reducible refine (spec_l06Var.calls_ k g s a3 b3 v4 a4 false _ (R10.out).cur H4.out).mono ?_); rintro e w11 ⟨rfl, hc, hb⟩; refine ⟨_, rfl, ?_⟩; have R11 := Aside0.mk ((R10.out).call hc hb); clear hc hb; clear R10; have hzw114 : w11.cell? ⟨gp, 4, none⟩ = some (.int .i64 0) := (blk_cell R11.out.page 4).trans rfl; have hyw114 := blk_frozen R11.out.page 4) | ((with_reducible refine gate_store (t := 3) (p := 36) rfl ?_); refine store_event (t := 3) (p := 36) (v := ?vo_36) (w1 := (w11.setCell ⟨gp, 4, none⟩ (.int .i64 v4))) ?hg ?ho ?hn ?hr ?_; (case ho => rfl); (case hg => rfl); (case hn => rfl); (case hr => first | (go_simp; done) | (go_simp; rfl)); intro w12 hw; have R12 := Aside0.mk (show RP w a gp g _ #[.int .i64 0, .int .i64 v1, .int .i64 v2, .int .i64 v3, .int .i64 v4, .string (⟨#[]⟩ : ByteArray)] s a4 _ w12 from by rw [hw]; exact R11.out.put 4 _ rfl); clear hw R11; have hb12 : w12.cell? ⟨g, 2, none⟩ = some (.bool false) := (blk_cell R12.out.cur 2).trans rfl; have ha12 : w12.cell? ⟨g, 1, none⟩ = some (.int .i64 a4) := (blk_cell R12.out.cur 1).trans rfl; have hzw120 : w12.cell? ⟨gp, 0, none⟩ = some (.int .i64 0) := (blk_cell R12.out.page 0).trans rfl; have hyw120 := blk_frozen R12.out.page 0; have hzw125 : w12.cell? ⟨gp, 5, none⟩ = some (.string (⟨#[]⟩ : ByteArray)) := (blk_cell R12.out.page 5).trans rfl; have hyw125 := blk_frozen R12.out.page 5) | ((with_reducible refine gate_store (t := 3) (p := 45) rfl ?_); refine store_event (t := 3) (p := 45) (v := ?vo_45) (w1 := (w12.setCell ⟨gp, 0, none⟩ (.int .i64 (bt s 0)))) ?hg ?ho ?hn ?hr ?_; (case ho => rfl); (case hg => rfl); (case hn => rfl); (case hr => first | (go_simp; done) | (go_simp; rfl)); intro w13 hw; have R13 := Aside0.mk (show RP w a gp g _ #[.int .i64 (bt s 0), .int .i64 v1, .int .i64 v2, .int .i64 v3, .int .i64 v4, .string (⟨#[]⟩ : ByteArray)] s a4 false w13 from by rw [hw]; exact R12.out.put 0 _ rfl); clear hw R12; have ha13 : w13.cell? ⟨g, 1, none⟩ = some (.int .i64 a4) := (blk_cell R13.out.cur 1).trans rfl; have hzw135 : w13.cell? ⟨gp, 5, none⟩ = some (.string (⟨#[]⟩ : ByteArray)) := (blk_cell R13.out.page 5).trans rfl; have hyw135 := blk_frozen R13.out.page 5) | ((with_reducible refine gate_store (t := 9) (p := 52) rfl ?_); refine store_event (t := 9) (p := 52) (v := ?vo_52) (w1 := (w13.setCell ⟨gp, 5, none⟩ (.string (s.extract a4.toNat s.size)))) ?hg ?ho ?hn ?hr ?_; (case ho => rfl); (case hg => rfl); (case hn => rfl); (case hr => first | (go_simp; done) | (go_simp; rfl)); intro w14 hw; have R14 := Aside0.mk (show RP w a gp g _ #[.int .i64 (bt s 0), .int .i64 v1, .int .i64 v2, .int .i64 v3, .int .i64 v4, .string (s.extract a4.toNat s.size)] s a4 false w14 from by rw [hw]; exact R13.out.put 5 _ rfl); clear hw R13) | ((with_reducible refine gate_dst (N := 54) rfl ?_); refine wpList_load_row rfl 44 (.tmp 7) rfl gp rfl 44 _ (0, 0) _ R14.out.page hu44 rfl HI.out ?_) | ((with_reducible refine gate_callee (f := 54) rfl ?_); (with_reducible refine gate_dst (N := 55) rfl ?_); refine goesL_ (some 55) rfl rfl Try.func54 (by kernel_rfl) rfl #[.agg #[.int .i64 (bt s 0), .int .i64 v1, .int .i64 v2, .int .i64 v3, .int .i64 v4, .string (s.extract a4.toNat s.size)]] rfl (by (try simp only [List.map_toArray, List.map_cons, List.map_nil]); first | done | rfl) ?_; (with_reducible refine (spec_PageText.calls k (bt s 0) v1 v2 v3 v4 (s.extract a4.toNat s.size) t _ _ HP.out).mono ?_); rintro e w15 ⟨rfl, hb⟩; refine ⟨_, rfl, ?_⟩; have R15 := Aside0.mk (R14.out.kept hb); clear hb R14) | ((with_reducible refine gate_dst (N := 66) rfl ?_); refine wpList_load_row rfl 44 (.tmp 7) rfl gp rfl 44 _ (0, 0) _ R15.out.page hu44 rfl HI.out ?_) | ((with_reducible refine gate_store (t := 44) (p := 2) rfl ?_); refine row_event rfl 44 (.tmp 2) (.tmp 66) rfl a #[.int .i64 (bt s 0), .int .i64 v1, .int .i64 v2, .int .i64 v3, .int .i64 v4, .string (s.extract a4.toNat s.size)] rfl (by first | rfl | (go_simp; done) | (go_simp; rfl)) 44 _ R15.out.res HI.out rfl (by simp [Value.oneCell']) ?_; intro w16 hw; have RZ := Aside0.mk (show w16.heap[a]? = _ ∧ Below w.heap.size w w16 from by rw [hw]; exact R15.out.res_row _); clear hw))
    refine bodyPost_ret (results_row_tmp rfl _ _ a 44 #[.int .i64 (bt s 0), .int .i64 v1, .int .i64 v2, .int .i64 v3, .int .i64 v4, .string (s.extract a4.toNat s.size)] (0, 0) _ _ rfl rfl RZ.out.1 hu44 rfl HI.out) rfl ?_
    exact ⟨rfl, RZ.out.2⟩
theorem spec_l06Var.rd_mono (k : Nat) (s : ByteArray) (a : Int) (b : Bool) : LeO (spec_l06Var.rd k s a b) (spec_l06Var.rd (k + 1) s a b) := by
  unfold spec_l06Var.rd
  exact LeO.bind (spec_ReadVar.mono _ _ _) (fun _ => LeO.refl _)
theorem spec_ReadPage.fin_mono (k : Nat) (t s : ByteArray) (v1 v2 v3 v4 a4 : Int) (b4 : Bool) : LeO (spec_ReadPage.fin k t s v1 v2 v3 v4 a4 b4) (spec_ReadPage.fin (k + 1) t s v1 v2 v3 v4 a4 b4) := by
  unfold spec_ReadPage.fin
  refine LeO.ite (LeO.refl _) (LeO.ite (LeO.bind (spec_PageText.mono _ _ _ _ _ _ _) (fun _ => LeO.refl _)) (LeO.refl _))
def spec_ReadPage.f (k : Nat) (a0 : ByteArray) : Option (Int × Int × Int × Int × Int × ByteArray × Bool) :=
  (spec_Unsealed.f k a0).bind fun u => (spec_l06Var.rd k u.1 1 (!u.2 || decide ((u.1.size : Int) < 1))).bind fun c1 => (spec_l06Var.rd k u.1 c1.2.1 c1.2.2).bind fun c2 => (spec_l06Var.rd k u.1 c2.2.1 c2.2.2).bind fun c3 => (spec_l06Var.rd k u.1 c3.2.1 c3.2.2).bind fun c4 => spec_ReadPage.fin k a0 u.1 c1.1 c2.1 c3.1 c4.1 c4.2.1 c4.2.2
theorem spec_ReadPage.mono : ∀ a0 k, LeO (spec_ReadPage.f k a0) (spec_ReadPage.f (k + 1) a0) := fun a0 k => by
  unfold spec_ReadPage.f
  exact LeO.bind (spec_Unsealed.mono _ _) (fun _ => LeO.bind (spec_l06Var.rd_mono _ _ _ _) (fun _ => LeO.bind (spec_l06Var.rd_mono _ _ _ _) (fun _ => LeO.bind (spec_l06Var.rd_mono _ _ _ _) (fun _ => LeO.bind (spec_l06Var.rd_mono _ _ _ _) (fun _ => spec_ReadPage.fin_mono _ _ _ _ _ _ _ _ _)))))
theorem spec_ReadPage.calls (k : Nat) (a0 : ByteArray) (r1 r2 r3 r4 r5 : Int) (r6 : ByteArray) (r7 : Bool) (w : World) (h : spec_ReadPage.f k a0 = some (r1, r2, r3, r4, r5, r6, r7)) :
    Calls Try.prog 26 #[.string a0] w fun e w' => e = .returned (.tuple #[.agg #[.int .i64 r1, .int .i64 r2, .int .i64 r3, .int .i64 r4, .int .i64 r5, .string r6], .bool r7]) ∧ Below w.heap.size w w' := by
  unfold spec_ReadPage.f at h
  obtain ⟨⟨s, ok⟩, hu, h⟩ := Option.bind_eq_some_iff.mp h
  obtain ⟨⟨v1, a1, b1⟩, h1, h⟩ := Option.bind_eq_some_iff.mp h
  obtain ⟨⟨v2, a2, b2⟩, h2, h⟩ := Option.bind_eq_some_iff.mp h
  obtain ⟨⟨v3, a3, b3⟩, h3, h⟩ := Option.bind_eq_some_iff.mp h
  obtain ⟨⟨v4, a4, b4⟩, h4, h⟩ := Option.bind_eq_some_iff.mp h
  dsimp only at h1 h2 h3 h4 h
  unfold spec_ReadPage.fin at h
  cases b4 with
  | true =>
    rw [if_pos rfl] at h
    simp only [Option.some.injEq, Prod.mk.injEq] at h
    obtain ⟨rfl, rfl, rfl, rfl, rfl, rfl, rfl⟩ := h
    exact spec_ReadPage.bad_ k a0 s ok _ v1 a1 v2 a2 v3 a3 v4 a4 b1 b2 b3 w hu rfl h1 h2 h3 h4
  | false =>
    rw [if_neg (show ¬ (false = true) by decide)] at h
    split at h
    case isFalse => cases h
    rename_i hs
    obtain ⟨⟨back, right⟩, hp, h⟩ := Option.bind_eq_some_iff.mp h
    cases right with
    | false =>
      rw [if_neg (by simp)] at h
      simp only [Option.some.injEq, Prod.mk.injEq] at h
      obtain ⟨rfl, rfl, rfl, rfl, rfl, rfl, rfl⟩ := h
      exact spec_ReadPage.nr_ k a0 s ok _ v1 a1 v2 a2 v3 a3 v4 a4 b1 b2 b3 back w hu rfl h1 h2 h3 h4 hs.1 hs.2.1 hs.2.2 hp
    | true =>
      by_cases hq : back = a0
      · subst hq
        rw [if_pos ⟨rfl, rfl⟩] at h
        simp only [Option.some.injEq, Prod.mk.injEq] at h
        obtain ⟨rfl, rfl, rfl, rfl, rfl, rfl, rfl⟩ := h
        exact spec_ReadPage.ok_ k back s ok _ v1 a1 v2 a2 v3 a3 v4 a4 b1 b2 b3 w hu rfl h1 h2 h3 h4 hs.1 hs.2.1 hs.2.2 hp
      · rw [if_neg (fun q => hq q.2)] at h
        simp only [Option.some.injEq, Prod.mk.injEq] at h
        obtain ⟨rfl, rfl, rfl, rfl, rfl, rfl, rfl⟩ := h
        exact spec_ReadPage.ne_ k a0 s ok _ v1 a1 v2 a2 v3 a3 v4 a4 b1 b2 b3 back w hu rfl h1 h2 h3 h4 hs.1 hs.2.1 hs.2.2 hp hq

/-! ### impl_in: function 48 -/
def impl_in.f (a0 : Int) (a1 : Int) (a2 : Int) : Option (Bool) := if a0 ≥ a1 then (some (decide (a0 ≤ a2))) else (some false)
set_option maxHeartbeats 8000000 in
set_option maxRecDepth 100000 in
theorem impl_in.calls (a0 : Int) (a1 : Int) (a2 : Int) (r : Bool) (w : World) (h : impl_in.f a0 a1 a2 = some r) :
    Calls Try.prog 48 #[.int .i64 a0, .int .i64 a1, .int .i64 a2] w fun e w' => e = .returned (.bool r) ∧ Drawn0 w w' := by
  have H : (if a0 ≥ a1 then (some (decide (a0 ≤ a2))) else (some false)) = some r := h
  clear h
  by_cases c4 : a0 ≥ a1
  · rw [if_pos c4] at H
    have c4b0 : decide (a1 ≤ a0) = true := decide_eq_true c4
    clear c4
    obtain rfl := Option.some.inj H
    go_enter Try.func48, Try.ntmps48
    go_wp2
    go_ret
    exact ⟨by first | rfl | (simp; done) | (simp [*]; done), by repeat (first | exact Drawn0.refl _ | apply Drawn0.step)⟩
  · rw [if_neg c4] at H
    have c4b0 : decide (a1 ≤ a0) = false := decide_eq_false c4
    clear c4
    obtain rfl := Option.some.inj H
    go_enter Try.func48, Try.ntmps48
    go_wp2
    go_ret
    exact ⟨by first | rfl | (simp; done) | (simp [*]; done), by repeat (first | exact Drawn0.refl _ | apply Drawn0.step)⟩

/-! ### impl_PageOk: function 32 -/
def impl_PageOk.f (a0_0 : Int) (a0_1 : Int) (a0_2 : Int) (a0_3 : Int) (a0_4 : Int) (a0_5 : ByteArray) : Option (Bool) := (impl_in.f a0_1 1 1000000000).bind fun t142 => (if t142 = true then ((impl_in.f a0_2 1 1000000000).bind fun t143 => (if t143 = true then ((impl_in.f a0_4 1 9).bind fun t144 => (if t144 = true then ((impl_in.f a0_3 0 (wrap64 (a0_4 - 1))).bind fun t145 => (if t145 = true then (if (a0_5.size : Int) > 90 then (some false) else (if a0_0 = 2 then (some true) else (if a0_0 = 1 then (some (a0_4 == 1)) else (some false)))) else (some false))) else (some false))) else (some false))) else (some false))
set_option maxHeartbeats 8000000 in
set_option maxRecDepth 100000 in
theorem impl_PageOk.calls (a0_0 : Int) (a0_1 : Int) (a0_2 : Int) (a0_3 : Int) (a0_4 : Int) (a0_5 : ByteArray) (r : Bool) (w : World) (h : impl_PageOk.f a0_0 a0_1 a0_2 a0_3 a0_4 a0_5 = some r) :
    Calls Try.prog 32 #[.agg #[.int .i64 a0_0, .int .i64 a0_1, .int .i64 a0_2, .int .i64 a0_3, .int .i64 a0_4, .string a0_5]] w fun e w' => e = .returned (.bool r) ∧ Below w.heap.size w w' := by
  have hu44 := Try.underlying44
  have HB := Aside0.mk (Below.refl w.heap.size w)
  have H : ((impl_in.f a0_1 1 1000000000).bind fun t142 => (if t142 = true then ((impl_in.f a0_2 1 1000000000).bind fun t143 => (if t143 = true then ((impl_in.f a0_4 1 9).bind fun t144 => (if t144 = true then ((impl_in.f a0_3 0 (wrap64 (a0_4 - 1))).bind fun t145 => (if t145 = true then (if (a0_5.size : Int) > 90 then (some false) else (if a0_0 = 2 then (some true) else (if a0_0 = 1 then (some (a0_4 == 1)) else (some false)))) else (some false))) else (some false))) else (some false))) else (some false))) = some r := h
  clear h
  replace H := Option.bind_eq_some_iff.mp H
  obtain ⟨t142, A20, H⟩ := H
  replace H : (if t142 = true then ((impl_in.f a0_2 1 1000000000).bind fun t143 => (if t143 = true then ((impl_in.f a0_4 1 9).bind fun t144 => (if t144 = true then ((impl_in.f a0_3 0 (wrap64 (a0_4 - 1))).bind fun t145 => (if t145 = true then (if (a0_5.size : Int) > 90 then (some false) else (if a0_0 = 2 then (some true) else (if a0_0 = 1 then (some (a0_4 == 1)) else (some false)))) else (some false))) else (some false))) else (some false))) else (some false)) = some r := H
  have A2 := Aside0.mk A20
  clear A20
  by_cases c3 : t142 = true
  · subst c3
    have H1 : ((impl_in.f a0_2 1 1000000000).bind fun t143 => (if t143 = true then ((impl_in.f a0_4 1 9).bind fun t144 => (if t144 = true then ((impl_in.f a0_3 0 (wrap64 (a0_4 - 1))).bind fun t145 => (if t145 = true then (if (a0_5.size : Int) > 90 then (some false) else (if a0_0 = 2 then (some true) else (if a0_0 = 1 then (some (a0_4 == 1)) else (some false)))) else (some false))) else (some false))) else (some false))) = some r := by rw [if_pos rfl] at H; exact H
    clear H
    have H := H1
    clear H1
    replace H := Option.bind_eq_some_iff.mp H
    obtain ⟨t143, A40, H⟩ := H
    replace H : (if t143 = true then ((impl_in.f a0_4 1 9).bind fun t144 => (if t144 = true then ((impl_in.f a0_3 0 (wrap64 (a0_4 - 1))).bind fun t145 => (if t145 = true then (if (a0_5.size : Int) > 90 then (some false) else (if a0_0 = 2 then (some true) else (if a0_0 = 1 then (some (a0_4 == 1)) else (some false)))) else (some false))) else (some false))) else (some false)) = some r := H
    have A4 := Aside0.mk A40
    clear A40
    by_cases c5 : t143 = true
    · subst c5
      have H1 : ((impl_in.f a0_4 1 9).bind fun t144 => (if t144 = true then ((impl_in.f a0_3 0 (wrap64 (a0_4 - 1))).bind fun t145 => (if t145 = true then (if (a0_5.size : Int) > 90 then (some false) else (if a0_0 = 2 then (some true) else (if a0_0 = 1 then (some (a0_4 == 1)) else (some false)))) else (some false))) else (some false))) = some r := by rw [if_pos rfl] at H; exact H
      clear H
      have H := H1
      clear H1
      replace H := Option.bind_eq_some_iff.mp H
      obtain ⟨t144, A60, H⟩ := H
      replace H : (if t144 = true then ((impl_in.f a0_3 0 (wrap64 (a0_4 - 1))).bind fun t145 => (if t145 = true then (if (a0_5.size : Int) > 90 then (some false) else (if a0_0 = 2 then (some true) else (if a0_0 = 1 then (some (a0_4 == 1)) else (some false)))) else (some false))) else (some false)) = some r := H
      have A6 := Aside0.mk A60
      clear A60
      by_cases c7 : t144 = true
      · subst c7
        have H1 : ((impl_in.f a0_3 0 (wrap64 (a0_4 - 1))).bind fun t145 => (if t145 = true then (if (a0_5.size : Int) > 90 then (some false) else (if a0_0 = 2 then (some true) else (if a0_0 = 1 then (some (a0_4 == 1)) else (some false)))) else (some false))) = some r := by rw [if_pos rfl] at H; exact H
        clear H
        have H := H1
        clear H1
        replace H := Option.bind_eq_some_iff.mp H
        obtain ⟨t145, A80, H⟩ := H
        replace H : (if t145 = true then (if (a0_5.size : Int) > 90 then (some false) else (if a0_0 = 2 then (some true) else (if a0_0 = 1 then (some (a0_4 == 1)) else (some false)))) else (some false)) = some r := H
        have A8 := Aside0.mk A80
        clear A80
        by_cases c9 : t145 = true
        · subst c9
          have H1 : (if (a0_5.size : Int) > 90 then (some false) else (if a0_0 = 2 then (some true) else (if a0_0 = 1 then (some (a0_4 == 1)) else (some false)))) = some r := by rw [if_pos rfl] at H; exact H
          clear H
          have H := H1
          clear H1
          by_cases c10 : (a0_5.size : Int) > 90
          · rw [if_pos c10] at H
            have c10b0 : decide (90 < (a0_5.size : Int)) = true := decide_eq_true c10
            have c10b1 : decide (90 < a0_5.size) = true := decide_eq_true (by omega)
            clear c10
            obtain rfl := Option.some.inj H
            go_enter Try.func32, Try.ntmps32
            go_wp2_with (first | ((with_reducible refine gate_dst (N := 1) rfl ?_); (try (refine gate_guard (by rfl) ?_; dsimp only)); refine box_event ?hg (N := 1) ?hd (cs := #[.int .i64 a0_0, .int .i64 a0_1, .int .i64 a0_2, .int .i64 a0_3, .int .i64 a0_4, .string a0_5]) (t := 44) ?hr ?_; (case hd => rfl); (case hg => rfl); (case hr => first | (go_simp; done) | (go_simp; rfl)); intro gb141 hg w11 hbox hb; have n0_ := Aside0.mk (below_step (by repeat (first | (with_reducible first | exact HB.out | apply below_alloc | apply pw_below_drewN | apply below_drew1) | exact HB.out)) hb); have n1_ := Aside0.mk (hbox); have n2_ := Aside0.mk ((by rw [hg]; exact (below_size (by repeat (first | (with_reducible first | exact HB.out | apply below_alloc | apply pw_below_drewN | apply below_drew1) | exact HB.out))) : w.heap.size ≤ gb141)); have n3_ := Aside0.mk ((by rw [hg]; exact (below_size (by repeat (first | (with_reducible first | exact HB.out | apply below_alloc | apply pw_below_drewN | apply below_drew1) | exact HB.out))) : w.heap.size ≤ gb141)); clear HB; have HB := n0_; have BK141 := n1_; have GW141 := n2_; have GE141 := n3_; clear n0_ n1_ n2_ n3_; clear hb hbox hg; have hcz12_0 : w11.cell? ⟨gb141, 0, none⟩ = some (.int .i64 a0_0) := (blk_cell BK141.out 0).trans rfl; have hcz12_1 : w11.cell? ⟨gb141, 1, none⟩ = some (.int .i64 a0_1) := (blk_cell BK141.out 1).trans rfl; have hcz12_2 : w11.cell? ⟨gb141, 2, none⟩ = some (.int .i64 a0_2) := (blk_cell BK141.out 2).trans rfl; have hcz12_3 : w11.cell? ⟨gb141, 3, none⟩ = some (.int .i64 a0_3) := (blk_cell BK141.out 3).trans rfl; have hcz12_4 : w11.cell? ⟨gb141, 4, none⟩ = some (.int .i64 a0_4) := (blk_cell BK141.out 4).trans rfl; have hcz12_5 : w11.cell? ⟨gb141, 5, none⟩ = some (.string a0_5) := (blk_cell BK141.out 5).trans rfl; have hfz12_0 := blk_frozen BK141.out 0; have hfz12_1 := blk_frozen BK141.out 1; have hfz12_2 := blk_frozen BK141.out 2; have hfz12_3 := blk_frozen BK141.out 3; have hfz12_4 := blk_frozen BK141.out 4; have hfz12_5 := blk_frozen BK141.out 5) | ((with_reducible refine gate_callee (f := 48) rfl ?_); refine goesL_ (some 5) rfl rfl Try.func48 (by kernel_rfl) rfl #[.int .i64 a0_1, .int .i64 1, .int .i64 1000000000] rfl (by (try simp only [List.map_toArray, List.map_cons, List.map_nil]); first | done | rfl | (simp only [List.length_drop, List.length_take]; rfl)) ?_; (with_reducible refine (impl_in.calls a0_1 1 1000000000 true _ A2.out).mono ?_); rintro e w' ⟨rfl, ⟨nd, rfl⟩⟩; refine ⟨_, rfl, ?_⟩) | (go_at_call 48; (with_reducible refine (impl_in.calls a0_2 1 1000000000 true _ A4.out).mono ?_); rintro e w' ⟨rfl, ⟨nd, rfl⟩⟩) | (go_at_call 48; (with_reducible refine (impl_in.calls a0_4 1 9 true _ A6.out).mono ?_); rintro e w' ⟨rfl, ⟨nd, rfl⟩⟩) | (go_at_call 48; (with_reducible refine (impl_in.calls a0_3 0 (wrap64 (a0_4 - 1)) true _ A8.out).mono ?_); rintro e w' ⟨rfl, ⟨nd, rfl⟩⟩))
            go_ret
            exact ⟨by first | rfl | (simp [errW_none, errW_some] <;> rfl) | (simp [*, errW_none, errW_some] <;> rfl), by repeat (first | (with_reducible first | exact HB.out | apply below_alloc | apply pw_below_drewN | apply below_drew1 | refine below_set ?_ GE141.out) | exact HB.out)⟩
          · rw [if_neg c10] at H
            have c10b0 : decide (90 < (a0_5.size : Int)) = false := decide_eq_false c10
            have c10b1 : decide (90 < a0_5.size) = false := decide_eq_false (by omega)
            clear c10
            by_cases c13 : a0_0 = 2
            · rw [if_pos c13] at H
              have c13b0 : (a0_0 == 2) = true := beq_iff_eq.mpr c13
              have c13b1 : (a0_0 != 2) = false := bne_eq_false_iff_eq.mpr c13
              clear c13
              obtain rfl := Option.some.inj H
              go_enter Try.func32, Try.ntmps32
              go_wp2_with (first | ((with_reducible refine gate_dst (N := 1) rfl ?_); (try (refine gate_guard (by rfl) ?_; dsimp only)); refine box_event ?hg (N := 1) ?hd (cs := #[.int .i64 a0_0, .int .i64 a0_1, .int .i64 a0_2, .int .i64 a0_3, .int .i64 a0_4, .string a0_5]) (t := 44) ?hr ?_; (case hd => rfl); (case hg => rfl); (case hr => first | (go_simp; done) | (go_simp; rfl)); intro gb141 hg w14 hbox hb; have n0_ := Aside0.mk (below_step (by repeat (first | (with_reducible first | exact HB.out | apply below_alloc | apply pw_below_drewN | apply below_drew1) | exact HB.out)) hb); have n1_ := Aside0.mk (hbox); have n2_ := Aside0.mk ((by rw [hg]; exact (below_size (by repeat (first | (with_reducible first | exact HB.out | apply below_alloc | apply pw_below_drewN | apply below_drew1) | exact HB.out))) : w.heap.size ≤ gb141)); have n3_ := Aside0.mk ((by rw [hg]; exact (below_size (by repeat (first | (with_reducible first | exact HB.out | apply below_alloc | apply pw_below_drewN | apply below_drew1) | exact HB.out))) : w.heap.size ≤ gb141)); clear HB; have HB := n0_; have BK141 := n1_; have GW141 := n2_; have GE141 := n3_; clear n0_ n1_ n2_ n3_; clear hb hbox hg; have hcz15_0 : w14.cell? ⟨gb141, 0, none⟩ = some (.int .i64 a0_0) := (blk_cell BK141.out 0).trans rfl; have hcz15_1 : w14.cell? ⟨gb141, 1, none⟩ = some (.int .i64 a0_1) := (blk_cell BK141.out 1).trans rfl; have hcz15_2 : w14.cell? ⟨gb141, 2, none⟩ = some (.int .i64 a0_2) := (blk_cell BK141.out 2).trans rfl; have hcz15_3 : w14.cell? ⟨gb141, 3, none⟩ = some (.int .i64 a0_3) := (blk_cell BK141.out 3).trans rfl; have hcz15_4 : w14.cell? ⟨gb141, 4, none⟩ = some (.int .i64 a0_4) := (blk_cell BK141.out 4).trans rfl; have hcz15_5 : w14.cell? ⟨gb141, 5, none⟩ = some (.string a0_5) := (blk_cell BK141.out 5).trans rfl; have hfz15_0 := blk_frozen BK141.out 0; have hfz15_1 := blk_frozen BK141.out 1; have hfz15_2 := blk_frozen BK141.out 2; have hfz15_3 := blk_frozen BK141.out 3; have hfz15_4 := blk_frozen BK141.out 4; have hfz15_5 := blk_frozen BK141.out 5) | ((with_reducible refine gate_callee (f := 48) rfl ?_); refine goesL_ (some 5) rfl rfl Try.func48 (by kernel_rfl) rfl #[.int .i64 a0_1, .int .i64 1, .int .i64 1000000000] rfl (by (try simp only [List.map_toArray, List.map_cons, List.map_nil]); first | done | rfl | (simp only [List.length_drop, List.length_take]; rfl)) ?_; (with_reducible refine (impl_in.calls a0_1 1 1000000000 true _ A2.out).mono ?_); rintro e w' ⟨rfl, ⟨nd, rfl⟩⟩; refine ⟨_, rfl, ?_⟩) | (go_at_call 48; (with_reducible refine (impl_in.calls a0_2 1 1000000000 true _ A4.out).mono ?_); rintro e w' ⟨rfl, ⟨nd, rfl⟩⟩) | (go_at_call 48; (with_reducible refine (impl_in.calls a0_4 1 9 true _ A6.out).mono ?_); rintro e w' ⟨rfl, ⟨nd, rfl⟩⟩) | (go_at_call 48; (with_reducible refine (impl_in.calls a0_3 0 (wrap64 (a0_4 - 1)) true _ A8.out).mono ?_); rintro e w' ⟨rfl, ⟨nd, rfl⟩⟩))
              go_ret
              exact ⟨by first | rfl | (simp [errW_none, errW_some] <;> rfl) | (simp [*, errW_none, errW_some] <;> rfl), by repeat (first | (with_reducible first | exact HB.out | apply below_alloc | apply pw_below_drewN | apply below_drew1 | refine below_set ?_ GE141.out) | exact HB.out)⟩
            · rw [if_neg c13] at H
              have c13b0 : (a0_0 == 2) = false := beq_eq_false_iff_ne.mpr c13
              have c13b1 : (a0_0 != 2) = true := bne_iff_ne.mpr c13
              by_cases c16 : a0_0 = 1
              · rw [if_pos c16] at H
                have c16b0 : (a0_0 == 1) = true := beq_iff_eq.mpr c16
                have c16b1 : (a0_0 != 1) = false := bne_eq_false_iff_eq.mpr c16
                clear c16
                obtain rfl := Option.some.inj H
                go_enter Try.func32, Try.ntmps32
                go_wp2_with (first | ((with_reducible refine gate_dst (N := 1) rfl ?_); (try (refine gate_guard (by rfl) ?_; dsimp only)); refine box_event ?hg (N := 1) ?hd (cs := #[.int .i64 a0_0, .int .i64 a0_1, .int .i64 a0_2, .int .i64 a0_3, .int .i64 a0_4, .string a0_5]) (t := 44) ?hr ?_; (case hd => rfl); (case hg => rfl); (case hr => first | (go_simp; done) | (go_simp; rfl)); intro gb141 hg w17 hbox hb; have n0_ := Aside0.mk (below_step (by repeat (first | (with_reducible first | exact HB.out | apply below_alloc | apply pw_below_drewN | apply below_drew1) | exact HB.out)) hb); have n1_ := Aside0.mk (hbox); have n2_ := Aside0.mk ((by rw [hg]; exact (below_size (by repeat (first | (with_reducible first | exact HB.out | apply below_alloc | apply pw_below_drewN | apply below_drew1) | exact HB.out))) : w.heap.size ≤ gb141)); have n3_ := Aside0.mk ((by rw [hg]; exact (below_size (by repeat (first | (with_reducible first | exact HB.out | apply below_alloc | apply pw_below_drewN | apply below_drew1) | exact HB.out))) : w.heap.size ≤ gb141)); clear HB; have HB := n0_; have BK141 := n1_; have GW141 := n2_; have GE141 := n3_; clear n0_ n1_ n2_ n3_; clear hb hbox hg; have hcz18_0 : w17.cell? ⟨gb141, 0, none⟩ = some (.int .i64 a0_0) := (blk_cell BK141.out 0).trans rfl; have hcz18_1 : w17.cell? ⟨gb141, 1, none⟩ = some (.int .i64 a0_1) := (blk_cell BK141.out 1).trans rfl; have hcz18_2 : w17.cell? ⟨gb141, 2, none⟩ = some (.int .i64 a0_2) := (blk_cell BK141.out 2).trans rfl; have hcz18_3 : w17.cell? ⟨gb141, 3, none⟩ = some (.int .i64 a0_3) := (blk_cell BK141.out 3).trans rfl; have hcz18_4 : w17.cell? ⟨gb141, 4, none⟩ = some (.int .i64 a0_4) := (blk_cell BK141.out 4).trans rfl; have hcz18_5 : w17.cell? ⟨gb141, 5, none⟩ = some (.string a0_5) := (blk_cell BK141.out 5).trans rfl; have hfz18_0 := blk_frozen BK141.out 0; have hfz18_1 := blk_frozen BK141.out 1; have hfz18_2 := blk_frozen BK141.out 2; have hfz18_3 := blk_frozen BK141.out 3; have hfz18_4 := blk_frozen BK141.out 4; have hfz18_5 := blk_frozen BK141.out 5) | ((with_reducible refine gate_callee (f := 48) rfl ?_); refine goesL_ (some 5) rfl rfl Try.func48 (by kernel_rfl) rfl #[.int .i64 a0_1, .int .i64 1, .int .i64 1000000000] rfl (by (try simp only [List.map_toArray, List.map_cons, List.map_nil]); first | done | rfl | (simp only [List.length_drop, List.length_take]; rfl)) ?_; (with_reducible refine (impl_in.calls a0_1 1 1000000000 true _ A2.out).mono ?_); rintro e w' ⟨rfl, ⟨nd, rfl⟩⟩; refine ⟨_, rfl, ?_⟩) | (go_at_call 48; (with_reducible refine (impl_in.calls a0_2 1 1000000000 true _ A4.out).mono ?_); rintro e w' ⟨rfl, ⟨nd, rfl⟩⟩) | (go_at_call 48; (with_reducible refine (impl_in.calls a0_4 1 9 true _ A6.out).mono ?_); rintro e w' ⟨rfl, ⟨nd, rfl⟩⟩) | (go_at_call 48; (with_reducible refine (impl_in.calls a0_3 0 (wrap64 (a0_4 - 1)) true _ A8.out).mono ?_); rintro e w' ⟨rfl, ⟨nd, rfl⟩⟩))
                go_ret
                exact ⟨by first | rfl | (simp [errW_none, errW_some] <;> rfl) | (simp [*, errW_none, errW_some] <;> rfl), by repeat (first | (with_reducible first | exact HB.out | apply below_alloc | apply pw_below_drewN | apply below_drew1 | refine below_set ?_ GE141.out) | exact HB.out)⟩
              · rw [if_neg c16] at H
                have c16b0 : (a0_0 == 1) = false := beq_eq_false_iff_ne.mpr c16
                have c16b1 : (a0_0 != 1) = true := bne_iff_ne.mpr c16
                obtain rfl := Option.some.inj H
                go_enter Try.func32, Try.ntmps32
                go_wp2_with (first | ((with_reducible refine gate_dst (N := 1) rfl ?_); (try (refine gate_guard (by rfl) ?_; dsimp only)); refine box_event ?hg (N := 1) ?hd (cs := #[.int .i64 a0_0, .int .i64 a0_1, .int .i64 a0_2, .int .i64 a0_3, .int .i64 a0_4, .string a0_5]) (t := 44) ?hr ?_; (case hd => rfl); (case hg => rfl); (case hr => first | (go_simp; done) | (go_simp; rfl)); intro gb141 hg w19 hbox hb; have n0_ := Aside0.mk (below_step (by repeat (first | (with_reducible first | exact HB.out | apply below_alloc | apply pw_below_drewN | apply below_drew1) | exact HB.out)) hb); have n1_ := Aside0.mk (hbox); have n2_ := Aside0.mk ((by rw [hg]; exact (below_size (by repeat (first | (with_reducible first | exact HB.out | apply below_alloc | apply pw_below_drewN | apply below_drew1) | exact HB.out))) : w.heap.size ≤ gb141)); have n3_ := Aside0.mk ((by rw [hg]; exact (below_size (by repeat (first | (with_reducible first | exact HB.out | apply below_alloc | apply pw_below_drewN | apply below_drew1) | exact HB.out))) : w.heap.size ≤ gb141)); clear HB; have HB := n0_; have BK141 := n1_; have GW141 := n2_; have GE141 := n3_; clear n0_ n1_ n2_ n3_; clear hb hbox hg; have hcz20_0 : w19.cell? ⟨gb141, 0, none⟩ = some (.int .i64 a0_0) := (blk_cell BK141.out 0).trans rfl; have hcz20_1 : w19.cell? ⟨gb141, 1, none⟩ = some (.int .i64 a0_1) := (blk_cell BK141.out 1).trans rfl; have hcz20_2 : w19.cell? ⟨gb141, 2, none⟩ = some (.int .i64 a0_2) := (blk_cell BK141.out 2).trans rfl; have hcz20_3 : w19.cell? ⟨gb141, 3, none⟩ = some (.int .i64 a0_3) := (blk_cell BK141.out 3).trans rfl; have hcz20_4 : w19.cell? ⟨gb141, 4, none⟩ = some (.int .i64 a0_4) := (blk_cell BK141.out 4).trans rfl; have hcz20_5 : w19.cell? ⟨gb141, 5, none⟩ = some (.string a0_5) := (blk_cell BK141.out 5).trans rfl; have hfz20_0 := blk_frozen BK141.out 0; have hfz20_1 := blk_frozen BK141.out 1; have hfz20_2 := blk_frozen BK141.out 2; have hfz20_3 := blk_frozen BK141.out 3; have hfz20_4 := blk_frozen BK141.out 4; have hfz20_5 := blk_frozen BK141.out 5) | ((with_reducible refine gate_callee (f := 48) rfl ?_); refine goesL_ (some 5) rfl rfl Try.func48 (by kernel_rfl) rfl #[.int .i64 a0_1, .int .i64 1, .int .i64 1000000000] rfl (by (try simp only [List.map_toArray, List.map_cons, List.map_nil]); first | done | rfl | (simp only [List.length_drop, List.length_take]; rfl)) ?_; (with_reducible refine (impl_in.calls a0_1 1 1000000000 true _ A2.out).mono ?_); rintro e w' ⟨rfl, ⟨nd, rfl⟩⟩; refine ⟨_, rfl, ?_⟩) | (go_at_call 48; (with_reducible refine (impl_in.calls a0_2 1 1000000000 true _ A4.out).mono ?_); rintro e w' ⟨rfl, ⟨nd, rfl⟩⟩) | (go_at_call 48; (with_reducible refine (impl_in.calls a0_4 1 9 true _ A6.out).mono ?_); rintro e w' ⟨rfl, ⟨nd, rfl⟩⟩) | (go_at_call 48; (with_reducible refine (impl_in.calls a0_3 0 (wrap64 (a0_4 - 1)) true _ A8.out).mono ?_); rintro e w' ⟨rfl, ⟨nd, rfl⟩⟩))
                go_ret
                exact ⟨by first | rfl | (simp [errW_none, errW_some] <;> rfl) | (simp [*, errW_none, errW_some] <;> rfl), by repeat (first | (with_reducible first | exact HB.out | apply below_alloc | apply pw_below_drewN | apply below_drew1 | refine below_set ?_ GE141.out) | exact HB.out)⟩
        · replace c9 := Bool.eq_false_iff.mpr c9
          subst c9
          have H1 : (some false) = some r := by rw [if_neg (show ¬ (false = true) by decide)] at H; exact H
          clear H
          have H := H1
          clear H1
          obtain rfl := Option.some.inj H
          go_enter Try.func32, Try.ntmps32
          go_wp2_with (first | ((with_reducible refine gate_dst (N := 1) rfl ?_); (try (refine gate_guard (by rfl) ?_; dsimp only)); refine box_event ?hg (N := 1) ?hd (cs := #[.int .i64 a0_0, .int .i64 a0_1, .int .i64 a0_2, .int .i64 a0_3, .int .i64 a0_4, .string a0_5]) (t := 44) ?hr ?_; (case hd => rfl); (case hg => rfl); (case hr => first | (go_simp; done) | (go_simp; rfl)); intro gb141 hg w21 hbox hb; have n0_ := Aside0.mk (below_step (by repeat (first | (with_reducible first | exact HB.out | apply below_alloc | apply pw_below_drewN | apply below_drew1) | exact HB.out)) hb); have n1_ := Aside0.mk (hbox); have n2_ := Aside0.mk ((by rw [hg]; exact (below_size (by repeat (first | (with_reducible first | exact HB.out | apply below_alloc | apply pw_below_drewN | apply below_drew1) | exact HB.out))) : w.heap.size ≤ gb141)); have n3_ := Aside0.mk ((by rw [hg]; exact (below_size (by repeat (first | (with_reducible first | exact HB.out | apply below_alloc | apply pw_below_drewN | apply below_drew1) | exact HB.out))) : w.heap.size ≤ gb141)); clear HB; have HB := n0_; have BK141 := n1_; have GW141 := n2_; have GE141 := n3_; clear n0_ n1_ n2_ n3_; clear hb hbox hg; have hcz22_0 : w21.cell? ⟨gb141, 0, none⟩ = some (.int .i64 a0_0) := (blk_cell BK141.out 0).trans rfl; have hcz22_1 : w21.cell? ⟨gb141, 1, none⟩ = some (.int .i64 a0_1) := (blk_cell BK141.out 1).trans rfl; have hcz22_2 : w21.cell? ⟨gb141, 2, none⟩ = some (.int .i64 a0_2) := (blk_cell BK141.out 2).trans rfl; have hcz22_3 : w21.cell? ⟨gb141, 3, none⟩ = some (.int .i64 a0_3) := (blk_cell BK141.out 3).trans rfl; have hcz22_4 : w21.cell? ⟨gb141, 4, none⟩ = some (.int .i64 a0_4) := (blk_cell BK141.out 4).trans rfl; have hcz22_5 : w21.cell? ⟨gb141, 5, none⟩ = some (.string a0_5) := (blk_cell BK141.out 5).trans rfl; have hfz22_0 := blk_frozen BK141.out 0; have hfz22_1 := blk_frozen BK141.out 1; have hfz22_2 := blk_frozen BK141.out 2; have hfz22_3 := blk_frozen BK141.out 3; have hfz22_4 := blk_frozen BK141.out 4; have hfz22_5 := blk_frozen BK141.out 5) | ((with_reducible refine gate_callee (f := 48) rfl ?_); refine goesL_ (some 5) rfl rfl Try.func48 (by kernel_rfl) rfl #[.int .i64 a0_1, .int .i64 1, .int .i64 1000000000] rfl (by (try simp only [List.map_toArray, List.map_cons, List.map_nil]); first | done | rfl | (simp only [List.length_drop, List.length_take]; rfl)) ?_; (with_reducible refine (impl_in.calls a0_1 1 1000000000 true _ A2.out).mono ?_); rintro e w' ⟨rfl, ⟨nd, rfl⟩⟩; refine ⟨_, rfl, ?_⟩) | (go_at_call 48; (with_reducible refine (impl_in.calls a0_2 1 1000000000 true _ A4.out).mono ?_); rintro e w' ⟨rfl, ⟨nd, rfl⟩⟩) | (go_at_call 48; (with_reducible refine (impl_in.calls a0_4 1 9 true _ A6.out).mono ?_); rintro e w' ⟨rfl, ⟨nd, rfl⟩⟩) | (go_at_call 48; (with_reducible refine (impl_in.calls a0_3 0 (wrap64 (a0_4 - 1)) false _ A8.out).mono ?_); rintro e w' ⟨rfl, ⟨nd, rfl⟩⟩))
          go_ret
          exact ⟨by first | rfl | (simp [errW_none, errW_some] <;> rfl) | (simp [*, errW_none, errW_some] <;> rfl), by repeat (first | (with_reducible first | exact HB.out | apply below_alloc | apply pw_below_drewN | apply below_drew1 | refine below_set ?_ GE141.out) | exact HB.out)⟩
      · replace c7 := Bool.eq_false_iff.mpr c7
        subst c7
        have H1 : (some false) = some r := by rw [if_neg (show ¬ (false = true) by decide)] at H; exact H
        clear H
        have H := H1
        clear H1
        obtain rfl := Option.some.inj H
        go_enter Try.func32, Try.ntmps32
        go_wp2_with (first | ((with_reducible refine gate_dst (N := 1) rfl ?_); (try (refine gate_guard (by rfl) ?_; dsimp only)); refine box_event ?hg (N := 1) ?hd (cs := #[.int .i64 a0_0, .int .i64 a0_1, .int .i64 a0_2, .int .i64 a0_3, .int .i64 a0_4, .string a0_5]) (t := 44) ?hr ?_; (case hd => rfl); (case hg => rfl); (case hr => first | (go_simp; done) | (go_simp; rfl)); intro gb141 hg w23 hbox hb; have n0_ := Aside0.mk (below_step (by repeat (first | (with_reducible first | exact HB.out | apply below_alloc | apply pw_below_drewN | apply below_drew1) | exact HB.out)) hb); have n1_ := Aside0.mk (hbox); have n2_ := Aside0.mk ((by rw [hg]; exact (below_size (by repeat (first | (with_reducible first | exact HB.out | apply below_alloc | apply pw_below_drewN | apply below_drew1) | exact HB.out))) : w.heap.size ≤ gb141)); have n3_ := Aside0.mk ((by rw [hg]; exact (below_size (by repeat (first | (with_reducible first | exact HB.out | apply below_alloc | apply pw_below_drewN | apply below_drew1) | exact HB.out))) : w.heap.size ≤ gb141)); clear HB; have HB := n0_; have BK141 := n1_; have GW141 := n2_; have GE141 := n3_; clear n0_ n1_ n2_ n3_; clear hb hbox hg; have hcz24_0 : w23.cell? ⟨gb141, 0, none⟩ = some (.int .i64 a0_0) := (blk_cell BK141.out 0).trans rfl; have hcz24_1 : w23.cell? ⟨gb141, 1, none⟩ = some (.int .i64 a0_1) := (blk_cell BK141.out 1).trans rfl; have hcz24_2 : w23.cell? ⟨gb141, 2, none⟩ = some (.int .i64 a0_2) := (blk_cell BK141.out 2).trans rfl; have hcz24_3 : w23.cell? ⟨gb141, 3, none⟩ = some (.int .i64 a0_3) := (blk_cell BK141.out 3).trans rfl; have hcz24_4 : w23.cell? ⟨gb141, 4, none⟩ = some (.int .i64 a0_4) := (blk_cell BK141.out 4).trans rfl; have hcz24_5 : w23.cell? ⟨gb141, 5, none⟩ = some (.string a0_5) := (blk_cell BK141.out 5).trans rfl; have hfz24_0 := blk_frozen BK141.out 0; have hfz24_1 := blk_frozen BK141.out 1; have hfz24_2 := blk_frozen BK141.out 2; have hfz24_3 := blk_frozen BK141.out 3; have hfz24_4 := blk_frozen BK141.out 4; have hfz24_5 := blk_frozen BK141.out 5) | ((with_reducible refine gate_callee (f := 48) rfl ?_); refine goesL_ (some 5) rfl rfl Try.func48 (by kernel_rfl) rfl #[.int .i64 a0_1, .int .i64 1, .int .i64 1000000000] rfl (by (try simp only [List.map_toArray, List.map_cons, List.map_nil]); first | done | rfl | (simp only [List.length_drop, List.length_take]; rfl)) ?_; (with_reducible refine (impl_in.calls a0_1 1 1000000000 true _ A2.out).mono ?_); rintro e w' ⟨rfl, ⟨nd, rfl⟩⟩; refine ⟨_, rfl, ?_⟩) | (go_at_call 48; (with_reducible refine (impl_in.calls a0_2 1 1000000000 true _ A4.out).mono ?_); rintro e w' ⟨rfl, ⟨nd, rfl⟩⟩) | (go_at_call 48; (with_reducible refine (impl_in.calls a0_4 1 9 false _ A6.out).mono ?_); rintro e w' ⟨rfl, ⟨nd, rfl⟩⟩))
        go_ret
        exact ⟨by first | rfl | (simp [errW_none, errW_some] <;> rfl) | (simp [*, errW_none, errW_some] <;> rfl), by repeat (first | (with_reducible first | exact HB.out | apply below_alloc | apply pw_below_drewN | apply below_drew1 | refine below_set ?_ GE141.out) | exact HB.out)⟩
    · replace c5 := Bool.eq_false_iff.mpr c5
      subst c5
      have H1 : (some false) = some r := by rw [if_neg (show ¬ (false = true) by decide)] at H; exact H
      clear H
      have H := H1
      clear H1
      obtain rfl := Option.some.inj H
      go_enter Try.func32, Try.ntmps32
      go_wp2_with (first | ((with_reducible refine gate_dst (N := 1) rfl ?_); (try (refine gate_guard (by rfl) ?_; dsimp only)); refine box_event ?hg (N := 1) ?hd (cs := #[.int .i64 a0_0, .int .i64 a0_1, .int .i64 a0_2, .int .i64 a0_3, .int .i64 a0_4, .string a0_5]) (t := 44) ?hr ?_; (case hd => rfl); (case hg => rfl); (case hr => first | (go_simp; done) | (go_simp; rfl)); intro gb141 hg w25 hbox hb; have n0_ := Aside0.mk (below_step (by repeat (first | (with_reducible first | exact HB.out | apply below_alloc | apply pw_below_drewN | apply below_drew1) | exact HB.out)) hb); have n1_ := Aside0.mk (hbox); have n2_ := Aside0.mk ((by rw [hg]; exact (below_size (by repeat (first | (with_reducible first | exact HB.out | apply below_alloc | apply pw_below_drewN | apply below_drew1) | exact HB.out))) : w.heap.size ≤ gb141)); have n3_ := Aside0.mk ((by rw [hg]; exact (below_size (by repeat (first | (with_reducible first | exact HB.out | apply below_alloc | apply pw_below_drewN | apply below_drew1) | exact HB.out))) : w.heap.size ≤ gb141)); clear HB; have HB := n0_; have BK141 := n1_; have GW141 := n2_; have GE141 := n3_; clear n0_ n1_ n2_ n3_; clear hb hbox hg; have hcz26_0 : w25.cell? ⟨gb141, 0, none⟩ = some (.int .i64 a0_0) := (blk_cell BK141.out 0).trans rfl; have hcz26_1 : w25.cell? ⟨gb141, 1, none⟩ = some (.int .i64 a0_1) := (blk_cell BK141.out 1).trans rfl; have hcz26_2 : w25.cell? ⟨gb141, 2, none⟩ = some (.int .i64 a0_2) := (blk_cell BK141.out 2).trans rfl; have hcz26_3 : w25.cell? ⟨gb141, 3, none⟩ = some (.int .i64 a0_3) := (blk_cell BK141.out 3).trans rfl; have hcz26_4 : w25.cell? ⟨gb141, 4, none⟩ = some (.int .i64 a0_4) := (blk_cell BK141.out 4).trans rfl; have hcz26_5 : w25.cell? ⟨gb141, 5, none⟩ = some (.string a0_5) := (blk_cell BK141.out 5).trans rfl; have hfz26_0 := blk_frozen BK141.out 0; have hfz26_1 := blk_frozen BK141.out 1; have hfz26_2 := blk_frozen BK141.out 2; have hfz26_3 := blk_frozen BK141.out 3; have hfz26_4 := blk_frozen BK141.out 4; have hfz26_5 := blk_frozen BK141.out 5) | ((with_reducible refine gate_callee (f := 48) rfl ?_); refine goesL_ (some 5) rfl rfl Try.func48 (by kernel_rfl) rfl #[.int .i64 a0_1, .int .i64 1, .int .i64 1000000000] rfl (by (try simp only [List.map_toArray, List.map_cons, List.map_nil]); first | done | rfl | (simp only [List.length_drop, List.length_take]; rfl)) ?_; (with_reducible refine (impl_in.calls a0_1 1 1000000000 true _ A2.out).mono ?_); rintro e w' ⟨rfl, ⟨nd, rfl⟩⟩; refine ⟨_, rfl, ?_⟩) | (go_at_call 48; (with_reducible refine (impl_in.calls a0_2 1 1000000000 false _ A4.out).mono ?_); rintro e w' ⟨rfl, ⟨nd, rfl⟩⟩))
      go_ret
      exact ⟨by first | rfl | (simp [errW_none, errW_some] <;> rfl) | (simp [*, errW_none, errW_some] <;> rfl), by repeat (first | (with_reducible first | exact HB.out | apply below_alloc | apply pw_below_drewN | apply below_drew1 | refine below_set ?_ GE141.out) | exact HB.out)⟩
  · replace c3 := Bool.eq_false_iff.mpr c3
    subst c3
    have H1 : (some false) = some r := by rw [if_neg (show ¬ (false = true) by decide)] at H; exact H
    clear H
    have H := H1
    clear H1
    obtain rfl := Option.some.inj H
    go_enter Try.func32, Try.ntmps32
    go_wp2_with (first | ((with_reducible refine gate_dst (N := 1) rfl ?_); (try (refine gate_guard (by rfl) ?_; dsimp only)); refine box_event ?hg (N := 1) ?hd (cs := #[.int .i64 a0_0, .int .i64 a0_1, .int .i64 a0_2, .int .i64 a0_3, .int .i64 a0_4, .string a0_5]) (t := 44) ?hr ?_; (case hd => rfl); (case hg => rfl); (case hr => first | (go_simp; done) | (go_simp; rfl)); intro gb141 hg w27 hbox hb; have n0_ := Aside0.mk (below_step (by repeat (first | (with_reducible first | exact HB.out | apply below_alloc | apply pw_below_drewN | apply below_drew1) | exact HB.out)) hb); have n1_ := Aside0.mk (hbox); have n2_ := Aside0.mk ((by rw [hg]; exact (below_size (by repeat (first | (with_reducible first | exact HB.out | apply below_alloc | apply pw_below_drewN | apply below_drew1) | exact HB.out))) : w.heap.size ≤ gb141)); have n3_ := Aside0.mk ((by rw [hg]; exact (below_size (by repeat (first | (with_reducible first | exact HB.out | apply below_alloc | apply pw_below_drewN | apply below_drew1) | exact HB.out))) : w.heap.size ≤ gb141)); clear HB; have HB := n0_; have BK141 := n1_; have GW141 := n2_; have GE141 := n3_; clear n0_ n1_ n2_ n3_; clear hb hbox hg; have hcz28_0 : w27.cell? ⟨gb141, 0, none⟩ = some (.int .i64 a0_0) := (blk_cell BK141.out 0).trans rfl; have hcz28_1 : w27.cell? ⟨gb141, 1, none⟩ = some (.int .i64 a0_1) := (blk_cell BK141.out 1).trans rfl; have hcz28_2 : w27.cell? ⟨gb141, 2, none⟩ = some (.int .i64 a0_2) := (blk_cell BK141.out 2).trans rfl; have hcz28_3 : w27.cell? ⟨gb141, 3, none⟩ = some (.int .i64 a0_3) := (blk_cell BK141.out 3).trans rfl; have hcz28_4 : w27.cell? ⟨gb141, 4, none⟩ = some (.int .i64 a0_4) := (blk_cell BK141.out 4).trans rfl; have hcz28_5 : w27.cell? ⟨gb141, 5, none⟩ = some (.string a0_5) := (blk_cell BK141.out 5).trans rfl; have hfz28_0 := blk_frozen BK141.out 0; have hfz28_1 := blk_frozen BK141.out 1; have hfz28_2 := blk_frozen BK141.out 2; have hfz28_3 := blk_frozen BK141.out 3; have hfz28_4 := blk_frozen BK141.out 4; have hfz28_5 := blk_frozen BK141.out 5) | ((with_reducible refine gate_callee (f := 48) rfl ?_); refine goesL_ (some 5) rfl rfl Try.func48 (by kernel_rfl) rfl #[.int .i64 a0_1, .int .i64 1, .int .i64 1000000000] rfl (by (try simp only [List.map_toArray, List.map_cons, List.map_nil]); first | done | rfl | (simp only [List.length_drop, List.length_take]; rfl)) ?_; (with_reducible refine (impl_in.calls a0_1 1 1000000000 false _ A2.out).mono ?_); rintro e w' ⟨rfl, ⟨nd, rfl⟩⟩; refine ⟨_, rfl, ?_⟩))
    go_ret
    exact ⟨by first | rfl | (simp [errW_none, errW_some] <;> rfl) | (simp [*, errW_none, errW_some] <;> rfl), by repeat (first | (with_reducible first | exact HB.out | apply below_alloc | apply pw_below_drewN | apply below_drew1 | refine below_set ?_ GE141.out) | exact HB.out)⟩

/-! ### impl_SumMore: function 83 -/
mutual
def impl_SumMore.l0 : Nat → Int → ByteArray → Int → Option (Int)
  | 0, _, _, _ => none
  | k + 1, x0, x1, x5 => if x5 < (x1.size : Int) then (if 0 ≤ x5 then (impl_SumMore.l1 k (Go.bits .xor .u32 x0 ((bt x1 x5) % 4294967296)) x1 x5 0) else (none)) else (some x0)
def impl_SumMore.l1 : Nat → Int → ByteArray → Int → Int → Option (Int)
  | 0, _, _, _, _ => none
  | k + 1, x0, x1, x5, x19 => if x19 < 8 then (if (Go.bits .and .u32 x0 1) = 1 then (impl_SumMore.l1 k (Go.bits .xor .u32 (x0 / 2) 3558460437) x1 x5 (wrap64 (x19 + 1))) else (impl_SumMore.l1 k (x0 / 2) x1 x5 (wrap64 (x19 + 1)))) else (impl_SumMore.l0 k x0 x1 (wrap64 (x5 + 1)))
end
def impl_SumMore.f (k : Nat) (a0 : Int) (a1 : ByteArray) : Option (Int) := impl_SumMore.l0 k a0 a1 0
theorem impl_SumMore.mono_l : ∀ k, (∀ y0 y1 y2, LeO (impl_SumMore.l0 k y0 y1 y2) (impl_SumMore.l0 (k + 1) y0 y1 y2)) ∧ (∀ y0 y1 y2 y3, LeO (impl_SumMore.l1 k y0 y1 y2 y3) (impl_SumMore.l1 (k + 1) y0 y1 y2 y3))
  | 0 => ⟨fun _ _ _ r h => by simp [impl_SumMore.l0] at h, fun _ _ _ _ r h => by simp [impl_SumMore.l1] at h⟩
  | k + 1 => by
    obtain ⟨ih0, ih1⟩ := impl_SumMore.mono_l k
    refine ⟨?_, ?_⟩
    · intro y0 y1 y2
      unfold impl_SumMore.l0
      repeat' first
      | (with_reducible exact ih0 _ _ _)
      | (with_reducible exact ih1 _ _ _ _)
      | (with_reducible exact LeO.refl _)
      | (with_reducible exact LeO.none _)
      | (with_reducible refine LeO.ite ?_ ?_)
      | (with_reducible refine LeO.bind ?_ (fun _ => ?_))
      | exact ih0 _ _ _
      | exact ih1 _ _ _ _
      | exact LeO.none _
      | refine LeO.ite ?_ ?_
      | refine LeO.bind ?_ (fun _ => ?_)
    · intro y0 y1 y2 y3
      unfold impl_SumMore.l1
      repeat' first
      | (with_reducible exact ih0 _ _ _)
      | (with_reducible exact ih1 _ _ _ _)
      | (with_reducible exact LeO.refl _)
      | (with_reducible exact LeO.none _)
      | (with_reducible refine LeO.ite ?_ ?_)
      | (with_reducible refine LeO.bind ?_ (fun _ => ?_))
      | exact ih0 _ _ _
      | exact ih1 _ _ _ _
      | exact LeO.none _
      | refine LeO.ite ?_ ?_
      | refine LeO.bind ?_ (fun _ => ?_)
theorem impl_SumMore.mono : ∀ a0 a1 k, LeO (impl_SumMore.f k a0 a1) (impl_SumMore.f (k + 1) a0 a1) := by
  intro a0 a1 k
  obtain ⟨ih0, ih1⟩ := impl_SumMore.mono_l k
  unfold impl_SumMore.f
  repeat' first
      | (with_reducible exact ih0 _ _ _)
      | (with_reducible exact ih1 _ _ _ _)
      | (with_reducible exact LeO.refl _)
      | (with_reducible exact LeO.none _)
      | (with_reducible refine LeO.ite ?_ ?_)
      | (with_reducible refine LeO.bind ?_ (fun _ => ?_))
      | exact ih0 _ _ _
      | exact ih1 _ _ _ _
      | exact LeO.none _
      | refine LeO.ite ?_ ?_
      | refine LeO.bind ?_ (fun _ => ?_)
set_option maxHeartbeats 8000000 in
set_option maxRecDepth 100000 in
theorem impl_SumMore.calls (k : Nat) (a0 : Int) (a1 : ByteArray) (r : Int) (w : World) (h : impl_SumMore.f k a0 a1 = some r) :
    Calls Try.prog 83 #[.int .u32 a0, .string a1] w fun e w' => e = .returned (.int .u32 r) ∧ Drawn0 w w' := by
  have H : (impl_SumMore.l0 k a0 a1 0) = some r := h
  clear h
  have H' := Aside0.mk H
  clear H
  go_enter Try.func83, Try.ntmps83
  go_wp2
  go_loopg [0, 5] k (fun kq v0 v5 w' => ∃ (x0_1 : Int) (x5_1 : Int), v0 = .int .u32 x0_1 ∧ v5 = .int .i64 x5_1 ∧ Aside0 (impl_SumMore.l0 kq x0_1 a1 x5_1 = some r) ∧ Aside0 (kq ≤ k) ∧ Drawn0 w w')
  case atStart => exact ⟨(a0), (0), (by first | rfl | (simp; done) | (simp [*]; done)), (by first | rfl | (simp; done) | (simp [*]; done)), H', ⟨Nat.le_refl _⟩, by repeat (first | exact Drawn0.refl _ | apply Drawn0.step)⟩
  case round =>
    clear H'
    try clear p2
    obtain ⟨x0_1, x5_1, rfl, rfl, HA, HK1, ⟨m1, rfl⟩⟩ := hrel
    cases gk with
    | zero => exact absurd HA.out (by simp [impl_SumMore.l0])
    | succ k1 =>
      have H := HA.out
      clear HA
      simp only [impl_SumMore.l0] at H
      by_cases c3 : x5_1 < (a1.size : Int)
      · rw [if_pos c3] at H
        have c3b0 : decide (x5_1 < (a1.size : Int)) = true := decide_eq_true c3
        clear c3
        by_cases c4 : 0 ≤ x5_1
        · rw [if_pos c4] at H
          have c4b0 : decide (0 ≤ x5_1) = true := decide_eq_true c4
          clear c4
          have H' := Aside0.mk H
          clear H
          have p5 : 0 ≤ (x5_1 : Int) := of_decide_eq_true (by first | (with_reducible assumption) | assumption)
          have q5 : x5_1 < (a1.size : Int) := of_decide_eq_true (by first | (with_reducible assumption) | assumption)
          have hx5 := bt_at a1 x5_1
          replace p5 := eq_true p5
          replace q5 := eq_true q5
          go_wp2
          go_loopg [0, 19] k1 (fun kq v0 v19 w' => ∃ (x0_2 : Int) (x19_2 : Int), v0 = .int .u32 x0_2 ∧ v19 = .int .i64 x19_2 ∧ Aside0 (impl_SumMore.l1 kq x0_2 a1 x5_1 x19_2 = some r) ∧ Aside0 (kq ≤ k1) ∧ Drawn0 w w')
          case atStart => exact ⟨(Go.bits .xor .u32 x0_1 ((bt a1 x5_1) % 4294967296)), (0), (by first | rfl | (simp; done) | (simp [*]; done)), (by first | rfl | (simp; done) | (simp [*]; done)), H', ⟨Nat.le_refl _⟩, by repeat (first | exact Drawn0.refl _ | apply Drawn0.step)⟩
          case round =>
            clear H'
            try clear p2
            try clear c3
            try clear c3b0
            try clear c4
            try clear c4b0
            try clear p5
            try clear q5
            try clear hx5
            try clear p2
            try clear p5
            try clear q5
            obtain ⟨x0_2, x19_2, rfl, rfl, HA, HK2, ⟨m2, rfl⟩⟩ := hrel
            cases gk with
            | zero => exact absurd HA.out (by simp [impl_SumMore.l1])
            | succ k2 =>
              have H := HA.out
              clear HA
              simp only [impl_SumMore.l1] at H
              by_cases c6 : x19_2 < 8
              · rw [if_pos c6] at H
                have c6b0 : decide (x19_2 < 8) = true := decide_eq_true c6
                clear c6
                by_cases c7 : (Go.bits .and .u32 x0_2 1) = 1
                · rw [if_pos c7] at H
                  have c7b0 : ((Go.bits .and .u32 x0_2 1) == 1) = true := beq_iff_eq.mpr c7
                  have c7b1 : ((Go.bits .and .u32 x0_2 1) != 1) = false := bne_eq_false_iff_eq.mpr c7
                  clear c7
                  have H' := Aside0.mk H
                  clear H
                  go_wp2
                  go_roundg k2
                  case measure => have := HK1.out; have := HK2.out; omega
                  case rel => exact ⟨(Go.bits .xor .u32 (x0_2 / 2) 3558460437), (wrap64 (x19_2 + 1)), (by first | rfl | (simp; done) | (simp [*]; done)), (by first | rfl | (simp; done) | (simp [*]; done)), H', ⟨by have := HK1.out; have := HK2.out; omega⟩, by repeat (first | exact Drawn0.refl _ | apply Drawn0.step)⟩
                · rw [if_neg c7] at H
                  have c7b0 : ((Go.bits .and .u32 x0_2 1) == 1) = false := beq_eq_false_iff_ne.mpr c7
                  have c7b1 : ((Go.bits .and .u32 x0_2 1) != 1) = true := bne_iff_ne.mpr c7
                  have H' := Aside0.mk H
                  clear H
                  go_wp2
                  go_roundg k2
                  case measure => have := HK1.out; have := HK2.out; omega
                  case rel => exact ⟨(x0_2 / 2), (wrap64 (x19_2 + 1)), (by first | rfl | (simp; done) | (simp [*]; done)), (by first | rfl | (simp; done) | (simp [*]; done)), H', ⟨by have := HK1.out; have := HK2.out; omega⟩, by repeat (first | exact Drawn0.refl _ | apply Drawn0.step)⟩
              · rw [if_neg c6] at H
                have c6b0 : decide (x19_2 < 8) = false := decide_eq_false c6
                clear c6
                have H' := Aside0.mk H
                clear H
                go_wp2
                go_roundg k2
                case measure => have := HK1.out; have := HK2.out; omega
                case rel => exact ⟨(x0_2), (wrap64 (x5_1 + 1)), (by first | rfl | (simp; done) | (simp [*]; done)), (by first | rfl | (simp; done) | (simp [*]; done)), H', ⟨by have := HK1.out; have := HK2.out; omega⟩, by repeat (first | exact Drawn0.refl _ | apply Drawn0.step)⟩
        · rw [if_neg c4] at H
          exact absurd H (by simp)
      · rw [if_neg c3] at H
        have c3b0 : decide (x5_1 < (a1.size : Int)) = false := decide_eq_false c3
        clear c3
        obtain rfl := Option.some.inj H
        go_wp2
        go_ret
        exact ⟨by first | rfl | (simp; done) | (simp [*]; done), by repeat (first | exact Drawn0.refl _ | apply Drawn0.step)⟩

/-! ### impl_SumOf: function 75 -/
def impl_SumOf.f (k : Nat) (a0 : ByteArray) : Option (Int) := (impl_SumMore.f k 4294967295 a0).bind fun t146 => (some t146)
theorem impl_SumOf.mono : ∀ a0 k, LeO (impl_SumOf.f k a0) (impl_SumOf.f (k + 1) a0) := by
  intro a0 k
  unfold impl_SumOf.f
  repeat' first
      | (with_reducible exact impl_SumMore.mono _ _ _)
      | (with_reducible exact LeO.refl _)
      | (with_reducible exact LeO.none _)
      | (with_reducible refine LeO.ite ?_ ?_)
      | (with_reducible refine LeO.bind ?_ (fun _ => ?_))
      | exact impl_SumMore.mono _ _ _
      | exact LeO.none _
      | refine LeO.ite ?_ ?_
      | refine LeO.bind ?_ (fun _ => ?_)
set_option maxHeartbeats 8000000 in
set_option maxRecDepth 100000 in
theorem impl_SumOf.calls (k : Nat) (a0 : ByteArray) (r : Int) (w : World) (h : impl_SumOf.f k a0 = some r) :
    Calls Try.prog 75 #[.string a0] w fun e w' => e = .returned (.int .u32 r) ∧ Drawn0 w w' := by
  have H : ((impl_SumMore.f k 4294967295 a0).bind fun t146 => (some t146)) = some r := h
  clear h
  replace H := Option.bind_eq_some_iff.mp H
  obtain ⟨t146, A20, H⟩ := H
  replace H : (some t146) = some r := H
  have A2 := Aside0.mk A20
  clear A20
  obtain rfl := Option.some.inj H
  go_enter Try.func75, Try.ntmps75
  go_wp2_with (first | ((with_reducible refine gate_callee (f := 83) rfl ?_); refine goesL_ (some 4) rfl rfl Try.func83 (by kernel_rfl) rfl #[.int .u32 4294967295, .string a0] rfl (by (try simp only [List.map_toArray, List.map_cons, List.map_nil]); first | done | rfl | (simp only [List.length_drop, List.length_take]; rfl)) ?_; (with_reducible refine (impl_SumMore.calls k 4294967295 a0 t146 _ A2.out).mono ?_); rintro e w' ⟨rfl, ⟨nd, rfl⟩⟩; refine ⟨_, rfl, ?_⟩))
  go_ret
  exact ⟨by first | rfl | (simp; done) | (simp [*]; done), by repeat (first | exact Drawn0.refl _ | apply Drawn0.step)⟩

/-! ### impl_Sealed: function 58 -/
def impl_Sealed.f (k : Nat) (a0 : ByteArray) : Option (ByteArray × Bool) := if (a0.size : Int) > 20000 then (some ((⟨#[]⟩ : ByteArray), false)) else ((impl_SumOf.f k a0).bind fun t147 => ((some (([(t147 / 16777216) % 256, (t147 / 65536) % 256, (t147 / 256) % 256, (t147) % 256] : List Int) : List Int)).bind fun y148 => (if a0.size + (strOfNums y148).size ≤ 9223372036854775807 then (some (a0 ++ (strOfNums y148), true)) else (none))))
theorem impl_Sealed.mono : ∀ a0 k, LeO (impl_Sealed.f k a0) (impl_Sealed.f (k + 1) a0) := by
  intro a0 k
  unfold impl_Sealed.f
  repeat' first
      | (with_reducible exact impl_SumOf.mono _ _)
      | (with_reducible exact LeO.refl _)
      | (with_reducible exact LeO.none _)
      | (with_reducible refine LeO.ite ?_ ?_)
      | (with_reducible refine LeO.bind ?_ (fun _ => ?_))
      | exact impl_SumOf.mono _ _
      | exact LeO.none _
      | refine LeO.ite ?_ ?_
      | refine LeO.bind ?_ (fun _ => ?_)
set_option maxHeartbeats 8000000 in
set_option maxRecDepth 100000 in
theorem impl_Sealed.calls (k : Nat) (a0 : ByteArray) (r1 : ByteArray) (r2 : Bool) (w : World) (h : impl_Sealed.f k a0 = some (r1, r2)) :
    Calls Try.prog 58 #[.string a0] w fun e w' => e = .returned (.tuple #[.string r1, .bool r2]) ∧ Below w.heap.size w w' := by
  have HB := Aside0.mk (Below.refl w.heap.size w)
  have H : (if (a0.size : Int) > 20000 then (some ((⟨#[]⟩ : ByteArray), false)) else ((impl_SumOf.f k a0).bind fun t147 => ((some (([(t147 / 16777216) % 256, (t147 / 65536) % 256, (t147 / 256) % 256, (t147) % 256] : List Int) : List Int)).bind fun y148 => (if a0.size + (strOfNums y148).size ≤ 9223372036854775807 then (some (a0 ++ (strOfNums y148), true)) else (none))))) = some (r1, r2) := h
  clear h
  by_cases c2 : (a0.size : Int) > 20000
  · rw [if_pos c2] at H
    have c2b0 : decide (20000 < (a0.size : Int)) = true := decide_eq_true c2
    have c2b1 : decide (20000 < a0.size) = true := decide_eq_true (by omega)
    clear c2
    simp only [Option.some.injEq, Prod.mk.injEq] at H
    obtain ⟨rfl, rfl⟩ := H
    go_enter Try.func58, Try.ntmps58
    go_wp2
    go_ret2
    exact ⟨by first | rfl | (simp [errW_none, errW_some] <;> rfl) | (simp [*, errW_none, errW_some] <;> rfl), by repeat (first | (with_reducible first | exact HB.out | apply below_alloc | apply pw_below_drewN | apply below_drew1) | exact HB.out)⟩
  · rw [if_neg c2] at H
    have c2b0 : decide (20000 < (a0.size : Int)) = false := decide_eq_false c2
    have c2b1 : decide (20000 < a0.size) = false := decide_eq_false (by omega)
    clear c2
    replace H := Option.bind_eq_some_iff.mp H
    obtain ⟨t147, A30, H⟩ := H
    replace H : ((some (([(t147 / 16777216) % 256, (t147 / 65536) % 256, (t147 / 256) % 256, (t147) % 256] : List Int) : List Int)).bind fun y148 => (if a0.size + (strOfNums y148).size ≤ 9223372036854775807 then (some (a0 ++ (strOfNums y148), true)) else (none))) = some (r1, r2) := H
    have A3 := Aside0.mk A30
    clear A30
    obtain ⟨y148, hy148⟩ : ∃ y_ : List Int, y_ = (([(t147 / 16777216) % 256, (t147 / 65536) % 256, (t147 / 256) % 256, (t147) % 256] : List Int)) := ⟨_, rfl⟩
    replace H : (if a0.size + (strOfNums y148).size ≤ 9223372036854775807 then (some (a0 ++ (strOfNums y148), true)) else (none)) = some (r1, r2) := by first | (rw [hy148]; with_reducible exact H) | (have H2_ := (Option.bind_some _ _).symm.trans H; rw [hy148]; with_reducible exact H2_) | (have H2_ := (Option.bind_some _ _).symm.trans H; with_reducible exact H2_) | with_reducible exact H | (rw [hy148]; exact H) | exact H
    have Ny148 := Aside0.mk hy148
    clear hy148
    by_cases c4 : a0.size + (strOfNums y148).size ≤ 9223372036854775807
    · rw [if_pos c4] at H
      have c4b0 := eq_true c4
      have c4b1 : decide (a0.size + (strOfNums y148).size ≤ 9223372036854775807) = true := decide_eq_true c4
      try have c4b2 : (9223372036854775807 < a0.size + (strOfNums y148).size) = False := eq_false (Nat.not_lt.2 c4)
      have c4b3 := c4
      (try simp only [ByteArray.size_append] at c4b3)
      replace c4b3 := eq_false (Nat.not_lt.mpr c4b3)
      simp only [Option.some.injEq, Prod.mk.injEq] at H
      obtain ⟨rfl, rfl⟩ := H
      go_enter Try.func58, Try.ntmps58
      go_wp2_with (first | ((with_reducible refine gate_callee (f := 75) rfl ?_); refine goesL_ (some 9) rfl rfl Try.func75 (by kernel_rfl) rfl #[.string a0] rfl (by (try simp only [List.map_toArray, List.map_cons, List.map_nil]); first | done | rfl | (simp only [List.length_drop, List.length_take]; rfl)) ?_; (with_reducible refine (impl_SumOf.calls k a0 t147 _ A3.out).mono ?_); rintro e w' ⟨rfl, ⟨nd, rfl⟩⟩; refine ⟨_, rfl, ?_⟩) | ((with_reducible refine gate_dst (N := 22) rfl ?_); refine Kd.R_lit (Kd.int .u8) _ 5 ?hg (N := 22) ?hd (xs := ([(t147 / 16777216) % 256, (t147 / 65536) % 256, (t147 / 256) % 256, (t147) % 256] : List Int)) (inner := [.int .u8 ((t147 / 16777216) % 256), .int .u8 ((t147 / 65536) % 256), .int .u8 ((t147 / 256) % 256), .int .u8 ((t147) % 256)]) (ok := fun _ => True) (okp := fun _ => True) ?hr ?hp (fun _ hk => hk) trivial (Below.refl _ _) (Nat.le_refl _) (by simp) ?_; (case hd => rfl); (case hg => rfl); (case hr => first | (go_simp; done) | (go_simp; rfl)); (case hp => exact (Reps.one (show Kd.M (Kd.int .u8) _ _ _ ((t147 / 16777216) % 256) [.int .u8 ((t147 / 16777216) % 256)] from rfl) (Reps.one (show Kd.M (Kd.int .u8) _ _ _ ((t147 / 65536) % 256) [.int .u8 ((t147 / 65536) % 256)] from rfl) (Reps.one (show Kd.M (Kd.int .u8) _ _ _ ((t147 / 256) % 256) [.int .u8 ((t147 / 256) % 256)] from rfl) (Reps.one (show Kd.M (Kd.int .u8) _ _ _ ((t147) % 256) [.int .u8 ((t147) % 256)] from rfl) (Reps.none _ _)))))); intro v149 w5 ho6 hb hg_ hnew_; clear hg_ hnew_; (first | rw [← Ny148.out] at ho6 | (simp only [Int.reduceToNat] at ho6; rw [← Ny148.out] at ho6)); have n0_ := Aside0.mk (Kd.R_lower ho6 (below_size (by repeat (first | (with_reducible first | exact HB.out | apply below_alloc | apply pw_below_drewN | apply below_drew1) | exact HB.out)))); have n1_ := Aside0.mk (below_step (by repeat (first | (with_reducible first | exact HB.out | apply below_alloc | apply pw_below_drewN | apply below_drew1) | exact HB.out)) hb); clear HB; have HO150 := n0_; have HB := n1_; clear n0_ n1_; clear hb ho6; have hcv7 := own_string (P := Try.prog) Try.underlying34 Try.underlying5 Try.underlying9 (Kd.own_of_R HO150.out)))
      go_ret2
      exact ⟨by first | rfl | (simp [errW_none, errW_some] <;> rfl) | (simp [*, errW_none, errW_some] <;> rfl), by repeat (first | (with_reducible first | exact HB.out | apply below_alloc | apply pw_below_drewN | apply below_drew1) | exact HB.out)⟩
    · rw [if_neg c4] at H
      exact absurd H (by simp)

end Go.Proofs.Ytbiapgneafgdeaa.QFnExactReadPage
