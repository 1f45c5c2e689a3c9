/- What is proved here: contracts of functions that the law FnExactWipe reaches, each told as a plain function. Conditions: those of each contract. (Written by a program of ours.) -/
import Derived.Test.YtbafmoggckeaeaaQFnExactWipex0
import Derived.Test.YtbafmoggckeaeaaQFnExactWipex2
import Derived.Test.YtbafmoggckeaeaaQFnExactWipex3
import Derived.Test.YtbafmoggckeaeaaQFnExactWipex4
import Derived.Test.YtbafmoggckeaeaaQFnExactWipex5
import Derived.Test.YtbafmoggckeaeaaQFnExactWipex6
namespace Go.Proofs.Ytbafmoggckeaeaa.QFnExactWipe
open Go.RowKit Go.Proofs.YtbafmoggckeaeaaW.PrintWords Go.Proofs.YtbafmoggckeaeaaW.PrintLast Go.Proofs.YtbafmoggckeaeaaW.PrintMore
attribute [local go_sem] max2_int min2_int max_two min_two max_three min_three max_four min_four   -- for this text's walks alone
set_option linter.unusedVariables false
set_option linter.unusedSimpArgs false

/-! ### laws_FnExactWipe: function 13 -/
/-- (may share) A flash of the call's own in a variable: the variable's block, the flash, whose blocks lie from lo on and below hi. -/
structure OkN (w : World) (g : Nat) (A : Option Addr) (n c : Nat) (xs : List S39) (lo hi : Nat) (W : World) : Prop where
  b : W.heap[g]? = some (.cells #[.slice A n c] 29 (0, 0))
  s : Kd.N k39 39 W w.heap.size (fun k => lo ≤ k ∧ k < hi) (.slice A n c) xs
  hg : hi ≤ g
  hl : lo ≤ hi
section
variable {w W W' W1 W2 : World} {g g' : Nat} {A A' : Option Addr} {n c n' c' : Nat} {xs ys : List S39} {lo hi lo' hi' : Nat}
theorem OkN.below (h : OkN w g A n c xs lo hi W) (hb : Below W.heap.size W W') : OkN w g A n c xs lo hi W' := ⟨blk_below h.b hb, Kd.N_below h.s hb, h.hg, h.hl⟩
theorem OkN.kept (h : OkN w g A n c xs lo hi W) (hk : Kept W W' (fun k => lo' ≤ k ∧ k < hi')) (hd : g < lo' ∨ hi' ≤ lo) : OkN w g A n c xs lo hi W' :=
  ⟨blk_kept h.b hk (fun k => by have := h.hg; have := h.hl; omega), Kd.N_kept h.s hk (fun k hk h2 => by have := h.hg; have := h.hl; omega), h.hg, h.hl⟩
theorem OkN.marked (h : OkN w g A n c xs lo hi W) (hk : Kept W W' (fun k => lo ≤ k ∧ k < hi)) (hS : Kd.N k39 39 W' w.heap.size (fun k => lo ≤ k ∧ k < hi) (.slice A n c) ys) : OkN w g A n c ys lo hi W' :=
  ⟨blk_kept h.b hk (fun k => by have := h.hg; omega), hS, h.hg, h.hl⟩
theorem OkN.row (h : OkN w g A n c xs lo hi W) (hg : g < g') (cs : Array Value) : OkN w g A n c xs lo hi (W.setRow g' cs) :=
  ⟨(setRow_other W g' g cs (by omega)).trans h.b, Kd.N_step h.s (fun k hk _ => setRow_other W g' k cs (by have := h.hg; omega)), h.hg, h.hl⟩
theorem OkN.make (hS : Kd.N k39 39 W1 W.heap.size (fun k_ => W.heap.size ≤ k_) (.slice A n c) xs) (hlo : w.heap.size ≤ W.heap.size ∧ W.heap.size ≤ W1.heap.size) (hg : g = W1.heap.size) {old : Array Value} (hbox : W2.heap[g]? = some (.cells old 29 (0, 0))) (hb : Below W1.heap.size W1 W2) :
    OkN w g A n c xs W.heap.size W1.heap.size (W2.setRow g #[.slice A n c]) :=
  ⟨setRow_heap W2 g old _ 29 (0, 0) hbox, Kd.N_step (Kd.N_lower (Kd.N_mono (Kd.N_bound (Kd.N_below (Kd.N_mono (Kd.N_bound hS) (fun k hk => (⟨hk.1, hk.2⟩ : W.heap.size ≤ k ∧ k < W1.heap.size))) hb)) (fun k hk => hk.1)) hlo.1) (fun k hk _ => setRow_other W2 g k _ (by omega)), Nat.le_of_eq hg.symm, hlo.2⟩
theorem eq_at {k : Nat} {e : Bool} (h1 : n = xs.length ∧ n ≤ c ∧ k39.C W A xs.length xs) (h2 : n' = ys.length ∧ n' ≤ c' ∧ k39.C W A' ys.length ys) (h : laws_eqFlash.f k xs ys = some e) :
    Calls Try.prog 32 #[.agg #[.slice A n c], .agg #[.slice A' n' c']] W fun r w' => r = .returned (.bool e) ∧ Below W.heap.size W w' := by
  obtain ⟨e1, q1, r1⟩ := h1
  obtain ⟨e2, q2, r2⟩ := h2
  subst e1
  subst e2
  exact laws_eqFlash.calls k A c xs A' c' ys e W r1 q1 r2 q2 h
theorem held_at {k : Nat} {a q : Int} (h1 : n = xs.length ∧ n ≤ c ∧ k39.C W A xs.length xs) (h : laws_heldFlash.f k xs a = some q) :
    Calls Try.prog 48 #[.agg #[.slice A n c], .int .i64 a] W fun r w' => r = .returned (.int .i64 q) ∧ Below W.heap.size W w' := by
  obtain ⟨e1, q1, r1⟩ := h1
  subst e1
  exact laws_heldFlash.calls k A c xs a q W r1 q1 h
end
set_option maxHeartbeats 4000000 in
set_option maxRecDepth 1000000 in
theorem laws_FnExactWipe.big_ (k : Nat) (A0_0 : Option Addr) (c0_0 : Nat) (l0_0 : List (S103)) (a1 : Int) (sz : Int) (w : World) (hr0_0 : Kd.C k103 w A0_0 l0_0.length l0_0) (hc0_0 : l0_0.length ≤ c0_0) (hsz : laws_szFlash.f k l0_0 1048576 = some sz) (hz : sz < 0) :
    Calls Try.prog 13 #[.agg #[.slice A0_0 l0_0.length c0_0], .int .i64 a1] w fun e w' => e = .returned (.bool true) ∧ Below w.heap.size w w' := by
  have hu44 := Try.underlying44
  have hu29 := Try.underlying29
  have HI44 : Aside0 ((Try.prog.info? 44).map (·.size) = some 1) := ⟨by kernel_rfl⟩
  have HI29 : Aside0 ((Try.prog.info? 29).map (·.size) = some 1) := ⟨by kernel_rfl⟩
  have HB := Aside0.mk (Below.refl w.heap.size w)
  have HR := Aside0.mk hr0_0
  have HC := Aside0.mk hc0_0
  have HSZ := Aside0.mk hsz
  have hz1 : decide (sz < 0) = true := decide_eq_true hz
  clear hr0_0 hc0_0 hsz hz
  go_enter Try.func13, Try.ntmps13
  go_wp2_with (first | ((with_reducible refine gate_dst (N := 2) rfl ?_); refine box_event ?hg (N := 2) ?hd (cs := #[.slice A0_0 l0_0.length c0_0]) (t := 44) ?hr ?_; (case hd => rfl); (case hg => rfl); (case hr => first | (go_simp; done) | (go_simp; rfl)); intro gA hg w2 hbox hb; have HB_2 := Aside0.mk (below_step HB.out hb); have BA_2 := Aside0.mk hbox; clear hg hbox hb HB) | ((with_reducible refine gate_dst (N := 16) rfl ?_); refine wpList_load_row rfl 44 (.tmp 2) rfl gA rfl 44 _ (0, 0) _ BA_2.out hu44 rfl HI44.out ?_) | ((with_reducible refine gate_callee (f := 28) rfl ?_); (with_reducible refine gate_dst (N := 18) rfl ?_); refine goesL_ (some 18) rfl rfl Try.func28 (by kernel_rfl) rfl #[.agg #[.slice A0_0 l0_0.length c0_0], .int .i64 1048576] rfl (by (try simp only [List.map_toArray, List.map_cons, List.map_nil]); first | done | rfl) ?_; (with_reducible refine (laws_szFlash.calls k A0_0 c0_0 l0_0 1048576 sz _ (Kd.C_below HR.out HB_2.out) HC.out HSZ.out).mono ?_); rintro e w3 ⟨rfl, hb⟩; refine ⟨_, rfl, ?_⟩; have HB_3 := Aside0.mk (below_step HB_2.out hb); have BA_3 := Aside0.mk (blk_below BA_2.out hb); clear hb HB_2 BA_2))
  go_ret
  exact ⟨rfl, HB_3.out⟩
set_option maxHeartbeats 4000000 in
set_option maxRecDepth 1000000 in
theorem laws_FnExactWipe.walk_ (k : Nat) (A0_0 : Option Addr) (c0_0 : Nat) (l0_0 : List (S103)) (a1 : Int) (sz kx kg : Int) (m rs ri mx rg : List S39) (ok : Bool) (w : World) (hr0_0 : Kd.C k103 w A0_0 l0_0.length l0_0) (hc0_0 : l0_0.length ≤ c0_0) (hsz : laws_szFlash.f k l0_0 1048576 = some sz) (hz : ¬ sz < 0)
    (hto : laws_toFlash.f k l0_0 = some m) (hs : spec_Wipe.f k m a1 = some (rs, ok)) (hi : impl_Wipe.f k m a1 = some (ri, ok)) (he1 : laws_eqFlash.f k ri rs = some true) (he2 : laws_eqFlash.f k m m = some true)
    (hmx : laws_markFlash.f k m 1 = some (kx, mx)) (hkx : ¬ kx < 0) (hmg : laws_markFlash.f k ri 1 = some (kg, rg)) (hh : laws_heldFlash.f k rg 1 = some kg) (hkg : ¬ kg < 0) :
    Calls Try.prog 13 #[.agg #[.slice A0_0 l0_0.length c0_0], .int .i64 a1] w fun e w' => e = .returned (.bool true) ∧ Below w.heap.size w w' := by
  have hu44 := Try.underlying44
  have hu29 := Try.underlying29
  have HI44 : Aside0 ((Try.prog.info? 44).map (·.size) = some 1) := ⟨by kernel_rfl⟩
  have HI29 : Aside0 ((Try.prog.info? 29).map (·.size) = some 1) := ⟨by kernel_rfl⟩
  have HB := Aside0.mk (Below.refl w.heap.size w)
  have HR := Aside0.mk hr0_0
  have HC := Aside0.mk hc0_0
  have HSZ := Aside0.mk hsz
  have HTO := Aside0.mk hto
  have HS := Aside0.mk hs
  have HI_ := Aside0.mk hi
  have HE1 := Aside0.mk he1
  have HE2 := Aside0.mk he2
  have HMX := Aside0.mk hmx
  have HMG := Aside0.mk hmg
  have HH := Aside0.mk hh
  have hz1 : decide (sz < 0) = false := decide_eq_false hz
  have hkx1 : decide (kx < 0) = false := decide_eq_false hkx
  have hkg1 : decide (kg < 0) = false := decide_eq_false hkg
  clear hr0_0 hc0_0 hsz hz hto hs hi he1 he2 hmx hkx hmg hh hkg
  go_enter Try.func13, Try.ntmps13
  go_wp2_with (first | ((with_reducible refine gate_dst (N := 2) rfl ?_); refine box_event ?hg (N := 2) ?hd (cs := #[.slice A0_0 l0_0.length c0_0]) (t := 44) ?hr ?_; (case hd => rfl); (case hg => rfl); (case hr => first | (go_simp; done) | (go_simp; rfl)); intro gA hg w2 hbox hb; have HB_2 := Aside0.mk (below_step HB.out hb); have BA_2 := Aside0.mk hbox; clear hg hbox hb HB) | ((with_reducible refine gate_dst (N := 16) rfl ?_); refine wpList_load_row rfl 44 (.tmp 2) rfl gA rfl 44 _ (0, 0) _ BA_2.out hu44 rfl HI44.out ?_) | ((with_reducible refine gate_callee (f := 28) rfl ?_); (with_reducible refine gate_dst (N := 18) rfl ?_); refine goesL_ (some 18) rfl rfl Try.func28 (by kernel_rfl) rfl #[.agg #[.slice A0_0 l0_0.length c0_0], .int .i64 1048576] rfl (by (try simp only [List.map_toArray, List.map_cons, List.map_nil]); first | done | rfl) ?_; (with_reducible refine (laws_szFlash.calls k A0_0 c0_0 l0_0 1048576 sz _ (Kd.C_below HR.out HB_2.out) HC.out HSZ.out).mono ?_); rintro e w3 ⟨rfl, hb⟩; refine ⟨_, rfl, ?_⟩; have HB_3 := Aside0.mk (below_step HB_2.out hb); have BA_3 := Aside0.mk (blk_below BA_2.out hb); clear hb HB_2 BA_2) | ((with_reducible refine gate_dst (N := 22) rfl ?_); refine wpList_load_row rfl 44 (.tmp 2) rfl gA rfl 44 _ (0, 0) _ BA_3.out hu44 rfl HI44.out ?_) | ((with_reducible refine gate_callee (f := 30) rfl ?_); (with_reducible refine gate_dst (N := 23) rfl ?_); refine goesL_ (some 23) rfl rfl Try.func30 (by kernel_rfl) rfl #[.agg #[.slice A0_0 l0_0.length c0_0]] rfl (by (try simp only [List.map_toArray, List.map_cons, List.map_nil]); first | done | rfl) ?_; (with_reducible refine (laws_toFlash.calls k A0_0 c0_0 l0_0 m _ (Kd.C_below HR.out HB_3.out) HC.out HTO.out).mono ?_); rintro e w4 ⟨v_, rfl, hS, hb⟩; refine ⟨_, rfl, ?_⟩; obtain ⟨Aa, ca, e_⟩ := Kd.S_slice hS; subst e_; have Sa := Aside0.mk hS; have LOa := Aside0.mk (⟨HB_3.out.size, hb.size⟩ : w.heap.size ≤ w3.heap.size ∧ w3.heap.size ≤ _); clear hS; have HB_4 := Aside0.mk (below_step HB_3.out hb); have BA_4 := Aside0.mk (blk_below BA_3.out hb); clear hb HB_3 BA_3) | ((with_reducible refine gate_callee (f := 24) rfl ?_); (with_reducible refine gate_dst (N := 25) rfl ?_); refine goesL_ (some 25) rfl rfl Try.func24 (by kernel_rfl) rfl #[.agg #[.slice Aa m.length ca], .int .i64 a1] rfl (by (try simp only [List.map_toArray, List.map_cons, List.map_nil]); first | done | rfl) ?_; (with_reducible refine (spec_Wipe.calls k Aa ca m a1 rs ok _ (Kd.S_reads' Sa.out).2.2 (Kd.S_reads' Sa.out).2.1 HS.out).mono ?_); rintro e w5 ⟨v_, rfl, hS, hb⟩; refine ⟨_, rfl, ?_⟩; obtain ⟨Aw, cw, e_⟩ := Kd.N_slice hS; subst e_; have Sw := Aside0.mk hS; have LOw := Aside0.mk (⟨HB_4.out.size, hb.size⟩ : w.heap.size ≤ w4.heap.size ∧ w4.heap.size ≤ _); clear hS; have LT_A_OW := Aside0.mk (blk_lt BA_4.out); have HB_5 := Aside0.mk (below_step HB_4.out hb); have BA_5 := Aside0.mk (blk_below BA_4.out hb); clear hb Sa LOa HB_4 BA_4) | ((with_reducible refine gate_dst (N := 6) rfl ?_); refine box_event ?hg (N := 6) ?hd (cs := #[.slice none 0 0]) (t := 29) ?hr ?_; (case hd => rfl); (case hg => rfl); (case hr => first | (go_simp; done) | (go_simp; rfl)); intro g6 hg w6 hbox hb; have GE6 := Aside0.mk ((by rw [hg]; exact HB_5.out.size) : w.heap.size ≤ g6); have RA_OW := Aside0.mk ((by rw [hg]; exact blk_lt BA_5.out) : gA < g6); have HB_6 := Aside0.mk (below_step HB_5.out hb); have BA_6 := Aside0.mk (blk_below BA_5.out hb); have MK := Aside0.mk (fun W' (e_ : W' = World.setRow w6 g6 #[.slice Aw rs.length cw]) => (by rw [e_]; exact OkN.make Sw.out LOw.out hg hbox hb : OkN w g6 Aw rs.length cw rs w4.heap.size w5.heap.size W')); have BX := Aside0.mk hbox; clear hg hbox hb Sw LOw HB_5 BA_5) | ((with_reducible refine gate_store (t := 29) (p := 6) rfl ?_); refine row_event39 rfl 29 (.tmp 6) (.tmp 26) rfl g6 #[.slice Aw rs.length cw] rfl (by first | rfl | (go_simp; done) | (go_simp; rfl)) 29 _ BX.out HI29.out rfl (by simp [Value.oneCell']) ?_; intro w7 hw; have OW_7 := Aside0.mk (MK.out _ hw); have HB_7 := Aside0.mk (by rw [hw]; exact below_row39 HB_6.out GE6.out _ : Below w.heap.size w w7); have BA_7 := Aside0.mk (by rw [hw]; exact (setRow_other _ _ _ _ (by have := RA_OW.out; omega)).trans BA_6.out : w7.heap[gA]? = some (.cells #[.slice A0_0 l0_0.length c0_0] 44 (0, 0))); clear hw MK BX HB_6 BA_6) | ((with_reducible refine gate_dst (N := 28) rfl ?_); refine wpList_load_row rfl 44 (.tmp 2) rfl gA rfl 44 _ (0, 0) _ BA_7.out hu44 rfl HI44.out ?_) | ((with_reducible refine gate_callee (f := 30) rfl ?_); (with_reducible refine gate_dst (N := 29) rfl ?_); refine goesL_ (some 29) rfl rfl Try.func30 (by kernel_rfl) rfl #[.agg #[.slice A0_0 l0_0.length c0_0]] rfl (by (try simp only [List.map_toArray, List.map_cons, List.map_nil]); first | done | rfl) ?_; (with_reducible refine (laws_toFlash.calls k A0_0 c0_0 l0_0 m _ (Kd.C_below HR.out HB_7.out) HC.out HTO.out).mono ?_); rintro e w8 ⟨v_, rfl, hS, hb⟩; refine ⟨_, rfl, ?_⟩; obtain ⟨Ax, cx, e_⟩ := Kd.S_slice hS; subst e_; have Sx := Aside0.mk hS; have LOx := Aside0.mk (⟨HB_7.out.size, hb.size⟩ : w.heap.size ≤ w7.heap.size ∧ w7.heap.size ≤ _); clear hS; have LT_OW_OX := Aside0.mk (blk_lt OW_7.out.b); have LT_A_OX := Aside0.mk (blk_lt BA_7.out); have HB_8 := Aside0.mk (below_step HB_7.out hb); have BA_8 := Aside0.mk (blk_below BA_7.out hb); have OW_8 := Aside0.mk (OW_7.out.below hb); clear hb HB_7 BA_7 OW_7) | ((with_reducible refine gate_dst (N := 8) rfl ?_); refine box_event ?hg (N := 8) ?hd (cs := #[.slice none 0 0]) (t := 29) ?hr ?_; (case hd => rfl); (case hg => rfl); (case hr => first | (go_simp; done) | (go_simp; rfl)); intro g8 hg w9 hbox hb; have GE8 := Aside0.mk ((by rw [hg]; exact HB_8.out.size) : w.heap.size ≤ g8); have R_OW_OX := Aside0.mk ((by rw [hg]; exact blk_lt OW_8.out.b) : g6 < g8); have RA_OX := Aside0.mk ((by rw [hg]; exact blk_lt BA_8.out) : gA < g8); have HB_9 := Aside0.mk (below_step HB_8.out hb); have BA_9 := Aside0.mk (blk_below BA_8.out hb); have OW_9 := Aside0.mk (OW_8.out.below hb); have MK := Aside0.mk (fun W' (e_ : W' = World.setRow w9 g8 #[.slice Ax m.length cx]) => (by rw [e_]; exact Ok.make Sx.out LOx.out hg hbox hb : Ok w g8 Ax m.length cx m w7.heap.size w8.heap.size W')); have BX := Aside0.mk hbox; clear hg hbox hb Sx LOx HB_8 BA_8 OW_8) | ((with_reducible refine gate_store (t := 29) (p := 8) rfl ?_); refine row_event39 rfl 29 (.tmp 8) (.tmp 29) rfl g8 #[.slice Ax m.length cx] rfl (by first | rfl | (go_simp; done) | (go_simp; rfl)) 29 _ BX.out HI29.out rfl (by simp [Value.oneCell']) ?_; intro w10 hw; have OX_10 := Aside0.mk (MK.out _ hw); have HB_10 := Aside0.mk (by rw [hw]; exact below_row39 HB_9.out GE8.out _ : Below w.heap.size w w10); have BA_10 := Aside0.mk (by rw [hw]; exact (setRow_other _ _ _ _ (by have := RA_OX.out; omega)).trans BA_9.out : w10.heap[gA]? = some (.cells #[.slice A0_0 l0_0.length c0_0] 44 (0, 0))); have OW_10 := Aside0.mk (by rw [hw]; exact OW_9.out.row R_OW_OX.out _ : OkN w g6 _ _ _ _ _ _ w10); clear hw MK BX HB_9 BA_9 OW_9) | ((with_reducible refine gate_dst (N := 31) rfl ?_); refine wpList_load_row rfl 29 (.tmp 8) rfl g8 rfl 29 _ (0, 0) _ OX_10.out.b hu29 rfl HI29.out ?_) | ((with_reducible refine gate_callee (f := 49) rfl ?_); (with_reducible refine gate_dst (N := 33) rfl ?_); refine goesL_ (some 33) rfl rfl Try.func49 (by kernel_rfl) rfl #[.agg #[.slice Ax m.length cx], .int .i64 a1] rfl (by (try simp only [List.map_toArray, List.map_cons, List.map_nil]); first | done | rfl) ?_; (with_reducible refine (impl_Wipe.calls k Ax cx m a1 ri ok _ (Kd.S_reads' OX_10.out.s).2.2 (Kd.S_reads' OX_10.out.s).2.1 HI_.out).mono ?_); rintro e w11 ⟨v_, rfl, hS, hb⟩; refine ⟨_, rfl, ?_⟩; obtain ⟨Ag, cg, e_⟩ := Kd.S_slice hS; subst e_; have Sg := Aside0.mk hS; have LOg := Aside0.mk (⟨HB_10.out.size, hb.size⟩ : w.heap.size ≤ w10.heap.size ∧ w10.heap.size ≤ _); clear hS; have LT_OW_OG := Aside0.mk (blk_lt OW_10.out.b); have LT_OX_OG := Aside0.mk (blk_lt OX_10.out.b); have LT_A_OG := Aside0.mk (blk_lt BA_10.out); have HB_11 := Aside0.mk (below_step HB_10.out hb); have BA_11 := Aside0.mk (blk_below BA_10.out hb); have OW_11 := Aside0.mk (OW_10.out.below hb); have OX_11 := Aside0.mk (OX_10.out.below hb); clear hb HB_10 BA_10 OW_10 OX_10) | ((with_reducible refine gate_dst (N := 9) rfl ?_); refine box_event ?hg (N := 9) ?hd (cs := #[.slice none 0 0]) (t := 29) ?hr ?_; (case hd => rfl); (case hg => rfl); (case hr => first | (go_simp; done) | (go_simp; rfl)); intro g9 hg w12 hbox hb; have GE9 := Aside0.mk ((by rw [hg]; exact HB_11.out.size) : w.heap.size ≤ g9); have R_OW_OG := Aside0.mk ((by rw [hg]; exact blk_lt OW_11.out.b) : g6 < g9); have R_OX_OG := Aside0.mk ((by rw [hg]; exact blk_lt OX_11.out.b) : g8 < g9); have RA_OG := Aside0.mk ((by rw [hg]; exact blk_lt BA_11.out) : gA < g9); have HB_12 := Aside0.mk (below_step HB_11.out hb); have BA_12 := Aside0.mk (blk_below BA_11.out hb); have OW_12 := Aside0.mk (OW_11.out.below hb); have OX_12 := Aside0.mk (OX_11.out.below hb); have MK := Aside0.mk (fun W' (e_ : W' = World.setRow w12 g9 #[.slice Ag ri.length cg]) => (by rw [e_]; exact Ok.make Sg.out LOg.out hg hbox hb : Ok w g9 Ag ri.length cg ri w10.heap.size w11.heap.size W')); have BX := Aside0.mk hbox; clear hg hbox hb Sg LOg HB_11 BA_11 OW_11 OX_11) | ((with_reducible refine gate_store (t := 29) (p := 9) rfl ?_); refine row_event39 rfl 29 (.tmp 9) (.tmp 34) rfl g9 #[.slice Ag ri.length cg] rfl (by first | rfl | (go_simp; done) | (go_simp; rfl)) 29 _ BX.out HI29.out rfl (by simp [Value.oneCell']) ?_; intro w13 hw; have OG_13 := Aside0.mk (MK.out _ hw); have HB_13 := Aside0.mk (by rw [hw]; exact below_row39 HB_12.out GE9.out _ : Below w.heap.size w w13); have BA_13 := Aside0.mk (by rw [hw]; exact (setRow_other _ _ _ _ (by have := RA_OG.out; omega)).trans BA_12.out : w13.heap[gA]? = some (.cells #[.slice A0_0 l0_0.length c0_0] 44 (0, 0))); have OW_13 := Aside0.mk (by rw [hw]; exact OW_12.out.row R_OW_OG.out _ : OkN w g6 _ _ _ _ _ _ w13); have OX_13 := Aside0.mk (by rw [hw]; exact OX_12.out.row R_OX_OG.out _ : Ok w g8 _ _ _ _ _ _ w13); clear hw MK BX HB_12 BA_12 OW_12 OX_12) | ((with_reducible refine gate_dst (N := 36) rfl ?_); refine wpList_load_row rfl 29 (.tmp 9) rfl g9 rfl 29 _ (0, 0) _ OG_13.out.b hu29 rfl HI29.out ?_) | ((with_reducible refine gate_dst (N := 37) rfl ?_); refine wpList_load_row rfl 29 (.tmp 6) rfl g6 rfl 29 _ (0, 0) _ OW_13.out.b hu29 rfl HI29.out ?_) | ((with_reducible refine gate_callee (f := 32) rfl ?_); (with_reducible refine gate_dst (N := 38) rfl ?_); refine goesL_ (some 38) rfl rfl Try.func32 (by kernel_rfl) rfl #[.agg #[.slice Ag ri.length cg], .agg #[.slice Aw rs.length cw]] rfl (by (try simp only [List.map_toArray, List.map_cons, List.map_nil]); first | done | rfl) ?_; (with_reducible refine (eq_at (Kd.S_reads' OG_13.out.s) (Kd.N_reads' OW_13.out.s) HE1.out).mono ?_); rintro e w14 ⟨rfl, hb⟩; refine ⟨_, rfl, ?_⟩; have HB_14 := Aside0.mk (below_step HB_13.out hb); have BA_14 := Aside0.mk (blk_below BA_13.out hb); have OW_14 := Aside0.mk (OW_13.out.below hb); have OX_14 := Aside0.mk (OX_13.out.below hb); have OG_14 := Aside0.mk (OG_13.out.below hb); clear hb HB_13 BA_13 OW_13 OX_13 OG_13))
  refine start_ (n := 5) (S := fun w' => w'.cell? ⟨g8, 0, none⟩ = some (.slice Ax m.length cx) ∧ w'.cell? ⟨gA, 0, none⟩ = some (.slice A0_0 l0_0.length c0_0) ∧ w'.heap[gA]? = some (.cells #[.slice A0_0 l0_0.length c0_0] 44 (0, 0)) ∧ Below w.heap.size w w' ∧ OkN w g6 Aw rs.length cw rs w4.heap.size w5.heap.size w' ∧ Ok w g8 Ax m.length cx m w7.heap.size w8.heap.size w' ∧ Ok w g9 Ag ri.length cg ri w10.heap.size w11.heap.size w') (ds := []) #[false, false, false, false, false] (by kernel_rfl) rfl rfl ⟨(blk_cell OX_14.out.b 0).trans rfl, (blk_cell BA_14.out 0).trans rfl, BA_14.out, below_drew1 HB_14.out, OW_14.out.below (below_drew1 (Below.refl _ _)), OX_14.out.below (below_drew1 (Below.refl _ _)), OG_14.out.below (below_drew1 (Below.refl _ _))⟩ (fun hHeld => ?_)
  refine take_ (i := 0) (N := some 45) (v := ?_) (a' := ?_) #[true, false, false, false, false] rfl rfl (by kernel_rfl) (fun _ _ _ h => h) (Or.inl ⟨by rfl, ?_⟩) hHeld ?_ ?_
  rotate_left
  · rintro w' ⟨s0, s1, s2, s3, s4, s5, s6⟩
    go_simp
    with_reducible rfl
  rotate_left
  · simp only [Act.put, List.setIfInBounds_toArray, List.set_cons_zero, List.set_cons_succ, i64_w, i32_w]
    rfl
  refine take_ (i := 1) (N := some 46) (v := ?_) (a' := ?_) #[true, true, false, false, false] rfl rfl (by kernel_rfl) (fun _ _ _ h => h) (Or.inl ⟨by rfl, ?_⟩) hHeld ?_ ?_
  rotate_left
  · rintro w' ⟨s0, s1, s2, s3, s4, s5, s6⟩
    go_simp
    with_reducible rfl
  rotate_left
  · simp only [Act.put, List.setIfInBounds_toArray, List.set_cons_zero, List.set_cons_succ, i64_w, i32_w]
    rfl
  refine one_ (i := 2) (N := some 47) #[true, true, true, false, false] rfl rfl (by kernel_rfl) (by decide) (fun K hK => ?_)
  refine goes_ Try.func30 (by kernel_rfl) rfl #[.agg #[.slice A0_0 l0_0.length c0_0]] (by rfl) rfl rfl (by simp only [List.map_toArray, List.map_cons, List.map_nil]; rfl) ?_
  with_reducible refine (laws_toFlash.calls k A0_0 c0_0 l0_0 m _ (Kd.C_below HR.out hHeld.2.2.2.1) HC.out HTO.out).mono ?_
  rintro e w40 ⟨v_, rfl, hS, hb⟩
  refine ⟨_, rfl, ?_⟩
  obtain ⟨At, ct, e_⟩ := Kd.S_slice hS
  subst e_
  refine hK.out _ _ ⟨pw_cell_below hb hHeld.1, pw_cell_below hb hHeld.2.1, blk_below hHeld.2.2.1 hb, below_step hHeld.2.2.2.1 hb, hHeld.2.2.2.2.1.below hb, hHeld.2.2.2.2.2.1.below hb, hHeld.2.2.2.2.2.2.below hb⟩ (fun hHeld => ?_)
  clear hK K
  refine norm_ (a' := ?_) ?_ ?_
  rotate_left
  · show Act.put _ (some 47) _ = _
    simp only [Act.put, List.setIfInBounds_toArray, List.set_cons_zero, List.set_cons_succ, i64_w, i32_w]
    rfl
  refine one_ (i := 3) (N := some 48) #[true, true, true, true, false] rfl rfl (by kernel_rfl) (by decide) (fun K hK => ?_)
  refine goes_ Try.func32 (by kernel_rfl) rfl #[.agg #[.slice Ax m.length cx], .agg #[.slice At m.length ct]] (by rfl) rfl rfl (by simp only [List.map_toArray, List.map_cons, List.map_nil]; rfl) ?_
  with_reducible refine (eq_at (Kd.S_reads' hHeld.2.2.2.2.2.1.s) (Kd.S_reads' hS) HE2.out).mono ?_
  rintro e w41 ⟨rfl, hb⟩
  refine ⟨_, rfl, ?_⟩
  refine hK.out _ _ ⟨pw_cell_below hb hHeld.1, pw_cell_below hb hHeld.2.1, blk_below hHeld.2.2.1 hb, below_step hHeld.2.2.2.1 hb, hHeld.2.2.2.2.1.below hb, hHeld.2.2.2.2.2.1.below hb, hHeld.2.2.2.2.2.2.below hb⟩ (fun hHeld => ?_)
  clear hK K
  refine norm_ (a' := ?_) ?_ ?_
  rotate_left
  · show Act.put _ (some 48) _ = _
    simp only [Act.put, List.setIfInBounds_toArray, List.set_cons_zero, List.set_cons_succ, i64_w, i32_w]
    rfl
  refine pure_ (i := 4) (N := some 49) (v := ?_) (a' := ?_) #[true, true, true, true, true] rfl rfl (by kernel_rfl) (fun _ _ _ h => h) (Or.inl ⟨by rfl, ?_⟩) ?_ ?_
  rotate_left
  · intro w'
    go_simp
    with_reducible rfl
  rotate_left
  · simp only [Act.put, List.setIfInBounds_toArray, List.set_cons_zero, List.set_cons_succ, i64_w, i32_w]
    rfl
  refine done_ (by kernel_rfl) ?_

  have HB_41 := Aside0.mk hHeld.2.2.2.1
  have BA_41 := Aside0.mk hHeld.2.2.1
  have OW_41 := Aside0.mk hHeld.2.2.2.2.1
  have OX_41 := Aside0.mk hHeld.2.2.2.2.2.1
  have OG_41 := Aside0.mk hHeld.2.2.2.2.2.2
  clear hHeld hS hb HB_14 BA_14 OW_14 OX_14 OG_14
  go_wp2_with (first | ((with_reducible refine gate_dst (N := 50) rfl ?_); refine wpList_load_row rfl 29 (.tmp 8) rfl g8 rfl 29 _ (0, 0) _ OX_41.out.b hu29 rfl HI29.out ?_) | ((with_reducible refine gate_callee (f := 47) rfl ?_); (with_reducible refine gate_dst (N := 52) rfl ?_); refine goesL_ (some 52) rfl rfl Try.func47 (by kernel_rfl) rfl #[.agg #[.slice Ax m.length cx], .int .i64 1] rfl (by (try simp only [List.map_toArray, List.map_cons, List.map_nil]); first | done | rfl) ?_; (with_reducible refine (laws_markFlash.calls k _ Ax m.length cx m 1 kx mx w _ HB_41.out OX_41.out.s HMX.out).mono ?_); rintro e w42 ⟨rfl, hS, hb, hk⟩; refine ⟨_, rfl, ?_⟩; have HB_42 := Aside0.mk hb; have BA_42 := Aside0.mk (blk_kept BA_41.out hk (fun h_ => by have h1_ := h_.1; have := LT_A_OX.out; omega)); have OW_42 := Aside0.mk (OW_41.out.kept hk (.inl LT_OW_OX.out)); have OG_42 := Aside0.mk (OG_41.out.kept hk (.inr (Nat.le_trans OX_41.out.hg (Nat.le_of_lt LT_OX_OG.out)))); have OX_42 := Aside0.mk (OX_41.out.marked hk hS); clear hS hb hk HB_41 OX_41 BA_41 OW_41 OG_41) | ((with_reducible refine gate_dst (N := 56) rfl ?_); refine gate_guard (by rfl) ?_; refine wpList_load_row rfl 29 (.tmp 9) rfl g9 rfl 29 _ (0, 0) _ OG_42.out.b hu29 rfl HI29.out ?_) | ((with_reducible refine gate_dst (N := 57) rfl ?_); refine gate_guard (by rfl) ?_; refine wpList_load_row rfl 29 (.tmp 6) rfl g6 rfl 29 _ (0, 0) _ OW_42.out.b hu29 rfl HI29.out ?_) | ((with_reducible refine gate_callee (f := 32) rfl ?_); (with_reducible refine gate_dst (N := 58) rfl ?_); refine gate_guard (by rfl) ?_; refine goesL_ (some 58) rfl rfl Try.func32 (by kernel_rfl) rfl #[.agg #[.slice Ag ri.length cg], .agg #[.slice Aw rs.length cw]] rfl (by (try simp only [List.map_toArray, List.map_cons, List.map_nil]); first | done | rfl) ?_; (with_reducible refine (eq_at (Kd.S_reads' OG_42.out.s) (Kd.N_reads' OW_42.out.s) HE1.out).mono ?_); rintro e w43 ⟨rfl, hb⟩; refine ⟨_, rfl, ?_⟩; have HB_43 := Aside0.mk (below_step HB_42.out hb); have BA_43 := Aside0.mk (blk_below BA_42.out hb); have OW_43 := Aside0.mk (OW_42.out.below hb); have OX_43 := Aside0.mk (OX_42.out.below hb); have OG_43 := Aside0.mk (OG_42.out.below hb); clear hb HB_42 BA_42 OW_42 OX_42 OG_42) | ((with_reducible refine gate_dst (N := 66) rfl ?_); refine wpList_load_row rfl 29 (.tmp 9) rfl g9 rfl 29 _ (0, 0) _ OG_43.out.b hu29 rfl HI29.out ?_) | ((with_reducible refine gate_callee (f := 47) rfl ?_); (with_reducible refine gate_dst (N := 68) rfl ?_); refine goesL_ (some 68) rfl rfl Try.func47 (by kernel_rfl) rfl #[.agg #[.slice Ag ri.length cg], .int .i64 1] rfl (by (try simp only [List.map_toArray, List.map_cons, List.map_nil]); first | done | rfl) ?_; (with_reducible refine (laws_markFlash.calls k _ Ag ri.length cg ri 1 kg rg w _ HB_43.out OG_43.out.s HMG.out).mono ?_); rintro e w44 ⟨rfl, hS, hb, hk⟩; refine ⟨_, rfl, ?_⟩; have HB_44 := Aside0.mk hb; have BA_44 := Aside0.mk (blk_kept BA_43.out hk (fun h_ => by have h1_ := h_.1; have := LT_A_OG.out; omega)); have OW_44 := Aside0.mk (OW_43.out.kept hk (.inl LT_OW_OG.out)); have OX_44 := Aside0.mk (OX_43.out.kept hk (.inl LT_OX_OG.out)); have OG_44 := Aside0.mk (OG_43.out.marked hk hS); clear hS hb hk HB_43 OG_43 BA_43 OW_43 OX_43) | ((with_reducible refine gate_dst (N := 69) rfl ?_); refine wpList_load_row rfl 29 (.tmp 9) rfl g9 rfl 29 _ (0, 0) _ OG_44.out.b hu29 rfl HI29.out ?_) | ((with_reducible refine gate_callee (f := 48) rfl ?_); (with_reducible refine gate_dst (N := 71) rfl ?_); refine goesL_ (some 71) rfl rfl Try.func48 (by kernel_rfl) rfl #[.agg #[.slice Ag ri.length cg], .int .i64 1] rfl (by (try simp only [List.map_toArray, List.map_cons, List.map_nil]); first | done | rfl) ?_; (with_reducible refine (held_at (Kd.S_reads' OG_44.out.s) HH.out).mono ?_); rintro e w45 ⟨rfl, hb⟩; refine ⟨_, rfl, ?_⟩; have HB_45 := Aside0.mk (below_step HB_44.out hb); have BA_45 := Aside0.mk (blk_below BA_44.out hb); have OW_45 := Aside0.mk (OW_44.out.below hb); have OX_45 := Aside0.mk (OX_44.out.below hb); have OG_45 := Aside0.mk (OG_44.out.below hb); clear hb HB_44 BA_44 OW_44 OX_44 OG_44) | ((with_reducible refine gate_dst (N := 78) rfl ?_); refine wpList_load_row rfl 44 (.tmp 2) rfl gA rfl 44 _ (0, 0) _ BA_45.out hu44 rfl HI44.out ?_) | ((with_reducible refine gate_callee (f := 30) rfl ?_); (with_reducible refine gate_dst (N := 79) rfl ?_); refine goesL_ (some 79) rfl rfl Try.func30 (by kernel_rfl) rfl #[.agg #[.slice A0_0 l0_0.length c0_0]] rfl (by (try simp only [List.map_toArray, List.map_cons, List.map_nil]); first | done | rfl) ?_; (with_reducible refine (laws_toFlash.calls k A0_0 c0_0 l0_0 m _ (Kd.C_below HR.out HB_45.out) HC.out HTO.out).mono ?_); rintro e w46 ⟨v_, rfl, hS, hb⟩; refine ⟨_, rfl, ?_⟩; obtain ⟨Ab, cb, e_⟩ := Kd.S_slice hS; subst e_; have Sb := Aside0.mk hS; have LOb := Aside0.mk (⟨HB_45.out.size, hb.size⟩ : w.heap.size ≤ w45.heap.size ∧ w45.heap.size ≤ _); clear hS; have HB_46 := Aside0.mk (below_step HB_45.out hb); have BA_46 := Aside0.mk (blk_below BA_45.out hb); have OW_46 := Aside0.mk (OW_45.out.below hb); have OX_46 := Aside0.mk (OX_45.out.below hb); have OG_46 := Aside0.mk (OG_45.out.below hb); clear hb HB_45 BA_45 OW_45 OX_45 OG_45) | ((with_reducible refine gate_callee (f := 49) rfl ?_); (with_reducible refine gate_dst (N := 81) rfl ?_); refine goesL_ (some 81) rfl rfl Try.func49 (by kernel_rfl) rfl #[.agg #[.slice Ab m.length cb], .int .i64 a1] rfl (by (try simp only [List.map_toArray, List.map_cons, List.map_nil]); first | done | rfl) ?_; (with_reducible refine (impl_Wipe.calls k Ab cb m a1 ri ok _ (Kd.S_reads' Sb.out).2.2 (Kd.S_reads' Sb.out).2.1 HI_.out).mono ?_); rintro e w47 ⟨v_, rfl, hS, hb⟩; refine ⟨_, rfl, ?_⟩; obtain ⟨Ah, ch, e_⟩ := Kd.S_slice hS; subst e_; have Sh := Aside0.mk hS; have LOh := Aside0.mk (⟨HB_46.out.size, hb.size⟩ : w.heap.size ≤ w46.heap.size ∧ w46.heap.size ≤ _); clear hS; have LT_OW_OH := Aside0.mk (blk_lt OW_46.out.b); have LT_OX_OH := Aside0.mk (blk_lt OX_46.out.b); have LT_OG_OH := Aside0.mk (blk_lt OG_46.out.b); have LT_A_OH := Aside0.mk (blk_lt BA_46.out); have HB_47 := Aside0.mk (below_step HB_46.out hb); have BA_47 := Aside0.mk (blk_below BA_46.out hb); have OW_47 := Aside0.mk (OW_46.out.below hb); have OX_47 := Aside0.mk (OX_46.out.below hb); have OG_47 := Aside0.mk (OG_46.out.below hb); clear hb Sb LOb HB_46 BA_46 OW_46 OX_46 OG_46) | ((with_reducible refine gate_dst (N := 14) rfl ?_); refine box_event ?hg (N := 14) ?hd (cs := #[.slice none 0 0]) (t := 29) ?hr ?_; (case hd => rfl); (case hg => rfl); (case hr => first | (go_simp; done) | (go_simp; rfl)); intro g14 hg w48 hbox hb; have GE14 := Aside0.mk ((by rw [hg]; exact HB_47.out.size) : w.heap.size ≤ g14); have R_OW_OH := Aside0.mk ((by rw [hg]; exact blk_lt OW_47.out.b) : g6 < g14); have R_OX_OH := Aside0.mk ((by rw [hg]; exact blk_lt OX_47.out.b) : g8 < g14); have R_OG_OH := Aside0.mk ((by rw [hg]; exact blk_lt OG_47.out.b) : g9 < g14); have RA_OH := Aside0.mk ((by rw [hg]; exact blk_lt BA_47.out) : gA < g14); have HB_48 := Aside0.mk (below_step HB_47.out hb); have BA_48 := Aside0.mk (blk_below BA_47.out hb); have OW_48 := Aside0.mk (OW_47.out.below hb); have OX_48 := Aside0.mk (OX_47.out.below hb); have OG_48 := Aside0.mk (OG_47.out.below hb); have MK := Aside0.mk (fun W' (e_ : W' = World.setRow w48 g14 #[.slice Ah ri.length ch]) => (by rw [e_]; exact Ok.make Sh.out LOh.out hg hbox hb : Ok w g14 Ah ri.length ch ri w46.heap.size w47.heap.size W')); have BX := Aside0.mk hbox; clear hg hbox hb Sh LOh HB_47 BA_47 OW_47 OX_47 OG_47) | ((with_reducible refine gate_store (t := 29) (p := 14) rfl ?_); refine row_event39 rfl 29 (.tmp 14) (.tmp 82) rfl g14 #[.slice Ah ri.length ch] rfl (by first | rfl | (go_simp; done) | (go_simp; rfl)) 29 _ BX.out HI29.out rfl (by simp [Value.oneCell']) ?_; intro w49 hw; have OH_49 := Aside0.mk (MK.out _ hw); have HB_49 := Aside0.mk (by rw [hw]; exact below_row39 HB_48.out GE14.out _ : Below w.heap.size w w49); have BA_49 := Aside0.mk (by rw [hw]; exact (setRow_other _ _ _ _ (by have := RA_OH.out; omega)).trans BA_48.out : w49.heap[gA]? = some (.cells #[.slice A0_0 l0_0.length c0_0] 44 (0, 0))); have OW_49 := Aside0.mk (by rw [hw]; exact OW_48.out.row R_OW_OH.out _ : OkN w g6 _ _ _ _ _ _ w49); have OX_49 := Aside0.mk (by rw [hw]; exact OX_48.out.row R_OX_OH.out _ : Ok w g8 _ _ _ _ _ _ w49); have OG_49 := Aside0.mk (by rw [hw]; exact OG_48.out.row R_OG_OH.out _ : Ok w g9 _ _ _ _ _ _ w49); clear hw MK BX HB_48 BA_48 OW_48 OX_48 OG_48) | ((with_reducible refine gate_dst (N := 84) rfl ?_); refine wpList_load_row rfl 29 (.tmp 14) rfl g14 rfl 29 _ (0, 0) _ OH_49.out.b hu29 rfl HI29.out ?_) | ((with_reducible refine gate_dst (N := 85) rfl ?_); refine wpList_load_row rfl 29 (.tmp 6) rfl g6 rfl 29 _ (0, 0) _ OW_49.out.b hu29 rfl HI29.out ?_) | ((with_reducible refine gate_callee (f := 32) rfl ?_); (with_reducible refine gate_dst (N := 86) rfl ?_); refine goesL_ (some 86) rfl rfl Try.func32 (by kernel_rfl) rfl #[.agg #[.slice Ah ri.length ch], .agg #[.slice Aw rs.length cw]] rfl (by (try simp only [List.map_toArray, List.map_cons, List.map_nil]); first | done | rfl) ?_; (with_reducible refine (eq_at (Kd.S_reads' OH_49.out.s) (Kd.N_reads' OW_49.out.s) HE1.out).mono ?_); rintro e w50 ⟨rfl, hb⟩; refine ⟨_, rfl, ?_⟩; have HB_50 := Aside0.mk (below_step HB_49.out hb); have BA_50 := Aside0.mk (blk_below BA_49.out hb); have OW_50 := Aside0.mk (OW_49.out.below hb); have OX_50 := Aside0.mk (OX_49.out.below hb); have OG_50 := Aside0.mk (OG_49.out.below hb); have OH_50 := Aside0.mk (OH_49.out.below hb); clear hb HB_49 BA_49 OW_49 OX_49 OG_49 OH_49) | ((with_reducible refine gate_dst (N := 93) rfl ?_); refine wpList_load_row rfl 29 (.tmp 9) rfl g9 rfl 29 _ (0, 0) _ OG_50.out.b hu29 rfl HI29.out ?_) | ((with_reducible refine gate_callee (f := 48) rfl ?_); (with_reducible refine gate_dst (N := 95) rfl ?_); refine goesL_ (some 95) rfl rfl Try.func48 (by kernel_rfl) rfl #[.agg #[.slice Ag ri.length cg], .int .i64 1] rfl (by (try simp only [List.map_toArray, List.map_cons, List.map_nil]); first | done | rfl) ?_; (with_reducible refine (held_at (Kd.S_reads' OG_50.out.s) HH.out).mono ?_); rintro e w51 ⟨rfl, hb⟩; refine ⟨_, rfl, ?_⟩; have HB_51 := Aside0.mk (below_step HB_50.out hb); have BA_51 := Aside0.mk (blk_below BA_50.out hb); have OW_51 := Aside0.mk (OW_50.out.below hb); have OX_51 := Aside0.mk (OX_50.out.below hb); have OG_51 := Aside0.mk (OG_50.out.below hb); have OH_51 := Aside0.mk (OH_50.out.below hb); clear hb HB_50 BA_50 OW_50 OX_50 OG_50 OH_50))
  go_ret
  exact ⟨rfl, HB_51.out⟩
/-- The law as a plain function: told where it answers true. -/
def laws_FnExactWipe.f (k : Nat) (l0_0 : List (S103)) (a1 : Int) : Option (Bool) :=
  (laws_szFlash.f k l0_0 1048576).bind fun sz => if sz < 0 then some true else
    ((laws_toFlash.f k l0_0).bind fun m => (spec_Wipe.f k m a1).bind fun s => (impl_Wipe.f k m a1).bind fun i => (laws_eqFlash.f k i.1 s.1).bind fun e1 => (laws_eqFlash.f k m m).bind fun e2 =>
      (laws_markFlash.f k m 1).bind fun x => (laws_markFlash.f k i.1 1).bind fun y => (laws_heldFlash.f k y.2 1).bind fun q =>
        if e1 = true ∧ e2 = true ∧ ¬ x.1 < 0 ∧ q = y.1 ∧ ¬ q < 0 ∧ s.2 = i.2 then some true else none)
theorem laws_FnExactWipe.calls (k : Nat) (A0_0 : Option Addr) (c0_0 : Nat) (l0_0 : List (S103)) (a1 : Int) (r : Bool) (w : World) (hr0_0 : Kd.C k103 w A0_0 l0_0.length l0_0) (hc0_0 : l0_0.length ≤ c0_0) (h : laws_FnExactWipe.f k l0_0 a1 = some r) :
    Calls Try.prog 13 #[.agg #[.slice A0_0 l0_0.length c0_0], .int .i64 a1] w fun e w' => e = .returned (.bool r) ∧ Below w.heap.size w w' := by
  unfold laws_FnExactWipe.f at h
  obtain ⟨sz, hsz, h⟩ := Option.bind_eq_some_iff.mp h
  split at h
  · rename_i hz
    obtain rfl := Option.some.inj h
    exact laws_FnExactWipe.big_ k A0_0 c0_0 l0_0 a1 sz w hr0_0 hc0_0 hsz hz
  · rename_i hz
    obtain ⟨m, hto, h⟩ := Option.bind_eq_some_iff.mp h
    obtain ⟨⟨rs, ok⟩, hs, h⟩ := Option.bind_eq_some_iff.mp h
    obtain ⟨⟨ri, ok2⟩, hi, h⟩ := Option.bind_eq_some_iff.mp h
    obtain ⟨e1, he1, h⟩ := Option.bind_eq_some_iff.mp h
    obtain ⟨e2, he2, h⟩ := Option.bind_eq_some_iff.mp h
    obtain ⟨⟨kx, mx⟩, hmx, h⟩ := Option.bind_eq_some_iff.mp h
    obtain ⟨⟨kg, rg⟩, hmg, h⟩ := Option.bind_eq_some_iff.mp h
    obtain ⟨q, hh, h⟩ := Option.bind_eq_some_iff.mp h
    split at h
    · rename_i hc
      obtain rfl := Option.some.inj h
      obtain ⟨rfl, rfl, hkx, rfl, hkg, hok⟩ := hc
      dsimp only at hok
      subst hok
      exact laws_FnExactWipe.walk_ k A0_0 c0_0 l0_0 a1 sz kx _ m rs ri mx rg ok w hr0_0 hc0_0 hsz hz hto hs hi he1 he2 hmx hkx hmg hh hkg
    · cases h

end Go.Proofs.Ytbafmoggckeaeaa.QFnExactWipe
