/- What is proved here: contracts of functions that the law FnScans reaches, each told as a plain function. Conditions: those of each contract. (Written by a program of ours.) -/
import Derived.Test.YthbdijeikfgjeaaQFnScansx0
import Derived.Test.YthbdijeikfgjeaaQFnScansx6
import Derived.Test.YthbdijeikfgjeaaQFnScansx7
import Derived.Test.YthbdijeikfgjeaaQFnScansx8
import Derived.Test.YthbdijeikfgjeaaQFnScansx9
namespace Go.Proofs.Ythbdijeikfgjeaa.QFnScans
open Go.RowKit Go.Proofs.YthbdijeikfgjeaaW.PrintWords Go.Proofs.YthbdijeikfgjeaaW.PrintLast Go.Proofs.YthbdijeikfgjeaaW.PrintMore
attribute [local go_sem] max2_int min2_int max_two min_two max_three min_three max_four min_four   -- for this text's walks alone
set_option linter.unusedVariables false
set_option linter.unusedSimpArgs false

/-! ### spec_l05Flash: function 66 -/
/-! ### A drawn flash under way: the cursor (g), the result's variable (a), the flash's variable (b) -/
/-- What holds of the world, the variables and the cursor. -/
structure Fb (w0 w : World) (g : Nat) (s : List Int) (i j : Int) (a b : Nat) (v : Value) (W : World) : Prop where
  I : IsS86 w0 W g s i j
  B : Below w0.heap.size w0 W
  K : KeepBut w W g none
  R : W.heap[a]? = some (.cells #[.slice none 0 0] 29 (0, 0))
  V : W.heap[b]? = some (.cells #[v] 29 (0, 0))
  ab : a ≠ b
  ga : g ≠ a
  gb : g ≠ b
  wa : w.heap.size ≤ a
  wb : w.heap.size ≤ b
  ww : w0.heap.size ≤ w.heap.size
def Away (w : World) (g a b k : Nat) : Prop := w.heap.size ≤ k ∧ k ≠ g ∧ k ≠ a ∧ k ≠ b
/-- The flash with rows of its own. -/
structure Fl (w0 w : World) (g : Nat) (s : List Int) (i j : Int) (a b : Nat) (A : Option Addr) (n c : Nat) (xs : List S57) (W : World) : Prop where
  f : Fb w0 w g s i j a b (.slice A n c) W
  S : Kd.S k57 57 W w.heap.size (Away w g a b) (.slice A n c) xs
/-- The flash whose inner rows may be shared. -/
structure FlN (w0 w : World) (g : Nat) (s : List Int) (i j : Int) (a b : Nat) (A : Option Addr) (n c : Nat) (xs : List S57) (W : World) : Prop where
  f : Fb w0 w g s i j a b (.slice A n c) W
  S : Kd.N k57 57 W w.heap.size (Away w g a b) (.slice A n c) xs
section
variable {w0 w W W' : World} {g a b n c : Nat} {s : List Int} {i j i' j' : Int} {A : Option Addr} {v : Value} {xs ys : List S57}
theorem Fb.drawn (h : Fb w0 w g s i j a b v W) (hi : IsS86 w0 W' g s i' j') (hb : Below w0.heap.size w0 W') (hk : KeepBut W W' g none) : Fb w0 w g s i' j' a b v W' :=
  ⟨hi, hb, KeepBut.trans h.K hk (.inl rfl), KeepBut.blk hk h.R h.ga.symm (by simp), KeepBut.blk hk h.V h.gb.symm (by simp), h.ab, h.ga, h.gb, h.wa, h.wb, h.ww⟩
theorem Fb.below (h : Fb w0 w g s i j a b v W) (hb : Below W.heap.size W W') : Fb w0 w g s i j a b v W' :=
  ⟨h.I.below hb, below_step h.B hb, KeepBut.trans h.K (KeepBut.of_below hb g none) (.inl rfl), blk_below h.R hb, blk_below h.V hb, h.ab, h.ga, h.gb, h.wa, h.wb, h.ww⟩
theorem Fb.put (h : Fb w0 w g s i j a b v W) (u : Value) : Fb w0 w g s i j a b u (W.setCell ⟨b, 0, none⟩ u) :=
  ⟨IsS86.far h.I h.gb _, below_set h.B (Nat.le_trans h.ww h.wb), keep_far h.K h.wb _, blk_far h.R h.ab _, blk_put h.V 0 u rfl, h.ab, h.ga, h.gb, h.wa, h.wb, h.ww⟩
theorem Fb.grown (h : Fb w0 w g s i j a b v W) {k : Nat} (hg : W.grownBy W' (some k)) (hk : Away w g a b k) : Fb w0 w g s i j a b v W' :=
  ⟨h.I.grown hg (fun e => hk.2.1 (Option.some.inj e).symm), ⟨hg.os.trans h.B.os, hg.tape.trans h.B.tape, hg.output.trans h.B.output, Nat.le_trans h.B.size hg.size, fun q hq => (hg.block q (Nat.lt_of_lt_of_le hq h.B.size) (fun e => by have := Option.some.inj e; have := hk.1; have := h.ww; omega)).trans (h.B.block q hq)⟩,
   ⟨Nat.le_trans h.K.1 hg.size, fun q hq h1 h2 => (hg.block q (Nat.lt_of_lt_of_le hq h.K.1) (fun e => by have := Option.some.inj e; have := hk.1; omega)).trans (h.K.2 q hq h1 h2)⟩,
   blk_grown h.R hg (fun e => hk.2.2.1 (Option.some.inj e).symm), blk_grown h.V hg (fun e => hk.2.2.2 (Option.some.inj e).symm), h.ab, h.ga, h.gb, h.wa, h.wb, h.ww⟩
theorem Fb.fresh (h : Fb w0 w g s i j a b v W) (hb : W.heap.size ≤ W'.heap.size) {u : Value} (hS : Kd.S k57 57 W' W.heap.size (fun _ => True) u ys) : Kd.S k57 57 W' w.heap.size (Away w g a b) u ys :=
  Kd.S_lower (Kd.S_mono (Kd.S_bound hS) (fun k hk => ⟨Nat.le_trans h.K.1 hk.2.1, by have := IsS86.lt h.I; have := hk.2.1; omega, by have := blk_lt h.R; have := hk.2.1; omega, by have := blk_lt h.V; have := hk.2.1; omega⟩)) h.K.1
theorem Fb.cv (h : Fb w0 w g s i j a b v W) : W.cell? ⟨b, 0, none⟩ = some v := (blk_cell h.V 0).trans rfl
theorem Fl.drawn (h : Fl w0 w g s i j a b A n c xs W) (hi : IsS86 w0 W' g s i' j') (hb : Below w0.heap.size w0 W') (hk : KeepBut W W' g none) : Fl w0 w g s i' j' a b A n c xs W' := ⟨h.f.drawn hi hb hk, Kd.S_keep h.S hk (fun _ h => h.2.1)⟩
theorem Fl.below (h : Fl w0 w g s i j a b A n c xs W) (hb : Below W.heap.size W W') : Fl w0 w g s i j a b A n c xs W' := ⟨h.f.below hb, Kd.S_below h.S hb⟩
theorem Fl.drew (h : Fl w0 w g s i j a b A n c xs W) : Fl w0 w g s i j a b A n c xs W.drew := h.below (below_drew1 (Below.refl _ _))
theorem FlN.drawn (h : FlN w0 w g s i j a b A n c xs W) (hi : IsS86 w0 W' g s i' j') (hb : Below w0.heap.size w0 W') (hk : KeepBut W W' g none) : FlN w0 w g s i' j' a b A n c xs W' := ⟨h.f.drawn hi hb hk, Kd.N_keep h.S hk (fun _ h => h.2.1)⟩
theorem FlN.below (h : FlN w0 w g s i j a b A n c xs W) (hb : Below W.heap.size W W') : FlN w0 w g s i j a b A n c xs W' := ⟨h.f.below hb, Kd.N_below h.S hb⟩
theorem Fl.toN (h : Fl w0 w g s i j a b A n c xs W) : FlN w0 w g s i j a b A n c xs W := ⟨h.f, Kd.S_N h.S⟩
theorem Fb.put_S (h : Fb w0 w g s i j a b v W) (hS : Kd.S k57 57 W w.heap.size (Away w g a b) (.slice A n c) ys) : Fl w0 w g s i j a b A n c ys (W.setCell ⟨b, 0, none⟩ (.slice A n c)) := ⟨h.put _, Kd.S_far hS (fun _ hk => hk.2.2.2) _⟩
theorem Fb.put_N (h : Fb w0 w g s i j a b v W) (hS : Kd.N k57 57 W w.heap.size (Away w g a b) (.slice A n c) ys) : FlN w0 w g s i j a b A n c ys (W.setCell ⟨b, 0, none⟩ (.slice A n c)) := ⟨h.put _, Kd.N_far hS (fun _ hk => hk.2.2.2) _⟩
/-- Before the flash's variable is made. -/
structure Ft (w0 w : World) (g : Nat) (s : List Int) (i j : Int) (a : Nat) (W : World) : Prop where
  I : IsS86 w0 W g s i j
  B : Below w0.heap.size w0 W
  K : KeepBut w W g none
  R : W.heap[a]? = some (.cells #[.slice none 0 0] 29 (0, 0))
  ga : g ≠ a
  wa : w.heap.size ≤ a
  ww : w0.heap.size ≤ w.heap.size
theorem Ft.make (hI : IsS86 w0 w g s i j) (hB : Below w0.heap.size w0 w) (hg : a = w.heap.size) (hbox : W.heap[a]? = some (.cells #[.slice none 0 0] 29 (0, 0))) (hb : Below w.heap.size w W) : Ft w0 w g s i j a W :=
  ⟨hI.below hb, below_step hB hb, KeepBut.of_below hb g none, hbox, by rw [hg]; exact Nat.ne_of_lt (IsS86.lt hI), by rw [hg]; exact Nat.le_refl _, hB.size⟩
theorem Ft.drawn (h : Ft w0 w g s i j a W) (hi : IsS86 w0 W' g s i' j') (hb : Below w0.heap.size w0 W') (hk : KeepBut W W' g none) : Ft w0 w g s i' j' a W' := ⟨hi, hb, KeepBut.trans h.K hk (.inl rfl), KeepBut.blk hk h.R h.ga.symm (by simp), h.ga, h.wa, h.ww⟩
theorem Ft.below (h : Ft w0 w g s i j a W) (hb : Below W.heap.size W W') : Ft w0 w g s i j a W' := ⟨h.I.below hb, below_step h.B hb, KeepBut.trans h.K (KeepBut.of_below hb g none) (.inl rfl), blk_below h.R hb, h.ga, h.wa, h.ww⟩
theorem Ft.open (h : Ft w0 w g s i j a W) (hg : b = W.heap.size) {u : Value} (hbox : W'.heap[b]? = some (.cells #[u] 29 (0, 0))) (hb : Below W.heap.size W W') : Fb w0 w g s i j a b u W' :=
  ⟨h.I.below hb, below_step h.B hb, KeepBut.trans h.K (KeepBut.of_below hb g none) (.inl rfl), blk_below h.R hb, hbox, by rw [hg]; exact Nat.ne_of_lt (blk_lt h.R), h.ga, by rw [hg]; exact Nat.ne_of_lt (IsS86.lt h.I), h.wa, by rw [hg]; exact h.K.1, h.ww⟩
theorem Ft.fresh (h : Ft w0 w g s i j a W) {u : Value} (hS : Kd.S k57 57 W' W.heap.size (fun _ => True) u ys) : Kd.S k57 57 W' w.heap.size (fun k => k ≠ g ∧ k ≠ a) u ys :=
  Kd.S_lower (Kd.S_mono (Kd.S_bound hS) (fun k hk => ⟨by have := IsS86.lt h.I; have := hk.2.1; omega, by have := blk_lt h.R; have := hk.2.1; omega⟩)) h.K.1
theorem Ft.done (h : Ft w0 w g s i j a W) {W1 : World} (h1 : Ft w0 w g s i' j' a W1) {u : Value} (hN : Kd.N k57 57 W1 W.heap.size (fun k => W.heap.size ≤ k) u ys) : Kd.N k57 57 (W1.setCell ⟨a, 0, none⟩ u) w.heap.size (fun k_ => w.heap.size ≤ k_) u ys ∧ IsS86 w0 (W1.setCell ⟨a, 0, none⟩ u) g s i' j' ∧ Below w0.heap.size w0 (W1.setCell ⟨a, 0, none⟩ u) ∧ KeepBut w (W1.setCell ⟨a, 0, none⟩ u) g none :=
  ⟨Kd.N_lower (Kd.N_mono (Kd.N_far hN (fun k hk => by have := blk_lt h.R; show k ≠ a; omega) _) (fun k hk => Nat.le_trans h.K.1 hk)) h.K.1, IsS86.far h1.I h1.ga _, below_set h1.B (Nat.le_trans h1.ww h1.wa), keep_far h1.K h1.wa _⟩
theorem Ft.res (h : Ft w0 w g s i j a W) (u : Value) : (W.setCell ⟨a, 0, none⟩ u).heap[a]? = some (.cells #[u] 29 (0, 0)) := blk_put h.R 0 u rfl
theorem row_open (hg : b = W.heap.size) (hb : Below W.heap.size W W') {u : Value} (hS : Kd.S k57 57 W w.heap.size (fun k => k ≠ g ∧ k ≠ a) u ys) : Kd.S k57 57 W' w.heap.size (Away w g a b) u ys :=
  Kd.S_below (Kd.S_mono (Kd.S_bound hS) (fun k hk => ⟨hk.2.1, hk.1.1, hk.1.2, by have := hk.2.2.1; omega⟩)) hb
/-- The flash's variable, and the cells of block t. -/
def Fq (b go n c : Nat) (xs : List S57) (t : Int) (A2 : Option Addr) (c2 : Nat) (W : World) : Prop :=
  W.cell? ⟨b, 0, none⟩ = some (.slice (some ⟨go, 0, none⟩) n c) ∧ W.cell? ⟨go, t.toNat * 3, none⟩ = some (.bool (rd_T57 xs t).f0) ∧ W.cell? ⟨go, t.toNat * 3 + 1, none⟩ = some (.int .i64 (rd_T57 xs t).f1) ∧ W.cell? ⟨go, t.toNat * 3 + 2, none⟩ = some (.slice A2 (rd_T57 xs t).f2.length c2)
theorem Fq.below {go c2 : Nat} {t : Int} {A2 : Option Addr} (h : Fq b go n c xs t A2 c2 W) (hb : Below W.heap.size W W') : Fq b go n c xs t A2 c2 W' := ⟨pw_cell_below hb h.1, pw_cell_below hb h.2.1, pw_cell_below hb h.2.2.1, pw_cell_below hb h.2.2.2⟩
theorem Fq.keep {go c2 : Nat} {t : Int} {A2 : Option Addr} (h : Fq b go n c xs t A2 c2 W) (hk : KeepBut W W' g none) (hb : b ≠ g) (hg : go ≠ g) : Fq b go n c xs t A2 c2 W' := ⟨keep_cell hk h.1 hb, keep_cell hk h.2.1 hg, keep_cell hk h.2.2.1 hg, keep_cell hk h.2.2.2 hg⟩
theorem Fl.at_ (h : Fl w0 w g s i j a b A xs.length c xs W) {t : Int} (h0 : 0 ≤ t) (h1 : t < (xs.length : Int)) : ∃ go A2 c2, A = some ⟨go, 0, none⟩ ∧ Fq b go xs.length c xs t A2 c2 W ∧ (∀ q, W.frozen? ⟨go, t.toNat * 3 + q, none⟩ = false) ∧ (rd_T57 xs t).f2.length ≤ c2 ∧ Kd.C k59 W A2 (rd_T57 xs t).f2.length (rd_T57 xs t).f2 ∧ Away w g a b go := by
  obtain ⟨go, co, eo, gb, _, _, _⟩ := Kd.S_form h.S (by omega)
  injection eo with ea
  subst ea; obtain ⟨oki, ce, hcl, hM, hcc, hfr, _, _⟩ := Kd.S_elem h.S z57 t h0 h1; obtain ⟨v2, rfl, hR⟩ := k57_openM hM; obtain ⟨A2, c2, rfl, hl, hC⟩ := Kd.R_reads hR; have hw : Away w g a b go := (Kd.S_R h.S).1 go rfl; exact ⟨go, A2, c2, rfl, ⟨h.f.cv, hcc 0 _ rfl, hcc 1 _ rfl, hcc 2 _ rfl⟩, hfr, hl, hC, hw⟩
/-- Leaf u of block t, to be written. -/
theorem Fl.leaf {go c2 : Nat} {A2 : Option Addr} {t u : Int} (h : Fl w0 w g s i j a b (some ⟨go, 0, none⟩) xs.length c xs W) (h0 : 0 ≤ t) (h1 : t < (xs.length : Int)) (hq : Fq b go xs.length c xs t A2 c2 W) (u0 : 0 ≤ u) (u1 : u < ((rd_T57 xs t).f2.length : Int)) :
    ∃ gi, A2 = some ⟨gi, 0, none⟩ ∧ W.cell? ⟨gi, u.toNat * 2, none⟩ = some (.int .i64 (rd_T59 (rd_T57 xs t).f2 u).f0) ∧ W.cell? ⟨gi, u.toNat * 2 + 1, none⟩ = some (.string (rd_T59 (rd_T57 xs t).f2 u).f1) ∧ W.frozen? ⟨gi, u.toNat * 2, none⟩ = false ∧ W.frozen? ⟨gi, u.toNat * 2 + 1, none⟩ = false ∧ gi ≠ b ∧
    ∀ (q : Nat) (seg : List Value) (x' : S59), q + seg.length ≤ 2 → [Value.int .i64 (rd_T59 (rd_T57 xs t).f2 u).f0, .string (rd_T59 (rd_T57 xs t).f2 u).f1].take q ++ seg ++ [Value.int .i64 (rd_T59 (rd_T57 xs t).f2 u).f0, .string (rd_T59 (rd_T57 xs t).f2 u).f1].drop (q + seg.length) = [.int .i64 x'.f0, .string x'.f1] →
      Fl w0 w g s i j a b (some ⟨go, 0, none⟩) xs.length c (xs.set t.toNat ⟨(rd_T57 xs t).f0, (rd_T57 xs t).f1, (rd_T57 xs t).f2.set u.toNat x'⟩) (W.setCells gi (u.toNat * 2 + q) seg) := by
  obtain ⟨oki, ce, hcl, hM, hcc, hok, hbk⟩ := Kd.S_borrow h.S z57 t h0 h1; obtain ⟨v2, rfl, hR⟩ := k57_openM hM; have hv := hcc 2 _ rfl; rw [add_plain] at hv; replace hv := Option.some.inj (hv.symm.trans hq.2.2.2); subst hv; replace hR : Kd.R k59 59 _ _ _ _ (rd_T57 xs t).f2 := hR; obtain ⟨gi, ci, ei, _, _, _, _⟩ := Kd.R_form hR (by omega)
  injection ei with ea
  subst ea; have hoki : oki gi := hR.1 gi rfl; have hw : Away w g a b gi := (hok gi hoki).1; obtain ⟨cf, hcl2, hM2, hcc2, hfr2⟩ := Kd.R_elem hR z59 u u0 u1; obtain rfl := k59_openM hM2
  refine ⟨gi, rfl, hcc2 0 _ rfl, hcc2 1 _ rfl, hfr2 0, hfr2 1, hw.2.2.2, fun q seg x' hq2 e => ?_⟩
  have HP := Kd.R_seg hR u u0 u1 (seg := seg) (j := q) hcl2 hcc2 hq2 (x' := x') (okp := fun _ => False) (by
    refine (show k59.M W w.heap.size (fun _ => False) x' ([Value.int .i64 (rd_T59 (rd_T57 xs t).f2 u).f0, .string (rd_T59 (rd_T57 xs t).f2 u).f1].take q ++ seg ++ [Value.int .i64 (rd_T59 (rd_T57 xs t).f2 u).f0, .string (rd_T59 (rd_T57 xs t).f2 u).f1].drop (q + seg.length)) from ?_)
    rw [e]
    exact k59_mkM _ _ _ x') (fun _ hk => hk.elim)
  exact ⟨h.f.grown HP.2 hw, hbk HP.2 (fun k_ e_ => by injection e_ with e_; subst e_; exact hoki) (x' := ⟨(rd_T57 xs t).f0, (rd_T57 xs t).f1, (rd_T57 xs t).f2.set u.toNat x'⟩) (k57_mkM _ _ _ _ HP.1)⟩
/-- Block t's own cells, written; what they lead to is only read. -/
theorem Fl.outer {go q : Nat} {t : Int} {seg : List Value} (h : Fl w0 w g s i j a b (some ⟨go, 0, none⟩) xs.length c xs W) (h0 : 0 ≤ t) (h1 : t < (xs.length : Int)) (hq : q + seg.length ≤ 3) (x' : S57)
    (hM : ∀ ok A2 c2, (rd_T57 xs t).f2.length ≤ c2 → Kd.F k59 W ok A2 (rd_T57 xs t).f2.length (rd_T57 xs t).f2 → W.cell? ⟨go, t.toNat * 3 + 2, none⟩ = some (.slice A2 (rd_T57 xs t).f2.length c2) → Kd.FK k57 W ok x' ([Value.bool (rd_T57 xs t).f0, .int .i64 (rd_T57 xs t).f1, .slice A2 (rd_T57 xs t).f2.length c2].take q ++ seg ++ [Value.bool (rd_T57 xs t).f0, .int .i64 (rd_T57 xs t).f1, .slice A2 (rd_T57 xs t).f2.length c2].drop (q + seg.length))) :
    FlN w0 w g s i j a b (some ⟨go, 0, none⟩) xs.length c (xs.set t.toNat x') (W.setCells go (t.toNat * 3 + q) seg) := by
  have hw : Away w g a b go := (Kd.S_R h.S).1 go rfl; have hN := Kd.S_N h.S; obtain ⟨ce, hcl, hK, hcc, hfr⟩ := Kd.N_elem hN z57 t h0 h1; obtain ⟨A2, c2, rfl, ul, ge⟩ := k57_openF hK; have HP := Kd.N_seg hN t h0 h1 (seg := seg) (j := q) hcl hcc hq (x' := x') (hM _ A2 c2 ul ge (hcc 2 _ rfl)) (fun _ hk => hk); exact ⟨h.f.grown HP.2 hw, HP.1⟩
/-- The end: the flash is handed back. -/
theorem Fl.done (h : Fl w0 w g s i j a b A n c xs W) : Kd.S k57 57 (W.setCell ⟨a, 0, none⟩ (.slice A n c)) w.heap.size (fun _ => True) (.slice A n c) xs ∧ IsS86 w0 (W.setCell ⟨a, 0, none⟩ (.slice A n c)) g s i j ∧ Below w0.heap.size w0 (W.setCell ⟨a, 0, none⟩ (.slice A n c)) ∧ KeepBut w (W.setCell ⟨a, 0, none⟩ (.slice A n c)) g none :=
  ⟨Kd.S_mono (Kd.S_far h.S (fun _ hk => hk.2.2.1) _) (fun _ _ => trivial), IsS86.far h.f.I h.f.ga _, below_set h.f.B (Nat.le_trans h.f.ww h.f.wa), keep_far h.f.K h.f.wa _⟩
theorem FlN.done (h : FlN w0 w g s i j a b A n c xs W) : Kd.N k57 57 (W.setCell ⟨a, 0, none⟩ (.slice A n c)) w.heap.size (fun k_ => w.heap.size ≤ k_) (.slice A n c) xs ∧ IsS86 w0 (W.setCell ⟨a, 0, none⟩ (.slice A n c)) g s i j ∧ Below w0.heap.size w0 (W.setCell ⟨a, 0, none⟩ (.slice A n c)) ∧ KeepBut w (W.setCell ⟨a, 0, none⟩ (.slice A n c)) g none :=
  ⟨Kd.N_mono (Kd.N_far h.S (fun _ hk => hk.2.2.1) _) (fun _ hk => hk.1), IsS86.far h.f.I h.f.ga _, below_set h.f.B (Nat.le_trans h.f.ww h.f.wa), keep_far h.f.K h.f.wa _⟩
theorem Fb.res (h : Fb w0 w g s i j a b v W) (u : Value) : (W.setCell ⟨a, 0, none⟩ u).heap[a]? = some (.cells #[u] 29 (0, 0)) := blk_put h.R 0 u rfl
end
def spec_l05Flash.l0 : Nat → Int → List Int → Int → Int → List (S57) → Option ((List (S57)) × Int × Int)
  | 0, _, _, _, _, _ => none
  | k + 1, x5, x1000, x1001, x1002, x252000 => (spec_l01Below.f x1000 x1001 x1002 20).bind fun bt252 => (if x5 < bt252.1 then ((spec_l01Below.f x1000 bt252.2.1 bt252.2.2 (x252000.length : Int)).bind fun bt255 => ((spec_l01Below.f x1000 bt255.2.1 bt255.2.2 8).bind fun bt258 => (if bt258.1 = 0 then ((spec_Wipe.f k x252000 bt255.1).bind fun bt261 => (spec_l05Flash.l0 k (wrap64 (x5 + 1)) x1000 bt258.2.1 bt258.2.2 bt261.1)) else (if bt258.1 = 1 then (if 0 ≤ bt255.1 then (if bt255.1 < (x252000.length : Int) then ((spec_NextBlank.f k ((rd_T57 x252000 bt255.1).f0) ((rd_T57 x252000 bt255.1).f1) ((rd_T57 x252000 bt255.1).f2)).bind fun t266 => (if t266 < 4 then ((spec_NextBlank.f k ((rd_T57 x252000 bt255.1).f0) ((rd_T57 x252000 bt255.1).f1) ((rd_T57 x252000 bt255.1).f2)).bind fun t269 => (if 0 ≤ t269 then (if t269 < (((rd_T57 x252000 bt255.1).f2).length : Int) then (spec_l05Flash.l0 k (wrap64 (x5 + 1)) x1000 bt258.2.1 bt258.2.2 (x252000.set (bt255.1 : Int).toNat (⟨(rd_T57 x252000 bt255.1).f0, (rd_T57 x252000 bt255.1).f1, (((rd_T57 x252000 bt255.1).f2).set (t269 : Int).toNat (⟨2, (⟨#[116, 111]⟩ : ByteArray)⟩ : S59))⟩ : S57))) else (none)) else (none))) else (spec_l05Flash.l0 k (wrap64 (x5 + 1)) x1000 bt258.2.1 bt258.2.2 x252000))) else (none)) else (none)) else (if 0 ≤ bt255.1 then (if bt255.1 < (x252000.length : Int) then ((spec_NextBlank.f k ((rd_T57 x252000 bt255.1).f0) ((rd_T57 x252000 bt255.1).f1) ((rd_T57 x252000 bt255.1).f2)).bind fun t274 => ((spec_l01Below.f x1000 bt258.2.1 bt258.2.2 5).bind fun bt275 => ((spec_l01Text.f k x1000 bt275.2.1 bt275.2.2 (wrap64 (1 + bt275.1))).bind fun bt278 => ((spec_Program.f k x252000 bt255.1 t274 bt278.1).bind fun bt281 => (spec_l05Flash.l0 k (wrap64 (x5 + 1)) x1000 bt278.2.1 bt278.2.2 bt281.1))))) else (none)) else (none)))))) else ((spec_l01Once.f x1000 bt252.2.1 bt252.2.2 4).bind fun bt285 => (if bt285.1 = true then ((spec_l01Below.f x1000 bt285.2.1 bt285.2.2 (x252000.length : Int)).bind fun bt288 => ((spec_MarkBad.f k x252000 bt288.1).bind fun t291 => (some (t291, bt288.2.1, bt288.2.2)))) else (some (x252000, bt285.2.1, bt285.2.2)))))
def spec_l05Flash.f (k : Nat) (s0_0 : List Int) (s0_1 : Int) (s0_2 : Int) : Option ((List (S57)) × Int × Int) := (spec_l01Below.f s0_0 s0_1 s0_2 5).bind fun bt244 => ((spec_FlashNew.f k (wrap64 (3 + bt244.1))).bind fun bt247 => (spec_l05Flash.l0 k 0 s0_0 bt244.2.1 bt244.2.2 bt247.1))
theorem spec_l05Flash.mono_l : ∀ k, (∀ y0 y1 y2 y3 y4, LeO (spec_l05Flash.l0 k y0 y1 y2 y3 y4) (spec_l05Flash.l0 (k + 1) y0 y1 y2 y3 y4))
  | 0 => fun _ _ _ _ _ r h => by simp [spec_l05Flash.l0] at h
  | k + 1 => by
    have ih0 := spec_l05Flash.mono_l k
    · intro y0 y1 y2 y3 y4; unfold spec_l05Flash.l0
      repeat' first | (with_reducible exact ih0 _ _ _ _ _) | (with_reducible exact spec_FlashNew.mono _ _) | (with_reducible exact spec_MarkBad.mono _ _ _) | (with_reducible exact spec_NextBlank.mono _ _ _ _) | (with_reducible exact spec_Program.mono _ _ _ _ _) | (with_reducible exact spec_Wipe.mono _ _ _) | (with_reducible exact spec_l01Text.mono _ _ _ _ _) | (with_reducible exact LeO.refl _) | (with_reducible exact LeO.none _) | (with_reducible refine LeO.ite ?_ ?_) | (with_reducible refine LeO.bind ?_ (fun _ => ?_))
theorem spec_l05Flash.mono : ∀ a0 a1 a2 k, LeO (spec_l05Flash.f k a0 a1 a2) (spec_l05Flash.f (k + 1) a0 a1 a2) := by
  intro a0 a1 a2 k; have ih0 := spec_l05Flash.mono_l k; unfold spec_l05Flash.f
  repeat' first | (with_reducible exact ih0 _ _ _ _ _) | (with_reducible exact spec_FlashNew.mono _ _) | (with_reducible exact spec_MarkBad.mono _ _ _) | (with_reducible exact spec_NextBlank.mono _ _ _ _) | (with_reducible exact spec_Program.mono _ _ _ _ _) | (with_reducible exact spec_Wipe.mono _ _ _) | (with_reducible exact spec_l01Text.mono _ _ _ _ _) | (with_reducible exact LeO.refl _) | (with_reducible exact LeO.none _) | (with_reducible refine LeO.ite ?_ ?_) | (with_reducible refine LeO.bind ?_ (fun _ => ?_))
def spec_l05Flash.T7 : Bool × List (List Nat × List Nat) := (true, [([], []), ([], []), ([], []), ([2], [2]), ([], []), ([3, 4], [3, 4]), ([5], [5]), ([6], [6]), ([], []), ([], []), ([9, 7], [9]), ([10], [10]), ([8, 11, 10], [8, 11]), ([0, 1, 7, 12, 12], [0, 1, 7, 12]), ([13], [13]), ([14], [14]), ([14], [14]), ([15, 13, 0, 1, 2, 3, 4, 5, 6, 7, 8, 9, 10, 11, 12, 13, 14, 15], [15])])
def spec_l05Flash.B7 : List Nat := [0, 0, 0, 4, 0, 28, 60, 124, 0, 0, 764, 1788, 4092, 8191, 16383, 32767, 32767, 65535]
theorem spec_l05Flash.tab7 : rtab .any (opsOf Try.f66 7) = spec_l05Flash.T7 := by kernel_rfl
theorem spec_l05Flash.bits7 : waitsOk spec_l05Flash.T7.2 spec_l05Flash.B7 = true := by kernel_rfl
def spec_l05Flash.T12 : Bool × List (List Nat × List Nat) := (true, [([], []), ([0], [0]), ([], []), ([1, 2], [1, 2]), ([3], [3]), ([4], [4]), ([], []), ([6], [6]), ([], []), ([7, 8], [7, 8]), ([9], [9]), ([10], [10]), ([], []), ([5, 11, 0, 1, 2, 3, 4, 5, 6, 7, 8, 9, 10, 11, 12], [5, 11]), ([13, 12, 11, 0, 1, 2, 3, 4, 5, 6, 7, 8, 9, 10, 11, 12], [12, 13])])
def spec_l05Flash.B12 : List Nat := [0, 1, 0, 7, 15, 31, 0, 64, 0, 448, 960, 1984, 0, 8191, 16383]
theorem spec_l05Flash.tab12 : rtab .any (opsOf Try.f66 12) = spec_l05Flash.T12 := by kernel_rfl
theorem spec_l05Flash.bits12 : waitsOk spec_l05Flash.T12.2 spec_l05Flash.B12 = true := by kernel_rfl
def spec_l05Flash.T14 : Bool × List (List Nat × List Nat) := (true, [([], []), ([], []), ([], []), ([2], [2]), ([3], [3]), ([1, 4], [1, 4]), ([0, 5, 5], [0, 5]), ([6, 6, 0, 1, 2, 3, 4, 5, 6], [6])])
def spec_l05Flash.B14 : List Nat := [0, 0, 0, 4, 12, 30, 63, 127]
theorem spec_l05Flash.tab14 : rtab .any (opsOf Try.f66 14) = spec_l05Flash.T14 := by kernel_rfl
theorem spec_l05Flash.bits14 : waitsOk spec_l05Flash.T14.2 spec_l05Flash.B14 = true := by kernel_rfl
set_option maxHeartbeats 4000000 in
set_option maxRecDepth 1000000 in
theorem spec_l05Flash.calls (k : Nat) (g : Nat) (s0_0 : List Int) (s0_1 : Int) (s0_2 : Int) (r1 : List (S57)) (r2 : Int) (r3 : Int) (w0 w : World) (hI : IsS86 w0 w g s0_0 s0_1 s0_2) (hB : Below w0.heap.size w0 w) (h : spec_l05Flash.f k s0_0 s0_1 s0_2 = some (r1, r2, r3)) :
    Calls Try.prog 66 #[.pointer (some ⟨g, 0, none⟩)] w fun e w' => ∃ v0_ : Value, e = .returned (.agg #[v0_]) ∧ Kd.S k57 57 w' w.heap.size (fun _ => True) v0_ r1 ∧ IsS86 w0 w' g s0_0 r2 r3 ∧ Below w0.heap.size w0 w' ∧ KeepBut w w' g none := by
  have hu29 := Try.underlying29; have hu57 := Try.underlying57; have hu59 := Try.underlying59; have HI := Aside0.mk hI; have HB := Aside0.mk hB; clear hI hB; rw [spec_l05Flash.f] at h; obtain ⟨⟨t1, i1, j1⟩, e1, h⟩ := Option.bind_eq_some_iff.mp h
  try dsimp only at h
  have E1 := Aside0.mk e1; clear e1; obtain ⟨⟨y1, z1⟩, e2, h⟩ := Option.bind_eq_some_iff.mp h
  try dsimp only at h
  have E2 := Aside0.mk e2; clear e2; have HH := Aside0.mk h; clear h
  go_enter Try.func66, Try.ntmps66
  go_wp2_with (first | ((with_reducible refine gate_dst (N := 2) rfl ?_); refine Sh.bx (N := 2) (cs := #[.slice none 0 0]) (t := 29) ?_; intro ga hg w1 hbox hb; have F := Aside0.mk (Ft.make HI.out HB.out hg hbox hb); clear hg hbox hb HI HB) | ((with_reducible refine gate_callee (f := 42) rfl ?_); (with_reducible refine gate_dst (N := 9) rfl ?_); refine goesL_ (some 9) rfl rfl Try.func42 (by kernel_rfl) rfl #[.pointer (some ⟨g, 0, none⟩), .int .i64 5] rfl Sh.al ?_; (with_reducible refine (spec_l01Below.calls g s0_0 s0_1 s0_2 5 t1 i1 j1 w0 _ F.out.I F.out.B E1.out).mono ?_); rintro e w2 ⟨rfl, hi, hb, hk⟩; refine ⟨_, rfl, ?_⟩; have F_ := Aside0.mk (F.out.drawn hi hb hk); clear F hi hb hk; have F := F_; clear F_) | ((with_reducible refine gate_callee (f := 41) rfl ?_); (with_reducible refine gate_dst (N := 11) rfl ?_); refine goesL_ (some 11) rfl rfl Try.func41 (by kernel_rfl) rfl #[.int .i64 (wrap64 (3 + t1))] rfl Sh.al ?_; (with_reducible refine (spec_FlashNew.calls k (wrap64 (3 + t1)) y1 z1 _ E2.out).mono ?_); rintro e w3 ⟨v_, rfl, hS, hb⟩; refine ⟨_, rfl, ?_⟩; obtain ⟨A1, c1, e_⟩ := Kd.S_slice hS; subst e_; have SR := Aside0.mk (F.out.fresh hS); have F_ := Aside0.mk (F.out.below hb); clear F hS hb; have F := F_; clear F_) | ((with_reducible refine gate_dst (N := 3) rfl ?_); refine Sh.bx (N := 3) (cs := #[.slice none 0 0]) (t := 29) ?_; intro gb hg w4 hbox hb; have SR_ := Aside0.mk (row_open hg hb SR.out); have F_ := Aside0.mk (F.out.open hg hbox hb); clear F hg hbox hb; have F := F_; clear F_; clear SR; have SR := SR_; clear SR_; have cv := F.out.cv; have fz := blk_frozen F.out.V 0) | ((with_reducible refine gate_store (t := 29) (p := 3) rfl ?_); refine store_event (t := 29) (p := 3) (v := ?vo_w5) (w1 := (w4.setCell ⟨gb, 0, none⟩ (.slice A1 y1.length c1))) ?hg ?ho ?hn ?hr ?_; (case ho => rfl); (case hg => rfl); (case hn => rfl); (case hr => first | (go_simp; done) | (go_simp; rfl)); intro w5 hw; have F_ := Aside0.mk (show Fl w0 w g s0_0 _ _ ga gb A1 y1.length c1 _ w5 from by rw [hw]; exact F.out.put_S SR.out); clear F SR hw cv fz; have F := F_; clear F_; have cv := F.out.f.cv))
  go_loopg [5] k (fun kq v5 w' => ∃ (x5 i j : Int) (xs : List S57) (A : Option Addr) (c : Nat), v5 = .int .i64 x5 ∧ Aside0 (spec_l05Flash.l0 kq x5 s0_0 i j xs = some (r1, r2, r3)) ∧ Aside0 (Fl w0 w g s0_0 i j ga gb A xs.length c xs w'))
  case atStart => exact ⟨0, i1, j1, y1, A1, c1, rfl, HH, F⟩
  case round =>
    clear HH F cv; obtain ⟨x5, i, j, xs, A, c, rfl, HA, F⟩ := hrel
    cases gk with
    | zero => exact absurd HA.out (by simp [spec_l05Flash.l0])
    | succ k1 =>
      have H := HA.out; clear HA; rw [spec_l05Flash.l0] at H; obtain ⟨⟨t2, i2, j2⟩, e1, H⟩ := Option.bind_eq_some_iff.mp H
      try dsimp only at H
      have E1 := Aside0.mk e1; clear e1; have cv := F.out.f.cv
      by_cases c1 : x5 < t2
      · rw [if_pos c1] at H; obtain ⟨⟨t3, i3, j3⟩, e2, H⟩ := Option.bind_eq_some_iff.mp H
        try dsimp only at H
        have E2 := Aside0.mk e2; clear e2; obtain ⟨⟨t4, i4, j4⟩, e3, H⟩ := Option.bind_eq_some_iff.mp H
        try dsimp only at H
        have E3 := Aside0.mk e3; clear e3; have HH := Aside0.mk H; clear H; have c1b := decide_eq_true c1; clear c1
        go_upto_if 44 with (first | ((with_reducible refine gate_callee (f := 42) rfl ?_); (with_reducible refine gate_dst (N := 16) rfl ?_); refine goesL_ (some 16) rfl rfl Try.func42 (by kernel_rfl) rfl #[.pointer (some ⟨g, 0, none⟩), .int .i64 20] rfl Sh.al ?_; (with_reducible refine (spec_l01Below.calls g s0_0 i j 20 t2 i2 j2 w0 _ F.out.f.I F.out.f.B E1.out).mono ?_); rintro e w6 ⟨rfl, hi, hb, hk⟩; refine ⟨_, rfl, ?_⟩; have F_ := Aside0.mk (F.out.drawn hi hb hk); clear F hi hb hk cv; have F := F_; clear F_; have cv := F.out.f.cv) | ((with_reducible refine gate_callee (f := 42) rfl ?_); (with_reducible refine gate_dst (N := 24) rfl ?_); refine goesL_ (some 24) rfl rfl Try.func42 (by kernel_rfl) rfl #[.pointer (some ⟨g, 0, none⟩), .int .i64 (xs.length : Int)] rfl Sh.al ?_; (with_reducible refine (spec_l01Below.calls g s0_0 i2 j2 (xs.length : Int) t3 i3 j3 w0 _ F.out.f.I F.out.f.B E2.out).mono ?_); rintro e w7 ⟨rfl, hi, hb, hk⟩; refine ⟨_, rfl, ?_⟩; have F_ := Aside0.mk (F.out.drawn hi hb hk); clear F hi hb hk cv; have F := F_; clear F_; have cv := F.out.f.cv) | ((with_reducible refine gate_callee (f := 42) rfl ?_); (with_reducible refine gate_dst (N := 26) rfl ?_); refine goesL_ (some 26) rfl rfl Try.func42 (by kernel_rfl) rfl #[.pointer (some ⟨g, 0, none⟩), .int .i64 8] rfl Sh.al ?_; (with_reducible refine (spec_l01Below.calls g s0_0 i3 j3 8 t4 i4 j4 w0 _ F.out.f.I F.out.f.B E3.out).mono ?_); rintro e w8 ⟨rfl, hi, hb, hk⟩; refine ⟨_, rfl, ?_⟩; have F_ := Aside0.mk (F.out.drawn hi hb hk); clear F hi hb hk cv; have F := F_; clear F_; have cv := F.out.f.cv))
        clear c1b; have H := HH.out; clear HH
        by_cases d0 : t4 = 0
        · rw [if_pos d0] at H; obtain ⟨⟨y, ok⟩, e4, H⟩ := Option.bind_eq_some_iff.mp H
          try dsimp only at H
          have E4 := Aside0.mk e4; clear e4; have HH := Aside0.mk H; clear H; have d0b : (t4 == 0) = true := beq_iff_eq.mpr d0; clear d0; go_wp2_with (first | ((with_reducible refine gate_callee (f := 89) rfl ?_); (with_reducible refine gate_dst (N := 49) rfl ?_); refine goesL_ (some 49) rfl rfl Try.func89 (by kernel_rfl) rfl #[.agg #[.slice A xs.length c], .int .i64 t3] rfl Sh.al ?_; (with_reducible refine (spec_Wipe.calls k1 A c xs t3 y ok _ (Kd.S_reads' F.out.S).2.2 (Kd.S_reads' F.out.S).2.1 E4.out).mono ?_); rintro e w9 ⟨v_, rfl, hS, hb⟩; refine ⟨_, rfl, ?_⟩; obtain ⟨A1, c1, e_⟩ := Kd.S_slice hS; subst e_; have SR := Aside0.mk (F.out.f.fresh hb.size hS); have F_ := Aside0.mk (F.out.below hb); clear F hS hb cv; have F := F_; clear F_; have cv := F.out.f.cv; have fz := blk_frozen F.out.f.V 0))
          go_roundg k1
          case measure => omega
          case rel => exact ⟨wrap64 (x5 + 1), i4, j4, y, A1, c1, by go_num, HH, ⟨F.out.f.put_S SR.out⟩⟩
        · have d0b : (t4 == 0) = false := beq_eq_false_iff_ne.mpr d0; rw [if_neg d0] at H
          by_cases d1 : t4 = 1
          · rw [if_pos d1] at H; have d1b : (t4 == 1) = true := beq_iff_eq.mpr d1; clear d0 d1
            by_cases p0 : 0 ≤ t3
            rotate_left
            · rw [if_neg p0] at H; cases H
            rw [if_pos p0] at H
            by_cases p1 : t3 < (xs.length : Int)
            rotate_left
            · rw [if_neg p1] at H; cases H
            rw [if_pos p1] at H; obtain ⟨t5, e4, H⟩ := Option.bind_eq_some_iff.mp H
            try dsimp only at H
            have E4 := Aside0.mk e4; clear e4; obtain ⟨go, A2, c2, ea_, Q, fzo, hl2, hC2, hw2⟩ := F.out.at_ p0 p1; subst ea_; have HC2 := Aside0.mk hl2; have HV := Aside0.mk hC2; have HW := Aside0.mk hw2; have FZ := Aside0.mk fzo; clear hl2 hC2 hw2 fzo; have P0 := Aside0.mk p0; have P1 := Aside0.mk p1; replace p0 := eq_true p0; replace p1 := eq_true p1; obtain ⟨q0, q1, q2, q3⟩ := Q; clear cv
            by_cases e5 : t5 < 4
            · rw [if_pos e5] at H; obtain ⟨t6, e5, H⟩ := Option.bind_eq_some_iff.mp H
              try dsimp only at H
              have E5 := Aside0.mk e5; clear e5
              by_cases u0 : 0 ≤ t6
              rotate_left
              · rw [if_neg u0] at H; cases H
              rw [if_pos u0] at H
              by_cases u1 : t6 < ((rd_T57 xs t3).f2.length : Int)
              rotate_left
              · rw [if_neg u1] at H; cases H
              rw [if_pos u1] at H; have HH := Aside0.mk H; clear H; have e5b := decide_eq_true e5; clear e5; have HU0 := Aside0.mk u0; have HU1 := Aside0.mk u1; replace u0 := eq_true u0; replace u1 := eq_true u1; go_wp2_with (first | ((with_reducible refine gate_callee (f := 45) rfl ?_); (with_reducible refine gate_dst (N := 59) rfl ?_); refine goesL_ (some 59) rfl rfl Try.func45 (by kernel_rfl) rfl #[.agg #[.bool (rd_T57 xs t3).f0, .int .i64 (rd_T57 xs t3).f1, .slice A2 (rd_T57 xs t3).f2.length c2]] rfl Sh.al ?_; (with_reducible refine (spec_NextBlank.calls k1 (rd_T57 xs t3).f0 (rd_T57 xs t3).f1 A2 c2 (rd_T57 xs t3).f2 t5 _ HV.out HC2.out E4.out).mono ?_); rintro e w10 ⟨rfl, hb⟩; refine ⟨_, rfl, ?_⟩; have Q := Fq.below (b := gb) (go := go) (n := xs.length) (c := c) (xs := xs) (t := t3) (A2 := A2) (c2 := c2) ⟨q0, q1, q2, q3⟩ hb; have HV_ := Aside0.mk (Kd.C_below HV.out hb); clear HV; have HV := HV_; clear HV_ q0 q1 q2 q3; have F_ := Aside0.mk (F.out.below hb); clear F hb; have F := F_; clear F_)); replace Q := Q.below (below_drew1 (Below.refl _ _)); have F_ := Aside0.mk F.out.drew; have HV_ := Aside0.mk (Kd.C_below HV.out (below_drew1 (Below.refl _ _))); clear F HV; have F := F_; have HV := HV_; clear F_ HV_
              refine start_ (n := 15) (S := Fq gb go xs.length c xs t3 A2 c2) (ds := [14]) #[false, false, false, false, false, false, false, false, false, false, false, false, false, false, false] (by kernel_rfl) rfl rfl Q (fun hHeld => ?_); refine with_tabW spec_l05Flash.tab12 spec_l05Flash.bits12 (fun HT_ HW_ => ?_)
              clear Q
              generalize w10.drew = w11 at F HV hHeld ⊢
              refine Sh.py 0 61 HT_ ?_
              refine Sh.py 2 63 HT_ ?_
              refine Sh.py 6 67 HT_ ?_
              refine Sh.py 8 69 HT_ ?_
              refine Sh.py 12 73 HT_ ?_
              refine Sh.ty 1 62 HT_ HW_ hHeld ?_ (hv := by rintro w' ⟨s0, s1, s2, s3⟩; go_simp; with_reducible rfl)
              refine Sh.py 3 64 HT_ ?_
              refine Sh.py 4 65 HT_ ?_
              refine Sh.ty 5 66 HT_ HW_ hHeld ?_ (hv := by rintro w' ⟨s0, s1, s2, s3⟩; go_simp; with_reducible rfl)
              refine Sh.ty 7 68 HT_ HW_ hHeld ?_ (hv := by rintro w' ⟨s0, s1, s2, s3⟩; go_simp; with_reducible rfl)
              refine Sh.py 9 70 HT_ ?_
              refine Sh.ty 10 71 HT_ HW_ hHeld ?_ (hv := by rintro w' ⟨s0, s1, s2, s3⟩; go_simp; with_reducible rfl)
              refine one_ (i := 11) (N := some 72) #[true, true, true, true, true, true, true, true, true, true, true, true, true, false, false] rfl rfl (one_of HT_.out (by kernel_rfl)) (by decide) (fun K hK => ?_)
              refine goes_ Try.func45 (by kernel_rfl) rfl #[.agg #[.bool (rd_T57 xs t3).f0, .int .i64 (rd_T57 xs t3).f1, .slice A2 (rd_T57 xs t3).f2.length c2]] (by rfl) rfl rfl Sh.al ?_
              with_reducible refine (spec_NextBlank.calls k1 (rd_T57 xs t3).f0 (rd_T57 xs t3).f1 A2 c2 (rd_T57 xs t3).f2 t6 _ HV.out HC2.out E5.out).mono ?_
              rintro e w12 ⟨rfl, hb⟩; refine ⟨_, rfl, ?_⟩; have Q_ := hHeld.below hb; have F_ := Aside0.mk (F.out.below hb); clear F hb HV; have F := F_; clear F_; obtain ⟨gi, ea_, x0, x1, f0, f1, gib, HP⟩ := F.out.leaf P0.out P1.out Q_ HU0.out HU1.out; subst ea_; have HQ := Aside0.mk HP; clear HP gib; refine hK.out _ _ (Q_) (fun hHeld => ?_); clear hK K; refine norm_ (a' := ?_) ?_ ?_; rotate_left
              · show Act.put _ (some 72) _ = _; simp only [Act.put, List.setIfInBounds_toArray, List.set_cons_zero, List.set_cons_succ, i64_w, i32_w]; rfl
              refine Sh.py 13 74 HT_ ?_
              refine last_ (i := 14) (N := none) #[true, true, true, true, true, true, true, true, true, true, true, true, true, true, true] rfl rfl (one_of HT_.out (by kernel_rfl)) (by decide) (fun K hK => ?_); refine skip_ (w1 := ?_) (by rfl) rfl ?_ ?_; rotate_left
              · go_simp; rfl
              refine hK.out _ _ ?_; clear hK K; refine done_ (done_of HT_.out (by kernel_rfl)) ?_
              try go_wp2
              go_roundg k1
              case measure => omega
              case rel => exact ⟨wrap64 (x5 + 1), i4, j4, _, _, c, by go_num, HH, ⟨by rw [List.length_set]; exact HQ.out 0 [.int .i64 2, .string (⟨#[116, 111]⟩ : ByteArray)] ⟨2, (⟨#[116, 111]⟩ : ByteArray)⟩ (by decide) rfl⟩⟩
            · rw [if_neg e5] at H; have HH := Aside0.mk H; clear H; have e5b := decide_eq_false e5; clear e5; go_wp2_with (first | ((with_reducible refine gate_callee (f := 45) rfl ?_); (with_reducible refine gate_dst (N := 59) rfl ?_); refine goesL_ (some 59) rfl rfl Try.func45 (by kernel_rfl) rfl #[.agg #[.bool (rd_T57 xs t3).f0, .int .i64 (rd_T57 xs t3).f1, .slice A2 (rd_T57 xs t3).f2.length c2]] rfl Sh.al ?_; (with_reducible refine (spec_NextBlank.calls k1 (rd_T57 xs t3).f0 (rd_T57 xs t3).f1 A2 c2 (rd_T57 xs t3).f2 t5 _ HV.out HC2.out E4.out).mono ?_); rintro e w13 ⟨rfl, hb⟩; refine ⟨_, rfl, ?_⟩; have Q := Fq.below (b := gb) (go := go) (n := xs.length) (c := c) (xs := xs) (t := t3) (A2 := A2) (c2 := c2) ⟨q0, q1, q2, q3⟩ hb; have HV_ := Aside0.mk (Kd.C_below HV.out hb); clear HV; have HV := HV_; clear HV_ q0 q1 q2 q3; have F_ := Aside0.mk (F.out.below hb); clear F hb; have F := F_; clear F_))
              go_roundg k1
              case measure => omega
              case rel => exact ⟨wrap64 (x5 + 1), i4, j4, xs, _, c, by go_num, HH, F⟩
          · have d1b : (t4 == 1) = false := beq_eq_false_iff_ne.mpr d1; rw [if_neg d1] at H; clear d0 d1
            by_cases p0 : 0 ≤ t3
            rotate_left
            · rw [if_neg p0] at H; cases H
            rw [if_pos p0] at H
            by_cases p1 : t3 < (xs.length : Int)
            rotate_left
            · rw [if_neg p1] at H; cases H
            rw [if_pos p1] at H; obtain ⟨t5, e4, H⟩ := Option.bind_eq_some_iff.mp H
            try dsimp only at H
            have E4 := Aside0.mk e4; clear e4; obtain ⟨⟨t6, i5, j5⟩, e5, H⟩ := Option.bind_eq_some_iff.mp H
            try dsimp only at H
            have E5 := Aside0.mk e5; clear e5; obtain ⟨⟨t7, i6, j6⟩, e6, H⟩ := Option.bind_eq_some_iff.mp H
            try dsimp only at H
            have E6 := Aside0.mk e6; clear e6; obtain ⟨⟨y, ok⟩, e7, H⟩ := Option.bind_eq_some_iff.mp H
            try dsimp only at H
            have E7 := Aside0.mk e7; clear e7; have HH := Aside0.mk H; clear H; go_wp2_with (fail); clear cv; have F_ := Aside0.mk F.out.drew; clear F; have F := F_; clear F_; obtain ⟨go, A2, c2, ea_, Q, fzo, hl2, hC2, hw2⟩ := F.out.at_ p0 p1; subst ea_; have HC2 := Aside0.mk hl2; have HV := Aside0.mk hC2; have HW := Aside0.mk hw2; have FZ := Aside0.mk fzo; clear hl2 hC2 hw2 fzo; have P0 := Aside0.mk p0; have P1 := Aside0.mk p1; replace p0 := eq_true p0; replace p1 := eq_true p1
            refine start_ (n := 18) (S := Fq gb go xs.length c xs t3 A2 c2) (ds := [17]) #[false, false, false, false, false, false, false, false, false, false, false, false, false, false, false, false, false, false] (by kernel_rfl) rfl rfl Q (fun hHeld => ?_); refine with_tabW spec_l05Flash.tab7 spec_l05Flash.bits7 (fun HT_ HW_ => ?_)
            clear Q
            generalize w8.drew = w14 at F HV hHeld ⊢
            refine Sh.py 1 29 HT_ ?_
            refine Sh.py 2 30 HT_ ?_
            refine Sh.py 4 32 HT_ ?_
            refine Sh.py 8 36 HT_ ?_
            refine Sh.py 9 37 HT_ ?_
            refine Sh.ty 0 28 HT_ HW_ hHeld ?_ (hv := by rintro w' ⟨s0, s1, s2, s3⟩; go_simp; with_reducible rfl)
            refine Sh.ty 3 31 HT_ HW_ hHeld ?_ (hv := by rintro w' ⟨s0, s1, s2, s3⟩; go_simp; with_reducible rfl)
            refine Sh.py 5 33 HT_ ?_
            refine Sh.ty 6 34 HT_ HW_ hHeld ?_ (hv := by rintro w' ⟨s0, s1, s2, s3⟩; go_simp; with_reducible rfl)
            refine one_ (i := 7) (N := some 35) #[true, true, true, true, true, true, true, true, true, true, false, false, false, false, false, false, false, false] rfl rfl (one_of HT_.out (by kernel_rfl)) (by decide) (fun K hK => ?_)
            refine goes_ Try.func45 (by kernel_rfl) rfl #[.agg #[.bool (rd_T57 xs t3).f0, .int .i64 (rd_T57 xs t3).f1, .slice A2 (rd_T57 xs t3).f2.length c2]] (by rfl) rfl rfl Sh.al ?_
            with_reducible refine (spec_NextBlank.calls k1 (rd_T57 xs t3).f0 (rd_T57 xs t3).f1 A2 c2 (rd_T57 xs t3).f2 t5 _ HV.out HC2.out E4.out).mono ?_
            rintro e w15 ⟨rfl, hb⟩; refine ⟨_, rfl, ?_⟩; have Q_ := hHeld.below hb; have F_ := Aside0.mk (F.out.below hb); clear F hb HV; have F := F_; clear F_; refine hK.out _ _ (Q_) (fun hHeld => ?_); clear hK K; refine norm_ (a' := ?_) ?_ ?_; rotate_left
            · show Act.put _ (some 35) _ = _; simp only [Act.put, List.setIfInBounds_toArray, List.set_cons_zero, List.set_cons_succ, i64_w, i32_w]; rfl
            refine one_ (i := 10) (N := some 38) #[true, true, true, true, true, true, true, true, true, true, true, false, false, false, false, false, false, false] rfl rfl (one_of HT_.out (by kernel_rfl)) (by decide) (fun K hK => ?_)
            refine goes_ Try.func42 (by kernel_rfl) rfl #[.pointer (some ⟨g, 0, none⟩), .int .i64 5] (by rfl) rfl rfl Sh.al ?_
            with_reducible refine (spec_l01Below.calls g s0_0 i4 j4 5 t6 i5 j5 w0 _ F.out.f.I F.out.f.B E5.out).mono ?_
            rintro e w16 ⟨rfl, hi, hb, hk⟩; refine ⟨_, rfl, ?_⟩; have Q_ := hHeld.keep hk F.out.f.gb.symm HW.out.2.1; have F_ := Aside0.mk (F.out.drawn hi hb hk); clear F hi hb hk; have F := F_; clear F_; refine hK.out _ _ (Q_) (fun hHeld => ?_); clear hK K; refine norm_ (a' := ?_) ?_ ?_; rotate_left
            · show Act.put _ (some 38) _ = _; simp only [Act.put, List.setIfInBounds_toArray, List.set_cons_zero, List.set_cons_succ, i64_w, i32_w]; rfl
            refine Sh.py 11 39 HT_ ?_
            refine one_ (i := 12) (N := some 40) #[true, true, true, true, true, true, true, true, true, true, true, true, true, false, false, false, false, false] rfl rfl (one_of HT_.out (by kernel_rfl)) (by decide) (fun K hK => ?_)
            refine goes_ Try.func69 (by kernel_rfl) rfl #[.pointer (some ⟨g, 0, none⟩), .int .i64 (wrap64 (1 + t6))] (by rfl) rfl rfl Sh.al ?_
            with_reducible refine (spec_l01Text.calls k1 g s0_0 i5 j5 (wrap64 (1 + t6)) t7 i6 j6 w0 _ F.out.f.I F.out.f.B E6.out).mono ?_
            rintro e w17 ⟨rfl, hi, hb, hk⟩; refine ⟨_, rfl, ?_⟩; have Q_ := hHeld.keep hk F.out.f.gb.symm HW.out.2.1; have F_ := Aside0.mk (F.out.drawn hi hb hk); clear F hi hb hk; have F := F_; clear F_; refine hK.out _ _ (Q_) (fun hHeld => ?_); clear hK K; refine norm_ (a' := ?_) ?_ ?_; rotate_left
            · show Act.put _ (some 40) _ = _; simp only [Act.put, List.setIfInBounds_toArray, List.set_cons_zero, List.set_cons_succ, i64_w, i32_w]; rfl
            refine one_ (i := 13) (N := some 41) #[true, true, true, true, true, true, true, true, true, true, true, true, true, true, false, false, false, false] rfl rfl (one_of HT_.out (by kernel_rfl)) (by decide) (fun K hK => ?_)
            refine goes_ Try.func44 (by kernel_rfl) rfl #[.agg #[.slice (some ⟨go, 0, none⟩) xs.length c], .int .i64 t3, .int .i64 t5, .string t7] (by rfl) rfl rfl Sh.al ?_
            with_reducible refine (spec_Program.calls k1 _ c xs t3 t5 t7 y ok _ (Kd.S_reads' F.out.S).2.2 (Kd.S_reads' F.out.S).2.1 E7.out).mono ?_
            rintro e w18 ⟨v_, rfl, hS, hb⟩; refine ⟨_, rfl, ?_⟩; have Q_ := hHeld.below hb; obtain ⟨A1, c1, e_⟩ := Kd.S_slice hS; subst e_; have SR := Aside0.mk (F.out.f.fresh hb.size hS); clear hS; have F_ := Aside0.mk (F.out.below hb); clear F hb; have F := F_; clear F_; have cv := F.out.f.cv; have fz := blk_frozen F.out.f.V 0; refine hK.out _ _ (Q_) (fun hHeld => ?_); clear hK K; refine norm_ (a' := ?_) ?_ ?_; rotate_left
            · show Act.put _ (some 41) _ = _; simp only [Act.put, List.setIfInBounds_toArray, List.set_cons_zero, List.set_cons_succ, i64_w, i32_w]; rfl
            refine Sh.py 14 27 HT_ ?_
            refine Sh.py 15 42 HT_ ?_
            refine Sh.py 16 43 HT_ ?_
            refine last_ (i := 17) (N := none) #[true, true, true, true, true, true, true, true, true, true, true, true, true, true, true, true, true, true] rfl rfl (one_of HT_.out (by kernel_rfl)) (by decide) (fun K hK => ?_); refine skip_ (w1 := ?_) (by rfl) rfl ?_ ?_; rotate_left
            · go_simp; rfl
            refine hK.out _ _ ?_; clear hK K; refine done_ (done_of HT_.out (by kernel_rfl)) ?_
            try go_wp2
            go_roundg k1
            case measure => omega
            case rel => exact ⟨wrap64 (x5 + 1), i6, j6, y, A1, c1, by go_num, HH, ⟨F.out.f.put_S SR.out⟩⟩
      · rw [if_neg c1] at H; obtain ⟨⟨b, i3, j3⟩, e2, H⟩ := Option.bind_eq_some_iff.mp H
        try dsimp only at H
        have E2 := Aside0.mk e2; clear e2; have c1b := decide_eq_false c1; clear c1; have HH := Aside0.mk H; clear H
        cases b with
        | true =>
          have H := HH.out; clear HH
          simp only [if_true] at H
          obtain ⟨⟨t3, i4, j4⟩, e3, H⟩ := Option.bind_eq_some_iff.mp H
          try dsimp only at H
          have E3 := Aside0.mk e3; clear e3; obtain ⟨y, e4, H⟩ := Option.bind_eq_some_iff.mp H
          try dsimp only at H
          have E4 := Aside0.mk e4; clear e4
          simp only [Option.some.injEq, Prod.mk.injEq] at H
          obtain ⟨rfl, rfl, rfl⟩ := H; go_wp2_with (first | ((with_reducible refine gate_callee (f := 42) rfl ?_); (with_reducible refine gate_dst (N := 16) rfl ?_); refine goesL_ (some 16) rfl rfl Try.func42 (by kernel_rfl) rfl #[.pointer (some ⟨g, 0, none⟩), .int .i64 20] rfl Sh.al ?_; (with_reducible refine (spec_l01Below.calls g s0_0 i j 20 t2 i2 j2 w0 _ F.out.f.I F.out.f.B E1.out).mono ?_); rintro e w19 ⟨rfl, hi, hb, hk⟩; refine ⟨_, rfl, ?_⟩; have F_ := Aside0.mk (F.out.drawn hi hb hk); clear F hi hb hk cv; have F := F_; clear F_; have cv := F.out.f.cv) | ((with_reducible refine gate_callee (f := 39) rfl ?_); (with_reducible refine gate_dst (N := 76) rfl ?_); refine goesL_ (some 76) rfl rfl Try.func39 (by kernel_rfl) rfl #[.pointer (some ⟨g, 0, none⟩), .int .i64 4] rfl Sh.al ?_; (with_reducible refine (spec_l01Once.calls g s0_0 i2 j2 4 _ i3 j3 w0 _ F.out.f.I F.out.f.B E2.out).mono ?_); rintro e w20 ⟨rfl, hi, hb, hk⟩; refine ⟨_, rfl, ?_⟩; have F_ := Aside0.mk (F.out.drawn hi hb hk); clear F hi hb hk cv; have F := F_; clear F_; have cv := F.out.f.cv)); have F_ := Aside0.mk F.out.drew; clear F; have F := F_; clear F_; clear cv
          refine start_ (n := 8) (S := fun w' => w'.cell? ⟨gb, 0, none⟩ = some (.slice A xs.length c)) (ds := [7]) #[false, false, false, false, false, false, false, false] (by kernel_rfl) rfl rfl F.out.f.cv (fun hHeld => ?_); refine with_tabW spec_l05Flash.tab14 spec_l05Flash.bits14 (fun HT_ HW_ => ?_)
          generalize w20.drew = w21 at F hHeld ⊢
          refine Sh.py 1 78 HT_ ?_
          refine Sh.py 2 79 HT_ ?_
          refine Sh.ty 0 77 HT_ HW_ hHeld ?_ (hv := by intro w' s0; go_simp; with_reducible rfl)
          refine Sh.ty 3 80 HT_ HW_ hHeld ?_ (hv := by intro w' s0; go_simp; with_reducible rfl)
          refine Sh.py 4 81 HT_ ?_
          refine one_ (i := 5) (N := some 82) #[true, true, true, true, true, true, false, false] rfl rfl (one_of HT_.out (by kernel_rfl)) (by decide) (fun K hK => ?_)
          refine goes_ Try.func42 (by kernel_rfl) rfl #[.pointer (some ⟨g, 0, none⟩), .int .i64 (xs.length : Int)] (by rfl) rfl rfl Sh.al ?_
          with_reducible refine (spec_l01Below.calls g s0_0 i3 j3 (xs.length : Int) t3 i4 j4 w0 _ F.out.f.I F.out.f.B E3.out).mono ?_
          rintro e w22 ⟨rfl, hi, hb, hk⟩; refine ⟨_, rfl, ?_⟩; have Q_ := keep_cell hk hHeld F.out.f.gb.symm; have F_ := Aside0.mk (F.out.drawn hi hb hk); clear F hi hb hk; have F := F_; clear F_; refine hK.out _ _ (Q_) (fun hHeld => ?_); clear hK K; refine norm_ (a' := ?_) ?_ ?_; rotate_left
          · show Act.put _ (some 82) _ = _; simp only [Act.put, List.setIfInBounds_toArray, List.set_cons_zero, List.set_cons_succ, i64_w, i32_w]; rfl
          refine one_ (i := 6) (N := some 83) #[true, true, true, true, true, true, true, false] rfl rfl (one_of HT_.out (by kernel_rfl)) (by decide) (fun K hK => ?_)
          refine goes_ Try.func90 (by kernel_rfl) rfl #[.agg #[.slice A xs.length c], .int .i64 t3] (by rfl) rfl rfl Sh.al ?_
          with_reducible refine (spec_MarkBad.calls k1 A c xs t3 y _ (Kd.S_reads' F.out.S).2.2 (Kd.S_reads' F.out.S).2.1 E4.out).mono ?_
          rintro e w23 ⟨v_, rfl, hS, hb⟩; refine ⟨_, rfl, ?_⟩; have Q_ := pw_cell_below hb hHeld; obtain ⟨A1, c1, e_⟩ := Kd.S_slice hS; subst e_; have SR := Aside0.mk (F.out.f.fresh hb.size hS); clear hS; have F_ := Aside0.mk (F.out.below hb); clear F hb; have F := F_; clear F_; have cv := F.out.f.cv; have fz := blk_frozen F.out.f.V 0; refine hK.out _ _ (Q_) (fun hHeld => ?_); clear hK K; refine norm_ (a' := ?_) ?_ ?_; rotate_left
          · show Act.put _ (some 83) _ = _; simp only [Act.put, List.setIfInBounds_toArray, List.set_cons_zero, List.set_cons_succ, i64_w, i32_w]; rfl
          refine last_ (i := 7) (N := none) #[true, true, true, true, true, true, true, true] rfl rfl (one_of HT_.out (by kernel_rfl)) (by decide) (fun K hK => ?_); refine skip_ (w1 := ?_) (by rfl) rfl ?_ ?_; rotate_left
          · go_simp; rfl
          refine hK.out _ _ ?_; clear hK K; refine done_ (done_of HT_.out (by kernel_rfl)) ?_; have F_ := Aside0.mk (F.out.f.put_S SR.out); clear F SR cv fz; have F := F_; clear F_
          generalize (w23.setCell ⟨gb, 0, none⟩ (.slice A1 y.length c1)) = w99 at F ⊢
          have cv := F.out.f.cv; have ca := (blk_cell F.out.f.R 0).trans rfl; have fa := blk_frozen F.out.f.R 0; go_wp2_with (fail)
          refine bodyPost_ret (results_cell_row rfl _ _ ga 29 #[.slice A1 y.length c1] (0, 0) _ rfl (F.out.f.res _) Try.underlying29 rfl (by kernel_rfl)) rfl ?_
          exact ⟨_, rfl, F.out.done⟩
        | false =>
          have H := HH.out; clear HH
          simp only [Bool.false_eq_true, if_false, Option.some.injEq, Prod.mk.injEq] at H
          obtain ⟨rfl, rfl, rfl⟩ := H
          go_upto_if 76 with (first | ((with_reducible refine gate_callee (f := 42) rfl ?_); (with_reducible refine gate_dst (N := 16) rfl ?_); refine goesL_ (some 16) rfl rfl Try.func42 (by kernel_rfl) rfl #[.pointer (some ⟨g, 0, none⟩), .int .i64 20] rfl Sh.al ?_; (with_reducible refine (spec_l01Below.calls g s0_0 i j 20 t2 i2 j2 w0 _ F.out.f.I F.out.f.B E1.out).mono ?_); rintro e w24 ⟨rfl, hi, hb, hk⟩; refine ⟨_, rfl, ?_⟩; have F_ := Aside0.mk (F.out.drawn hi hb hk); clear F hi hb hk cv; have F := F_; clear F_; have cv := F.out.f.cv) | ((with_reducible refine gate_callee (f := 39) rfl ?_); (with_reducible refine gate_dst (N := 76) rfl ?_); refine goesL_ (some 76) rfl rfl Try.func39 (by kernel_rfl) rfl #[.pointer (some ⟨g, 0, none⟩), .int .i64 4] rfl Sh.al ?_; (with_reducible refine (spec_l01Once.calls g s0_0 i2 j2 4 _ i3 j3 w0 _ F.out.f.I F.out.f.B E2.out).mono ?_); rintro e w25 ⟨rfl, hi, hb, hk⟩; refine ⟨_, rfl, ?_⟩; have F_ := Aside0.mk (F.out.drawn hi hb hk); clear F hi hb hk cv; have F := F_; clear F_; have cv := F.out.f.cv))
          have ca := (blk_cell F.out.f.R 0).trans rfl; have fa := blk_frozen F.out.f.R 0; go_wp2_with (fail)
          refine bodyPost_ret (results_cell_row rfl _ _ ga 29 #[.slice A xs.length c] (0, 0) _ rfl (F.out.f.res _) Try.underlying29 rfl (by kernel_rfl)) rfl ?_
          exact ⟨_, rfl, F.out.done⟩

/-! ### spec_l01PickInt: function 67 -/
def spec_l01PickInt.f (s0_0 : List Int) (s0_1 : Int) (s0_2 : Int) (l1 : List Int) : Option (Int × Int × Int) := (spec_l01Below.f s0_0 s0_1 s0_2 (l1.length : Int)).bind fun bt243 => (if 0 ≤ bt243.1 then (if bt243.1 < (l1.length : Int) then (some (rd l1 bt243.1, bt243.2.1, bt243.2.2)) else (none)) else (none))
set_option maxHeartbeats 8000000 in
set_option maxRecDepth 100000 in
theorem spec_l01PickInt.calls (g : Nat) (s0_0 : List Int) (s0_1 : Int) (s0_2 : Int) (A1 : Option Addr) (c1 : Nat) (l1 : List Int) (r1 : Int) (r2 : Int) (r3 : Int) (w0 w : World) (hI : IsS86 w0 w g s0_0 s0_1 s0_2) (hB : Below w0.heap.size w0 w) (hr1 : Kd.C (Kd.int .i64) w A1 l1.length l1) (hc1 : l1.length ≤ c1) (hf1 : ∀ ad, A1 = some ad → 0 < l1.length → ad.block ≠ g) (h : spec_l01PickInt.f s0_0 s0_1 s0_2 l1 = some (r1, r2, r3)) :
    Calls Try.prog 67 #[.pointer (some ⟨g, 0, none⟩), .slice A1 l1.length c1] w fun e w' => e = .returned (.int .i64 r1) ∧ IsS86 w0 w' g s0_0 r2 r3 ∧ Below w0.heap.size w0 w' ∧ KeepBut w w' g none := by
  have HR1 := Aside0.mk hr1; have HC1 := Aside0.mk hc1; clear hr1 hc1; have HI0 := Aside0.mk hI; have HK := Aside0.mk (KeepBut.refl w g none); have HL := Aside0.mk hB.size; clear hI; have HW0 := Aside0.mk hB.size; have HB := Aside0.mk hB; clear hB; have H : ((spec_l01Below.f s0_0 s0_1 s0_2 (l1.length : Int)).bind fun bt243 => (if 0 ≤ bt243.1 then (if bt243.1 < (l1.length : Int) then (some (rd l1 bt243.1, bt243.2.1, bt243.2.2)) else (none)) else (none))) = some (r1, r2, r3) := h; clear h; replace H := Option.bind_eq_some_iff.mp H; obtain ⟨⟨t243, t244, t245⟩, A30, H⟩ := H; replace H : (if 0 ≤ t243 then (if t243 < (l1.length : Int) then (some (rd l1 t243, t244, t245)) else (none)) else (none)) = some (r1, r2, r3) := H; have A3 := Aside0.mk A30; clear A30
  by_cases c4 : 0 ≤ t243
  · rw [if_pos c4] at H; have c4b0 : decide (0 ≤ t243) = true := decide_eq_true c4; clear c4
    by_cases c5 : t243 < (l1.length : Int)
    · rw [if_pos c5] at H; have c5b0 : decide (t243 < (l1.length : Int)) = true := decide_eq_true c5; clear c5
      simp only [Option.some.injEq, Prod.mk.injEq] at H
      obtain ⟨rfl, rfl, rfl⟩ := H
      go_enter Try.func67, Try.ntmps67
      go_wp2_with (first | ((with_reducible refine gate_callee (f := 42) rfl ?_); refine goesL_ (some 9) rfl rfl Try.func42 (by kernel_rfl) rfl #[.pointer (some ⟨g, 0, none⟩), .int .i64 (l1.length : Int)] rfl Sh.al ?_; (with_reducible refine (spec_l01Below.calls g s0_0 s0_1 s0_2 (l1.length : Int) t243 t244 t245 w0 _ ?side1 ?side2 A3.out).mono ?_); (case side1 => exact IsS86.y HI0.out); (case side2 => exact Sh.hs HB.out (IsS86.ge HI0.out)); rintro e w6 ⟨rfl, hi, hb, hk⟩; refine ⟨_, rfl, ?_⟩; replace HK := Aside0.mk (KeepBut.trans (Sh.kb HK.out) hk (.inl rfl)); replace HB := Aside0.mk (hb); replace HI0 := Aside0.mk (hi); (try clear hb); (try clear hb2); (try clear hk); (try clear hi); have p246 : 0 ≤ (t243 : Int) := of_decide_eq_true Sh.as; have q246 : t243 < (l1.length : Int) := of_decide_eq_true Sh.as; obtain ⟨ad246, e246, hx246_0⟩ := Kd.at_int HR1.out t243 p246 q246; cases e246; replace hx246_0 := keep_cell HK.out hx246_0 (by first | (rw [add_block]; exact hf1 _ rfl (by omega)) | exact hf1 _ rfl (by omega) | exact hf1 ad246 rfl (by omega)); replace p246 := eq_true p246; replace q246 := eq_true q246)); go_ret; exact ⟨by first | rfl | (simp [errW_none, errW_some] <;> rfl) | (simp [*, errW_none, errW_some] <;> rfl), by exact IsS86.y HI0.out, by exact Sh.hs HB.out (IsS86.ge HI0.out), by exact Sh.kb HK.out⟩
    · rw [if_neg c5] at H; exact absurd H (by simp)
  · rw [if_neg c4] at H; exact absurd H (by simp)

end Go.Proofs.Ythbdijeikfgjeaa.QFnScans
