/- Short words for the steps of a region that draws its order: what every step shows in the same way is shown by the word itself. No condition of ours. -/
import Derived.KernelRfl
import Derived.Tactics
import Derived.WalkKit
import Derived.Test.YthbdijeikfgjeaaWz
namespace Go.Proofs.Ythbdijeikfgjeaa.Sh
open Go.RowKit Go.Proofs.YthbdijeikfgjeaaW.PrintWords Go.Proofs.YthbdijeikfgjeaaW.PrintLast
set_option linter.unusedVariables false
variable {P : Program} {ops : Array Oper} {Q : Exit → Act → World → Prop} {md : Region.Mode} {S : World → Prop} {ds : List Nat} {fuel : Nat} {l : Array Bool} {a a' : Act} {w : World} {T : Bool × List (List Nat × List Nat)} {B : List Nat} {oi : Oper} {v : Value}
/-- An operation's index set. -/
def sn (l : Array Bool) (i : Nat) : Array Bool := l.setIfInBounds i true
/-- Yields in every world; the table says when. -/
theorem py (i n : Nat) (hT : Aside0 (rtab md ops = T)) (h : wpAnyLast P md ops Q S ds fuel (sn l i) a' w)
    (hi : ops[i]? = some oi := by rfl) (hN : oi.dst = some n := by rfl) (hc : anyT T l.toList (sn l i).toList i = true := by kernel_rfl) (hQ : ∀ c a w, Q (.panic c) (a.put oi.dst v) w → Q (.panic c) a w := by exact fun _ _ _ h => h) (hw : Region.wanted oi (yielded ops a.tmps) = true := by rfl) (hv : ∀ w : World, (execOp a.eval oi).run P w = .ok (.value v) w := by (intro w'; go_simp; with_reducible rfl)) (ha : a.put (some n) v = a' := by (simp only [Act.put, List.setIfInBounds_toArray, List.set_cons_zero, List.set_cons_succ, i64_w, i32_w]; rfl)) :
    wpAnyLast P md ops Q S ds (fuel + 1) l a w := pure_ _ hi hN (any_of hT.out hc) hQ (Or.inl ⟨hw, hv⟩) ha h
/-- Not wanted; the table says when. -/
theorem pu (i n : Nat) (hT : Aside0 (rtab md ops = T)) (h : wpAnyLast P md ops Q S ds fuel (sn l i) a' w)
    (hi : ops[i]? = some oi := by rfl) (hN : oi.dst = some n := by rfl) (hc : anyT T l.toList (sn l i).toList i = true := by kernel_rfl) (hQ : ∀ c a w, Q (.panic c) (a.put oi.dst undef) w → Q (.panic c) a w := by exact fun _ _ _ h => h) (hw : Region.wanted oi (yielded ops a.tmps) = false := by rfl) (ha : a.put (some n) undef = a' := by (simp only [Act.put, List.setIfInBounds_toArray, List.set_cons_zero, List.set_cons_succ, i64_w, i32_w]; rfl)) :
    wpAnyLast P md ops Q S ds (fuel + 1) l a w := pure_ _ hi hN (any_of hT.out hc) hQ (Or.inr ⟨hw, rfl⟩) ha h
/-- Yields in every world. -/
theorem ky (i n : Nat) (h : wpAnyLast P md ops Q S ds fuel (sn l i) a' w)
    (hi : ops[i]? = some oi := by rfl) (hN : oi.dst = some n := by rfl) (hc : anyB md ops l (sn l i) i = true := by kernel_rfl) (hQ : ∀ c a w, Q (.panic c) (a.put oi.dst v) w → Q (.panic c) a w := by exact fun _ _ _ h => h) (hw : Region.wanted oi (yielded ops a.tmps) = true := by rfl) (hv : ∀ w : World, (execOp a.eval oi).run P w = .ok (.value v) w := by (intro w'; go_simp; with_reducible rfl)) (ha : a.put (some n) v = a' := by (simp only [Act.put, List.setIfInBounds_toArray, List.set_cons_zero, List.set_cons_succ, i64_w, i32_w]; rfl)) :
    wpAnyLast P md ops Q S ds (fuel + 1) l a w := pure_ _ hi hN hc hQ (Or.inl ⟨hw, hv⟩) ha h
/-- A load of what S holds. -/
theorem ty (i n : Nat) (hT : Aside0 (rtab md ops = T)) (hB : Aside0 (waitsOk T.2 B = true)) (hS : S w) (h : wpAnyLast P md ops Q S ds fuel (sn l i) a' w)
    (hi : ops[i]? = some oi := by rfl) (hN : oi.dst = some n := by rfl) (hc : takeW T B ds l.toList (sn l i).toList i = true := by kernel_rfl) (hQ : ∀ c a w, Q (.panic c) (a.put oi.dst v) w → Q (.panic c) a w := by exact fun _ _ _ h => h) (hw : Region.wanted oi (yielded ops a.tmps) = true := by rfl) (hv : ∀ w : World, S w → (execOp a.eval oi).run P w = .ok (.value v) w) (ha : a.put (some n) v = a' := by (simp only [Act.put, List.setIfInBounds_toArray, List.set_cons_zero, List.set_cons_succ, i64_w, i32_w]; rfl)) :
    wpAnyLast P md ops Q S ds (fuel + 1) l a w := take_ _ hi hN (take_ofW hT.out hB.out hc) hQ (Or.inl ⟨hw, hv⟩) hS ha h
/-- A load of what S holds. -/
theorem tk (i n : Nat) (hS : S w) (h : wpAnyLast P md ops Q S ds fuel (sn l i) a' w)
    (hi : ops[i]? = some oi := by rfl) (hN : oi.dst = some n := by rfl) (hc : takeB md ops ds l (sn l i) i = true := by kernel_rfl) (hQ : ∀ c a w, Q (.panic c) (a.put oi.dst v) w → Q (.panic c) a w := by exact fun _ _ _ h => h) (hw : Region.wanted oi (yielded ops a.tmps) = true := by rfl) (hv : ∀ w : World, S w → (execOp a.eval oi).run P w = .ok (.value v) w) (ha : a.put (some n) v = a' := by (simp only [Act.put, List.setIfInBounds_toArray, List.set_cons_zero, List.set_cons_succ, i64_w, i32_w]; rfl)) :
    wpAnyLast P md ops Q S ds (fuel + 1) l a w := take_ _ hi hN hc hQ (Or.inl ⟨hw, hv⟩) hS ha h
/-- A block behind draws and rooms. -/
theorem bk {A C : Prop} (q : A) (h : A → C := by (intro q; (with_reducible repeat (first | refine blk_drewN ?_ _ | refine blk_drew ?_ | refine blk_alloc ?_ _)); exact q)) : C := h q
/-- Below, behind draws and rooms. -/
theorem hb {A C : Prop} (q : A) (h : A → C := by (intro q; repeat (first | (with_reducible first | exact q | apply below_alloc | apply pw_below_drewN | apply below_drew1) | exact q))) : C := h q
/-- Below, behind draws, rooms and stores into what is new. -/
theorem hs {A E C : Prop} (q : A) (e : E) (h : A → E → C := by (intro q e; repeat (first | (with_reducible first | exact q | apply below_alloc | apply pw_below_drewN | apply below_drew1 | refine below_set ?_ e) | exact q))) : C := h q e
/-- The same over two, over three. -/
theorem hs2 {A E F C : Prop} (q : A) (e : E) (f : F) (h : A → E → F → C := by (intro q e f; repeat (first | (with_reducible first | exact q | apply below_alloc | apply pw_below_drewN | apply below_drew1 | refine below_set ?_ e | refine below_set ?_ f) | exact q))) : C := h q e f
theorem hs3 {A E F G C : Prop} (q : A) (e : E) (f : F) (g : G) (h : A → E → F → G → C := by (intro q e f g; repeat (first | (with_reducible first | exact q | apply below_alloc | apply pw_below_drewN | apply below_drew1 | refine below_set ?_ e | refine below_set ?_ f | refine below_set ?_ g) | exact q))) : C := h q e f g
/-- A block behind stores into others. -/
theorem bf {A E C : Prop} (q : A) (e : E) (h : A → E → C := by (intro q e; (with_reducible repeat (first | refine blk_drewN ?_ _ | refine blk_drew ?_ | refine blk_alloc ?_ _)); refine blk_far ?_ e _; (with_reducible repeat (first | refine blk_drewN ?_ _ | refine blk_drew ?_ | refine blk_alloc ?_ _)); exact q)) : C := h q e
theorem bf2 {A E F C : Prop} (q : A) (e : E) (f : F) (h : A → E → F → C := by (intro q e f; (with_reducible repeat (first | refine blk_drewN ?_ _ | refine blk_drew ?_ | refine blk_alloc ?_ _)); refine blk_far ?_ e _; (with_reducible repeat (first | refine blk_drewN ?_ _ | refine blk_drew ?_ | refine blk_alloc ?_ _)); refine blk_far ?_ f _; (with_reducible repeat (first | refine blk_drewN ?_ _ | refine blk_drew ?_ | refine blk_alloc ?_ _)); exact q)) : C := h q e f
theorem bf3 {A E F G C : Prop} (q : A) (e : E) (f : F) (g : G) (h : A → E → F → G → C := by (intro q e f g; (with_reducible repeat (first | refine blk_drewN ?_ _ | refine blk_drew ?_ | refine blk_alloc ?_ _)); refine blk_far ?_ e _; (with_reducible repeat (first | refine blk_drewN ?_ _ | refine blk_drew ?_ | refine blk_alloc ?_ _)); refine blk_far ?_ f _; (with_reducible repeat (first | refine blk_drewN ?_ _ | refine blk_drew ?_ | refine blk_alloc ?_ _)); refine blk_far ?_ g _; (with_reducible repeat (first | refine blk_drewN ?_ _ | refine blk_drew ?_ | refine blk_alloc ?_ _)); exact q)) : C := h q e f g
theorem hs4 {A E F G H C : Prop} (q : A) (e : E) (f : F) (g : G) (i : H) (h : A → E → F → G → H → C := by (intro q e f g i; repeat (first | (with_reducible first | exact q | apply below_alloc | apply pw_below_drewN | apply below_drew1 | refine below_set ?_ e | refine below_set ?_ f | refine below_set ?_ g | refine below_set ?_ i) | exact q))) : C := h q e f g i
/-- What is at hand. -/
theorem as {C : Prop} (h : C := by (first | (with_reducible assumption) | assumption)) : C := h
/-- Rows of the call's own, and rows that are read, behind draws and rooms. -/
theorem sp {A C : Prop} (q : A) (h : A → C := by (intro q; (with_reducible repeat (first | apply Kd.S_alloc | apply Kd.S_drewN | apply Kd.S_drew)); exact q)) : C := h q
theorem rp {A C : Prop} (q : A) (h : A → C := by (intro q; (with_reducible repeat (first | apply Kd.R_alloc | apply Kd.R_drewN | apply Kd.R_drew)); exact q)) : C := h q
/-- What is kept but for one block, behind draws, rooms and stores into what is new. -/
theorem kb {A C : Prop} (q : A) (h : A → C := by (intro q; repeat (first | (with_reducible first | exact q | apply KeepBut.set_ | apply keep_drewN | apply keep_drew | apply keep_alloc) | exact q))) : C := h q
theorem kb1 {A E C : Prop} (q : A) (e : E) (h : A → E → C := by (intro q e; repeat (first | (with_reducible first | exact q | apply KeepBut.set_ | apply keep_drewN | apply keep_drew | apply keep_alloc | refine keep_far ?_ e _) | exact q))) : C := h q e
theorem kb2 {A E F C : Prop} (q : A) (e : E) (f : F) (h : A → E → F → C := by (intro q e f; repeat (first | (with_reducible first | exact q | apply KeepBut.set_ | apply keep_drewN | apply keep_drew | apply keep_alloc | refine keep_far ?_ e _ | refine keep_far ?_ f _) | exact q))) : C := h q e f
/-- A variable in memory is made. -/
theorem bx {P : Program} {ops : Array Oper} {Q : Exit → Act → World → Prop} {o : Oper} {rest : List Oper} {a : Act} {W : World} {N : Tmp} {cs : Array Value} {t : TypeId}
    (h : ∀ g, g = W.heap.size → ∀ w1, w1.heap[g]? = some (.cells cs t (0, 0)) → Below W.heap.size W w1 → wpList P ops Q rest (a.put o.dst (.pointer (some ⟨g, 0, none⟩))) w1)
    (hd : o.dst = some N := by rfl) (hg : o.guard = none := by rfl) (hr : (execOp a.eval o).run P W = .ok (.value (.pointer (some ⟨W.heap.size, 0, none⟩))) (W.alloc (.cells cs t (0, 0))) := by (first | (go_simp; done) | (go_simp; rfl))) :
    wpList P ops Q (o :: rest) a W := box_event hg hd hr h
/-- A list of arguments. -/
theorem al {α : Type} {x y : α} (h : x = y := by ((try simp only [List.map_toArray, List.map_cons, List.map_nil]); first | done | rfl | (simp only [List.length_drop, List.length_take]; rfl))) : x = y := h
end Go.Proofs.Ythbdijeikfgjeaa.Sh
