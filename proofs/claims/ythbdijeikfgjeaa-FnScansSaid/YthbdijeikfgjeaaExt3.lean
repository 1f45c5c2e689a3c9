/- Words for the reading of a page: a struct's own block, an array's block, a reader's state. No condition of ours. -/
import Derived.Laws.ResultCell
import Derived.Laws.Rows
import Derived.Laws.Tables
import Derived.Test.YthbdijeikfgjeaaWz
import Derived.Test.YthbdijeikfgjeaaAdd
namespace Go.Proofs.Ythbdijeikfgjeaa.Rp
set_option linter.unusedSimpArgs false
set_option linter.unusedVariables false
open Go.RowKit Go.Proofs.YthbdijeikfgjeaaW.PrintWords Go.Proofs.YthbdijeikfgjeaaW.PrintLast Go.Proofs.YthbdijeikfgjeaaW.PrintMore
/-- The reader's state, at a block. -/
def Cur (g : Nat) (s : ByteArray) (a : Int) (bad : Bool) (W : World) : Prop := W.heap[g]? = some (.cells #[.string s, .int .i64 a, .bool bad] 66 (0, 0))
/-- All but one block stays. -/
structure Beside (g : Nat) (w w' : World) : Prop where
  os : w'.os = w.os
  tape : w'.tape = w.tape
  output : w'.output = w.output
  size : w.heap.size ≤ w'.heap.size
  block : ∀ i, i < w.heap.size → i ≠ g → w'.heap[i]? = w.heap[i]?
theorem Beside.of_below {g : Nat} {w w' : World} (h : Below w.heap.size w w') : Beside g w w' := ⟨h.os, h.tape, h.output, h.size, fun i hi _ => h.block i hi⟩
theorem Beside.set {g : Nat} {w w' : World} (h : Beside g w w') (j : Nat) (v : Value) : Beside g w (w'.setCell ⟨g, j, none⟩ v) :=
  ⟨h.os, h.tape, h.output, by have := h.size; simpa using this, fun i hi hg => (Below.heap_setCell w' ⟨g, j, none⟩ v i hg).trans (h.block i hi hg)⟩
structure RP (w0 : World) (a gp g : Nat) (ra rp : Array Value) (s : ByteArray) (at_ : Int) (bad : Bool) (W : World) : Prop where
  res : W.heap[a]? = some (.cells ra 41 (0, 0))
  page : W.heap[gp]? = some (.cells rp 41 (0, 0))
  cur : Cur g s at_ bad W
  h1 : a ≠ g
  h2 : a ≠ gp
  h3 : gp ≠ g
  ga : w0.heap.size ≤ a
  gg : w0.heap.size ≤ g
  gpp : w0.heap.size ≤ gp
  below : Below w0.heap.size w0 W
theorem below_beside {w0 W W' : World} {g : Nat} (h : Below w0.heap.size w0 W) (hg : w0.heap.size ≤ g) (hb : Beside g W W') : Below w0.heap.size w0 W' :=
  ⟨hb.os.trans h.os, hb.tape.trans h.tape, hb.output.trans h.output, Nat.le_trans h.size hb.size, fun k hk => (hb.block k (Nat.lt_of_lt_of_le hk h.size) (by omega)).trans (h.block k hk)⟩
theorem RP.call {w0 W W' : World} {a gp g : Nat} {ra rp : Array Value} {s : ByteArray} {x x' : Int} {b b' : Bool} (h : RP w0 a gp g ra rp s x b W) (hc : Cur g s x' b' W') (hb : Beside g W W') : RP w0 a gp g ra rp s x' b' W' :=
  ⟨(hb.block _ (blk_lt h.res) h.h1).trans h.res, (hb.block _ (blk_lt h.page) h.h3).trans h.page, hc, h.h1, h.h2, h.h3, h.ga, h.gg, h.gpp, below_beside h.below h.gg hb⟩
theorem RP.kept {w0 W W' : World} {a gp g : Nat} {ra rp : Array Value} {s : ByteArray} {x : Int} {b : Bool} (h : RP w0 a gp g ra rp s x b W) (hb : Below W.heap.size W W') : RP w0 a gp g ra rp s x b W' :=
  ⟨blk_below h.res hb, blk_below h.page hb, (blk_below (o := .cells #[.string s, .int .i64 x, .bool b] 66 (0, 0)) h.cur hb : Cur g s x b W'), h.h1, h.h2, h.h3, h.ga, h.gg, h.gpp, below_step h.below hb⟩
theorem RP.put {w0 W : World} {a gp g : Nat} {ra rp rp' : Array Value} {s : ByteArray} {x : Int} {b : Bool} (h : RP w0 a gp g ra rp s x b W) (j : Nat) (v : Value) (e : rp.setIfInBounds j v = rp') : RP w0 a gp g ra rp' s x b (W.setCell ⟨gp, j, none⟩ v) :=
  ⟨blk_far h.res (p := ⟨gp, j, none⟩) h.h2 v, blk_put h.page j v e, (blk_far (t := 66) (cs := #[.string s, .int .i64 x, .bool b]) h.cur (p := ⟨gp, j, none⟩) (Ne.symm h.h3) v : Cur g s x b _), h.h1, h.h2, h.h3, h.ga, h.gg, h.gpp, below_set h.below h.gpp⟩
/-- Ahead of the page's own block. -/
structure R1 (w0 : World) (a g : Nat) (ra : Array Value) (s : ByteArray) (at_ : Int) (bad : Bool) (W : World) : Prop where
  res : W.heap[a]? = some (.cells ra 41 (0, 0))
  cur : Cur g s at_ bad W
  h1 : a ≠ g
  ga : w0.heap.size ≤ a
  gg : w0.heap.size ≤ g
  below : Below w0.heap.size w0 W
theorem R1.call {w0 W W' : World} {a g : Nat} {ra : Array Value} {s : ByteArray} {x x' : Int} {b b' : Bool} (h : R1 w0 a g ra s x b W) (hc : Cur g s x' b' W') (hb : Beside g W W') : R1 w0 a g ra s x' b' W' :=
  ⟨(hb.block _ (blk_lt h.res) h.h1).trans h.res, hc, h.h1, h.ga, h.gg, below_beside h.below h.gg hb⟩
theorem R1.box {w0 W W' : World} {a g gp : Nat} {ra rp : Array Value} {s : ByteArray} {x : Int} {b : Bool} (h : R1 w0 a g ra s x b W) (hg : gp = W.heap.size) (hbox : W'.heap[gp]? = some (.cells rp 41 (0, 0))) (hb : Below W.heap.size W W') : RP w0 a gp g ra rp s x b W' := by
  have l1 := blk_lt h.res
  have l2 := blk_lt (o := .cells #[.string s, .int .i64 x, .bool b] 66 (0, 0)) h.cur
  have l3 := h.below.size
  exact ⟨blk_below h.res hb, hbox, (blk_below (o := .cells #[.string s, .int .i64 x, .bool b] 66 (0, 0)) h.cur hb : Cur g s x b W'), h.h1, by omega, by omega, h.ga, h.gg, by omega, below_step h.below hb⟩
def zeroPage : Array Value := #[.int .i64 0, .int .i64 0, .int .i64 0, .int .i64 0, .int .i64 0, .string (⟨#[]⟩ : ByteArray)]
theorem toList_inj_ {a b : ByteArray} (h : a.toList = b.toList) : a = b := by
  rw [ByteArray.toList_eq, ByteArray.toList_eq] at h
  exact ByteArray.ext (Array.toList_inj.1 h)
theorem RP.row {w0 W : World} {a gp g : Nat} {ra rp : Array Value} {s : ByteArray} {x : Int} {b : Bool} (h : RP w0 a gp g ra rp s x b W) (cs : Array Value) : RP w0 a gp g ra cs s x b (W.setRow gp cs) :=
  ⟨(setRow_other W gp a cs h.h2).trans h.res, setRow_heap W gp _ cs 41 (0, 0) h.page, ((setRow_other W gp g cs (Ne.symm h.h3)).trans h.cur : Cur g s x b _), h.h1, h.h2, h.h3, h.ga, h.gg, h.gpp, ⟨h.below.os, h.below.tape, h.below.output, by have := h.below.size; rw [setRow_size]; exact this, fun k hk => (setRow_other W gp k cs (by have := h.gpp; omega)).trans (h.below.block k hk)⟩⟩
theorem RP.res_row {w0 W : World} {a gp g : Nat} {ra rp : Array Value} {s : ByteArray} {x : Int} {b : Bool} (h : RP w0 a gp g ra rp s x b W) (cs : Array Value) : (W.setRow a cs).heap[a]? = some (.cells cs 41 (0, 0)) ∧ Below w0.heap.size w0 (W.setRow a cs) :=
  ⟨setRow_heap W a _ cs 41 (0, 0) h.res, ⟨h.below.os, h.below.tape, h.below.output, by have := h.below.size; rw [setRow_size]; exact this, fun k hk => (setRow_other W a k cs (by have := h.ga; omega)).trans (h.below.block k hk)⟩⟩
theorem row_event {P : Program} {ops : Array Oper} {rest : List Oper} {o : Oper} {a : Act} {w : World} {Q : Exit → Act → World → Prop} (hgd : o.guard = none) (ty : TypeId) (x y : Operand) (ho : o.op = .store ty x y)
    (g : Nat) (cells : Array Value) (hx : a.eval x = .pointer (some ⟨g, 0, none⟩)) (hy : a.eval y = .agg cells)
    (t : TypeId) (old : Array Value) (hg : w.heap[g]? = some (.cells old t (0, 0))) (hi : (P.info? ty).map (·.size) = some cells.size)
    (hold : old.size = cells.size) (h1 : cells.all (·.oneCell') = true)
    (h : ∀ w', w' = w.setRow g cells → wpList P ops Q rest (a.put o.dst undef) w') : wpList P ops Q (o :: rest) a w :=
  wpList_store_row hgd ty x y ho g cells hx hy t old hg hi hold h1 (h _ rfl)
theorem results_row_tmp {P : Program} {fn : Func} {p u : Tmp} {ty : TypeId} (h : fn.results = #[.cell p ty, .tmp u]) (tmps : Array Value) (w : World) (g : Nat) (t : TypeId) (cs : Array Value) (fr : Nat × Nat) (d : TypeDesc) (v : Value)
    (hp : tmps.getD p undef = .pointer (some ⟨g, 0, none⟩)) (hv : tmps.getD u undef = v) (hg : w.heap[g]? = some (.cells cs t fr))
    (hu : P.underlying ty = some d) (hd : (match d with | .struct _ | .array _ _ => true | _ => false) = true) (hi : (P.info? ty).map (·.size) = some cs.size) :
    (results fn tmps).run P w = .ok (.tuple #[.agg cs, v]) w := by
  have hp' : tmps[p]?.getD undef = .pointer (some ⟨g, 0, none⟩) := by simpa using hp
  have hv' : tmps[u]?.getD undef = v := by simpa using hv
  rw [results_cell_tmp h]
  simp [hp', hv', asAddr, Result.andThen, run_loadVar_row w g t ty cs fr d hg hu hd hi]
/-- The program's way: the result's block and the array. -/
structure IA (w0 : World) (a g : Nat) (ra la : Array Value) (W : World) : Prop where
  res : W.heap[a]? = some (.cells ra 41 (0, 0))
  arr : W.heap[g]? = some (.cells la 87 (0, 0))
  h1 : a ≠ g
  ga : w0.heap.size ≤ a
  gg : w0.heap.size ≤ g
  below : Below w0.heap.size w0 W
theorem IA.kept {w0 W W' : World} {a g : Nat} {ra la : Array Value} (h : IA w0 a g ra la W) (hb : Below W.heap.size W W') : IA w0 a g ra la W' :=
  ⟨blk_below h.res hb, blk_below h.arr hb, h.h1, h.ga, h.gg, below_step h.below hb⟩
theorem IA.drew {w0 W : World} {a g : Nat} {ra la : Array Value} (h : IA w0 a g ra la W) : IA w0 a g ra la W.drew := h.kept (below_drew1 (Below.refl _ _))
theorem IA.alloc {w0 W : World} {a g : Nat} {ra la : Array Value} (h : IA w0 a g ra la W) (o : Obj) : IA w0 a g ra la (W.alloc o) := h.kept (below_alloc (Below.refl _ _) o)
theorem IA.put {w0 W : World} {a g : Nat} {ra la la' : Array Value} (h : IA w0 a g ra la W) (j : Nat) (v : Value) (e : la.setIfInBounds j v = la') : IA w0 a g ra la' (W.setCell ⟨g, j, none⟩ v) :=
  ⟨blk_far h.res (p := ⟨g, j, none⟩) h.h1 v, blk_put h.arr j v e, h.h1, h.ga, h.gg, below_set h.below h.gg⟩
theorem IA.res_row {w0 W : World} {a g : Nat} {ra la : Array Value} (h : IA w0 a g ra la W) (cs : Array Value) : (W.setRow a cs).heap[a]? = some (.cells cs 41 (0, 0)) ∧ Below w0.heap.size w0 (W.setRow a cs) :=
  ⟨setRow_heap W a _ cs 41 (0, 0) h.res, ⟨h.below.os, h.below.tape, h.below.output, by have := h.below.size; rw [setRow_size]; exact this, fun k hk => (setRow_other W a k cs (by have := h.ga; omega)).trans (h.below.block k hk)⟩⟩
theorem IA.page {w0 W : World} {a g : Nat} {ra la : Array Value} (h : IA w0 a g ra la W) (o cs : Array Value) : ∃ gp, gp = W.heap.size ∧ ((W.alloc (.cells o 41)).drew.setRow gp cs).heap[gp]? = some (.cells cs 41 (0, 0)) ∧ IA w0 a g ra la ((W.alloc (.cells o 41)).drew.setRow gp cs) := by
  refine ⟨_, rfl, setRow_heap _ _ o cs 41 (0, 0) (heap_alloc_new W _), ?_⟩
  have k := (h.alloc (.cells o 41)).drew
  have l1 := blk_lt h.res
  have l2 := blk_lt h.arr
  have l3 := h.below.size
  exact ⟨(setRow_other _ _ _ _ (by omega)).trans k.res, (setRow_other _ _ _ _ (by omega)).trans k.arr, k.h1, k.ga, k.gg, ⟨k.below.os, k.below.tape, k.below.output, by have := k.below.size; rw [setRow_size]; exact this, fun i hi => (setRow_other _ _ _ _ (by omega)).trans (k.below.block i hi)⟩⟩
def noPage_ : Int × Int × Int × Int × Int × ByteArray × Bool := (0, 0, 0, 0, 0, (⟨#[]⟩ : ByteArray), false)
theorem nums_set_get_ (l : List Int) (t : Nat) (x : Int) : (nums .i64 l).toArray.setIfInBounds t (.int .i64 x) = (nums .i64 (l.set t x)).toArray := by
  simp [nums, List.map_set]
theorem below_row_ {w W : World} {a : Nat} (h : Below w.heap.size w W) (ha : w.heap.size ≤ a) (cs : Array Value) : Below w.heap.size w (W.setRow a cs) :=
  ⟨h.os, h.tape, h.output, by have := h.size; rw [setRow_size]; exact this, fun k hk => (setRow_other W a k cs (by omega)).trans (h.block k hk)⟩
theorem size0_ {s : ByteArray} (h : s.size = 0) : s = (⟨#[]⟩ : ByteArray) := by
  cases s with
  | mk d =>
    congr 1
    exact Array.eq_empty_of_size_eq_zero h
end Go.Proofs.Ythbdijeikfgjeaa.Rp
