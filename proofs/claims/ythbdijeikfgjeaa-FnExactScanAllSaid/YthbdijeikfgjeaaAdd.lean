/- Words beside the printed ones: the value of a row of one's own fits one cell. No condition of ours. -/
import Derived.Test.YthbdijeikfgjeaaWz
namespace Go.Proofs.Ythbdijeikfgjeaa.Add
open Go.Proofs.YthbdijeikfgjeaaW.PrintWords
section
variable {α : Type} {d : Kd α} {e : Nat} {w : World} {base : Nat} {ok : Nat → Prop} {v : Value} {xs : List α}
theorem R_one (h : d.R e w base ok v xs) : v.oneCell' = true := by
  obtain ⟨_, inner, ho, _⟩ := h
  obtain ⟨A, c, rfl⟩ := own_slice ho
  rfl
theorem S_one (h : Kd.S d e w base ok v xs) : v.oneCell' = true := R_one (Kd.S_R h)
theorem N_one (h : Kd.N d e w base ok v xs) : v.oneCell' = true := by
  obtain ⟨_, rows, _, hr, _⟩ := h
  exact R_one hr
end
section
open Go.RowKit
variable {P : Program} {ops : Array Oper} {o : Oper} {a : Act} {Q : Exit → Act → World → Prop} {K : Act → World → Prop}
/-- append([]byte, s...), s a string, in a region that draws its order. -/
theorem append_str_step {w0 W : World} (base : Nat) (hw : Region.wanted o (yielded ops a.tmps) = true) (s x : Operand) (t u e : TypeId)
    (ho : o.op = .call { callee := .builtin .append, args := #[s, x], argTypes := #[t, u] })
    (ht : P.underlying t = some (.slice e)) (hu : P.underlying u = some .string) (hinfo : (P.info? e).map (fun i => (i.zero, i.size, i.bytes)) = some (some (.int .u8 0), 1, 1))
    (v : Value) (xs : List Int) (y : ByteArray) (hs : a.eval s = v) (hx : a.eval x = .string y)
    (HO : W.ownsRow base e 1 v xs.length (nums .u8 xs)) (HB : Below base w0 W) (hbase : base ≤ W.heap.size) (hl : xs.length + y.size ≤ 140737488355328)
    (h : ∀ v1 w1, w1.ownsRow base e 1 v1 (xs ++ bytesOf y).length (nums .u8 (xs ++ bytesOf y)) → Below base w0 w1 → W.grownBy w1 v.ownBlock → K (a.put o.dst v1) w1) :
    if Region.wanted o (yielded ops a.tmps) = true then Oper.wp P o a W K Q else K (a.put o.dst undef) W := by
  obtain ⟨i0, hi, hzz⟩ := Option.map_eq_some_iff.1 hinfo
  simp only [Prod.mk.injEq] at hzz
  obtain ⟨hz0, hz1, hz2⟩ := hzz
  rw [if_pos hw]
  obtain ⟨v1, w1, hr, hown, hg, _⟩ := Lib.run_append_own_string (P := P) W base t u o.type e i0 ht hu hi hz0 hz1 hz2 v xs.length (nums .u8 xs) HO y (by simp only [maxLen]; omega) hl hbase
  unfold Oper.wp execOp
  simp only [ho, resolve, invoke, builtin, Sem.run_bind, Sem.run_pure, Result.andThen_ok, List.map_toArray, List.map_cons, List.map_nil, hs, hx, hr]
  have hl2 : (xs ++ bytesOf y).length = xs.length + y.size := by rw [List.length_append, bytesOf_length]
  have hc : nums .u8 (xs ++ bytesOf y) = nums .u8 xs ++ Lib.strCells y := by
    rw [nums_append]
    congr 1
    simp [nums, bytesOf, Lib.strCells]
  exact h v1 w1 (by rw [hl2, hc]; exact hown) (HB.grown hg hbase (own_base HO)) hg
end
section
open Go.RowKit
variable {P : Program} {ops : Array Oper} {rest : List Oper} {o : Oper} {a : Act} {Q : Exit → Act → World → Prop}
/-- []byte(s): a slice that is read. -/
theorem bytes_event {W : World} (hgd : o.guard = none) {N : Tmp} (_hd : o.dst = some N) (src dst e : TypeId) (x : Operand) {u : TypeDesc} (ho : o.op = .convert src dst x)
    (hs : P.underlying src = some u) (hd : P.underlying dst = some (.slice e)) (he : P.underlying e = some (.int .u8)) (s : ByteArray) (hx : a.eval x = .string s) (hn : s.size < 140737488355328)
    (h : ∀ A c w1, (Kd.int .u8).C w1 A (bytesOf s).length (bytesOf s) → Below W.heap.size W w1 → (bytesOf s).length ≤ c → wpList P ops Q rest (a.put o.dst (.slice A (bytesOf s).length c)) w1) : wpList P ops Q (o :: rest) a W := by
  refine wpList_plain hgd fun K hK => ?_
  unfold Oper.wp execOp
  simp only [ho, hx, print_bytes src dst e hs hd he s W, Sem.run_bind, Sem.run_pure, Result.andThen_ok]
  have hr := bytes_reads W e s (by omega)
  have hC : (Kd.int .u8).C (Lib.bytesWorld W e s) (some ⟨W.heap.size, 0, none⟩) s.size (bytesOf s) := Kd.C_of_reads (d := 0) hr
  have hg := h (some ⟨W.heap.size, 0, none⟩) (grownCap W s.size 0 e) (Lib.bytesWorld W e s) (by rw [bytesOf_length]; exact hC) (bytes_below (Below.refl _ _) (Nat.le_refl _) e s) (by rw [bytesOf_length]; exact grownCap_ge _ _ _ _)
  rw [bytesOf_length] at hg
  exact hK _ _ hg
end
theorem isEmpty_ne (l : List UInt8) : l.isEmpty = !(l != []) := by cases l <;> rfl
end Go.Proofs.Ythbdijeikfgjeaa.Add
