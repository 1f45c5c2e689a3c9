/- Imports for contracts of ours. No condition of ours. -/
import Derived.StillTailTactics
import Derived.Test.YthbdijeikfgjeaaWz
namespace Go.Proofs.Ythbdijeikfgjeaa.Add
/-! A row of bytes of the call's own that '[]byte(s)' made: it bears a mark behind its cells, till an append makes it anew. -/
section RowB
open Go.RowKit Go.Proofs.YthbdijeikfgjeaaW.PrintWords
/-- The row that the conversion made. -/
def FB (e : Nat) (w : World) (base : Nat) (ok : Nat → Prop) (v : Value) (xs : List Int) : Prop :=
  ∃ g cap cur, v = .slice (some ⟨g, 0, none⟩) xs.length cap ∧ ok g ∧ base ≤ g ∧ w.heap[g]? = some (.cells cur e (cur.size, cur.size + 1)) ∧ xs.length ≤ cap ∧ cap ≤ maxLen ∧ cur.size = cap ∧ cur.toList.take xs.length = nums .u8 xs
def RB (e : Nat) (w : World) (base : Nat) (ok : Nat → Prop) (v : Value) (xs : List Int) : Prop := (Kd.int .u8).R e w base ok v xs ∨ FB e w base ok v xs
section
variable {e : Nat} {w w1 : World} {base base' : Nat} {ok ok' : Nat → Prop} {v : Value} {xs : List Int}
theorem RB_of_R (h : (Kd.int .u8).R e w base ok v xs) : RB e w base ok v xs := .inl h
theorem RB_mono (h : RB e w base ok v xs) (hok : ∀ k, ok k → ok' k) : RB e w base ok' v xs := by
  rcases h with h | ⟨g, cap, cur, h1, h2, h3⟩
  · exact .inl (Kd.R_mono h hok)
  · exact .inr ⟨g, cap, cur, h1, hok g h2, h3⟩
theorem RB_lower (h : RB e w base ok v xs) (hb : base' ≤ base) : RB e w base' ok v xs := by
  rcases h with h | ⟨g, cap, cur, h1, h2, h3, h4⟩
  · exact .inl (Kd.R_lower h hb)
  · exact .inr ⟨g, cap, cur, h1, h2, Nat.le_trans hb h3, h4⟩
theorem RB_below (h : RB e w base ok v xs) (hb : Below w.heap.size w w1) : RB e w1 base ok v xs := by
  rcases h with h | ⟨g, cap, cur, h1, h2, h3, h4, h5⟩
  · exact .inl (Kd.R_below h hb)
  · exact .inr ⟨g, cap, cur, h1, h2, h3, (hb.block g (Array.getElem?_eq_some_iff.1 h4).1).trans h4, h5⟩
theorem RB_alloc (h : RB e w base ok v xs) (o : Obj) : RB e (w.alloc o) base ok v xs := RB_below h (below_alloc (Below.refl _ _) o)
theorem RB_drew (h : RB e w base ok v xs) : RB e w.drew base ok v xs := RB_below h (below_drew (Below.refl _ _))
theorem RB_drewN (h : RB e w base ok v xs) (m : Nat) : RB e (w.drewN m) base ok v xs := RB_below h (pw_below_drewN (Below.refl _ _) m)
theorem RB_slice (h : RB e w base ok v xs) : ∃ A c, v = .slice A xs.length c := by
  rcases h with h | ⟨g, cap, cur, h1, _⟩
  · exact Kd.R_slice h
  · exact ⟨_, _, h1⟩
theorem RB_lt (h : RB e w base ok v xs) : ∀ k, v.ownBlock = some k → k < w.heap.size := by
  rcases h with h | ⟨g, cap, cur, h1, h2, h3, h4, h5⟩
  · exact Kd.R_lt h
  · intro k hk
    subst h1
    have : g = k := by simpa [Value.ownBlock] using hk
    subst this
    exact (Array.getElem?_eq_some_iff.1 h4).1
theorem RB_base (h : RB e w base ok v xs) : ∀ k, v.ownBlock = some k → base ≤ k := by
  rcases h with h | ⟨g, cap, cur, h1, h2, h3, h4, h5⟩
  · exact Kd.R_base h
  · intro k hk
    subst h1
    have : g = k := by simpa [Value.ownBlock] using hk
    subst this
    exact h3
theorem RB_ne (h : RB e w base ok v xs) {g t : Nat} {cells : Array Value} (hb : w.heap[g]? = some (.cells cells t (0, 0))) (ht : e ≠ t) : some g ≠ v.ownBlock := by
  rcases h with h | ⟨g', cap, cur, h1, h2, h3, h4, h5⟩
  · exact Kd.R_ne h hb ht
  · intro he
    subst h1
    have : g = g' := by simpa [Value.ownBlock] using he
    subst this
    rw [hb] at h4
    injection h4 with h4
    injection h4 with _ ht'
    exact ht ht'.symm
theorem FB_reads (h : FB e w base ok v xs) : ∃ g cap, v = .slice (some ⟨g, 0, none⟩) xs.length cap ∧ xs.length ≤ cap ∧ (Kd.int .u8).C w (some ⟨g, 0, none⟩) xs.length xs ∧ ∀ j u, (nums .u8 xs)[j]? = some u → w.cell? ((⟨g, 0, none⟩ : Addr).add j) = some u := by
  obtain ⟨g, cap, cur, h1, h2, h3, h4, h5, h6, h7, h8⟩ := h
  have hc : ∀ j u, (nums .u8 xs)[j]? = some u → w.cell? ((⟨g, 0, none⟩ : Addr).add j) = some u := by
    intro j u hu
    have hadd : (⟨g, 0, none⟩ : Addr).add j = ⟨g, j, none⟩ := by unfold Addr.add; split <;> simp_all
    rw [hadd, cell_of_row w g j cur e (cur.size, cur.size + 1) h4]
    rw [← h8, List.getElem?_take] at hu
    split at hu
    · simpa using hu
    · cases hu
  refine ⟨g, cap, h1, h5, Kd.C_of_reads (enc := Value.int .u8) (d := (0 : Int)) (h1 := fun _ => rfl) ⟨rfl, by simp only [maxLen] at h6; omega, fun hn => ⟨_, rfl, fun j hj => hc j _ ?_⟩⟩, hc⟩
  simp [nums, List.getElem?_eq_getElem hj, List.getD_eq_getElem?_getD]
theorem RB_reads' {A : Option Addr} {n c : Nat} (h : RB e w base ok (.slice A n c) xs) : n = xs.length ∧ n ≤ c ∧ (Kd.int .u8).C w A xs.length xs := by
  rcases h with h | h
  · exact Kd.R_reads' h
  · obtain ⟨g, cap, he, hl, hC, _⟩ := FB_reads h
    injection he with h1 h2 h3
    subst h1 h2 h3
    exact ⟨rfl, hl, hC⟩
theorem RB_string {P : Program} {src dst e' : TypeId} (hs : P.underlying src = some (.slice e')) (he : P.underlying e' = some (.int .u8)) (hd : P.underlying dst = some .string) (h : RB e w base ok v xs) :
    (convert src dst v).run P w = .ok (.string (strOfNums xs)) w := by
  obtain ⟨A, c, rfl⟩ := RB_slice h
  exact Kd.C_string hs he hd (RB_reads' h).2.2
end
section
variable {P : Program} {ops : Array Oper} {rest : List Oper} {o : Oper} {a : Act} {Q : Exit → Act → World → Prop}
theorem RB_conv {W : World} (hgd : o.guard = none) {N : Tmp} (_hd : o.dst = some N) (src dst e : TypeId) (x : Operand) {u : TypeDesc} (ho : o.op = .convert src dst x)
    (hs : P.underlying src = some u) (hd : P.underlying dst = some (.slice e)) (he : P.underlying e = some (.int .u8)) (s : ByteArray) (hx : a.eval x = .string s) (hn : s.size < 140737488355328)
    (h : ∀ v w1, RB e w1 W.heap.size (fun _ => True) v (bytesOf s) → Below W.heap.size W w1 → True → True → wpList P ops Q rest (a.put o.dst v) w1) : wpList P ops Q (o :: rest) a W := by
  refine wpList_plain hgd fun K hK => ?_
  unfold Oper.wp execOp
  simp only [ho, hx, print_bytes src dst e hs hd he s W, Sem.run_bind, Sem.run_pure, Result.andThen_ok]
  have hz : (Lib.bytesCells W e s).size = grownCap W s.size 0 e := by
    have := grownCap_ge W s.size 0 e
    simp only [Lib.bytesCells, Array.size_append, Array.size_map, Array.size_replicate]
    have k : s.data.size = s.size := rfl
    omega
  have hg := h (.slice (some ⟨W.heap.size, 0, none⟩) (bytesOf s).length (grownCap W s.size 0 e)) (Lib.bytesWorld W e s)
    (.inr ⟨W.heap.size, grownCap W s.size 0 e, Lib.bytesCells W e s, rfl, trivial, Nat.le_refl _, Lib.bytesWorld_at_new W e s, by rw [bytesOf_length]; exact grownCap_ge _ _ _ _, grownCap_le_maxLen W s.size 0 e (by simp only [maxLen]; omega), hz, by
      have k : s.data.toList.length = s.size := by rw [data_length]
      rw [bytesOf_length, Lib.bytesCells, Array.toList_append, List.take_append_of_le_length (by simp [k])]
      rw [List.take_of_length_le (by simp [k])]
      simp [nums, bytesOf]⟩)
    (bytes_below (Below.refl _ _) (Nat.le_refl _) e s) trivial trivial
  rw [bytesOf_length] at hg
  exact hK _ _ hg
/-- 'run_storeCells_at', ahead of the mark. -/
theorem run_storeCells_atB (P : Program) (g : Nat) (t : TypeId) (fz : Nat × Nat) : ∀ (vs : List Value) (i : Nat) (cur : Array Value) (w : World), w.heap[g]? = some (.cells cur t fz) → ∀ o, o + i + vs.length ≤ cur.size → cur.size ≤ fz.1 → (∀ v ∈ vs, v.oneCell' = true) →
    (storeCells ⟨g, o, none⟩ vs i).run P w = .ok () (w.setRow g (cur.toList.take (o + i) ++ vs ++ cur.toList.drop (o + i + vs.length)).toArray)
  | [], i, cur, w, hg, o, _, _, _ => by
    simp only [storeCells, List.append_nil, List.length_nil, Nat.add_zero, List.take_append_drop, Array.toArray_toList]
    rw [setRow_self w g cur t fz hg]
    rfl
  | v :: rest, i, cur, w, hg, o, hl, hfz, h1 => by
    have hi : o + i < cur.size := by simp at hl; omega
    have hadd : (⟨g, o, none⟩ : Addr).add i = ⟨g, o + i, none⟩ := by unfold Addr.add; split <;> simp_all
    have hcell : w.cell? ⟨g, o + i, none⟩ = some cur[o + i] := by simp [World.cell?, hg, hi]
    have hfro : w.frozen? ⟨g, o + i, none⟩ = false := by
      obtain ⟨lo, hi'⟩ := fz
      simp only [World.frozen?, hg, Bool.and_eq_false_iff, decide_eq_false_iff_not]
      left
      simp only at hfz
      omega
    have hst : (store ((⟨g, o, none⟩ : Addr).add i) v).run P w = .ok () (w.setRow g (cur.setIfInBounds (o + i) v)) := by
      rw [hadd, run_store P w _ v _ (h1 v (by simp)), hcell]
      simp [hfro, setCell_eq_setRow w g (o + i) cur t fz v hg]
    have ih := run_storeCells_atB P g t fz rest (i + 1) (cur.setIfInBounds (o + i) v) (w.setRow g (cur.setIfInBounds (o + i) v)) (setRow_heap w g cur _ t _ hg) o (by simp at hl ⊢; omega) (by simpa using hfz) (fun x hx => h1 x (by simp [hx]))
    simp only [storeCells, Sem.run_bind, hst, Result.andThen_ok, ih, setRow_setRow]
    congr 3
    have e := list_seg_step cur.toList (o + i) v rest (by simp at hl ⊢; omega)
    simpa [Array.toList_setIfInBounds, Nat.add_assoc] using e
/-- append(v, x), behind 'at_builtin'. -/
theorem RB_append {w0 W : World} (base : Nat) (hgd : o.guard = none) (s x : Operand) (t e : TypeId) (z : Value) (bytes : Nat)
    (ho : o.op = .call { callee := .builtin .append, args := #[s, x], argTypes := #[t, t] })
    (ht : P.underlying t = some (.slice e)) (hinfo : (P.info? e).map (fun i => (i.zero, i.size, i.bytes)) = some (some z, 1, bytes)) (hz : z.cells.size = 1) (hs0 : 0 < 1) (hb0 : 0 < bytes)
    (v : Value) (xs : List Int) (p : Int) (cs : List Value) (ok okp : Nat → Prop) (hs : a.eval s = v) (hx : a.eval x = .slice (some ⟨W.heap.size, 0, none⟩) 1 1) (hp : (Kd.int .u8).M W base okp p cs) (hokp : ∀ k, okp k → ok k ∧ some k ≠ v.ownBlock) (hfresh : ∀ k, W.heap.size ≤ k → ok k)
    (HO : RB e W base ok v xs) (HB : Below base w0 W) (hbase : base ≤ W.heap.size) (hl : (xs.length + 1) * bytes ≤ 140737488355328)
    (h : ∀ v1 w1, RB e w1 base ok v1 (xs ++ [p]) → Below base w0 w1 → W.grownBy w1 v.ownBlock → (v1.ownBlock = v.ownBlock ∨ ∃ b, v1.ownBlock = some b ∧ W.heap.size ≤ b) → wpList P ops Q rest (a.put o.dst v1) w1) :
    wpList P ops Q (o :: rest) a (W.alloc (.cells cs.toArray e)) := by
  rcases HO with HO | HO
  · exact Kd.R_append (Kd.int .u8) base hgd s x t e z bytes ho ht hinfo hz hs0 hb0 v xs p cs ok okp hs hx hp hokp hfresh HO HB hbase hl (fun v1 w1 h1 h2 h3 h4 => h v1 w1 (.inl h1) h2 h3 h4)
  · obtain rfl : cs = [Value.int .u8 p] := hp
    obtain ⟨_, _, hv', _, _, hcell⟩ := FB_reads HO
    obtain ⟨g, cap, cur, rfl, h2, h3, h4, h5, h6, h7, h8⟩ := HO
    injection hv' with hv1 hv2 hv3
    injection hv1 with hv1
    injection hv1 with hv1
    subst hv1
    obtain ⟨i0, hi, hzz⟩ := Option.map_eq_some_iff.1 hinfo
    simp only [Prod.mk.injEq] at hzz
    obtain ⟨hz0, hz1, hz2⟩ := hzz
    have hlen : xs.length + 1 ≤ 140737488355328 := Nat.le_trans (Nat.le_mul_of_pos_right _ hb0) hl
    have hgl : g < W.heap.size := (Array.getElem?_eq_some_iff.1 h4).1
    refine wpList_plain hgd fun K hK => ?_
    unfold Oper.wp execOp
    have hnews : ∀ j u, ([Value.int .u8 p] : List Value)[j]? = some u → (W.alloc (.cells ([Value.int .u8 p] : List Value).toArray e)).cell? ((⟨W.heap.size, 0, none⟩ : Addr).add j) = some u := by
      simpa using World.news_of_block (cs := ([Value.int .u8 p] : List Value).toArray) (t := e) (fr := (0, 0)) (heap_alloc_new W (.cells ([Value.int .u8 p] : List Value).toArray e))
    have h4' : (W.alloc (.cells ([Value.int .u8 p] : List Value).toArray e)).heap[g]? = some (.cells cur e (cur.size, cur.size + 1)) := (by first | exact (heap_alloc_old W _ hgl).trans h4 | exact (heap_alloc_old W _ g hgl).trans h4)
    by_cases hroom : xs.length + 1 ≤ cap
    · have hf := run_firstCells_some (P := P) (W.alloc (.cells ([Value.int .u8 p] : List Value).toArray e)) 1 1 ⟨W.heap.size, 0, none⟩ 1 1 [Value.int .u8 p] rfl hnews
      have hst := run_storeCells_atB P g e (cur.size, cur.size + 1) [Value.int .u8 p] 0 cur (W.alloc (.cells ([Value.int .u8 p] : List Value).toArray e)) h4' xs.length (by simp; omega) (Nat.le_refl _) (by simp [Value.oneCell'])
      simp only [Nat.add_zero] at hst
      have hr : (Builtin.append_ #[t, t] o.type #[.slice (some ⟨g, 0, none⟩) xs.length cap, .slice (some ⟨W.heap.size, 0, none⟩) 1 1]).run P (W.alloc (.cells ([Value.int .u8 p] : List Value).toArray e)) =
          .ok (.slice (some ⟨g, 0, none⟩) (xs.length + 1) cap) ((W.alloc (.cells ([Value.int .u8 p] : List Value).toArray e)).setRow g (cur.toList.take xs.length ++ [Value.int .u8 p] ++ cur.toList.drop (xs.length + [Value.int .u8 p].length)).toArray) := by
        simp [Builtin.append_, run_underlying ht, sizeOf, typeInfo, hi, hz1, Builtin.lenOf, hroom, hf, Addr.add_lit, hst]
      simp only [ho, resolve, invoke, builtin, Sem.run_bind, Sem.run_pure, Result.andThen_ok, List.map_toArray, List.map_cons, List.map_nil, hs, hx, hr]
      have hg1 : (W.alloc (.cells ([Value.int .u8 p] : List Value).toArray e)).grownBy ((W.alloc (.cells ([Value.int .u8 p] : List Value).toArray e)).setRow g (cur.toList.take xs.length ++ [Value.int .u8 p] ++ cur.toList.drop (xs.length + [Value.int .u8 p].length)).toArray) (some g) := ⟨rfl, rfl, rfl, by simp, fun k _ hk => setRow_other _ g k _ (fun e => hk (by simp [e]))⟩
      refine hK _ _ (h _ _ (.inr ⟨g, cap, (cur.toList.take xs.length ++ [Value.int .u8 p] ++ cur.toList.drop (xs.length + [Value.int .u8 p].length)).toArray, by rw [List.length_append, List.length_singleton], h2, h3, ?_, by simp; omega, h6, ?_, ?_⟩) ?_ (World.grownBy.trans (World.grownBy_alloc W _ _) hg1) (.inl rfl))
      · have q := setRow_heap (W.alloc (.cells ([Value.int .u8 p] : List Value).toArray e)) g cur (cur.toList.take xs.length ++ [Value.int .u8 p] ++ cur.toList.drop (xs.length + [Value.int .u8 p].length)).toArray e _ h4'
        have hsz : (cur.toList.take xs.length ++ [Value.int .u8 p] ++ cur.toList.drop (xs.length + [Value.int .u8 p].length)).toArray.size = cur.size := by
          simp
          omega
        rw [hsz]
        exact q
      · simp
        omega
      · simp only [List.length_append, List.length_singleton, h8]
        rw [show xs.length + 1 = (nums .u8 xs ++ [Value.int .u8 p]).length from by simp [nums]]
        rw [List.take_left]
        simp [nums]
      · exact (HB.alloc hbase _).grown hg1 (by simp; omega) (fun k hk => by injection hk with hk; omega)
    · have hr := run_append_grow (P := P) (W.alloc (.cells ([Value.int .u8 p] : List Value).toArray e)) t o.type e i0 z ht hi hz0 ⟨g, 0, none⟩ xs.length cap (nums .u8 xs) (by rw [hz1]; simp [nums]) (fun j u hu => by
          have hc := hcell j u hu
          exact (World.grownBy_alloc W _ none).cell hc (by simp)) ⟨W.heap.size, 0, none⟩ 1 1 [Value.int .u8 p] (by rw [hz1]; rfl) hnews (by omega) (by omega) (growslice_fits (by omega) (by rw [hz2]; exact hl))
      simp only [ho, resolve, invoke, builtin, Sem.run_bind, Sem.run_pure, Result.andThen_ok, List.map_toArray, List.map_cons, List.map_nil, hs, hx, hr]
      have hge := grownCap_ge (W.alloc (.cells ([Value.int .u8 p] : List Value).toArray e)) (xs.length + 1) cap e
      have hcm := grownCap_le_maxLen (W.alloc (.cells ([Value.int .u8 p] : List Value).toArray e)) (xs.length + 1) cap e (by simp only [maxLen]; omega)
      have hown : ((W.alloc (.cells ([Value.int .u8 p] : List Value).toArray e)).drew.alloc (.cells ((nums .u8 xs).toArray ++ ([Value.int .u8 p] : List Value).toArray ++ Builtin.zeroCells z.cells (grownCap (W.alloc (.cells ([Value.int .u8 p] : List Value).toArray e)) (xs.length + 1) cap e - (xs.length + 1))) e)).ownsRow base e 1
          (.slice (some ⟨(W.alloc (.cells ([Value.int .u8 p] : List Value).toArray e)).heap.size, 0, none⟩) (xs.length + 1) (grownCap (W.alloc (.cells ([Value.int .u8 p] : List Value).toArray e)) (xs.length + 1) cap e)) (xs ++ [p]).length (nums .u8 (xs ++ [p])) := by
        have hn' : (nums IntKind.u8 xs).length = xs.length := by simp [nums]
        have hcat : nums IntKind.u8 (xs ++ [p]) = nums IntKind.u8 xs ++ [Value.int .u8 p] := by simp [nums]
        refine ⟨by simp [nums], .inr ⟨_, _, _, by rw [List.length_append, List.length_singleton]; rfl, ?_, heap_alloc_new _ _, by simp only [List.length_append, List.length_singleton]; exact hge, hcm, ?_, ?_⟩⟩
        · simp
          omega
        · simp only [Array.size_append, List.size_toArray, size_zeroCells, hz, hn', List.length_singleton]
          omega
        · rw [hcat]
          simp only [Array.toList_append, List.append_assoc]
          rw [← List.append_assoc, show (xs ++ [p]).length * 1 = (nums IntKind.u8 xs ++ [Value.int .u8 p]).length from by simp [nums]]
          exact List.take_left
      have hg1 : (W.alloc (.cells ([Value.int .u8 p] : List Value).toArray e)).grownBy ((W.alloc (.cells ([Value.int .u8 p] : List Value).toArray e)).drew.alloc (.cells ((nums .u8 xs).toArray ++ ([Value.int .u8 p] : List Value).toArray ++ Builtin.zeroCells z.cells (grownCap (W.alloc (.cells ([Value.int .u8 p] : List Value).toArray e)) (xs.length + 1) cap e - (xs.length + 1))) e)) (some g) :=
        ⟨rfl, rfl, rfl, by simp, fun k hk _ => by first | exact heap_alloc_old _ _ k hk | exact heap_alloc_old _ _ hk⟩
      refine hK _ _ (h _ _ (.inl (Kd.R_of_own hown (fun k hk => hfresh k ?_))) ?_ (World.grownBy.trans (World.grownBy_alloc W _ _) hg1) (.inr ⟨_, rfl, by simp⟩))
      · have : (W.alloc (.cells ([Value.int .u8 p] : List Value).toArray e)).heap.size = k := by simpa [Value.ownBlock] using hk
        rw [← this]
        simp
      · exact (HB.alloc hbase _).grown hg1 (by simp; omega) (fun k hk => by injection hk with hk; omega)
end
end RowB
end Go.Proofs.Ythbdijeikfgjeaa.Add
