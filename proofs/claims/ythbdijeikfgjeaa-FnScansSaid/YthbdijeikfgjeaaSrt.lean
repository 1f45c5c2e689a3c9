/- What is proved here: the library's stable sort, walked at this program at elements of k cells and at any length: it computes the plain stable sort; `less` and `swap` by their contracts. Conditions: those of each. -/
import Derived.Test.YthbdijeikfgjeaaStab
import Derived.Test.YthbdijeikfgjeaaProg
import Derived.Shelf.SlSortFuncK.SWK
import Derived.Shelf.SlSortFuncK.HeapSortK
import Derived.Shelf.GgSortFunc.SmallK
import Derived.Shelf.Lay
import Derived.WalkKit
import Derived.Deep.LoopGhost
import Derived.Deep.QuietTactic
namespace Go.Proofs.Ythbdijeikfgjeaa.Srt
open Go.Shelf Go.RowKit Go.Lib Go.Sort Go.Proofs.Ythbdijeikfgjeaa.Stab
variable {α : Type} [Inhabited α]
set_option linter.unusedVariables false

set_option maxHeartbeats 1600000 in
set_option maxRecDepth 1000000 in
theorem swapRange_w (enc : α → List Value) (k : Nat) (hk : ∀ x, (enc x).length = k) (lf : Fn) (la lb : Array Value) (sf : Nat) (sb : Array Value) (blk off a b n : Nat) (d : Array α) (w : World)
    (hswap : SwapSwapsK Try.prog sf sb enc k blk off d.size) (hH : HoldsK enc k w blk off d) (hblk : blk < w.heap.size) (ha : a + n ≤ d.size) (hb : b + n ≤ d.size) (hsz : d.size < 4611686018427387904) :
    Calls Try.prog 95 #[.agg #[.func lf la lb, .func (.func sf) #[] sb], .int .i64 a, .int .i64 b, .int .i64 n] w fun e w' => e = .returned (.tuple #[]) ∧ ∃ m os, w' = sortWorldK enc k w blk off m (swapR a b 0 n d) os := by
  have hH1 : HoldsK enc k (w.alloc (.cells #[.func lf la lb, .func (.func sf) #[] sb] 100)) blk off d := by rw [alloc_eq_grow]; exact holdsK_grow enc k w _ blk off d hblk hH
  go_enter Try.func95, Try.ntmps95
  go_wp2
  go_loopg [8] n (fun kx s8 wr => ∃ (i : Nat) (dk : Array α) (m : Nat), s8 = .int .i64 i ∧ i + kx = n ∧ dk.size = d.size ∧ wr = putRowK enc k (Sort.ahead (w.alloc (.cells #[.func lf la lb, .func (.func sf) #[] sb] 100)) m) blk off dk ∧ swapR a b i kx dk = swapR a b 0 n d)
  case atStart => exact ⟨0, d, 0, rfl, by omega, rfl, (putRowK_self enc k _ blk off d hH1).symm, rfl⟩
  case round =>
    obtain ⟨i, dk, m, rfl, hin, hds, hwr, heq⟩ := hrel
    cases gk with
    | zero =>
      obtain rfl : i = n := by omega
      go_wp2
      go_end0
      refine ⟨rfl, m, #[.cells #[.func lf la lb, .func (.func sf) #[] sb] 100], ?_⟩
      rw [show swapR a b 0 i d = dk from heq.symm]
      exact sortWorldK_of_alloc enc k w _ blk off m _ hblk
    | succ kx =>
      have hHk : HoldsK enc k wr blk off dk := by rw [hwr]; exact holdsK_putRowK enc k _ blk off d dk (holdsK_ahead enc k _ m blk off d hH1) hds
      have c1 : wr.cell? ⟨w.heap.size, 1, none⟩ = some (.func (.func sf) #[] sb) := by
        rw [hwr, cell?_putRowK_other enc k _ blk off dk _ (by show w.heap.size ≠ blk; omega)]; show ((w.alloc (.cells #[.func lf la lb, .func (.func sf) #[] sb] 100))).cell? _ = _; simp
      have hs := hswap wr dk hHk hds (a + i) (b + i) (by omega) (by omega)
      rw [show ((a + i : Nat) : Int) = (a : Int) + (i : Int) by omega, show ((b + i : Nat) : Int) = (b : Int) + (i : Int) by omega] at hs
      have A : Aside (wr = putRowK enc k (Sort.ahead (w.alloc (.cells #[.func lf la lb, .func (.func sf) #[] sb] 100)) m) blk off dk) := hwr
      have hlt : (i : Int) < (n : Int) := by omega
      clear hwr hHk hH hH1 hswap
      go_wp2
      go_roundg kx
      case measure => omega
      case rel =>
        rw [swapR] at heq
        exact ⟨i + 1, swp dk (a + i) (b + i), m, by simp, by omega, by rw [size_swp]; exact hds, by rw [A.out, ← putRowK_swp enc k hk _ blk off dk (a + i) (b + i) (by omega) (by omega)], heq⟩

/-- The cells of the boxed pair of functions, behind a callee. -/
theorem box_on {enc : α → List Value} {k : Nat} {W : World} {blk off m : Nat} {dk : Array α} {os : Array Obj} {B j : Nat} {v : Value} (h : W.cell? ⟨B, j, none⟩ = some v) (hne : B ≠ blk) (hlt : B < W.heap.size) : (sortWorldK enc k W blk off m dk os).cell? ⟨B, j, none⟩ = some v := by
  rw [cell?_sortWorldK_other enc k W blk off m dk os ⟨B, j, none⟩ hne hlt]; exact h

set_option maxHeartbeats 1600000 in
set_option maxRecDepth 1000000 in
theorem rotate_w (enc : α → List Value) (k : Nat) (hk : ∀ x, (enc x).length = k) (lf : Fn) (la lb : Array Value) (sf : Nat) (sb : Array Value) (blk off a m b : Nat) (d : Array α) (w : World)
    (hswap : SwapSwapsK Try.prog sf sb enc k blk off d.size) (hH : HoldsK enc k w blk off d) (hblk : blk < w.heap.size) (ham : a < m) (hmb : m < b) (hb : b ≤ d.size) (hsz : d.size < 4611686018427387904) :
    Calls Try.prog 93 #[.agg #[.func lf la lb, .func (.func sf) #[] sb], .int .i64 a, .int .i64 m, .int .i64 b] w fun e w' => e = .returned (.tuple #[]) ∧ ∃ n os, w' = sortWorldK enc k w blk off n (rot m (b - a) (m - a) (b - m) d) os := by
  have hne : w.heap.size ≠ blk := by omega
  have e95 : ∀ args w, (callFunc 95 args).run Try.prog w = .ok (.enter 95 args) w := enters_of Try.func95 (by kernel_rfl) rfl
  go_enter Try.func93, Try.ntmps93
  go_wp2
  go_loopg [8, 9] (b - a) (fun kx s8 s9 wr => ∃ (i j : Nat) (dk : Array α), s8 = .int .i64 i ∧ s9 = .int .i64 j ∧ 0 < i ∧ 0 < j ∧ i ≤ m ∧ m + j ≤ d.size ∧ i + j ≤ kx ∧ dk.size = d.size ∧ Aside (SWK enc k w blk off dk wr) ∧ wr.cell? ⟨w.heap.size, 0, none⟩ = some (.func lf la lb) ∧ wr.cell? ⟨w.heap.size, 1, none⟩ = some (.func (.func sf) #[] sb) ∧ w.heap.size < wr.heap.size ∧
    Hid (rot m kx i j dk = rot m (b - a) (m - a) (b - m) d))
  case atStart => exact ⟨m - a, b - m, d, by congr 1; omega, by congr 1; omega, by omega, by omega, by omega, by omega, by omega, rfl, (SWK.start hH).alloc _, by simp, by simp, by simp, rfl⟩
  case round =>
    obtain ⟨i, j, dk, rfl, rfl, hi, hj, him, hmj, hij, hds, S, c0, c1, hsz1, HE⟩ := hrel
    cases gk with
    | zero => omega
    | succ kx =>
      by_cases e : i = j
      · subst e
        have hcall := swapRange_w enc k hk lf la lb sf sb blk off (m - i) m i dk wr (by rw [hds]; exact hswap) (S.out.holds hblk hH hds) (S.out.lt hblk) (by omega) (by omega) (by omega)
        rw [show ((m - i : Nat) : Int) = (m : Int) - (i : Int) by omega] at hcall
        clear hswap hH
        go_wp2_with (go_at_fn 95; refine hcall.mono ?_; rintro e w1 ⟨rfl, n, os, rfl⟩)
        go_end0
        have e2 : rot m (b - a) (m - a) (b - m) d = swapR (m - i) m 0 i dk := by rw [← HE.out, rot, if_pos rfl]
        have hss : (swapR (m - i) m 0 i dk).size = dk.size := swapR_size _ _ _ _ _
        rw [e2]
        exact ⟨rfl, S.out.on hblk n _ os hss⟩
      · by_cases hl : j < i
        · have hcall := swapRange_w enc k hk lf la lb sf sb blk off (m - i) m j dk wr (by rw [hds]; exact hswap) (S.out.holds hblk hH hds) (S.out.lt hblk) (by omega) (by omega) (by omega)
          rw [show ((m - i : Nat) : Int) = (m : Int) - (i : Int) by omega] at hcall
          have hne1 : ¬ (i : Int) = (j : Int) := by omega
          have hl1 : (j : Int) < (i : Int) := by omega
          clear hswap hH
          go_wp2_with (go_at_fn 95; refine hcall.mono ?_; rintro e w1 ⟨rfl, n, os, rfl⟩)
          go_roundg kx
          case measure => omega
          case rel =>
            have hss : (swapR (m - i) m 0 j dk).size = dk.size := swapR_size _ _ _ _ _
            refine ⟨i - j, j, swapR (m - i) m 0 j dk, by congr 1; omega, rfl, by omega, hj, by omega, hmj, by omega, by rw [hss, hds], S.out.on hblk n _ os hss, box_on c0 hne hsz1, box_on c1 hne hsz1, Nat.lt_of_lt_of_le hsz1 (SWK.le (⟨n, os, rfl⟩ : SWK enc k wr blk off _ _)), ?_⟩
            have := HE.out
            rw [rot, if_neg e, if_pos hl] at this
            exact this
        · have hcall := swapRange_w enc k hk lf la lb sf sb blk off (m - i) (m + j - i) i dk wr (by rw [hds]; exact hswap) (S.out.holds hblk hH hds) (S.out.lt hblk) (by omega) (by omega) (by omega)
          rw [show ((m - i : Nat) : Int) = (m : Int) - (i : Int) by omega, show ((m + j - i : Nat) : Int) = (m : Int) + (j : Int) - (i : Int) by omega] at hcall
          have hne1 : ¬ (i : Int) = (j : Int) := by omega
          have hl1 : ¬ (j : Int) < (i : Int) := by omega
          clear hswap hH
          go_wp2_with (go_at_fn 95; refine hcall.mono ?_; rintro e w1 ⟨rfl, n, os, rfl⟩)
          go_roundg kx
          case measure => omega
          case rel =>
            have hss : (swapR (m - i) (m + j - i) 0 i dk).size = dk.size := swapR_size _ _ _ _ _
            refine ⟨i, j - i, swapR (m - i) (m + j - i) 0 i dk, rfl, by congr 1; omega, hi, by omega, him, by omega, by omega, by rw [hss, hds], S.out.on hblk n _ os hss, box_on c0 hne hsz1, box_on c1 hne hsz1, Nat.lt_of_lt_of_le hsz1 (SWK.le (⟨n, os, rfl⟩ : SWK enc k wr blk off _ _)), ?_⟩
            have := HE.out
            rw [rot, if_neg e, if_neg hl] at this
            exact this
end Go.Proofs.Ythbdijeikfgjeaa.Srt
