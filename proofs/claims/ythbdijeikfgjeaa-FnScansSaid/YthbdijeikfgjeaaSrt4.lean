/- What is proved here: the library's stable sort at any length, walked at this program at elements of k cells: it computes the plain stable sort; sort.SliceStable out of it. Conditions: those of each. -/
import Derived.Test.YthbdijeikfgjeaaSrt3
import Derived.Test.YthbdijeikfgjeaaShelfI
import Derived.Deep.CutBlock
namespace Go.Proofs.Ythbdijeikfgjeaa.Srt
open Go.Shelf Go.RowKit Go.Lib Go.Sort Go.Proofs.Ythbdijeikfgjeaa.Stab
variable {α : Type} [Inhabited α]
set_option linter.unusedVariables false

/-- sort.insertionSort_func. -/
theorem ins_w (enc : α → List Value) (k : Nat) (hk : ∀ x, (enc x).length = k) (lt : α → α → Bool) (g : Nat) (lb : Array Value) (sf : Nat) (sb : Array Value) (blk off a b : Nat) (d : Array α) (w : World)
    (eg : ∀ args w, (callFunc g args).run Try.prog w = .ok (.enter g args) w) (hless : LessReadsK Try.prog g lb enc k lt blk off d.size w) (hswap : SwapSwapsK Try.prog sf sb enc k blk off d.size)
    (hH : HoldsK enc k w blk off d) (hblk : blk < w.heap.size) (hab : a ≤ b) (hb : b ≤ d.size) (hsz : d.size < 4611686018427387904) :
    Calls Try.prog 83 #[.agg #[.func (.func g) #[] lb, .func (.func sf) #[] sb], .int .i64 a, .int .i64 b] w fun e w' => e = .returned (.tuple #[]) ∧ ∃ n os, w' = sortWorldK enc k w blk off n (Sort.insertionSort lt d a b) os := by
  have L := Try.laysGt8
  have LI : LaysGg.n26 Try.prog (Go.Shelf.Ren.viaGt Try.laysGt8_ren) := ({ L with } : LaysGt.n29 Try.prog Try.laysGt8_ren).elder
  exact Any.insertionSort_func_cells_w LI enc k hk lt g lb sf sb blk off a b d w eg hless hswap hH hblk hab hb hsz
theorem insInner_n (lt : α → α → Bool) (a : Nat) : ∀ (j : Nat) (d : Array α), (insInner lt a j d).size = d.size
  | 0, d => by rw [insInner]
  | j + 1, d => by
    rw [insInner]
    split
    · rw [insInner_n lt a j, size_swp]
    · rfl
theorem insOuter_n (lt : α → α → Bool) (a b : Nat) : ∀ (r i : Nat) (d : Array α), b - i = r → (insOuter lt a b i d).size = d.size
  | 0, i, d, h => by rw [insOuter, if_neg (by omega)]
  | r + 1, i, d, h => by rw [insOuter, if_pos (by omega), insOuter_n lt a b r (i + 1) _ (by omega), insInner_n]
theorem insOuter_sz (lt : α → α → Bool) (a b : Nat) (d : Array α) (hb : b ≤ d.size) : (Sort.insertionSort lt d a b).size = d.size := insOuter_n lt a b _ (a + 1) d rfl
set_option maxHeartbeats 8000000 in
set_option maxRecDepth 1000000 in
theorem stable_w (enc : α → List Value) (k : Nat) (hk : ∀ x, (enc x).length = k) (lt : α → α → Bool) (g : Nat) (lb : Array Value) (sf : Nat) (sb : Array Value) (blk off : Nat) (n : Nat) (d : Array α) (w : World)
    (eg : ∀ args w, (callFunc g args).run Try.prog w = .ok (.enter g args) w) (hn : d.size = n) (hless : LessReadsK Try.prog g lb enc k lt blk off n w) (hswap : SwapSwapsK Try.prog sf sb enc k blk off n)
    (hH : HoldsK enc k w blk off d) (hblk : blk < w.heap.size) (hsz : n < 288230376151711744) :
    Calls Try.prog 51 #[.agg #[.func (.func g) #[] lb, .func (.func sf) #[] sb], .int .i64 n] w fun e w' => e = .returned (.tuple #[]) ∧ ∃ m os, w' = sortWorldK enc k w blk off m (stable lt d n) os := by
  have hne : w.heap.size ≠ blk := by omega
  have e83 : ∀ args w, (callFunc 83 args).run Try.prog w = .ok (.enter 83 args) w := enters_of Try.func83 (by kernel_rfl) rfl
  have e84 : ∀ args w, (callFunc 84 args).run Try.prog w = .ok (.enter 84 args) w := enters_of Try.func84 (by kernel_rfl) rfl
  have nx : ∀ (dk : Array α) (W W' : World) (m : Nat) (dk' : Array α) (os : Array Obj), W' = sortWorldK enc k W blk off m dk' os → Aside (SWK enc k w blk off dk W) → dk'.size = dk.size → W.cell? ⟨w.heap.size, 0, none⟩ = some (.func (.func g) #[] lb) → W.cell? ⟨w.heap.size, 1, none⟩ = some (.func (.func sf) #[] sb) → w.heap.size < W.heap.size →
      Aside (SWK enc k w blk off dk' W') ∧ W'.cell? ⟨w.heap.size, 0, none⟩ = some (.func (.func g) #[] lb) ∧ W'.cell? ⟨w.heap.size, 1, none⟩ = some (.func (.func sf) #[] sb) ∧ w.heap.size < W'.heap.size := by
    rintro dk W W' m dk' os rfl hS hq q0 q1 q2
    exact ⟨hS.out.on hblk m _ os hq, box_on q0 hne q2, box_on q1 hne q2, Nat.lt_of_lt_of_le q2 (SWK.le (⟨m, os, rfl⟩ : SWK enc k W blk off _ _))⟩
  have hI : ∀ (dk : Array α) (W : World) (a b : Nat), dk.size = n → SWK enc k w blk off dk W → a ≤ b → b ≤ n → Calls Try.prog 83 #[.agg #[.func (.func g) #[] lb, .func (.func sf) #[] sb], .int .i64 a, .int .i64 b] W fun e' w' => e' = .returned (.tuple #[]) ∧ ∃ m os, w' = sortWorldK enc k W blk off m (Sort.insertionSort lt dk a b) os := by
    intro dk W a b hz hS q q'
    exact ins_w enc k hk lt g lb sf sb blk off a b dk W eg (by rw [hz]; exact hS.lessReads hless hblk hz) (by rw [hz]; exact hswap) (hS.holds hblk hH (hz.trans hn.symm)) (hS.lt hblk) q (by omega) (by omega)
  have hM : ∀ (dk : Array α) (W : World) (f a m b : Nat), dk.size = n → SWK enc k w blk off dk W → a < m → m < b → b ≤ n → b - a ≤ f → Calls Try.prog 84 #[.agg #[.func (.func g) #[] lb, .func (.func sf) #[] sb], .int .i64 a, .int .i64 m, .int .i64 b] W fun e' w' => e' = .returned (.tuple #[]) ∧ ∃ m' os, w' = sortWorldK enc k W blk off m' (symM lt f a m b dk) os := by
    intro dk W f a m b hz hS q q' q'' q3
    exact symMerge_w enc k hk lt g lb sf sb blk off n eg hswap (by omega) f a m b dk W hz (hS.lessReads hless hblk hz) (hS.holds hblk hH (hz.trans hn.symm)) (hS.lt hblk) q q' q'' q3
  have HN : Hid _ := nx
  have HI : Hid _ := hI
  have HM : Hid _ := hM
  have HHo : Hid _ := hH
  clear nx hI hM hless hswap hH
  go_enter Try.func51, Try.ntmps51
  go_wp2
  go_loopg [5, 6] n (fun kx s5 s6 wr => ∃ (a : Nat) (dk : Array α), s5 = .int .i64 a ∧ s6 = .int .i64 ((a : Int) + 20) ∧ a ≤ n ∧ n ≤ kx + a ∧ dk.size = n ∧ Aside (SWK enc k w blk off dk wr) ∧ wr.cell? ⟨w.heap.size, 0, none⟩ = some (.func (.func g) #[] lb) ∧ wr.cell? ⟨w.heap.size, 1, none⟩ = some (.func (.func sf) #[] sb) ∧ w.heap.size < wr.heap.size ∧
    Hid (insBlocks lt n kx a dk = insBlocks lt n n 0 d))
  case atStart => exact ⟨0, d, rfl, rfl, Nat.zero_le _, Nat.le_refl _, hn, (SWK.start HHo.out).alloc _, by simp, by simp, by simp, rfl⟩
  case round =>
    obtain ⟨a, dk, rfl, rfl, han, hkn, hz, S, c0, c1, hsz1, HE⟩ := hrel
    by_cases hl : a + 20 ≤ n
    · cases gk with
      | zero => omega
      | succ kx =>
        have hlI : (a : Int) + 20 ≤ (n : Int) := by omega
        have E := HE.out
        rw [insBlocks, if_pos hl] at E
        have hc := HI.out dk wr a (a + 20) hz S.out (by omega) hl
        rw [show ((a + 20 : Nat) : Int) = (a : Int) + 20 from by omega] at hc
        have HE2 : Hid _ := E
        have hz2 : Aside ((Sort.insertionSort lt dk a (a + 20)).size = dk.size) := insOuter_sz lt a (a + 20) dk (by omega)
        clear E HE
        go_wp2_with (go_at_fn 83; refine hc.mono ?_; rintro e' w9 ⟨rfl, m, os, hw⟩; obtain ⟨S', c0', c1', hz'⟩ := HN.out _ _ _ _ _ _ hw S hz2.out c0 c1 hsz1; clear S c0 c1 hsz1 hw; have S := S'; have c0 := c0'; have c1 := c1'; have hsz1 := hz'; clear S' c0' c1' hz')
        go_roundg kx
        case measure => omega
        case rel => exact ⟨a + 20, _, by simp, by congr 1, hl, by omega, hz2.out.trans hz, S, c0, c1, hsz1, HE2⟩
    · have hlI : ¬ (a : Int) + 20 ≤ (n : Int) := by omega
      have E : insBlocks lt n n 0 d = Sort.insertionSort lt dk a n := by
        rw [← HE.out]
        cases gk with
        | zero => rfl
        | succ f => rw [insBlocks, if_neg hl]
      have hc := HI.out dk wr a n hz S.out han (Nat.le_refl _)
      have hz2 : Aside ((Sort.insertionSort lt dk a n).size = dk.size) := insOuter_sz lt a n dk (by omega)
      have HE2 : Hid _ := E
      clear E HE
      go_upto_block 2 with (go_at_fn 83; refine hc.mono ?_; rintro e' w9 ⟨rfl, m, os, hw⟩; obtain ⟨S', c0', c1', hz'⟩ := HN.out _ _ _ _ _ _ hw S hz2.out c0 c1 hsz1; clear S c0 c1 hsz1 hw; have S := S'; have c0 := c0'; have c1 := c1'; have hsz1 := hz'; clear S' c0' c1' hz')
      have z1 : Aside ((insBlocks lt n n 0 d).size = n) := by rw [HE2.out]; exact hz2.out.trans hz
      have S2 : Aside (SWK enc k w blk off (insBlocks lt n n 0 d) w9) := by rw [HE2.out]; exact S
      clear S hc hz2 HE2 hlI hl
      have stb : stable lt d n = passes lt n n 20 (insBlocks lt n n 0 d) := rfl
      generalize insBlocks lt n n 0 d = D1 at S2 z1 stb
      have STB : Hid _ := stb
      clear stb
      go_wp2
      go_loopg [4] n (fun kx s4 wr => ∃ (s : Nat) (dk : Array α), s4 = .int .i64 s ∧ 20 ≤ s ∧ s ≤ 2 * n + 20 ∧ n ≤ kx + s ∧ dk.size = n ∧ Aside (SWK enc k w blk off dk wr) ∧ wr.cell? ⟨w.heap.size, 0, none⟩ = some (.func (.func g) #[] lb) ∧ wr.cell? ⟨w.heap.size, 1, none⟩ = some (.func (.func sf) #[] sb) ∧ w.heap.size < wr.heap.size ∧
        Hid (passes lt n kx s dk = passes lt n n 20 D1))
      case atStart => exact ⟨20, D1, rfl, Nat.le_refl _, by omega, by omega, z1.out, S2, c0, c1, hsz1, rfl⟩
      case round =>
        clear S2 c0 c1 hsz1 z1
        obtain ⟨s, dk, rfl, hs20, hs2, hkn, hz, S, c0, c1, hsz1, HE⟩ := hrel
        by_cases hl : s < n
        · cases gk with
          | zero => omega
          | succ kx =>
            have hlI : (s : Int) < (n : Int) := by omega
            have E := HE.out
            rw [passes, if_pos hl] at E
            have HE2 : Hid _ := E
            clear E HE
            go_wp2
            go_loopg [5, 6] n (fun ky s5 s6 wr => ∃ (a : Nat) (dj : Array α), s5 = .int .i64 a ∧ s6 = .int .i64 ((a : Int) + 2 * (s : Int)) ∧ a ≤ n ∧ n ≤ ky + a ∧ dj.size = n ∧ Aside (SWK enc k w blk off dj wr) ∧ wr.cell? ⟨w.heap.size, 0, none⟩ = some (.func (.func g) #[] lb) ∧ wr.cell? ⟨w.heap.size, 1, none⟩ = some (.func (.func sf) #[] sb) ∧ w.heap.size < wr.heap.size ∧
              Hid (mergePass lt s n ky a dj = mergePass lt s n n 0 dk))
            case atStart => exact ⟨0, dk, rfl, by simp, Nat.zero_le _, Nat.le_refl _, hz, S, c0, c1, hsz1, rfl⟩
            case round =>
              clear S c0 c1 hsz1
              obtain ⟨a, dj, rfl, rfl, han, hkn2, hzj, S, c0, c1, hsz1, HF⟩ := hrel
              by_cases hp : a + 2 * s ≤ n
              · cases gk with
                | zero => omega
                | succ ky =>
                  have hpI : (a : Int) + 2 * (s : Int) ≤ (n : Int) := by omega
                  have E := HF.out
                  rw [mergePass, if_pos hp] at E
                  have hc := HM.out dj wr (2 * s) a (a + s) (a + 2 * s) hzj S.out (by omega) (by omega) hp (by omega)
                  rw [show ((a + s : Nat) : Int) = (a : Int) + (s : Int) from by omega, show ((a + 2 * s : Nat) : Int) = (a : Int) + 2 * (s : Int) from by omega] at hc
                  have HF2 : Hid _ := E
                  clear E HF
                  go_wp2_with (go_at_fn 84; refine hc.mono ?_; rintro e' w9 ⟨rfl, m', os, hw⟩; obtain ⟨S', c0', c1', hz'⟩ := HN.out _ _ _ _ _ _ hw S (symM_size _ _ _ _ _ _) c0 c1 hsz1; clear S c0 c1 hsz1 hw; have S := S'; have c0 := c0'; have c1 := c1'; have hsz1 := hz'; clear S' c0' c1' hz')
                  go_roundg ky
                  case measure => omega
                  case rel => exact ⟨a + 2 * s, _, by congr 1, by congr 1, hp, by omega, (symM_size _ _ _ _ _ _).trans hzj, S, c0, c1, hsz1, HF2⟩
              · have hpI : ¬ (a : Int) + 2 * (s : Int) ≤ (n : Int) := by omega
                have E : mergePass lt s n n 0 dk = if a + s < n then symM lt (n - a) a (a + s) n dj else dj := by
                  rw [← HF.out]
                  cases gk with
                  | zero => rfl
                  | succ f => rw [mergePass, if_neg hp]
                have HF2 : Hid _ := E
                clear E HF
                by_cases hm : a + s < n
                · have hmI : (a : Int) + (s : Int) < (n : Int) := by omega
                  have hc := HM.out dj wr (n - a) a (a + s) n hzj S.out (by omega) hm (Nat.le_refl _) (Nat.le_refl _)
                  rw [show ((a + s : Nat) : Int) = (a : Int) + (s : Int) from by omega] at hc
                  go_wp2_with (go_at_fn 84; refine hc.mono ?_; rintro e' w9 ⟨rfl, m', os, hw⟩; obtain ⟨S', c0', c1', hz'⟩ := HN.out _ _ _ _ _ _ hw S (symM_size _ _ _ _ _ _) c0 c1 hsz1; clear S c0 c1 hsz1 hw; have S := S'; have c0 := c0'; have c1 := c1'; have hsz1 := hz'; clear S' c0' c1' hz')
                  go_roundg kx
                  case measure => omega
                  case rel =>
                    have E := HE2.out
                    rw [HF2.out, if_pos hm] at E
                    exact ⟨2 * s, _, by congr 1; omega, by omega, by omega, by omega, (symM_size _ _ _ _ _ _).trans hzj, S, c0, c1, hsz1, E⟩
                · have hmI : ¬ (a : Int) + (s : Int) < (n : Int) := by omega
                  go_wp2
                  go_roundg kx
                  case measure => omega
                  case rel =>
                    have E := HE2.out
                    rw [HF2.out, if_neg hm] at E
                    exact ⟨2 * s, dj, by congr 1; omega, by omega, by omega, by omega, hzj, S, c0, c1, hsz1, E⟩
        · have hlI : ¬ (s : Int) < (n : Int) := by omega
          have E : passes lt n n 20 D1 = dk := by
            rw [← HE.out]
            cases gk with
            | zero => rfl
            | succ f => rw [passes, if_neg hl]
          have HE2 : Hid _ := E
          clear E HE
          go_wp2
          go_end0
          exact ⟨rfl, by rw [STB.out, HE2.out]; exact S.out⟩
end Go.Proofs.Ythbdijeikfgjeaa.Srt
