/- What is proved here: the library's merge in place, walked at this program at elements of k cells: it computes the plain merge; `less` and `swap` by their contracts. Conditions: those of each. -/
import Derived.Test.YthbdijeikfgjeaaSrt
namespace Go.Proofs.Ythbdijeikfgjeaa.Srt
open Go.Shelf Go.RowKit Go.Lib Go.Sort Go.Proofs.Ythbdijeikfgjeaa.Stab
variable {α : Type} [Inhabited α]
set_option linter.unusedVariables false

theorem bs_end (p : Nat → Bool) (f i j : Nat) (h : ¬ i < j) : bs p f i j = i := by
  cases f with
  | zero => rfl
  | succ f => rw [bs, if_neg h]

set_option maxHeartbeats 4000000 in
set_option maxRecDepth 1000000 in
theorem sym_one (enc : α → List Value) (k : Nat) (hk : ∀ x, (enc x).length = k) (lt : α → α → Bool) (g : Nat) (lb : Array Value) (sf : Nat) (sb : Array Value) (blk off a m b : Nat) (d : Array α) (w : World)
    (eg : ∀ args w, (callFunc g args).run Try.prog w = .ok (.enter g args) w) (hless : LessReadsK Try.prog g lb enc k lt blk off d.size w) (hswap : SwapSwapsK Try.prog sf sb enc k blk off d.size) (hH : HoldsK enc k w blk off d) (hblk : blk < w.heap.size) (ham : m - a = 1) (ham' : a < m) (hmb : m < b) (hb : b ≤ d.size) (hsz : d.size < 1152921504606846976) :
    Calls Try.prog 84 #[.agg #[.func (.func g) #[] lb, .func (.func sf) #[] sb], .int .i64 a, .int .i64 m, .int .i64 b] w fun e w' => e = .returned (.tuple #[]) ∧ ∃ n os, w' = sortWorldK enc k w blk off n (mvUp (bs (fun h => lt d[h]! d[a]!) (b - m) m b - 1 - a) a d) os := by
  have hne : w.heap.size ≠ blk := by omega
  have hma : (m : Int) - (a : Int) = 1 := by omega
  go_enter Try.func84, Try.ntmps84
  go_wp2
  go_loopg [8, 9] (b - m) (fun kx s8 s9 wr => ∃ (i j : Nat), s8 = .int .i64 i ∧ s9 = .int .i64 j ∧ m ≤ i ∧ i ≤ j ∧ j ≤ b ∧ j - i ≤ kx ∧ Aside (SWK enc k w blk off d wr) ∧ wr.cell? ⟨w.heap.size, 0, none⟩ = some (.func (.func g) #[] lb) ∧ wr.cell? ⟨w.heap.size, 1, none⟩ = some (.func (.func sf) #[] sb) ∧ w.heap.size < wr.heap.size ∧
    Hid (bs (fun h => lt d[h]! d[a]!) kx i j = bs (fun h => lt d[h]! d[a]!) (b - m) m b))
  case atStart => exact ⟨m, b, rfl, rfl, Nat.le_refl _, by omega, Nat.le_refl _, by omega, (SWK.start hH).alloc _, by simp, by simp, by simp, rfl⟩
  case round =>
    obtain ⟨i, j, rfl, rfl, hmi, hij, hjb, hkx, S, c0, c1, hsz1, HE⟩ := hrel
    by_cases hlt : i < j
    · cases gk with
      | zero => omega
      | succ kx =>
        have hl := S.out.less hless rfl ((i + j) / 2) a (by omega) (by omega)
        have hltI : (i : Int) < (j : Int) := by omega
        have hh : (((i + j) / 2 : Nat) : Int) = ((i : Int) + (j : Int)) / 2 := by omega
        rw [hh] at hl
        have E := HE.out
        rw [bs, if_pos hlt] at E
        cases hv : lt d[(i + j) / 2]! d[a]! with
        | true =>
          rw [hv] at hl
          rw [if_pos hv] at E
          have HE2 : Hid _ := E
          clear hless hswap hH E HE
          go_wp2_with (go_at_fn g; refine hl.mono ?_; rintro e w1 ⟨rfl, q, rfl⟩)
          go_roundg kx
          case measure => omega
          case rel => exact ⟨(i + j) / 2 + 1, j, by congr 1, rfl, by omega, by omega, hjb, by omega, S.out.drewN q, c0, c1, hsz1, HE2⟩
        | false =>
          rw [hv] at hl
          rw [if_neg (by rw [hv]; decide)] at E
          have HE2 : Hid _ := E
          clear hless hswap hH E HE
          go_wp2_with (go_at_fn g; refine hl.mono ?_; rintro e w1 ⟨rfl, q, rfl⟩)
          go_roundg kx
          case measure => omega
          case rel => exact ⟨i, (i + j) / 2, rfl, by congr 1, hmi, by omega, by omega, by omega, S.out.drewN q, c0, c1, hsz1, HE2⟩
    · have hltI : ¬ (i : Int) < (j : Int) := by omega
      have E : Aside (bs (fun h => lt d[h]! d[a]!) (b - m) m b = i) := HE.out.symm.trans (bs_end _ _ _ _ hlt)
      clear HE hless
      go_wp2
      go_loopg [11] (i - 1 - a) (fun kx s11 wr2 => ∃ (q : Nat) (dk : Array α), s11 = .int .i64 q ∧ q + kx = i - 1 ∧ a ≤ q ∧ dk.size = d.size ∧ Aside (SWK enc k w blk off dk wr2) ∧ wr2.cell? ⟨w.heap.size, 0, none⟩ = some (.func (.func g) #[] lb) ∧ wr2.cell? ⟨w.heap.size, 1, none⟩ = some (.func (.func sf) #[] sb) ∧ w.heap.size < wr2.heap.size ∧
        Hid (mvUp kx q dk = mvUp (i - 1 - a) a d))
      case atStart => exact ⟨a, d, rfl, by omega, Nat.le_refl _, rfl, S, c0, c1, hsz1, rfl⟩
      case round =>
        clear S c0 c1 hsz1
        obtain ⟨q, dk, rfl, hq, haq, hds, S, c0, c1, hsz1, HM⟩ := hrel
        cases gk with
        | zero =>
          have hqi : ¬ (q : Int) < (i : Int) - 1 := by omega
          clear hswap hH
          go_wp2
          (try simp only [Exit.inBlock, Exit.then]); refine bodyPost_ret (results_none rfl _ _ _) rfl ?_
          have E2 : mvUp (i - 1 - a) a d = dk := HM.out.symm
          rw [E.out, E2]
          exact ⟨rfl, S.out⟩
        | succ kx =>
          have hqi : (q : Int) < (i : Int) - 1 := by omega
          have hs := hswap wr dk (S.out.holds hblk hH hds) hds q (q + 1) (by omega) (by omega)
          rw [show ((q + 1 : Nat) : Int) = (q : Int) + 1 by omega] at hs
          have S2 := S.out.swap hk hblk q (q + 1) (by omega) (by omega)
          have c0' : ((wr.setCells blk (off + q * k) (enc dk[q + 1]!)).setCells blk (off + (q + 1) * k) (enc dk[q]!)).cell? ⟨w.heap.size, 0, none⟩ = some (.func (.func g) #[] lb) := by
            rw [World.cell?_setCells_out blk _ _ _ _ (fun e _ => absurd e hne), World.cell?_setCells_out blk _ _ _ _ (fun e _ => absurd e hne)]; exact c0
          have c1' : ((wr.setCells blk (off + q * k) (enc dk[q + 1]!)).setCells blk (off + (q + 1) * k) (enc dk[q]!)).cell? ⟨w.heap.size, 1, none⟩ = some (.func (.func sf) #[] sb) := by
            rw [World.cell?_setCells_out blk _ _ _ _ (fun e _ => absurd e hne), World.cell?_setCells_out blk _ _ _ _ (fun e _ => absurd e hne)]; exact c1
          have hsz2 : w.heap.size < ((wr.setCells blk (off + q * k) (enc dk[q + 1]!)).setCells blk (off + (q + 1) * k) (enc dk[q]!)).heap.size := by simpa using hsz1
          generalize (wr.setCells blk (off + q * k) (enc dk[q + 1]!)).setCells blk (off + (q + 1) * k) (enc dk[q]!) = w2 at hs S2 c0' c1' hsz2
          have S2' : Aside (SWK enc k w blk off (swp dk q (q + 1)) w2) := S2
          clear S2 S hswap hH
          go_wp2
          go_roundg kx
          case measure => omega
          case rel =>
            have E3 := HM.out
            rw [mvUp] at E3
            exact ⟨q + 1, swp dk q (q + 1), by simp, by omega, by omega, by rw [size_swp]; exact hds, S2', c0', c1', hsz2, E3⟩

set_option maxHeartbeats 4000000 in
set_option maxRecDepth 1000000 in
theorem sym_two (enc : α → List Value) (k : Nat) (hk : ∀ x, (enc x).length = k) (lt : α → α → Bool) (g : Nat) (lb : Array Value) (sf : Nat) (sb : Array Value) (blk off a m b : Nat) (d : Array α) (w : World)
    (eg : ∀ args w, (callFunc g args).run Try.prog w = .ok (.enter g args) w) (hless : LessReadsK Try.prog g lb enc k lt blk off d.size w) (hswap : SwapSwapsK Try.prog sf sb enc k blk off d.size) (hH : HoldsK enc k w blk off d) (hblk : blk < w.heap.size) (hbm : b - m = 1) (ham : ¬ m - a = 1) (ham' : a < m) (hmb : m < b) (hb : b ≤ d.size) (hsz : d.size < 1152921504606846976) :
    Calls Try.prog 84 #[.agg #[.func (.func g) #[] lb, .func (.func sf) #[] sb], .int .i64 a, .int .i64 m, .int .i64 b] w fun e w' => e = .returned (.tuple #[]) ∧ ∃ n os, w' = sortWorldK enc k w blk off n (mvDn (m - bs (fun h => !lt d[m]! d[h]!) (m - a) a m) m d) os := by
  have hne : w.heap.size ≠ blk := by omega
  have hma : ¬ (m : Int) - (a : Int) = 1 := by omega
  have hma2 : ((m : Int) - (a : Int) == 1) = false := beq_eq_false_iff_ne.mpr hma
  have hbmI : (b : Int) - (m : Int) = 1 := by omega
  go_enter Try.func84, Try.ntmps84
  go_wp2
  go_loopg [12, 13] (m - a) (fun kx s8 s9 wr => ∃ (i j : Nat), s8 = .int .i64 i ∧ s9 = .int .i64 j ∧ a ≤ i ∧ i ≤ j ∧ j ≤ m ∧ j - i ≤ kx ∧ Aside (SWK enc k w blk off d wr) ∧ wr.cell? ⟨w.heap.size, 0, none⟩ = some (.func (.func g) #[] lb) ∧ wr.cell? ⟨w.heap.size, 1, none⟩ = some (.func (.func sf) #[] sb) ∧ w.heap.size < wr.heap.size ∧
    Hid (bs (fun h => !lt d[m]! d[h]!) kx i j = bs (fun h => !lt d[m]! d[h]!) (m - a) a m))
  case atStart => exact ⟨a, m, rfl, rfl, Nat.le_refl _, by omega, Nat.le_refl _, by omega, (SWK.start hH).alloc _, by simp, by simp, by simp, rfl⟩
  case round =>
    obtain ⟨i, j, rfl, rfl, hmi, hij, hjb, hkx, S, c0, c1, hsz1, HE⟩ := hrel
    by_cases hlt : i < j
    · cases gk with
      | zero => omega
      | succ kx =>
        have hl := S.out.less hless rfl m ((i + j) / 2) (by omega) (by omega)
        have hltI : (i : Int) < (j : Int) := by omega
        have hh : (((i + j) / 2 : Nat) : Int) = ((i : Int) + (j : Int)) / 2 := by omega
        rw [hh] at hl
        have E := HE.out
        rw [bs, if_pos hlt] at E
        cases hv : lt d[m]! d[(i + j) / 2]! with
        | false =>
          rw [hv] at hl
          rw [if_pos (by rw [hv]; rfl)] at E
          have HE2 : Hid _ := E
          clear hless hswap hH E HE
          go_wp2_with (go_at_fn g; refine hl.mono ?_; rintro e w1 ⟨rfl, q, rfl⟩)
          go_roundg kx
          case measure => omega
          case rel => exact ⟨(i + j) / 2 + 1, j, by congr 1, rfl, by omega, by omega, hjb, by omega, S.out.drewN q, c0, c1, hsz1, HE2⟩
        | true =>
          rw [hv] at hl
          rw [if_neg (by rw [hv]; decide)] at E
          have HE2 : Hid _ := E
          clear hless hswap hH E HE
          go_wp2_with (go_at_fn g; refine hl.mono ?_; rintro e w1 ⟨rfl, q, rfl⟩)
          go_roundg kx
          case measure => omega
          case rel => exact ⟨i, (i + j) / 2, rfl, by congr 1, hmi, by omega, by omega, by omega, S.out.drewN q, c0, c1, hsz1, HE2⟩
    · have hltI : ¬ (i : Int) < (j : Int) := by omega
      have E : Aside (bs (fun h => !lt d[m]! d[h]!) (m - a) a m = i) := HE.out.symm.trans (bs_end _ _ _ _ hlt)
      clear HE hless
      go_wp2
      go_loopg [15] (m - i) (fun kx s11 wr2 => ∃ (q : Nat) (dk : Array α), s11 = .int .i64 q ∧ i + kx = q ∧ q ≤ m ∧ dk.size = d.size ∧ Aside (SWK enc k w blk off dk wr2) ∧ wr2.cell? ⟨w.heap.size, 0, none⟩ = some (.func (.func g) #[] lb) ∧ wr2.cell? ⟨w.heap.size, 1, none⟩ = some (.func (.func sf) #[] sb) ∧ w.heap.size < wr2.heap.size ∧
        Hid (mvDn kx q dk = mvDn (m - i) m d))
      case atStart => exact ⟨m, d, rfl, by omega, Nat.le_refl _, rfl, S, c0, c1, hsz1, rfl⟩
      case round =>
        clear S c0 c1 hsz1
        obtain ⟨q, dk, rfl, hq, haq, hds, S, c0, c1, hsz1, HM⟩ := hrel
        cases gk with
        | zero =>
          have hqi : ¬ (i : Int) < (q : Int) := by omega
          clear hswap hH
          go_wp2
          (try simp only [Exit.inBlock, Exit.then]); refine bodyPost_ret (results_none rfl _ _ _) rfl ?_
          have E2 : mvDn (m - i) m d = dk := HM.out.symm
          rw [E.out, E2]
          exact ⟨rfl, S.out⟩
        | succ kx =>
          have hqi : (i : Int) < (q : Int) := by omega
          have hs := hswap wr dk (S.out.holds hblk hH hds) hds q (q - 1) (by omega) (by omega)
          rw [show ((q - 1 : Nat) : Int) = (q : Int) - 1 by omega] at hs
          have S2 := S.out.swap hk hblk q (q - 1) (by omega) (by omega)
          have c0' : ((wr.setCells blk (off + q * k) (enc dk[q - 1]!)).setCells blk (off + (q - 1) * k) (enc dk[q]!)).cell? ⟨w.heap.size, 0, none⟩ = some (.func (.func g) #[] lb) := by
            rw [World.cell?_setCells_out blk _ _ _ _ (fun e _ => absurd e hne), World.cell?_setCells_out blk _ _ _ _ (fun e _ => absurd e hne)]; exact c0
          have c1' : ((wr.setCells blk (off + q * k) (enc dk[q - 1]!)).setCells blk (off + (q - 1) * k) (enc dk[q]!)).cell? ⟨w.heap.size, 1, none⟩ = some (.func (.func sf) #[] sb) := by
            rw [World.cell?_setCells_out blk _ _ _ _ (fun e _ => absurd e hne), World.cell?_setCells_out blk _ _ _ _ (fun e _ => absurd e hne)]; exact c1
          have hsz2 : w.heap.size < ((wr.setCells blk (off + q * k) (enc dk[q - 1]!)).setCells blk (off + (q - 1) * k) (enc dk[q]!)).heap.size := by simpa using hsz1
          generalize (wr.setCells blk (off + q * k) (enc dk[q - 1]!)).setCells blk (off + (q - 1) * k) (enc dk[q]!) = w2 at hs S2 c0' c1' hsz2
          have S2' : Aside (SWK enc k w blk off (swp dk q (q - 1)) w2) := S2
          clear S2 S hswap hH
          go_wp2
          go_roundg kx
          case measure => omega
          case rel =>
            have E3 := HM.out
            rw [mvDn] at E3
            exact ⟨q - 1, swp dk q (q - 1), by congr 1; omega, by omega, by omega, by rw [size_swp]; exact hds, S2', c0', c1', hsz2, E3⟩
end Go.Proofs.Ythbdijeikfgjeaa.Srt
