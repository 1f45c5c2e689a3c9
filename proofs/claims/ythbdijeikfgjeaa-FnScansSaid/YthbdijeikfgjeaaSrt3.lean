/- What is proved here: the library's merge in place at any stretches, walked at this program at elements of k cells: it computes the plain merge; `less` and `swap` by their contracts. Conditions: those of each. -/
import Derived.Test.YthbdijeikfgjeaaSrt2
import Derived.Deep.DeepCutAuto
namespace Go.Proofs.Ythbdijeikfgjeaa.Srt
open Go.Shelf Go.RowKit Go.Lib Go.Sort Go.Proofs.Ythbdijeikfgjeaa.Stab
variable {α : Type} [Inhabited α]
set_option linter.unusedVariables false

theorem symM_size (lt : α → α → Bool) : ∀ (f a m b : Nat) (d : Array α), (symM lt f a m b d).size = d.size
  | 0, _, _, _, _ => rfl
  | f + 1, a, m, b, d => by
    rw [symM]
    split
    · exact mvUp_size _ _ _
    · split
      · exact mvDn_size _ _ _
      · have q : ∀ (c : Prop) [Decidable c] (x y : Array α), x.size = d.size → y.size = d.size → (if c then x else y).size = d.size := by
          intro c _ x y hx hy
          split
          · exact hx
          · exact hy
        simp only
        refine q _ _ _ ((symM_size lt f _ _ _ _).trans ?_) ?_ <;> refine q _ _ _ ((symM_size lt f _ _ _ _).trans ?_) ?_ <;> exact q _ _ _ (rot_size _ _ _ _ _) rfl
/-- A merge's own steps, where neither stretch is of one element. -/
theorem symM_many (lt : α → α → Bool) (f a m b mid s0 r0 s e : Nat) (d : Array α) (h1 : ¬ m - a = 1) (h2 : ¬ b - m = 1) (hmid : (a + b) / 2 = mid) (k0 : (m > mid ∧ s0 = mid + m - b ∧ r0 = mid) ∨ (m ≤ mid ∧ s0 = a ∧ r0 = m))
    (hs : bs (fun c => !lt d[mid + m - 1 - c]! d[c]!) (r0 - s0) s0 r0 = s) (he : mid + m - s = e) (d1 d2 : Array α) (h3 : d1 = if s < m ∧ m < e then rot m (e - s) (m - s) (e - m) d else d) (h4 : d2 = if a < s ∧ s < mid then symM lt f a s mid d1 else d1) :
    symM lt (f + 1) a m b d = if mid < e ∧ e < b then symM lt f mid e b d2 else d2 := by
  rw [symM, if_neg h1, if_neg h2]
  simp only [hmid]
  rw [show (if m > mid then mid + m - b else a) = s0 from by split <;> omega, show (if m > mid then mid else m) = r0 from by split <;> omega, hs, he, ← h3, ← h4]

set_option maxHeartbeats 16000000 in
set_option maxRecDepth 1000000 in
theorem sym_many (enc : α → List Value) (k : Nat) (hk : ∀ x, (enc x).length = k) (lt : α → α → Bool) (g : Nat) (lb : Array Value) (sf : Nat) (sb : Array Value) (blk off : Nat) (sz f : Nat)
    (eg : ∀ args w, (callFunc g args).run Try.prog w = .ok (.enter g args) w) (hswap : SwapSwapsK Try.prog sf sb enc k blk off sz) (hsz : sz < 1152921504606846976)
    (ih : ∀ (a m b : Nat) (d : Array α) (w : World), d.size = sz → LessReadsK Try.prog g lb enc k lt blk off sz w → HoldsK enc k w blk off d → blk < w.heap.size → a < m → m < b → b ≤ sz → b - a ≤ f →
      Calls Try.prog 84 #[.agg #[.func (.func g) #[] lb, .func (.func sf) #[] sb], .int .i64 a, .int .i64 m, .int .i64 b] w fun e w' => e = .returned (.tuple #[]) ∧ ∃ n os, w' = sortWorldK enc k w blk off n (symM lt f a m b d) os)
    (a m b : Nat) (d : Array α) (w : World) (hds : d.size = sz) (hless : LessReadsK Try.prog g lb enc k lt blk off sz w) (hH : HoldsK enc k w blk off d) (hblk : blk < w.heap.size) (ham : a < m) (hmb : m < b) (hb : b ≤ sz) (hf : b - a ≤ f + 1) (h1 : ¬ m - a = 1) (h2 : ¬ b - m = 1) :
    Calls Try.prog 84 #[.agg #[.func (.func g) #[] lb, .func (.func sf) #[] sb], .int .i64 a, .int .i64 m, .int .i64 b] w fun e w' => e = .returned (.tuple #[]) ∧ ∃ n os, w' = sortWorldK enc k w blk off n (symM lt (f + 1) a m b d) os := by
  have hne : w.heap.size ≠ blk := by omega
  have e93 : ∀ args w, (callFunc 93 args).run Try.prog w = .ok (.enter 93 args) w := enters_of Try.func93 (by kernel_rfl) rfl
  have e84 : ∀ args w, (callFunc 84 args).run Try.prog w = .ok (.enter 84 args) w := enters_of Try.func84 (by kernel_rfl) rfl
  have hma : ¬ (m : Int) - (a : Int) = 1 := by omega
  have hma2 : ((m : Int) - (a : Int) == 1) = false := beq_eq_false_iff_ne.mpr hma
  have hbm : ¬ (b : Int) - (m : Int) = 1 := by omega
  have hbm2 : ((b : Int) - (m : Int) == 1) = false := beq_eq_false_iff_ne.mpr hbm
  obtain ⟨mid, hmid⟩ : ∃ mid, (a + b) / 2 = mid := ⟨_, rfl⟩
  have hmI : ((a : Int) + (b : Int)) / 2 = (mid : Int) := by omega
  obtain ⟨s0, r0, k0⟩ : ∃ s0 r0, (m > mid ∧ s0 = mid + m - b ∧ r0 = mid) ∨ (m ≤ mid ∧ s0 = a ∧ r0 = m) := by
    by_cases c : m > mid
    · exact ⟨_, _, .inl ⟨c, rfl, rfl⟩⟩
    · exact ⟨_, _, .inr ⟨by omega, rfl, rfl⟩⟩
  have K0 : Aside _ := k0
  have kk : a ≤ s0 ∧ s0 ≤ r0 ∧ r0 ≤ m ∧ r0 ≤ mid ∧ mid + m - s0 ≤ b ∧ mid < b ∧ a < mid ∧ m ≤ mid + m - r0 := by omega
  have HL : Hid _ := hless
  have HW : Hid _ := hswap
  have HI : Hid _ := ih
  have HHo : Hid _ := hH
  have KK : Aside _ := kk
  clear hless hswap ih hH kk
  go_enter Try.func84, Try.ntmps84
  go_upto_if 106 with (fail)
  go_cut [18, 19] (fun v18 v19 wc => v18 = .int .i64 s0 ∧ v19 = .int .i64 r0 ∧ w.alloc (.cells #[.func (.func g) #[] lb, .func (.func sf) #[] sb] 100) = wc)
  case first =>
    rcases k0 with ⟨w1, w2, w3⟩ | ⟨w1, w2, w3⟩
    · have wI : (mid : Int) < (m : Int) := by omega
      go_wp2
      go_meet
      case rel => exact ⟨by congr 1; omega, by congr 1; omega, rfl⟩
    · have wI : ¬ (mid : Int) < (m : Int) := by omega
      go_wp2
      go_meet
      case rel => exact ⟨by congr 1; omega, by congr 1; omega, rfl⟩
  case rest =>
    clear k0
    obtain ⟨rfl, rfl, rfl⟩ := hcut
    go_wp2
    go_loopg [18, 19] (r0 - s0) (fun kx s8 s9 wr => ∃ (i j : Nat), s8 = .int .i64 i ∧ s9 = .int .i64 j ∧ s0 ≤ i ∧ i ≤ j ∧ j ≤ r0 ∧ j - i ≤ kx ∧ Aside (SWK enc k w blk off d wr) ∧ wr.cell? ⟨w.heap.size, 0, none⟩ = some (.func (.func g) #[] lb) ∧ wr.cell? ⟨w.heap.size, 1, none⟩ = some (.func (.func sf) #[] sb) ∧ w.heap.size < wr.heap.size ∧
      Hid (bs (fun c => !lt d[mid + m - 1 - c]! d[c]!) kx i j = bs (fun c => !lt d[mid + m - 1 - c]! d[c]!) (r0 - s0) s0 r0))
    case atStart => exact ⟨s0, r0, rfl, rfl, Nat.le_refl _, KK.out.2.1, Nat.le_refl _, Nat.le_refl _, (SWK.start HHo.out).alloc _, by simp, by simp, by simp, rfl⟩
    case round =>
      obtain ⟨i, j, rfl, rfl, hmi, hij, hjb, hkx, S, c0, c1, hsz1, HE⟩ := hrel
      have kk := KK.out
      by_cases hlt : i < j
      · cases gk with
        | zero => omega
        | succ kx =>
          have hl := S.out.less HL.out hds (mid + m - 1 - (i + j) / 2) ((i + j) / 2) (by omega) (by omega)
          have hltI : (i : Int) < (j : Int) := by omega
          rw [show ((mid + m - 1 - (i + j) / 2 : Nat) : Int) = (mid : Int) + (m : Int) - 1 - ((i : Int) + (j : Int)) / 2 from by omega, show (((i + j) / 2 : Nat) : Int) = ((i : Int) + (j : Int)) / 2 from by omega] at hl
          have E := HE.out
          rw [bs, if_pos hlt] at E
          have hr0 : r0 ≤ sz := by omega
          have hmz : mid ≤ sz := by omega
          clear kk
          cases hv : lt d[mid + m - 1 - (i + j) / 2]! d[(i + j) / 2]! with
          | false =>
            rw [hv] at hl
            rw [if_pos (by rw [hv]; rfl)] at E
            have HE2 : Hid _ := E
            clear E HE
            go_wp2_with (go_at_fn g; refine hl.mono ?_; rintro e w1 ⟨rfl, q, rfl⟩)
            go_roundg kx
            case measure => omega
            case rel => exact ⟨(i + j) / 2 + 1, j, by congr 1, rfl, by omega, by omega, hjb, by omega, S.out.drewN q, c0, c1, hsz1, HE2⟩
          | true =>
            rw [hv] at hl
            rw [if_neg (by rw [hv]; decide)] at E
            have HE2 : Hid _ := E
            clear E HE
            go_wp2_with (go_at_fn g; refine hl.mono ?_; rintro e w1 ⟨rfl, q, rfl⟩)
            go_roundg kx
            case measure => omega
            case rel => exact ⟨i, (i + j) / 2, rfl, by congr 1, hmi, by omega, by omega, by omega, S.out.drewN q, c0, c1, hsz1, HE2⟩
      · have hltI : ¬ (i : Int) < (j : Int) := by omega
        have E : Aside (bs (fun c => !lt d[mid + m - 1 - c]! d[c]!) (r0 - s0) s0 r0 = i) := HE.out.symm.trans (bs_end _ _ _ _ hlt)
        clear HE
        obtain ⟨e, he⟩ : ∃ e, mid + m - i = e := ⟨_, rfl⟩
        have heI : (mid : Int) + (m : Int) - (i : Int) = (e : Int) := by omega
        have ek : m ≤ e ∧ e ≤ b ∧ i ≤ m ∧ a ≤ i ∧ i ≤ mid ∧ mid ≤ e ∧ i + e = mid + m := by omega
        have E2 := symM_many lt f a m b mid s0 r0 i e d h1 h2 hmid K0 E he _ _ rfl rfl
        have hrot : ∀ W, SWK enc k w blk off d W → i < m → m < e → Calls Try.prog 93 #[.agg #[.func (.func g) #[] lb, .func (.func sf) #[] sb], .int .i64 i, .int .i64 m, .int .i64 e] W fun e' w' => e' = .returned (.tuple #[]) ∧ ∃ n os, w' = sortWorldK enc k W blk off n (rot m (e - i) (m - i) (e - m) d) os :=
          fun W hS q q' => rotate_w enc k hk _ _ lb sf sb blk off i m e d W (by rw [hds]; exact HW.out) (hS.holds hblk HHo.out rfl) (hS.lt hblk) q q' (by omega) (by omega)
        have hs1 : ∀ dk W, dk.size = sz → SWK enc k w blk off dk W → a < i → i < mid → Calls Try.prog 84 #[.agg #[.func (.func g) #[] lb, .func (.func sf) #[] sb], .int .i64 a, .int .i64 i, .int .i64 mid] W fun e' w' => e' = .returned (.tuple #[]) ∧ ∃ n os, w' = sortWorldK enc k W blk off n (symM lt f a i mid dk) os :=
          fun dk W hz hS q q' => HI.out a i mid dk W hz (hS.lessReads HL.out hblk hz) (hS.holds hblk HHo.out (hz.trans hds.symm)) (hS.lt hblk) q q' (by omega) (by omega)
        have hs2 : ∀ dk W, dk.size = sz → SWK enc k w blk off dk W → mid < e → e < b → Calls Try.prog 84 #[.agg #[.func (.func g) #[] lb, .func (.func sf) #[] sb], .int .i64 mid, .int .i64 e, .int .i64 b] W fun e' w' => e' = .returned (.tuple #[]) ∧ ∃ n os, w' = sortWorldK enc k W blk off n (symM lt f mid e b dk) os :=
          fun dk W hz hS q q' => HI.out mid e b dk W hz (hS.lessReads HL.out hblk hz) (hS.holds hblk HHo.out (hz.trans hds.symm)) (hS.lt hblk) q q' hb (by omega)
        have nx : ∀ (dk : Array α) (W W' : World) (n : Nat) (dk' : Array α) (os : Array Obj), W' = sortWorldK enc k W blk off n dk' os → Aside (SWK enc k w blk off dk W) → dk'.size = dk.size → W.cell? ⟨w.heap.size, 0, none⟩ = some (.func (.func g) #[] lb) → W.cell? ⟨w.heap.size, 1, none⟩ = some (.func (.func sf) #[] sb) → w.heap.size < W.heap.size →
            Aside (SWK enc k w blk off dk' W') ∧ W'.cell? ⟨w.heap.size, 0, none⟩ = some (.func (.func g) #[] lb) ∧ W'.cell? ⟨w.heap.size, 1, none⟩ = some (.func (.func sf) #[] sb) ∧ w.heap.size < W'.heap.size := by
          rintro dk W W' n dk' os rfl hS hq q0 q1 q2
          exact ⟨hS.out.on hblk n _ os hq, box_on q0 hne q2, box_on q1 hne q2, Nat.lt_of_lt_of_le q2 (SWK.le (⟨n, os, rfl⟩ : SWK enc k W blk off _ _))⟩
        have HR : Hid _ := hrot
        have H1 : Hid _ := hs1
        have H2 : Hid _ := hs2
        have HN : Hid _ := nx
        have HE2 : Hid _ := E2
        have EK : Aside _ := ek
        have HeI : Aside _ := heI
        clear hrot hs1 hs2 nx E2 E kk ek
        go_upto_region 40 with (fail)
        go_cut [22, 145] (fun v22 vc wc => v22 = .int .i64 e ∧ vc = .bool (decide (i < m ∧ m < e)) ∧ wr = wc)
        case first =>
          have ek := EK.out
          by_cases q1 : i < m
          · have x1 : (i : Int) < (m : Int) := by omega
            by_cases q2 : m < e
            · have x2 : (m : Int) < (e : Int) := by omega
              clear ek
              go_wp2
              go_meet
              case rel => exact ⟨rfl, by rw [decide_eq_true ⟨q1, q2⟩], rfl⟩
            · have x2 : ¬ (m : Int) < (e : Int) := by omega
              clear ek
              go_wp2
              go_meet
              case rel => exact ⟨rfl, by rw [decide_eq_false (fun q => q2 q.2)], rfl⟩
          · have x1 : ¬ (i : Int) < (m : Int) := by omega
            clear ek
            go_wp2
            go_meet
            case rel => exact ⟨rfl, by rw [decide_eq_false (fun q => q1 q.1)], rfl⟩
        case rest =>
          obtain ⟨rfl, rfl, rfl⟩ := hcut
          obtain ⟨d1, hd1⟩ : ∃ d1, d1 = if i < m ∧ m < e then rot m (e - i) (m - i) (e - m) d else d := ⟨_, rfl⟩
          have z1 : d1.size = sz := by rw [hd1]; split <;> simp [rot_size, hds]
          have HD1 : Hid _ := hd1
          have Z1 : Aside _ := z1
          clear hd1 z1
          go_upto_if 145 with (fail)
          go_cut [22] (fun v22 wc => v22 = .int .i64 e ∧ Aside (SWK enc k w blk off d1 wc) ∧ wc.cell? ⟨w.heap.size, 0, none⟩ = some (.func (.func g) #[] lb) ∧ wc.cell? ⟨w.heap.size, 1, none⟩ = some (.func (.func sf) #[] sb) ∧ w.heap.size < wc.heap.size)
          case first =>
            by_cases q : i < m ∧ m < e
            · have cq := decide_eq_true q
              have Q : Aside _ := q
              clear q
              go_wp2_with (go_at_fn 93; refine (HR.out _ S.out Q.out.1 Q.out.2).mono ?_; rintro e' w9 ⟨rfl, n, os, hw⟩; obtain ⟨S', c0', c1', hz'⟩ := HN.out _ _ _ _ _ _ hw S (by rw [rot_size]) c0 c1 hsz1; clear S c0 c1 hsz1 hw; have S := S'; have c0 := c0'; have c1 := c1'; have hsz1 := hz'; clear S' c0' c1' hz')
              go_meet
              case rel => exact ⟨rfl, by rw [HD1.out, if_pos Q.out]; exact S, c0, c1, hsz1⟩
            · have cq := decide_eq_false q
              have Q : Aside _ := q
              clear q
              go_wp2
              go_meet
              case rel => exact ⟨rfl, by rw [HD1.out, if_neg Q.out]; exact S, c0, c1, hsz1⟩
          case rest =>
            clear S c0 c1 hsz1
            obtain ⟨rfl, S, c0, c1, hsz1⟩ := hcut
            go_upto_region 42 with (fail)
            go_cut [22, 158] (fun v22 vc wx => v22 = .int .i64 e ∧ vc = .bool (decide (a < i ∧ i < mid)) ∧ wc = wx)
            case first =>
              have ek := EK.out
              by_cases q1 : a < i
              · have x1 : (a : Int) < (i : Int) := by omega
                by_cases q2 : i < mid
                · have x2 : (i : Int) < (mid : Int) := by omega
                  clear ek
                  go_wp2
                  go_meet
                  case rel => exact ⟨rfl, by rw [decide_eq_true ⟨q1, q2⟩], rfl⟩
                · have x2 : ¬ (i : Int) < (mid : Int) := by omega
                  clear ek
                  go_wp2
                  go_meet
                  case rel => exact ⟨rfl, by rw [decide_eq_false (fun q => q2 q.2)], rfl⟩
              · have x1 : ¬ (a : Int) < (i : Int) := by omega
                clear ek
                go_wp2
                go_meet
                case rel => exact ⟨rfl, by rw [decide_eq_false (fun q => q1 q.1)], rfl⟩
            case rest =>
              obtain ⟨rfl, rfl, rfl⟩ := hcut
              obtain ⟨d2, hd2⟩ : ∃ d2, d2 = if a < i ∧ i < mid then symM lt f a i mid d1 else d1 := ⟨_, rfl⟩
              have z2 : d2.size = sz := by rw [hd2]; split <;> simp [symM_size, Z1.out]
              have HD2 : Hid _ := hd2
              have Z2 : Aside _ := z2
              clear hd2 z2
              go_upto_if 158 with (fail)
              go_cut [22] (fun v22 wc => v22 = .int .i64 e ∧ Aside (SWK enc k w blk off d2 wc) ∧ wc.cell? ⟨w.heap.size, 0, none⟩ = some (.func (.func g) #[] lb) ∧ wc.cell? ⟨w.heap.size, 1, none⟩ = some (.func (.func sf) #[] sb) ∧ w.heap.size < wc.heap.size)
              case first =>
                by_cases q : a < i ∧ i < mid
                · have cq := decide_eq_true q
                  have Q : Aside _ := q
                  clear q
                  go_wp2_with (go_at_fn 84; refine (H1.out _ _ Z1.out S.out Q.out.1 Q.out.2).mono ?_; rintro e' w9 ⟨rfl, n, os, hw⟩; obtain ⟨S', c0', c1', hz'⟩ := HN.out _ _ _ _ _ _ hw S (by rw [symM_size]) c0 c1 hsz1; clear S c0 c1 hsz1 hw; have S := S'; have c0 := c0'; have c1 := c1'; have hsz1 := hz'; clear S' c0' c1' hz')
                  go_meet
                  case rel => exact ⟨rfl, by rw [HD2.out, if_pos Q.out]; exact S, c0, c1, hsz1⟩
                · have cq := decide_eq_false q
                  have Q : Aside _ := q
                  clear q
                  go_wp2
                  go_meet
                  case rel => exact ⟨rfl, by rw [HD2.out, if_neg Q.out]; exact S, c0, c1, hsz1⟩
              case rest =>
                clear S c0 c1 hsz1
                obtain ⟨rfl, S, c0, c1, hsz1⟩ := hcut
                have fin : symM lt (f + 1) a m b d = if mid < e ∧ e < b then symM lt f mid e b d2 else d2 := by
                  have z := HE2.out
                  rw [← HD1.out, ← HD2.out] at z
                  exact z
                have HF : Hid _ := fin
                clear fin
                have ek := EK.out
                by_cases q1 : mid < e
                · have x1 : (mid : Int) < (e : Int) := by omega
                  by_cases q2 : e < b
                  · have x2 : (e : Int) < (b : Int) := by omega
                    clear ek
                    go_wp2_with (go_at_fn 84; refine (H2.out _ _ Z2.out S.out q1 q2).mono ?_; rintro e' w9 ⟨rfl, n, os, hw⟩; obtain ⟨S', c0', c1', hz'⟩ := HN.out _ _ _ _ _ _ hw S (by rw [symM_size]) c0 c1 hsz1; clear S c0 c1 hsz1 hw; have S := S'; have c0 := c0'; have c1 := c1'; have hsz1 := hz'; clear S' c0' c1' hz')
                    go_end0
                    rw [HF.out, if_pos ⟨q1, q2⟩]
                    exact ⟨rfl, S.out⟩
                  · have x2 : ¬ (e : Int) < (b : Int) := by omega
                    clear ek
                    go_wp2
                    go_end0
                    rw [HF.out, if_neg (fun q => q2 q.2)]
                    exact ⟨rfl, S.out⟩
                · have x1 : ¬ (mid : Int) < (e : Int) := by omega
                  clear ek
                  go_wp2
                  go_end0
                  rw [HF.out, if_neg (fun q => q1 q.1)]
                  exact ⟨rfl, S.out⟩

/-- The merge in place. -/
theorem symMerge_w (enc : α → List Value) (k : Nat) (hk : ∀ x, (enc x).length = k) (lt : α → α → Bool) (g : Nat) (lb : Array Value) (sf : Nat) (sb : Array Value) (blk off : Nat) (sz : Nat)
    (eg : ∀ args w, (callFunc g args).run Try.prog w = .ok (.enter g args) w) (hswap : SwapSwapsK Try.prog sf sb enc k blk off sz) (hsz : sz < 1152921504606846976) :
    ∀ (f a m b : Nat) (d : Array α) (w : World), d.size = sz → LessReadsK Try.prog g lb enc k lt blk off sz w → HoldsK enc k w blk off d → blk < w.heap.size → a < m → m < b → b ≤ sz → b - a ≤ f →
      Calls Try.prog 84 #[.agg #[.func (.func g) #[] lb, .func (.func sf) #[] sb], .int .i64 a, .int .i64 m, .int .i64 b] w fun e w' => e = .returned (.tuple #[]) ∧ ∃ n os, w' = sortWorldK enc k w blk off n (symM lt f a m b d) os
  | 0, a, m, b, d, w, _, _, _, _, h1, h2, _, h3 => by omega
  | f + 1, a, m, b, d, w, hds, hless, hH, hblk, ham, hmb, hb, hf => by
    by_cases c1 : m - a = 1
    · subst hds
      rw [symM, if_pos c1]
      exact sym_one enc k hk lt g lb sf sb blk off a m b d w eg hless hswap hH hblk c1 ham hmb hb hsz
    · by_cases c2 : b - m = 1
      · subst hds
        rw [symM, if_neg c1, if_pos c2]
        exact sym_two enc k hk lt g lb sf sb blk off a m b d w eg hless hswap hH hblk c2 c1 ham hmb hb hsz
      · exact sym_many enc k hk lt g lb sf sb blk off sz f eg hswap hsz (symMerge_w enc k hk lt g lb sf sb blk off sz eg hswap hsz f) a m b d w hds hless hH hblk ham hmb hb hf c1 c2
end Go.Proofs.Ythbdijeikfgjeaa.Srt
