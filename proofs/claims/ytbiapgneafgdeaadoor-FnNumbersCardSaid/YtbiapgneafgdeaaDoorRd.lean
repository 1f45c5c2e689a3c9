/- What is proved here: impl.ReadDecimal and the law FnExactReadDecimal, walked; and the plain law: both read a number back just where its own figures stand. No condition of ours. -/
import Derived.Test.YtbiapgneafgdeaaDoorDec
import Derived.Test.YtbiapgneafgdeaaDoorPRd
import Derived.Test.YtbiapgneafgdeaaDoorShelfA
namespace Go.Proofs.YtbiapgneafgdeaaDoor.Rd
open Go.RowKit Go.Proofs.YtbiapgneafgdeaaDoorW.PrintWords Go.Proofs.YtbiapgneafgdeaaDoorW.PrintLast Go.Proofs.YtbiapgneafgdeaaDoor.PFnExactDecimal Go.Proofs.YtbiapgneafgdeaaDoor.Dec
set_option linter.unusedVariables false
set_option linter.unusedSimpArgs false
/-! lists of bytes -/
theorem bytesOf_inj {a b : ByteArray} (h : bytesOf a = bytesOf b) : a = b := by
  unfold bytesOf at h
  have : a.data.toList = b.data.toList := by
    refine List.map_inj_right ?_ |>.1 h
    intro x y hxy
    exact UInt8.toNat_inj.1 (Int.ofNat.inj hxy)
  exact ByteArray.ext (Array.toList_inj.1 this)
theorem drop_bt (s : ByteArray) (i : Nat) (h : i < s.size) : (bytesOf s).drop i = bt s (i : Int) :: (bytesOf s).drop (i + 1) := by
  have hl : i < (bytesOf s).length := by rw [bytesOf_length]; exact h
  rw [List.drop_eq_getElem_cons hl]
  congr 1
  rw [← rd_bytesOf, rd, Int.toNat_natCast, List.getD_eq_getElem?_getD, List.getElem?_eq_getElem hl]
  rfl
theorem toList_inj {a b : ByteArray} : a.toList = b.toList ↔ a = b := by
  constructor
  · intro h
    rw [ByteArray.toList_eq, ByteArray.toList_eq] at h
    exact ByteArray.ext (Array.toList_inj.1 h)
  · intro h; rw [h]
/-- What figures spell, behind n. -/
def val : List Int → Int → Option Int
  | [], n => some n
  | c :: t, n => if c < 48 then none else if c > 57 then none else val t (10 * n + c - 48)
theorem val_append : ∀ (a b : List Int) (n : Int), val (a ++ b) n = (val a n).bind (val b)
  | [], b, n => rfl
  | c :: a, b, n => by
    rw [List.cons_append, val, val]
    split
    · rfl
    · split
      · rfl
      · exact val_append a b _
def nat8 (l : List UInt8) : List Int := l.map fun b => (b.toNat : Int)
theorem fig_nat (d : Nat) (h : d < 10) : (UInt8.ofNat (48 + d)).toNat = 48 + d := by
  rw [UInt8.toNat_ofNat']
  omega
theorem val_dec (u : Nat) : val (nat8 (Lib.decDigits u)) 0 = some (u : Int) := by
  induction u using Nat.strongRecOn with
  | _ u ih =>
    rw [Lib.decDigits]
    by_cases hu : u < 10
    · rw [dif_pos hu]
      simp only [nat8, List.map_cons, List.map_nil, fig_nat u hu, val]
      rw [if_neg (by omega), if_neg (by omega)]
      congr 1
      omega
    · rw [dif_neg hu]
      have g := ih (u / 10) (by omega)
      have m10 : u % 10 < 10 := by omega
      unfold nat8 at g ⊢
      rw [List.map_append, val_append, g, Option.bind_some]
      simp only [List.map_cons, List.map_nil, fig_nat _ m10, val]
      rw [if_neg (by omega), if_neg (by omega)]
      congr 1
      omega
theorem dec_len : ∀ (m u : Nat), u < 10 ^ (m + 1) → (Lib.decDigits u).length ≤ m + 1
  | 0, u, h => by rw [Lib.decDigits, dif_pos (by simpa using h)]; simp
  | m + 1, u, h => by
    rw [Lib.decDigits]
    split
    · simp
    · have := dec_len m (u / 10) (by rw [Nat.pow_succ] at h; omega)
      rw [List.length_append, List.length_singleton]
      omega
theorem parse_append : ∀ (a b : List UInt8) (n m : Nat), Lib.parseUint10 n a = .ok m → Lib.parseUint10 n (a ++ b) = Lib.parseUint10 m b
  | [], b, n, m, h => by
    simp only [Lib.parseUint10] at h
    injection h with h
    rw [h]
    rfl
  | c :: a, b, n, m, h => by
    rw [List.cons_append]
    simp only [Lib.parseUint10] at h ⊢
    split at h
    · next h1 =>
      rw [if_pos h1]
      split at h
      · cases h
      · next h2 =>
        rw [if_neg h2]
        split at h
        · cases h
        · next h3 =>
          rw [if_neg h3]
          exact parse_append a b _ m h
    · cases h
theorem parse_dec (u : Nat) : u ≤ 1000000000 → Lib.parseUint10 0 (Lib.decDigits u) = .ok u := by
  induction u using Nat.strongRecOn with
  | _ u ih =>
    intro hb
    rw [Lib.decDigits]
    by_cases hu : u < 10
    · rw [dif_pos hu]
      simp only [Lib.parseUint10, fig_nat u hu]
      rw [if_pos (by omega), if_neg (by omega), if_neg (by omega)]
      congr 1
      omega
    · rw [dif_neg hu]
      have g := ih (u / 10) (by omega) (by omega)
      have m10 : u % 10 < 10 := by omega
      rw [parse_append _ _ _ _ g]
      simp only [Lib.parseUint10, fig_nat _ m10]
      rw [if_pos (by omega), if_neg (by omega), if_neg (by omega)]
      congr 1
      omega
theorem dec_head (u : Nat) : ∃ c r, Lib.decDigits u = c :: r ∧ 48 ≤ c.toNat ∧ c.toNat ≤ 57 := by
  induction u using Nat.strongRecOn with
  | _ u ih =>
    rw [Lib.decDigits]
    by_cases hu : u < 10
    · rw [dif_pos hu]
      exact ⟨_, [], rfl, by rw [fig_nat u hu]; omega, by rw [fig_nat u hu]; omega⟩
    · rw [dif_neg hu]
      obtain ⟨c, r, e, h1, h2⟩ := ih (u / 10) (by omega)
      rw [e]
      exact ⟨c, r ++ [UInt8.ofNat (48 + u % 10)], rfl, h1, h2⟩
theorem itoa_nat (u : Nat) : Lib.itoa (u : Int) = Lib.decDigits u := by
  unfold Lib.itoa
  rw [if_neg (by omega), Int.toNat_natCast]
theorem atoi_dec (u : Nat) (h : u ≤ 1000000000) : Lib.atoiAll (Lib.decDigits u) = .ok (u : Int) := by
  obtain ⟨c, r, e, h1, h2⟩ := dec_head u
  have p := parse_dec u h
  rw [e] at p ⊢
  unfold Lib.atoiAll
  have k43 : ¬ c.toNat = 43 := by omega
  have k45 : ¬ c.toNat = 45 := by omega
  simp only [k43, k45, or_self, if_false]
  unfold Lib.parseMag
  rw [if_neg (by simp), p]
  simp only [not_false_eq_true, true_and, false_and, if_false, show ¬ (9223372036854775808 ≤ u) from by omega]
theorem data_itoa (n : Int) : (itoaB n).data.toList = Lib.itoa n := rfl
/-- What the program answers, out of what the library does. -/
def implRd (t : ByteArray) (o : Option Int) : Int × Bool := match o with
  | some v => if (0 ≤ v ∧ v ≤ 1000000000) ∧ itoaB v = t then (v, true) else (0, false)
  | none => (0, false)
/-- What is read. -/
def rdOf (t : ByteArray) : Int × Bool := implRd t (match Lib.atoiAll t.data.toList with | .ok v => some v | _ => none)
def finRd (t : ByteArray) (n : Int) : Int × Bool := if n > 1000000000 then (0, false) else if itoaB n = t then (n, true) else (0, false)
def specRd (t : ByteArray) : Int × Bool := if (t.size : Int) > 10 then (0, false) else match val (bytesOf t) 0 with | some n => finRd t n | none => (0, false)
theorem val_nonneg : ∀ (l : List Int) (n m : Int), 0 ≤ n → val l n = some m → 0 ≤ m
  | [], n, m, h0, h => by simp only [val] at h; injection h with h; omega
  | c :: l, n, m, h0, h => by
    simp only [val] at h
    split at h
    · cases h
    · split at h
      · cases h
      · exact val_nonneg l _ m (by omega) h
theorem rd_eq (t : ByteArray) : specRd t = rdOf t := by
  by_cases hx : ∃ u : Nat, u ≤ 1000000000 ∧ itoaB (u : Int) = t
  · obtain ⟨u, hu, rfl⟩ := hx
    have hd : (itoaB (u : Int)).data.toList = Lib.decDigits u := by rw [data_itoa, itoa_nat]
    have hl := dec_len 9 u (by omega)
    have hz : (itoaB (u : Int)).size ≤ 10 := by
      have : (itoaB (u : Int)).data.toList.length = (itoaB (u : Int)).size := data_length _
      rw [hd] at this
      omega
    have hv : val (bytesOf (itoaB (u : Int))) 0 = some (u : Int) := by
      have e : bytesOf (itoaB (u : Int)) = nat8 (Lib.decDigits u) := by unfold bytesOf nat8; rw [hd]
      rw [e, val_dec]
    unfold specRd rdOf
    rw [if_neg (by omega), hv, hd, atoi_dec u hu]
    unfold finRd implRd
    simp only
    rw [if_neg (by omega)]
    first | rw [if_pos trivial, if_pos ⟨⟨by omega, by omega⟩, trivial⟩] | rw [if_pos rfl, if_pos ⟨⟨by omega, by omega⟩, rfl⟩]
  · have a : specRd t = (0, false) := by
      unfold specRd
      split
      · rfl
      · split
        · next n hn =>
          have n0 := val_nonneg _ _ _ (Int.le_refl 0) hn
          unfold finRd
          split
          · rfl
          · next h9 =>
            rw [if_neg]
            intro e
            exact hx ⟨n.toNat, by omega, by rw [show ((n.toNat : Nat) : Int) = n from by omega]; exact e⟩
        · rfl
    rw [a]
    unfold rdOf
    split
    · next v hv =>
      unfold implRd
      simp only
      rw [if_neg]
      rintro ⟨⟨h0, h9⟩, e⟩
      exact hx ⟨v.toNat, by omega, by rw [show ((v.toNat : Nat) : Int) = v from by omega]; exact e⟩
    · rfl
theorem p10 (i : Nat) (h : i ≤ 10) : (10 : Int) ^ i ≤ 10 ^ 10 := by
  have k := Nat.pow_le_pow_right (n := 10) (by omega) h
  have e : (10 : Int) ^ i = ((10 ^ i : Nat) : Int) := by rw [Int.natCast_pow]; rfl
  rw [e]
  omega
theorem sRd_l0 (t : ByteArray) (ht : t.size ≤ 10) : ∀ (d i : Nat), i + d = t.size → ∀ n : Int, 0 ≤ n → n < 10 ^ i → Ev (fun k => spec_ReadDecimal.l0 k t n (i : Int)) (match val ((bytesOf t).drop i) n with | some n => finRd t n | none => (0, false)) := by
  intro d
  induction d with
  | zero =>
    intro i hi n h0 hn
    have e : (bytesOf t).drop i = [] := List.drop_eq_nil_of_le (by rw [bytesOf_length]; omega)
    rw [e]
    have p : (10 : Int) ^ i ≤ 10 ^ 10 := p10 i (by omega)
    refine Ev.step (fun k => rfl) ?_
    simp only [spec_ReadDecimal.l0, show ¬ ((i : Int) < (t.size : Int)) from by omega, ↓reduceIte, val]
    unfold finRd
    by_cases h9 : n > 1000000000
    · simp only [h9, ↓reduceIte]; exact Ev.now _
    · simp only [h9, ↓reduceIte]
      refine Ev.bind (dec_ev n (by omega) (by omega)) ?_
      by_cases e : itoaB n = t
      · rw [if_pos (by rw [e]), if_pos e]; exact Ev.now _
      · rw [if_neg (fun h => e (toList_inj.1 h)), if_neg e]; exact Ev.now _
  | succ d ih =>
    intro i hi n h0 hn
    have p : (10 : Int) ^ i ≤ 10 ^ 10 := p10 i (by omega)
    have ps : (10 : Int) ^ (i + 1) = 10 ^ i * 10 := Int.pow_succ 10 i
    have r := bt_range t (i : Int)
    rw [drop_bt t i (by omega), val]
    have e1 : wrap64 ((i : Int) + 1) = ((i + 1 : Nat) : Int) := by rw [w64 (by omega) (by omega)]; omega
    refine Ev.step (fun k => rfl) ?_
    simp only [spec_ReadDecimal.l0, show (i : Int) < (t.size : Int) from by omega, show (0 : Int) ≤ (i : Int) from by omega, ↓reduceIte]
    by_cases c1 : bt t (i : Int) < 48
    · simp only [c1, ↓reduceIte]; exact Ev.now _
    · by_cases c2 : bt t (i : Int) > 57
      · simp only [c1, c2, ↓reduceIte]; exact Ev.now _
      · have e2 : wrap64 (wrap64 (wrap64 (10 * n) + wrap64 (bt t (i : Int))) - 48) = 10 * n + bt t (i : Int) - 48 := by
          rw [w64 (n := 10 * n) (by omega) (by omega), w64 (n := bt t (i : Int)) (by omega) (by omega), w64 (n := 10 * n + bt t (i : Int)) (by omega) (by omega), w64 (by omega) (by omega)]
        simp only [c1, c2, ↓reduceIte, e1, e2]
        exact ih (i + 1) (by omega) _ (by omega) (by omega)
theorem sRd_ev (t : ByteArray) : Ev (fun k => spec_ReadDecimal.f k t) (rdOf t) := by
  rw [← rd_eq]
  unfold specRd
  simp only [spec_ReadDecimal.f]
  by_cases h : (t.size : Int) > 10
  · simp only [h, ↓reduceIte]; exact Ev.now _
  · simp only [h, ↓reduceIte]
    exact sRd_l0 t (by omega) t.size 0 (by omega) 0 (by omega) (by simp)
/-! the walks -/
/-- An error variable, as listed. -/
def ErrAt (g : Nat) (w : World) : Prop := ∃ te pe, w.cell? ⟨g, 0, none⟩ = some (.iface te pe)
theorem ErrAt.below {g : Nat} {w w' : World} (h : ErrAt g w) (hb : Below w.heap.size w w') : ErrAt g w' := by
  obtain ⟨te, pe, e⟩ := h
  exact ⟨te, pe, pw_cell_below hb e⟩
theorem atoi_calls (s : ByteArray) (hs : s.size ≤ 1048576) (w : World) (h0 : ErrAt 0 w) (h1 : ErrAt 1 w) :
    Calls Tryd.prog 27 #[.string s] w fun e w' => ∃ n err, e = .returned (.tuple #[.int .i64 n, err]) ∧
      ((err = .nilIface ∧ Lib.atoiAll s.data.toList = .ok n) ∨ ((∃ t p, err = .iface t p) ∧ ∀ v, Lib.atoiAll s.data.toList ≠ .ok v)) ∧ Below w.heap.size w w' := by
  obtain ⟨te0, pe0, e0⟩ := h0
  obtain ⟨te1, pe1, e1⟩ := h1
  cases hh : Lib.atoiAll s.data.toList
  · refine (Any.strconv_Atoi_ok Tryd.laysC172 s (by omega) _ hh w).mono ?_
    rintro e w' ⟨rfl, hw⟩
    refine ⟨_, _, rfl, .inl ⟨rfl, rfl⟩, ?_⟩
    rcases hw with rfl | ⟨t, rfl⟩
    · exact Below.refl _ _
    · exact Lib.bytesWorld_below _ _ _
  · refine (Any.strconv_Atoi_syntax Tryd.laysC172 s (by omega) hh _ w e0 (.inr ⟨_, _, rfl⟩)).mono ?_
    rintro e w' ⟨M, rfl, _, _, hb⟩
    exact ⟨_, _, rfl, .inr ⟨⟨_, _, rfl⟩, fun v h => by cases h⟩, hb⟩
  · refine (Any.strconv_Atoi_range Tryd.laysC172 s (by omega) hh _ w e1 (.inr ⟨_, _, rfl⟩)).mono ?_
    rintro e w' ⟨M, rfl, _, _, hb⟩
    exact ⟨_, _, rfl, .inr ⟨⟨_, _, rfl⟩, fun v h => by cases h⟩, hb⟩
theorem impl_in_eq (a b c : Int) : impl_in.f a b c = some (decide (b ≤ a ∧ a ≤ c)) := by
  unfold impl_in.f
  by_cases h : b ≤ a <;> simp [h, GE.ge]
set_option maxHeartbeats 8000000 in
theorem impl_ReadDecimal.calls (t : ByteArray) (ht : t.size ≤ 1048576) (w : World) (htab : Tab w) (h0 : ErrAt 0 w) (h1 : ErrAt 1 w) :
    Calls Tryd.prog 10 #[.string t] w fun e w' => e = .returned (.tuple #[.int .i64 (rdOf t).1, .bool (rdOf t).2]) ∧ Below w.heap.size w w' := by
  have hu := Tryd.underlying45
  have hc : (∃ v, Lib.atoiAll t.data.toList = .ok v) ∨ ∀ v, Lib.atoiAll t.data.toList ≠ .ok v := by
    cases hh : Lib.atoiAll t.data.toList
    · exact .inl ⟨_, rfl⟩
    · exact .inr (fun v h => by cases h)
    · exact .inr (fun v h => by cases h)
  rcases hc with ⟨v, hh⟩ | hh
  · have hv : rdOf t = implRd t (some v) := by unfold rdOf; rw [hh]
    by_cases hr : 0 ≤ v ∧ v ≤ 1000000000
    · have hi : impl_in.f v 0 1000000000 = some true := by rw [impl_in_eq, decide_eq_true hr]
      by_cases he : itoaB v = t
      · have hq : rdOf t = (v, true) := by rw [hv]; unfold implRd; simp only; rw [if_pos ⟨hr, he⟩]
        rw [hq]
        have k3 : ((itoaB v).toList == t.toList) = true := by rw [he]; exact beq_self_eq_true _
        have k4 : ((itoaB v).toList != t.toList) = false := by rw [he]; exact bne_self_eq_false _
        go_enter Tryd.func10, Tryd.ntmps10
        go_wp2_with (first
          | (go_at_call 27; refine (atoi_calls t ht _ h0 h1).mono ?_; rintro e w1 ⟨n, err, rfl, hor, hb1⟩; obtain ⟨rfl, hn⟩ := hor.resolve_right (fun k => k.2 v hh); obtain rfl : v = n := by (rw [hh] at hn; injection hn))
          | (go_at_call 28; refine (impl_in.calls v 0 1000000000 true _ hi).mono ?_; rintro e w2 ⟨rfl, ⟨nd, rfl⟩⟩)
          | (go_at_call 8; refine (impl_Decimal.calls v (by omega) (by omega) _ (htab.below (pw_below_drewN hb1 _))).mono ?_; rintro e w3 ⟨rfl, hb3⟩))
        go_ret2
        exact ⟨rfl, below_step (pw_below_drewN hb1 _) hb3⟩
      · have hq : rdOf t = (0, false) := by rw [hv]; unfold implRd; simp only; rw [if_neg (fun h => he h.2)]
        rw [hq]
        have k3 : ((itoaB v).toList == t.toList) = false := beq_eq_false_iff_ne.mpr (fun h => he (toList_inj.1 h))
        have k4 : ((itoaB v).toList != t.toList) = true := bne_iff_ne.mpr (fun h => he (toList_inj.1 h))
        go_enter Tryd.func10, Tryd.ntmps10
        go_wp2_with (first
          | (go_at_call 27; refine (atoi_calls t ht _ h0 h1).mono ?_; rintro e w1 ⟨n, err, rfl, hor, hb1⟩; obtain ⟨rfl, hn⟩ := hor.resolve_right (fun k => k.2 v hh); obtain rfl : v = n := by (rw [hh] at hn; injection hn))
          | (go_at_call 28; refine (impl_in.calls v 0 1000000000 true _ hi).mono ?_; rintro e w2 ⟨rfl, ⟨nd, rfl⟩⟩)
          | (go_at_call 8; refine (impl_Decimal.calls v (by omega) (by omega) _ (htab.below (pw_below_drewN hb1 _))).mono ?_; rintro e w3 ⟨rfl, hb3⟩))
        go_ret2
        exact ⟨rfl, below_step (pw_below_drewN hb1 _) hb3⟩
    · have hi : impl_in.f v 0 1000000000 = some false := by rw [impl_in_eq, decide_eq_false hr]
      have hq : rdOf t = (0, false) := by rw [hv]; unfold implRd; simp only; rw [if_neg (fun h => hr h.1)]
      rw [hq]
      go_enter Tryd.func10, Tryd.ntmps10
      go_wp2_with (first
        | (go_at_call 27; refine (atoi_calls t ht _ h0 h1).mono ?_; rintro e w1 ⟨n, err, rfl, hor, hb1⟩; obtain ⟨rfl, hn⟩ := hor.resolve_right (fun k => k.2 v hh); obtain rfl : v = n := by (rw [hh] at hn; injection hn))
        | (go_at_call 28; refine (impl_in.calls v 0 1000000000 false _ hi).mono ?_; rintro e w2 ⟨rfl, ⟨nd, rfl⟩⟩))
      go_ret2
      exact ⟨rfl, pw_below_drewN hb1 _⟩
  · have hq : rdOf t = (0, false) := by
      unfold rdOf
      split
      · next v hv => exact absurd hv (hh v)
      · rfl
    rw [hq]
    go_enter Tryd.func10, Tryd.ntmps10
    go_wp2_with (first
      | (go_at_call 27; refine (atoi_calls t ht _ h0 h1).mono ?_; rintro e w1 ⟨n, err, rfl, hor, hb1⟩; obtain ⟨⟨te, pe, rfl⟩, hn⟩ := hor.resolve_left (fun k => hh n k.2)))
    go_ret2
    exact ⟨rfl, hb1⟩
set_option maxHeartbeats 8000000 in
theorem law_walk (t : ByteArray) (w : World) (htab : Tab w) (h0 : ErrAt 0 w) (h1 : ErrAt 1 w) :
    Calls Tryd.prog 4 #[.string t] w fun e w' => e = .returned (.bool true) ∧ Below w.heap.size w w' := by
  by_cases hb : (t.size : Int) > 1048576
  · have b0 : decide (1048576 < (t.size : Int)) = true := decide_eq_true hb
    have b1 : decide (1048576 < t.size) = true := decide_eq_true (by omega)
    go_enter Tryd.func4, Tryd.ntmps4
    go_wp2
    go_ret
    exact ⟨rfl, Below.refl _ _⟩
  · have b0 : decide (1048576 < (t.size : Int)) = false := decide_eq_false (by omega)
    have b1 : decide (1048576 < t.size) = false := decide_eq_false (by omega)
    obtain ⟨k, hk⟩ := sRd_ev t
    have hk := hk k (Nat.le_refl _)
    go_enter Tryd.func4, Tryd.ntmps4
    go_wp2_with (first
      | (go_at_call 9; refine (spec_ReadDecimal.calls k t (rdOf t).1 (rdOf t).2 _ hk).mono ?_; rintro e w1 ⟨rfl, hb1⟩)
      | (go_at_call 10; refine (impl_ReadDecimal.calls t (by omega) _ (htab.below hb1) (h0.below hb1) (h1.below hb1)).mono ?_; rintro e w2 ⟨rfl, hb2⟩))
    go_ret
    exact ⟨rfl, below_step hb1 hb2⟩
end Go.Proofs.YtbiapgneafgdeaaDoor.Rd
