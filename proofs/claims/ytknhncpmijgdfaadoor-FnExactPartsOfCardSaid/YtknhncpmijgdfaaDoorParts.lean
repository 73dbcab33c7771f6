/- What PartsOf returns, the reference's and the program's (functions 7 and 8 here), at every float64: one and the same struct. Condition: the table of TrailingZeros64 in the world. -/
import Derived.Test.YtknhncpmijgdfaaDoorPartsI
namespace Go.Proofs.YtknhncpmijgdfaaDoor
open Go.RowKit
open Flt Ieee

theorem word_lt (s : Bool) (r : Nat) (h : r < 9223372036854775808) : double.word s r < 18446744073709551616 := by
  unfold Format.word; rw [signWeight_eq]; split <;> omega
theorem word_exp (s : Bool) (r : Nat) (h : r < 9223372036854775808) : bits .and .u64 (((double.word s r : Nat) : Int) / 4503599627370496) 2047 = ((r / 4503599627370496 : Nat) : Int) := by
  have hl := word_lt s r h
  have e : ((double.word s r : Nat) : Int) / 4503599627370496 = ((double.word s r / 4503599627370496 : Nat) : Int) := by omega
  rw [e, and_2047 _ (by omega)]
  congr 1
  unfold Format.word; rw [signWeight_eq]; cases s <;> simp <;> omega
theorem word_man (s : Bool) (r : Nat) (h : r < 9223372036854775808) : bits .and .u64 ((double.word s r : Nat) : Int) 4503599627370495 = ((r % 4503599627370496 : Nat) : Int) := by
  rw [and_52 _ (word_lt s r h)]
  congr 1
  unfold Format.word; rw [signWeight_eq]; cases s <;> simp <;> omega
theorem word_abs (s : Bool) (r : Nat) (h : r < 9223372036854775808) : bits .andNot .u64 ((double.word s r : Nat) : Int) 9223372036854775808 = (r : Int) := by
  have := u64_andNot_nat (double.word s r) 9223372036854775808 (word_lt s r h) (by omega)
  rw [show (((9223372036854775808 : Nat) : Int)) = 9223372036854775808 by omega] at this
  rw [this, show (18446744073709551615 - 9223372036854775808 : Nat) = 2 ^ 63 - 1 by decide, Nat.and_two_pow_sub_one_eq_mod, show (2 : Nat) ^ 63 = 9223372036854775808 by decide]
  congr 1
  unfold Format.word; rw [signWeight_eq]; cases s <;> simp <;> omega
theorem word_neg (s : Bool) (r : Nat) (h : r < 9223372036854775808) : decide (wrap64 ((double.word s r : Nat) : Int) < 0) = s := by
  unfold Format.word wrap64; rw [signWeight_eq]; cases s <;> simp <;> omega
theorem word_cases (x : Nat) (hx : x < 18446744073709551616) : FloatKind.f64.format.order x x = none ∨ ∃ s r, r ≤ 9218868437227405312 ∧ x = double.word s r := by
  rcases words x hx with ⟨s, v, hv, rfl⟩ | ⟨s, rfl⟩ | ⟨s, t, h0, h1, rfl⟩
  · exact Or.inr ⟨s, rungOf v, by have := rungOf_lt hv; omega, rfl⟩
  · exact Or.inr ⟨s, _, Nat.le_refl _, rfl⟩
  · exact Or.inl (order_nan_left s t h0 h1 _)

/-- a finite word by its rung: its size -/
theorem word_fl (r : Nat) (hr : r < 9218868437227405312) : ∃ v, Rep v ∧ (∀ s', double.word s' r = fl s' v) ∧ (r ≠ 0 → v ≠ 0) := by
  by_cases h2 : r < 4503599627370496
  · have hn : Nrm (r * 2 ^ 0) r 0 := ⟨by omega, Or.inl rfl, by omega, rfl⟩
    exact ⟨_, hn.rep, fun s' => by rw [fl_nrm s' hn, Nat.zero_mul, Nat.zero_add], by omega⟩
  · generalize hq : 4503599627370496 + r % 4503599627370496 = q
    generalize ht : r / 4503599627370496 - 1 = t
    have hn : Nrm (q * 2 ^ t) q t := ⟨by omega, Or.inr (by omega), by omega, rfl⟩
    have er : r = t * 4503599627370496 + q := by omega
    exact ⟨_, hn.rep, fun s' => by rw [fl_nrm s' hn, ← er], fun _ => Nat.mul_ne_zero (by omega) (Nat.ne_of_gt (Nat.two_pow_pos t))⟩

theorem ctz_le (m0 d c : Nat) (hm : m0 < 9007199254740992) (h : m0 = od d c) : c ≤ 52 := by
  rcases Nat.lt_or_ge c 53 with h1 | h1
  · omega
  · exfalso
    have h2 : (2 : Nat) ^ 53 ≤ 2 ^ c := Nat.pow_le_pow_right (by omega) h1
    rw [show (2 : Nat) ^ 53 = 9007199254740992 by decide] at h2
    have h3 : 2 ^ c * 1 ≤ 2 ^ c * (2 * d + 1) := Nat.mul_le_mul_left _ (by omega)
    unfold od at h
    omega

/-- BOTH PartsOf's AT A FINITE NUMBER: but for the sign what they tell hangs on the rung alone -/
theorem parts_fin (r : Nat) (hr : r < 9218868437227405312) (h0 : r ≠ 0) : ∃ m e : Int, (0 ≤ m ∧ m < 9007199254740992 ∧ -1074 ≤ e ∧ e ≤ 2046) ∧ ∀ s, (∀ w, Calls Tryd.prog 7 #[.float .f64 (double.word s r)] w (Prt 1 s m e w)) ∧ (∀ w, TabAt w → Calls Tryd.prog 8 #[.float .f64 (double.word s r)] w (Prt 1 s m e w)) := by
  obtain ⟨v, hv, hw, hv0⟩ := word_fl r hr
  have hc := fun s => raw_word s r (by omega)
  have hself : ∀ s, FloatKind.f64.format.order (double.word s r) (double.word s r) = some .eq := fun s => by rw [hw]; exact order_self s hv
  have habs := fun s => word_abs s r (by omega)
  have hmx : (FloatKind.f64.format.order r 9218868437227405311 == some .gt) = false := by
    have e : double.word false r = r := rfl
    rw [← e, hw]; exact order_mx hv
  have hz : ∀ s, FloatKind.f64.format.order (double.word s r) 0 = some (cond s .lt .gt) := fun s => by rw [hw]; exact order_zero s hv (hv0 h0)
  have hE := fun s => word_exp s r (by omega)
  have hM := fun s => word_man s r (by omega)
  have hr0 : ((r : Int) == 0) = false := by simp; omega
  have hM' : bits .and .u64 (r : Int) 4503599627370495 = ((r % 4503599627370496 : Nat) : Int) := and_52 r (by omega)
  by_cases h2 : r < 4503599627370496
  · rw [Nat.mod_eq_of_lt h2] at hM hM'
    rw [Nat.div_eq_of_lt h2] at hE
    obtain ⟨d, hd⟩ := od_ctz r h0 (by omega)
    generalize hcc : Lib.ctz 64 r = c at hd
    have hc52 := ctz_le r d c (by omega) hd
    have hmono := od_mono d 0 c
    rw [Nat.zero_add, ← hd] at hmono
    refine ⟨(od d 0 : Nat), -1074 + c, by omega, fun s => ⟨fun w => sparts_sub _ r c d s w (hself s) (hc s) hr0 (by omega) (by rw [hM', ← hd]) (by omega) hc52,
      fun w hT => iparts_sub _ _ r d c s w (fun w' hb => by rw [← hcc]; exact tz64_any r (by omega) h0 w' (tab_below hT hb)) (hself s) (habs s) hmx (hz s) (hE s) (hM s) (by omega) hc52 ?_⟩⟩
    rw [hd]; exact od_div d c
  · generalize hE' : r / 4503599627370496 = E at hE
    generalize hq' : r % 4503599627370496 = q at hM hM'
    obtain ⟨d, hd⟩ := od_ctz (4503599627370496 + q) (by omega) (by omega)
    generalize hcc : Lib.ctz 64 (4503599627370496 + q) = c at hd
    have hc52 := ctz_le _ d c (by omega) hd
    have hmono := od_mono d 0 c
    rw [Nat.zero_add, ← hd] at hmono
    refine ⟨(od d 0 : Nat), (E : Int) - 1075 + c, by omega, fun s => ⟨fun w => sparts_norm _ r c d E q s w (hself s) (hc s) hr0 (by omega) (by simp; omega) (by omega) (by omega) hM' (by rw [or_52 q (by omega), hd]) (by omega) hc52,
      fun w hT => iparts_norm _ _ (4503599627370496 + q) d c E q s w (fun w' hb => by rw [← hcc]; exact tz64_any _ (by omega) (by omega) w' (tab_below hT hb)) (hself s) (habs s) hmx (hz s) (hE s) (by simp; omega) (by omega) (hM s) (by omega) (by omega) (by omega) hc52 ?_⟩⟩
    rw [hd]; exact od_div d c

/-- BOTH PartsOf's, EVERY FLOAT -/
theorem parts_both (x : Nat) (hx : x < 18446744073709551616) : ∃ k s m e, (∀ w, Calls Tryd.prog 7 #[.float .f64 x] w (Prt k s m e w)) ∧ (∀ w, TabAt w → Calls Tryd.prog 8 #[.float .f64 x] w (Prt k s m e w)) := by
  rcases word_cases x hx with h | ⟨s, r, hr, rfl⟩
  · exact ⟨3, false, 0, 0, fun w => sparts_nan x w h, fun w _ => iparts_nan x w h⟩
  · have hc := raw_word s r hr
    by_cases h1 : r = 9218868437227405312
    · subst h1
      have hs : FloatKind.f64.format.order (double.word s 9218868437227405312) (double.word s 9218868437227405312) = some .eq := by
        show double.order _ _ = _; rw [order_inf_inf]; cases s <;> rfl
      have hz : FloatKind.f64.format.order (double.word s 9218868437227405312) 0 = some (cond s .lt .gt) := by
        have e := order_inf_fl s false rep_zero
        rw [fl_zero_false] at e
        refine e.trans ?_
        cases s <;> rfl
      have hm : FloatKind.f64.format.order 9218868437227405312 9218868437227405311 = some .gt := by
        have e := order_inf_fl false false rep_mx
        rw [fl_mx] at e; exact e
      exact ⟨2, s, 0, 0, fun w => sparts_inf _ s w hs hc, fun w _ => iparts_inf _ _ s w hs (word_abs s _ (by omega)) hm hz⟩
    · obtain ⟨v, hv, hw, hv0⟩ := word_fl r (by omega)
      have hself : FloatKind.f64.format.order (double.word s r) (double.word s r) = some .eq := by rw [hw]; exact order_self s hv
      have habs := word_abs s r (by omega)
      have hmx : (FloatKind.f64.format.order r 9218868437227405311 == some .gt) = false := by
        have e : double.word false r = r := rfl
        rw [← e, hw]; exact order_mx hv
      by_cases h0 : r = 0
      · subst h0
        have ho : FloatKind.f64.format.order (double.word s 0) 0 = some .eq := by
          have e := order_fl s false rep_zero rep_zero
          rw [fl_zero_false, fl_zero] at e
          refine e.trans ?_
          cases s <;> rfl
        exact ⟨0, s, 0, 0, fun w => sparts_zero _ s w hself hc, fun w _ => iparts_zero _ _ s w hself habs hmx ho (word_neg s 0 (by omega))⟩
      · obtain ⟨m, e, _, hp⟩ := parts_fin r (by omega) h0
        exact ⟨1, s, m, e, (hp s).1, (hp s).2⟩

theorem parts_any (x : Nat) (w : World) (hx : x < 18446744073709551616) (hT : TabAt w) : Calls Tryd.prog 3 #[.float .f64 x] w fun e w' => e = .returned (.bool true) ∧ Below w.heap.size w w' := by
  obtain ⟨k, s, m, e, h1, h2⟩ := parts_both x hx
  exact parts_law x k m e s w (fun w' _ => h1 w') (fun w' hb => h2 w' (tab_below hT hb))
end Go.Proofs.YtknhncpmijgdfaaDoor
