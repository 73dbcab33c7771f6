/- What FromBits returns, the reference's and the program's (functions 17 and 18 here): of the int64 of a word that word; of a NaN's some NaN. And sameFloat (19) at equal words and at two NaNs. No condition. -/
import Derived.Test.YtknhncpmijgdfaaFromC
namespace Go.Proofs.Ytknhncpmijgdfaa
open Go.RowKit
open Flt Ieee

theorem word_lt (s : Bool) (r : Nat) (h : r < 9223372036854775808) : double.word s r < 18446744073709551616 := by
  unfold Format.word; rw [signWeight_eq]; split <;> omega
theorem word_hi (s : Bool) (r : Nat) (h : r < 9223372036854775808) : ((double.word s r : Nat) : Int) / 9223372036854775808 = if s then 1 else 0 := by
  unfold Format.word; rw [signWeight_eq]; cases s <;> simp <;> omega
theorem word_sign (s : Bool) (r : Nat) (h : r < 9223372036854775808) : (((double.word s r : Nat) : Int) / 9223372036854775808 == 1) = s := by
  rw [word_hi s r h]; cases s <;> rfl
theorem word_exp (s : Bool) (r : Nat) (h : r < 9223372036854775808) : bits .and .u64 (((double.word s r : Nat) : Int) / 4503599627370496) 2047 = ((r / 4503599627370496 : Nat) : Int) := by
  have hl := word_lt s r h
  have e : ((double.word s r : Nat) : Int) / 4503599627370496 = ((double.word s r / 4503599627370496 : Nat) : Int) := by omega
  rw [e, and_2047 _ (by omega)]
  congr 1
  unfold Format.word; rw [signWeight_eq]; cases s <;> simp <;> omega
theorem word_man (s : Bool) (r : Nat) (h : r < 9223372036854775808) : bits .and .u64 ((double.word s r : Nat) : Int) 4503599627370495 = ((r % 4503599627370496 : Nat) : Int) := by
  rw [and_52 _ (word_lt s r h)]
  congr 1
  unfold Format.word; rw [signWeight_eq]; cases s <;> simp <;> omega
theorem cond_word (s : Bool) (r : Nat) (h : r < 9223372036854775808) : cond s (Op.negFloat .f64 (double.word false r)) (double.word false r) = double.word s r := by
  cases s
  · rfl
  · exact neg_word false r h
theorem fq_word (q n : Nat) (h1 : q < 9007199254740992) (h2 : n = 0 ∨ 4503599627370496 ≤ q) (h3 : n ≤ 2045) : fq q n = double.word false (n * 4503599627370496 + q) := fl_qt false q n h1 h2 h3

theorem from_word (s : Bool) (r : Nat) (hr : r ≤ 9218868437227405312) (n : Int) (hu : IntKind.u64.wrap n = (double.word s r : Nat)) (w : World) :
    Calls Try.prog 17 #[.int .i64 n] w fun e w' => e = .returned (.float .f64 (double.word s r)) ∧ w' = w := by
  have hs := word_sign s r (by omega)
  have hE := word_exp s r (by omega)
  have hM := word_man s r (by omega)
  by_cases h1 : r = 9218868437227405312
  · subst h1
    have := from_inf n _ s w hu (by omega) hs (by rw [hE]; rfl) (by rw [hM]; rfl)
    rw [show (9218868437227405312 : Nat) = double.word false 9218868437227405312 from rfl, cond_word s _ (by omega)] at this
    exact this
  · by_cases h2 : r < 4503599627370496
    · have := from_sub n _ r s w hu (by omega) hs (by rw [hE, Nat.div_eq_of_lt h2]; rfl) (by rw [hM, Nat.mod_eq_of_lt h2]) h2
      rw [fq_word r 0 (by omega) (Or.inl rfl) (by omega), Nat.zero_mul, Nat.zero_add, cond_word s _ (by omega)] at this
      exact this
    · have := from_norm n _ (r % 4503599627370496) (r / 4503599627370496 - 1) s w hu (by omega) hs (by rw [hE]; omega) (by omega) hM (by omega) (or_52 _ (by omega))
      rw [fq_word _ _ (by omega) (Or.inr (by omega)) (by omega), cond_word s _ (by omega)] at this
      have e : (r / 4503599627370496 - 1) * 4503599627370496 + (4503599627370496 + r % 4503599627370496) = r := by omega
      rw [e] at this
      exact this

theorem from_word_nan (s : Bool) (t : Nat) (h0 : t ≠ 0) (h1 : t < 4503599627370496) (n : Int) (hu : IntKind.u64.wrap n = (double.word s (9218868437227405312 + t) : Nat)) (w : World) :
    Calls Try.prog 17 #[.int .i64 n] w (SomeNan w) := by
  have hE := word_exp s (9218868437227405312 + t) (by omega)
  have hM := word_man s (9218868437227405312 + t) (by omega)
  refine from_nan n _ t w hu (by omega) (by rw [hE]; omega) (by rw [hM]; omega) (by simpa using h0)

theorem frombits_run (n : Int) (w : World) : (callFunc 34 #[.int .u64 n]).run Try.prog w = .ok (.value (.float .f64 n.toNat)) w := by
  rw [run_callFunc_extern (e := Extern.MathFloatBits.float64frombits) Try.func34 (by kernel_rfl) (by kernel_rfl) (by kernel_rfl) (by kernel_rfl)]; rfl

set_option maxRecDepth 100000 in
set_option maxHeartbeats 400000 in
theorem implfrom_any (n : Int) (x : Nat) (w : World) (hu : IntKind.u64.wrap n = (x : Int)) : Calls Try.prog 18 #[.int .i64 n] w fun e w' => e = .returned (.float .f64 x) ∧ w' = w := by
  have hb : ∀ w, (callFunc 34 #[.int .u64 (x : Int)]).run Try.prog w = .ok (.value (.float .f64 x)) w := fun w => frombits_run x w
  go_enter Try.func18, Try.ntmps18
  go_wp2
  go_ret
  exact ⟨rfl, rfl⟩

set_option maxRecDepth 100000 in
set_option maxHeartbeats 400000 in
theorem same_nan (a b : Nat) (w : World) (ha : FloatKind.f64.format.order a a = none) (hb : FloatKind.f64.format.order b b = none) : Calls Try.prog 19 #[.float .f64 a, .float .f64 b] w fun e w' => e = .returned (.bool true) ∧ w' = w := by
  go_enter Try.func19, Try.ntmps19
  go_wp2
  go_ret
  exact ⟨rfl, rfl⟩

set_option maxRecDepth 100000 in
set_option maxHeartbeats 400000 in
theorem same_zero (a r : Nat) (w : World) (ha : FloatKind.f64.format.order a a = some .eq) (h0 : FloatKind.f64.format.order a 0 = some .eq) (hd : FloatKind.f64.format.div 4607182418800017408 a = some r) : Calls Try.prog 19 #[.float .f64 a, .float .f64 a] w fun e w' => e = .returned (.bool true) ∧ w' = w := by
  have hdr : ∀ t w, (binOp .quo t (.float .f64 4607182418800017408) (.float .f64 a)).run Try.prog w = .ok (.float .f64 r) w := fun t w => run_float_arith w .quo t .f64 _ _ _ hd
  clear hd
  go_enter Try.func19, Try.ntmps19
  go_wp2
  all_goals (go_ret; exact ⟨rfl, rfl⟩)

set_option maxRecDepth 100000 in
set_option maxHeartbeats 400000 in
theorem same_other (a : Nat) (w : World) (ha : FloatKind.f64.format.order a a = some .eq) (h0 : (FloatKind.f64.format.order a 0 == some .eq) = false) : Calls Try.prog 19 #[.float .f64 a, .float .f64 a] w fun e w' => e = .returned (.bool true) ∧ w' = w := by
  go_enter Try.func19, Try.ntmps19
  go_wp2
  go_ret
  exact ⟨rfl, rfl⟩

/-- sameFloat at one word that is no NaN -/
theorem same_word (s : Bool) (r : Nat) (hr : r ≤ 9218868437227405312) (w : World) : Calls Try.prog 19 #[.float .f64 (double.word s r), .float .f64 (double.word s r)] w fun e w' => e = .returned (.bool true) ∧ w' = w := by
  by_cases h0 : r = 0
  · subst h0
    have ho : FloatKind.f64.format.order (fl s 0) 0 = some .eq := by
      have e := order_fl s false rep_zero rep_zero
      rw [fl_zero_false] at e
      refine e.trans ?_
      cases s <;> rfl
    rw [fl_zero s] at ho
    exact same_zero _ _ w (by rw [← fl_zero s]; exact order_self s rep_zero) ho (one_over_zero s)
  · rcases words (double.word s r) (word_lt s r (by omega)) with ⟨s', v, hv, e⟩ | ⟨s', e⟩ | ⟨s', t, h1, h2, e⟩
    · rw [e]
      refine same_other _ w (order_self s' hv) ?_
      by_cases hv0 : v = 0
      · exfalso
        subst hv0
        rw [fl_zero] at e
        unfold Format.word at e; rw [signWeight_eq] at e
        cases s <;> cases s' <;> simp at e <;> omega
      · rw [order_zero s' hv hv0]; cases s' <;> rfl
    · rw [e]
      refine same_other _ w ?_ ?_
      · show double.order _ _ = _; rw [order_inf_inf]; cases s' <;> rfl
      · have h := order_inf_fl s' false rep_zero
        rw [fl_zero_false] at h
        show (double.order _ _ == _) = _
        rw [h]; cases s' <;> rfl
    · exfalso
      unfold Format.word at e; rw [signWeight_eq] at e
      cases s <;> cases s' <;> simp at e <;> omega
end Go.Proofs.Ytknhncpmijgdfaa
