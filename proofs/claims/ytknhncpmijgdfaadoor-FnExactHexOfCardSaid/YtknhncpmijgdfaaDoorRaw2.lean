/- What the reference's l2raw (function 16 here) returns at every float64 that is no NaN: its sign and its lower 63 bits. No condition. -/
import Derived.Test.YtknhncpmijgdfaaDoorRaw
namespace Go.Proofs.YtknhncpmijgdfaaDoor
open Go.RowKit
open Flt
open Ieee

set_option maxRecDepth 100000 in
set_option maxHeartbeats 400000 in
theorem raw_zero (s : Bool) (x y r : Nat) (w : World) (hxx : FloatKind.f64.format.order x x = some .eq) (hx0 : FloatKind.f64.format.order x 0 = some .eq)
    (hd : FloatKind.f64.format.div 4607182418800017408 x = some r) (hr : FloatKind.f64.format.order r 0 = some (cond s .lt .gt)) (hng : Op.negFloat .f64 x = y) (hy0 : FloatKind.f64.format.order y 0 = some .eq) :
    Calls Tryd.prog 16 #[.float .f64 x] w fun e w' => e = .returned (.tuple #[.bool s, .int .u64 0]) ∧ w' = w := by
  have hdr : ∀ t w, (binOp .quo t (.float .f64 4607182418800017408) (.float .f64 x)).run Tryd.prog w = .ok (.float .f64 r) w := fun t w => run_float_arith w .quo t .f64 _ _ _ hd
  clear hd
  cases s
  all_goals simp only [cond_true, cond_false] at hr
  all_goals
    go_enter Tryd.func16, Tryd.ntmps16
    go_wp2
    go_ret2
    exact ⟨rfl, rfl⟩

set_option maxRecDepth 100000 in
set_option maxHeartbeats 400000 in
theorem raw_inf (s : Bool) (x y : Nat) (w : World) (hxx : FloatKind.f64.format.order x x = some .eq) (hx0 : FloatKind.f64.format.order x 0 = some (cond s .lt .gt))
    (hng : cond s (Op.negFloat .f64 x) x = y) (hy0 : FloatKind.f64.format.order y 0 = some .gt) (hmx : FloatKind.f64.format.order y 9218868437227405311 = some .gt) :
    Calls Tryd.prog 16 #[.float .f64 x] w fun e w' => e = .returned (.tuple #[.bool s, .int .u64 9218868437227405312]) ∧ w' = w := by
  cases s
  all_goals simp only [cond_true, cond_false] at hx0 hng
  · subst hng
    go_enter Tryd.func16, Tryd.ntmps16
    go_wp2
    go_ret2
    exact ⟨rfl, rfl⟩
  · go_enter Tryd.func16, Tryd.ntmps16
    go_wp2
    go_ret2
    exact ⟨rfl, rfl⟩

theorem order_self {v : Nat} (s : Bool) (hv : Rep v) : FloatKind.f64.format.order (fl s v) (fl s v) = some .eq := by
  show double.order _ _ = _; rw [order_fl s s hv hv, Int.compare_eq_eq.2 rfl]
theorem order_zero {v : Nat} (s : Bool) (hv : Rep v) (h0 : v ≠ 0) : FloatKind.f64.format.order (fl s v) 0 = some (cond s .lt .gt) := by
  show double.order _ _ = _
  rw [← fl_zero_false, order_fl s false hv rep_zero]
  cases s
  · exact congrArg some (Int.compare_eq_gt.2 (by simp [sv]; omega))
  · exact congrArg some (Int.compare_eq_lt.2 (by simp [sv]; omega))
theorem order_mx {v : Nat} (hv : Rep v) : (FloatKind.f64.format.order (fl false v) 9218868437227405311 == some .gt) = false := by
  rw [← fl_mx]
  show (double.order _ _ == _) = _
  rw [order_fl false false hv rep_mx]
  have h : ¬ compare (sv false v) (sv false mx) = .gt := by
    rw [Int.compare_eq_gt]
    have := le_mx hv
    simp [sv]; omega
  cases hc : compare (sv false v) (sv false mx) <;> first | rfl | exact absurd hc h

theorem cond_neg {v : Nat} (s : Bool) (hv : Rep v) : cond s (Op.negFloat .f64 (fl s v)) (fl s v) = fl false v := by
  cases s
  · rfl
  · exact neg_fl true hv
theorem cond_neg_inf (s : Bool) : cond s (Op.negFloat .f64 (double.word s 9218868437227405312)) (double.word s 9218868437227405312) = double.word false 9218868437227405312 := by
  cases s
  · rfl
  · exact neg_word true _ (by omega)

/-- EVERY WORD THAT IS NO NaN -/
theorem raw_word (s : Bool) (r : Nat) (hr : r ≤ 9218868437227405312) (w : World) :
    Calls Tryd.prog 16 #[.float .f64 (double.word s r)] w fun e w' => e = .returned (.tuple #[.bool s, .int .u64 r]) ∧ w' = w := by
  by_cases h1 : r = 9218868437227405312
  · subst h1
    refine raw_inf s _ _ w ?_ ?_ (cond_neg_inf s) ?_ ?_
    · show double.order _ _ = _; rw [order_inf_inf]; cases s <;> rfl
    · show double.order _ _ = _; rw [← fl_zero_false, order_inf_fl s false rep_zero]; cases s <;> rfl
    · show double.order _ _ = _; rw [← fl_zero_false, order_inf_fl false false rep_zero]; rfl
    · show double.order _ _ = _; rw [← fl_mx, order_inf_fl false false rep_mx]; rfl
  · by_cases h0 : r = 0
    · subst h0
      have hz : double.word s 0 = fl s 0 := (fl_zero s).symm
      have ho : ∀ s', FloatKind.f64.format.order (fl s' 0) 0 = some .eq := by
        intro s'
        have e := order_fl s' false rep_zero rep_zero
        rw [fl_zero_false] at e
        refine e.trans ?_
        cases s' <;> rfl
      refine raw_zero s _ (fl (!s) 0) (double.word s 9218868437227405312) w ?_ ?_ (one_over_zero s) ?_ ?_ (ho _)
      · rw [hz]; exact order_self s rep_zero
      · rw [hz]; exact ho s
      · show double.order _ _ = _; rw [← fl_zero_false, order_inf_fl s false rep_zero]; cases s <;> rfl
      · rw [hz]; exact neg_fl s rep_zero
    · by_cases h2 : r < 4503599627370496
      · have hn : Nrm (r * 2 ^ 0) r 0 := ⟨by omega, Or.inl rfl, by omega, rfl⟩
        have hv := hn.rep
        have hw : double.word s r = fl s (r * 2 ^ 0) := by rw [fl_nrm s hn, Nat.zero_mul, Nat.zero_add]
        have hv0 : r * 2 ^ 0 ≠ 0 := by omega
        rw [hw]
        exact raw_sub s _ _ r w rfl h2 (order_self s hv) (order_zero s hv hv0) (cond_neg s hv) (order_zero false hv hv0) (order_mx hv)
      · generalize hq : 4503599627370496 + r % 4503599627370496 = q
        generalize ht : r / 4503599627370496 - 1 = t
        have hn : Nrm (q * 2 ^ t) q t := ⟨by omega, Or.inr (by omega), by omega, rfl⟩
        have hv := hn.rep
        have er : r = t * 4503599627370496 + q := by omega
        have hw : double.word s r = fl s (q * 2 ^ t) := by rw [fl_nrm s hn, ← er]
        have hv0 : q * 2 ^ t ≠ 0 := Nat.mul_ne_zero (by omega) (Nat.ne_of_gt (Nat.two_pow_pos t))
        rw [hw, er]
        exact raw_norm s _ _ q t w rfl hn.1 (by omega) hn.2.2.1 (order_self s hv) (order_zero s hv hv0) (cond_neg s hv) (order_zero false hv hv0) (order_mx hv)
end Go.Proofs.YtknhncpmijgdfaaDoor
