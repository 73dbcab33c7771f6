/- The greatest whole number not above a float, by words: plain law; no program. No condition. -/
import Derived.Test.YtknhncpmijgdfaaFltD
namespace Go.Proofs.Ytknhncpmijgdfaa.Flt
open Ieee

/-- its size -/
def flk (s : Bool) (v : Nat) : Nat := v / one + (s && v % one != 0).toNat
/-- its word -/
def flo (s : Bool) (v : Nat) : Nat := fl s (flk s v * one)

theorem rep_flk {v : Nat} (s : Bool) (h : Rep v) : Rep (flk s v * one) := by
  unfold flk
  by_cases hc : (s && v % one != 0) = true
  · rw [hc]
    simp only [Bool.and_eq_true, bne_iff_ne, ne_eq] at hc
    exact rep_cut_up h hc.2
  · have hc' : (s && v % one != 0) = false := by simpa using hc
    rw [hc']
    exact rep_cut h

theorem integral_write {v : Nat} (s : Bool) (h : Rep v) : FloatKind.f64.encode ((FloatKind.f64.decode (fl s v)).integral .down) = flo s v := by
  show double.write ((double.read (fl s v)).integral .down) = _
  rw [integral_fl s h]
  exact write_whole s (flk s v) (rep_flk s h)

theorem div_mod_one (v : Nat) : v / one * one + v % one = v := by
  have := Nat.div_add_mod v one
  rw [Nat.mul_comm] at this; exact this

theorem big_whole {v : Nat} (h : Rep v) (hb : 9223372036854775808 * one ≤ v) : v % one = 0 := by
  obtain ⟨q, t, h1⟩ := h.nrm
  refine big_mod h1 ?_
  obtain ⟨hq, _, _, hv⟩ := h1
  rcases Nat.lt_or_ge t 1074 with hc | hc
  · exfalso
    obtain ⟨K, hK, ho⟩ := one_eq
    have h2 : q * 2 ^ t < 9007199254740992 * 2 ^ t := (Nat.mul_lt_mul_right (Nat.two_pow_pos t)).2 hq
    have h3 : 2 ^ t ≤ 2 ^ K := Nat.pow_le_pow_right (by omega) (by omega)
    rw [ho] at hb
    have h4 := Nat.mul_le_mul_left 9007199254740992 h3
    omega
  · exact hc
theorem flo_whole {v : Nat} (s : Bool) (h : v % one = 0) : flo s v = fl s v := by
  unfold flo flk
  have := div_mod_one v
  rw [h] at this ⊢
  simp only [bne_self_eq_false, Bool.and_false, Bool.toNat_false, Nat.add_zero]
  rw [Nat.add_zero] at this
  rw [this]

theorem sv_false (v : Nat) : sv false v = (v : Int) := rfl
theorem sv_true (v : Nat) : sv true v = -(v : Int) := rfl

/-- between the two bounds of an int64: the cut number -/
theorem cut_lt {v : Nat} (h : v < 9223372036854775808 * one) : v / one < 9223372036854775808 := Nat.div_lt_of_lt_mul (by rw [Nat.mul_comm]; exact h)

theorem toI64_fl {v : Nat} (s : Bool) (h : Rep v) (hv : v < 9223372036854775808 * one) : floatToIntVal .f64 (fl s v) .i64 = some (sv s (v / one)) := by
  have h1 : (FloatKind.f64.decode (fl s v)).toInt .zero = some (sv s (v / one)) := toInt_fl s h
  have h2 := cut_lt hv
  unfold floatToIntVal
  rw [h1]
  simp only
  rw [if_pos]
  simp only [IntKind.min, IntKind.max, IntKind.signed, IntKind.bits]
  generalize v / one = k at *
  cases s
  · rw [sv_false]; simp; omega
  · rw [sv_true]; simp; omega

/-- the cut number as a float -/
theorem back_fl {v : Nat} (s : Bool) (h : Rep v) : floatOfInt .f64 (sv s (v / one)) = fl (decide (sv s (v / one) < 0)) (v / one * one) := by
  have e : (sv s (v / one)).natAbs = v / one := by
    generalize v / one = k
    cases s
    · rw [sv_false, Int.natAbs_natCast]
    · rw [sv_true, Int.natAbs_neg, Int.natAbs_natCast]
  have := nearest_int (sv s (v / one)) (by rw [e]; exact rep_cut h)
  rw [e] at this
  exact this

theorem ord_eq {v u : Nat} (s s' : Bool) (hv : Rep v) (hu : Rep u) (o : Ordering) (h : compare (sv s v) (sv s' u) = o) : FloatKind.f64.format.order (fl s v) (fl s' u) = some o := by
  show double.order _ _ = _; rw [order_fl s s' hv hu, h]
theorem not_gt {a b : Int} (h : a ≤ b) : (some (compare a b) == some Ordering.gt) = false := by
  have h2 : ¬ compare a b = .gt := by rw [Int.compare_eq_gt]; omega
  cases hc : compare a b <;> first | rfl | exact absurd hc h2

/-- keeps: not above, the same word -/
theorem keep_pos {v : Nat} (h : Rep v) : (FloatKind.f64.format.order (fl false (v / one * one)) (fl false v) == some .gt) = false ∧ fl false (v / one * one) = flo false v := by
  refine ⟨?_, by unfold flo flk; simp⟩
  show (double.order _ _ == _) = _
  rw [order_fl false false (rep_cut h) h]
  apply not_gt
  have := div_mod_one v
  generalize v / one * one = c at *
  rw [sv_false, sv_false]; omega
theorem keep_neg {v : Nat} (h : Rep v) (hm : v % one = 0) : (FloatKind.f64.format.order (fl true (v / one * one)) (fl true v) == some .gt) = false ∧ fl true (v / one * one) = flo true v := by
  have e : v / one * one = v := by have := div_mod_one v; omega
  rw [e]
  refine ⟨?_, (flo_whole true hm).symm⟩
  show (double.order _ _ == _) = _
  rw [order_fl true true h h]
  exact not_gt (Int.le_refl _)
theorem sign_neg {v : Nat} (h0 : v / one ≠ 0) : decide (sv true (v / one) < 0) = true := by
  generalize v / one = k at *
  rw [sv_true]; simp; omega
theorem sv_signed (v : Nat) : sv (decide (sv true (v / one) < 0)) (v / one * one) = -((v / one * one : Nat) : Int) := by
  by_cases h0 : v / one = 0
  · rw [h0, sv_true, Nat.zero_mul]; rfl
  · rw [sign_neg h0, sv_true]
/-- steps down -/
theorem down_gt {v : Nat} (h : Rep v) (hm : v % one ≠ 0) : FloatKind.f64.format.order (fl (decide (sv true (v / one) < 0)) (v / one * one)) (fl true v) = some .gt := by
  have hd := div_mod_one v
  refine ord_eq _ true (rep_cut h) h .gt ?_
  rw [Int.compare_eq_gt, sv_signed, sv_true]
  generalize v / one * one = c at *
  omega
theorem down_sub {v : Nat} (h : Rep v) (hm : v % one ≠ 0) : FloatKind.f64.format.sub (fl (decide (sv true (v / one) < 0)) (v / one * one)) 4607182418800017408 = some (flo true v) := by
  have hr := rep_cut_up h hm
  have hr1 := rep_cut h
  have ek : flo true v = fl true ((v / one + 1) * one) := by
    unfold flo flk
    have : (true && v % one != 0) = true := by simpa using hm
    rw [this]; rfl
  have e2 : sv (decide (sv true (v / one) < 0)) (v / one * one) + sv (!false) one = -(((v / one + 1) * one : Nat) : Int) := by
    rw [sv_signed, Nat.add_mul, Nat.one_mul]
    generalize v / one * one = c at *
    rw [Bool.not_false, sv_true]; omega
  have hpos : 0 < (v / one + 1) * one := Nat.mul_pos (Nat.succ_pos _) one_pos
  rw [← fl_one, ek]
  generalize decide (sv true (v / one) < 0) = d at *
  generalize (v / one + 1) * one = u at *
  generalize v / one * one = c at *
  have := sub_fl d false hr1 rep_one (by rw [e2, Int.natAbs_neg, Int.natAbs_natCast]; exact hr)
  rw [e2, Int.natAbs_neg, Int.natAbs_natCast, if_neg (by omega), show decide (-(u : Int) < 0) = true by simp; omega] at this
  exact this
end Go.Proofs.Ytknhncpmijgdfaa.Flt
