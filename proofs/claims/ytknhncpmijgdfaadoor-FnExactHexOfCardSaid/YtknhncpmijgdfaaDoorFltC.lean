/- The double's arithmetic on finite words whose exact result the format has: products, sums, one over a zero; to an integer and from one; the greatest whole number below. Plain law; no program. No condition. -/
import Derived.Test.YtknhncpmijgdfaaDoorFltB
namespace Go.Proofs.YtknhncpmijgdfaaDoor.Flt
open Ieee

/-- a power of two, closed to the elaborator's own reckoning -/
def pow2 (k : Nat) : Nat := 2 ^ k
theorem pow2_ex (k : Nat) : ∃ K, K = k ∧ pow2 k = 2 ^ K := ⟨k, rfl, rfl⟩
theorem pow2_succ (k l : Nat) (h : k + 1 = l) : 2 * pow2 k = pow2 l := by subst h; unfold pow2; rw [Nat.pow_succ, Nat.mul_comm]
theorem pow2_add (a b c : Nat) (h : a + b = c) : pow2 a * pow2 b = pow2 c := by unfold pow2; rw [← Nat.pow_add, h]
/-- the number 1, in units of 2^-1074 -/
def one : Nat := pow2 1074
theorem one_eq : ∃ K, K = 1074 ∧ one = 2 ^ K := pow2_ex 1074
theorem one_pos : 0 < one := by obtain ⟨K, _, h⟩ := one_eq; rw [h]; exact Nat.two_pow_pos K
theorem pw (a b c : Nat) (h : a + b = c) : 2 ^ a * 2 ^ b = 2 ^ c := by rw [← Nat.pow_add, h]
theorem e52 : (4503599627370496 : Nat) = pow2 52 := by decide
theorem e63 : (9223372036854775808 : Nat) = pow2 63 := by decide
theorem nrm_mk (q t : Nat) (h1 : q < 9007199254740992) (h2 : t = 0 ∨ 4503599627370496 ≤ q) (h3 : t ≤ 2045) : Nrm (q * pow2 t) q t := ⟨h1, h2, h3, rfl⟩
attribute [irreducible] pow2

theorem rep_zero : Rep 0 := ⟨0, 0, by omega, by omega, by simp⟩
theorem fl_zero (s : Bool) : fl s 0 = double.word s 0 := by
  rw [fl_nrm s (v := 0) (q := 0) (t := 0) ⟨by omega, Or.inl rfl, by omega, by simp⟩, Nat.zero_mul, Nat.zero_add]
theorem fl_zero_false : fl false 0 = 0 := by rw [fl_zero]; rfl

theorem nrm_pow (k c : Nat) (h : 52 + c = k) (hc : c ≤ 2045) : Nrm (pow2 k) 4503599627370496 c := by
  rw [← pow2_add 52 c k h, ← e52]; exact nrm_mk _ _ (by omega) (Or.inr (by omega)) hc
theorem nrm_one : Nrm one 4503599627370496 1022 := nrm_pow 1074 1022 (by omega) (by omega)
theorem rep_one : Rep one := nrm_one.rep
theorem fl_one : fl false one = 4607182418800017408 := by rw [fl_nrm false nrm_one]; rfl
theorem two_one : 2 * one = pow2 1075 := by unfold one; exact pow2_succ 1074 1075 (by omega)
theorem nrm_two : Nrm (2 * one) 4503599627370496 1023 := by rw [two_one]; exact nrm_pow 1075 1023 (by omega) (by omega)
theorem rep_two : Rep (2 * one) := nrm_two.rep
theorem fl_two : fl false (2 * one) = 4611686018427387904 := by rw [fl_nrm false nrm_two]; rfl
/-- a half -/
def half : Nat := pow2 1073
theorem two_half : 2 * half = one := by unfold half one; exact pow2_succ 1073 1074 (by omega)
theorem nrm_half : Nrm half 4503599627370496 1021 := nrm_pow 1073 1021 (by omega) (by omega)
theorem rep_half : Rep half := nrm_half.rep
theorem fl_half : fl false half = 4602678819172646912 := by rw [fl_nrm false nrm_half]; rfl
theorem p52_one : 4503599627370496 * one = pow2 1126 := by rw [e52]; unfold one; exact pow2_add 52 1074 1126 (by omega)
theorem nrm_p52 : Nrm (4503599627370496 * one) 4503599627370496 1074 := by rw [p52_one]; exact nrm_pow 1126 1074 (by omega) (by omega)
theorem rep_p52 : Rep (4503599627370496 * one) := nrm_p52.rep
theorem fl_p52 : fl false (4503599627370496 * one) = 4841369599423283200 := by rw [fl_nrm false nrm_p52]; rfl
theorem p63_one : 9223372036854775808 * one = pow2 1137 := by rw [e63]; unfold one; exact pow2_add 63 1074 1137 (by omega)
theorem nrm_p63 : Nrm (9223372036854775808 * one) 4503599627370496 1085 := by rw [p63_one]; exact nrm_pow 1137 1085 (by omega) (by omega)
theorem rep_p63 : Rep (9223372036854775808 * one) := nrm_p63.rep
theorem fl_p63_false : fl false (9223372036854775808 * one) = 4890909195324358656 := by rw [fl_nrm false nrm_p63]; rfl
theorem fl_p63_true : fl true (9223372036854775808 * one) = 14114281232179134464 := by rw [fl_nrm true nrm_p63]; rfl
/-- the greatest number -/
def mx : Nat := 9007199254740991 * pow2 2045
theorem nrm_mx : Nrm mx 9007199254740991 2045 := nrm_mk _ _ (by omega) (Or.inr (by omega)) (by omega)
theorem rep_mx : Rep mx := nrm_mx.rep
theorem fl_mx : fl false mx = 9218868437227405311 := by rw [fl_nrm false nrm_mx]; rfl
theorem le_mx {v : Nat} (h : Rep v) : v ≤ mx := by
  obtain ⟨q, t, hq, ht, rfl⟩ := h
  obtain ⟨K, hK, e⟩ := pow2_ex 2045
  unfold mx; rw [e]
  exact Nat.mul_le_mul (by omega) (Nat.pow_le_pow_right (by omega) (by omega))

/-- PRODUCTS -/
theorem mul_fl {v u x : Nat} (s s' : Bool) (hv : Rep v) (hu : Rep u) (hx : Rep x) (h : v * u = x * one) : double.mul (fl s v) (fl s' u) = some (fl (s ^^ s') x) := by
  obtain ⟨q, t, h1, e1⟩ := read_fl s hv
  obtain ⟨q', t', h2, e2⟩ := read_fl s' hu
  unfold Format.mul
  rw [e1, e2]
  simp only [Datum.product, Option.map_some, Format.write]
  obtain ⟨K, hK, ho⟩ := one_eq
  rw [nearest_fl (s ^^ s') hx (q * q') _ (t + t') K ?_ (by omega)]
  rw [← ho, ← h, h1.2.2.2, h2.2.2.2, Nat.pow_add]
  simp only [Nat.mul_assoc, Nat.mul_left_comm]

theorem sum_aux (x y : Int) (a : Nat) : (x + y) * ((2 ^ a : Nat) : Int) = x * ((2 ^ a : Nat) : Int) + y * ((2 ^ a : Nat) : Int) := Int.add_mul ..

/-- SUMS -/
theorem sum_fl {v u : Nat} (s s' : Bool) (hv : Rep v) (hu : Rep u) (hx : Rep (sv s v + sv s' u).natAbs) :
    ((double.read (fl s v)).sum (double.read (fl s' u))).map double.write = some (fl (if sv s v + sv s' u = 0 then s && s' else decide (sv s v + sv s' u < 0)) (sv s v + sv s' u).natAbs) := by
  obtain ⟨q, t, h1, e1⟩ := read_fl s hv
  obtain ⟨q', t', h2, e2⟩ := read_fl s' hu
  rw [e1, e2]
  simp only [Datum.sum, Option.map_some, Format.write]
  have a1 : ((t : Int) - 1074 - min ((t : Int) - 1074) ((t' : Int) - 1074)).toNat + min t t' = t := by omega
  have a2 : ((t' : Int) - 1074 - min ((t : Int) - 1074) ((t' : Int) - 1074)).toNat + min t t' = t' := by omega
  generalize hA : signed s q ((t : Int) - 1074 - min ((t : Int) - 1074) ((t' : Int) - 1074)).toNat = A
  generalize hB : signed s' q' ((t' : Int) - 1074 - min ((t : Int) - 1074) ((t' : Int) - 1074)).toNat = B
  have eA : A * ((2 ^ min t t' : Nat) : Int) = sv s v := by rw [← hA, signed_scale, a1, ← h1.2.2.2]
  have eB : B * ((2 ^ min t t' : Nat) : Int) = sv s' u := by rw [← hB, signed_scale, a2, ← h2.2.2.2]
  have eT : (A + B) * ((2 ^ min t t' : Nat) : Int) = sv s v + sv s' u := by rw [sum_aux, eA, eB]
  have hp : (0 : Int) < ((2 ^ min t t' : Nat) : Int) := by have := Nat.two_pow_pos (min t t'); omega
  generalize hT : A + B = T at eT
  generalize hU : sv s v + sv s' u = U at eT hx
  have z : (T = 0) = (U = 0) := by
    apply propext
    constructor
    · intro h; rw [← eT, h]; simp
    · intro h; rw [h] at eT
      rcases Int.mul_eq_zero.1 eT with h1 | h1
      · exact h1
      · omega
  have l : (T < 0) = (U < 0) := by
    apply propext
    constructor
    · intro h; rw [← eT]; exact Int.mul_neg_of_neg_of_pos h hp
    · intro h
      rcases Int.lt_or_le T 0 with h1 | h1
      · exact h1
      · have : 0 ≤ T * ((2 ^ min t t' : Nat) : Int) := Int.mul_nonneg h1 (by omega)
        omega
  have n : T.natAbs * 2 ^ min t t' = U.natAbs := by rw [← eT, Int.natAbs_mul, Int.natAbs_natCast]
  simp only [z, l]
  rw [nearest_fl _ hx T.natAbs _ (min t t') 0 (by rw [n]; simp) (by omega)]

theorem opposite_fl {v : Nat} (s : Bool) (h : Rep v) : (double.read (fl s v)).opposite = double.read (fl (!s) v) := by
  obtain ⟨q, t, h'⟩ := h.nrm
  rw [read_nrm s h', read_nrm (!s) h']; rfl

theorem sub_fl {v u : Nat} (s s' : Bool) (hv : Rep v) (hu : Rep u) (hx : Rep (sv s v + sv (!s') u).natAbs) :
    double.sub (fl s v) (fl s' u) = some (fl (if sv s v + sv (!s') u = 0 then s && !s' else decide (sv s v + sv (!s') u < 0)) (sv s v + sv (!s') u).natAbs) := by
  unfold Format.sub
  rw [opposite_fl s' hu, sum_fl s (!s') hv hu hx]

/-- 'v - u' of two numbers, the second not greater -/
theorem sub_pos {v u : Nat} (hv : Rep v) (hu : Rep u) (hle : u ≤ v) (hx : Rep (v - u)) : double.sub (fl false v) (fl false u) = some (fl false (v - u)) := by
  have e : (sv false v + sv (!false) u).natAbs = v - u := by simp [sv]; omega
  have e2 : (if sv false v + sv (!false) u = 0 then false && !false else decide (sv false v + sv (!false) u < 0)) = false := by
    simp [sv]; omega
  have := sub_fl false false hv hu (by rw [e]; exact hx)
  rw [e, e2] at this; exact this

/-- '1 / 0' -/
theorem one_over_zero (s : Bool) : double.div 4607182418800017408 (double.word s 0) = some (double.word s 9218868437227405312) := by
  cases s <;> decide

/-- to an integer -/
theorem cut_den (way : Toward) (s : Bool) {v q t : Nat} (h : Nrm v q t) : way.cut s (q <<< ((t : Int) - 1074).toNat) (-((t : Int) - 1074)).toNat =
    if 1074 ≤ t then v / one else way.cut s q (1074 - t) := by
  by_cases hc : 1074 ≤ t
  · rw [if_pos hc, show (-((t : Int) - 1074)).toNat = 0 by omega, show ((t : Int) - 1074).toNat = t - 1074 by omega, Nat.shiftLeft_eq]
    have := cut_exact way s (q * 2 ^ (t - 1074)) 0
    rw [Nat.pow_zero, Nat.mul_one] at this
    obtain ⟨K, hK, ho⟩ := one_eq
    rw [this, h.2.2.2, ho, show q * 2 ^ t = q * 2 ^ (t - 1074) * 2 ^ K by rw [Nat.mul_assoc, pw (t - 1074) K t (by omega)], Nat.mul_div_cancel _ (Nat.two_pow_pos K)]
  · rw [if_neg hc, show (-((t : Int) - 1074)).toNat = 1074 - t by omega, show ((t : Int) - 1074).toNat = 0 by omega, Nat.shiftLeft_zero]

theorem small_div {v q t : Nat} (h : Nrm v q t) (hc : t < 1074) : v / one = q / 2 ^ (1074 - t) ∧ v % one = q % 2 ^ (1074 - t) * 2 ^ t := by
  obtain ⟨K, hK, ho⟩ := one_eq
  rw [h.2.2.2, ho, show (2 : Nat) ^ K = 2 ^ (1074 - t) * 2 ^ t by rw [pw (1074 - t) t K (by omega)]]
  exact ⟨Nat.mul_div_mul_right _ _ (Nat.two_pow_pos t), Nat.mul_mod_mul_right ..⟩
theorem big_mod {v q t : Nat} (h : Nrm v q t) (hc : 1074 ≤ t) : v % one = 0 := by
  obtain ⟨K, hK, ho⟩ := one_eq
  rw [h.2.2.2, ho, ← pw (t - 1074) K t (by omega), ← Nat.mul_assoc, Nat.mul_mod_left]

theorem toInt_fl {v : Nat} (s : Bool) (h : Rep v) : (double.read (fl s v)).toInt .zero = some (sv s (v / one)) := by
  obtain ⟨q, t, h1, e1⟩ := read_fl s h
  rw [e1]
  simp only [Datum.toInt, Datum.integral]
  have : Toward.zero.cut s (q <<< ((t : Int) - 1074).toNat) (-((t : Int) - 1074)).toNat = v / one := by
    rw [cut_den .zero s h1]
    by_cases hc : 1074 ≤ t
    · rw [if_pos hc]
    · rw [if_neg hc, cut_zero, (small_div h1 (by omega)).1]
  rw [this]
  simp [signed, sv]

theorem integral_fl {v : Nat} (s : Bool) (h : Rep v) : (double.read (fl s v)).integral .down = .number s (v / one + (s && v % one != 0).toNat) 0 := by
  obtain ⟨q, t, h1, e1⟩ := read_fl s h
  rw [e1]
  simp only [Datum.integral]
  congr 1
  rw [cut_den .down s h1]
  by_cases hc : 1074 ≤ t
  · rw [if_pos hc, big_mod h1 hc]; simp
  · rw [if_neg hc, cut_down, (small_div h1 (by omega)).1, (small_div h1 (by omega)).2]
    have hp := Nat.two_pow_pos t
    have : (q % 2 ^ (1074 - t) * 2 ^ t != 0) = (q % 2 ^ (1074 - t) != 0) := by
      rw [Bool.eq_iff_iff, bne_iff_ne, bne_iff_ne, Ne, Ne, Nat.mul_eq_zero]
      omega
    rw [this]

theorem rep_whole (k : Nat) (h : k ≤ 9007199254740992) : Rep (k * one) := by
  by_cases e : k = 9007199254740992
  · subst e
    have : 9007199254740992 * one = 4503599627370496 * pow2 1075 := by rw [← two_one]; omega
    rw [this]; exact (nrm_mk _ 1075 (by omega) (Or.inr (by omega)) (by omega)).rep
  · obtain ⟨K, hK, ho⟩ := one_eq
    exact ⟨k, K, by omega, by omega, by rw [ho]⟩
/-- a size cut to a whole number is one that a double has -/
theorem rep_cut {v : Nat} (h : Rep v) : Rep (v / one * one) := by
  obtain ⟨q, t, h1⟩ := h.nrm
  by_cases hc : 1074 ≤ t
  · have h2 : v % one = 0 := big_mod h1 hc
    rw [Nat.div_mul_cancel (Nat.dvd_of_mod_eq_zero h2)]; exact h
  · apply rep_whole
    rw [(small_div h1 (by omega)).1]
    have := Nat.div_le_self q (2 ^ (1074 - t))
    have := h1.1
    omega
theorem rep_cut_up {v : Nat} (h : Rep v) (hr : v % one ≠ 0) : Rep ((v / one + 1) * one) := by
  obtain ⟨q, t, h1⟩ := h.nrm
  by_cases hc : 1074 ≤ t
  · exact absurd (big_mod h1 hc) hr
  · apply rep_whole
    rw [(small_div h1 (by omega)).1]
    have := Nat.div_le_self q (2 ^ (1074 - t))
    have := h1.1
    omega

theorem write_whole (s : Bool) (k : Nat) (h : Rep (k * one)) : double.nearest s k 0 = fl s (k * one) := by
  obtain ⟨K, hK, ho⟩ := one_eq
  exact nearest_fl s h k 0 K 0 (by rw [ho]; simp) (by omega)

/-- from an integer -/
theorem nearest_int (n : Int) (h : Rep (n.natAbs * one)) : FloatKind.f64.nearest n = fl (decide (n < 0)) (n.natAbs * one) :=
  write_whole _ _ h
end Go.Proofs.YtknhncpmijgdfaaDoor.Flt
