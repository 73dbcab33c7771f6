/- What the reference's taking apart of a float meets: tests, halvings and doublings of the word of q * 2^(n - 1074). Plain law; no program. No condition. -/
import Derived.Test.YtknhncpmijgdfaaDoorFltC
namespace Go.Proofs.YtknhncpmijgdfaaDoor.Flt
open Ieee

/-- the word of q * 2^(n - 1074) -/
def fq (q n : Nat) : Nat := fl false (q * 2 ^ n)

theorem rep_qn (q n : Nat) (hq : q < 9007199254740992) (hn : n ≤ 2045) : Rep (q * 2 ^ n) := ⟨q, n, hq, hn, rfl⟩

theorem cmp_lt {v u : Nat} (h : v < u) : compare (sv false v) (sv false u) = .lt := by
  apply Int.compare_eq_lt.2; simp [sv]; omega
theorem cmp_gt {v u : Nat} (h : u < v) : compare (sv false v) (sv false u) = .gt := by
  apply Int.compare_eq_gt.2; simp [sv]; omega
theorem cmp_ge {v u : Nat} (h : u ≤ v) : compare (sv false v) (sv false u) = .gt ∨ compare (sv false v) (sv false u) = .eq := by
  rcases Nat.lt_or_eq_of_le h with h | h
  · exact Or.inl (cmp_gt h)
  · subst h; right; exact Int.compare_eq_eq.2 rfl

theorem order_lt {v u : Nat} (hv : Rep v) (hu : Rep u) (h : v < u) : FloatKind.f64.format.order (fl false v) (fl false u) = some .lt := by
  show double.order _ _ = _; rw [order_fl false false hv hu, cmp_lt h]
theorem order_gt {v u : Nat} (hv : Rep v) (hu : Rep u) (h : u < v) : FloatKind.f64.format.order (fl false v) (fl false u) = some .gt := by
  show double.order _ _ = _; rw [order_fl false false hv hu, cmp_gt h]
theorem order_ge {v u : Nat} (hv : Rep v) (hu : Rep u) (h : u ≤ v) : FloatKind.f64.format.order (fl false v) (fl false u) = some .gt ∨ FloatKind.f64.format.order (fl false v) (fl false u) = some .eq := by
  rcases cmp_ge h with h | h
  · left; show double.order _ _ = _; rw [order_fl false false hv hu, h]
  · right; show double.order _ _ = _; rw [order_fl false false hv hu, h]

theorem one_q : one = 4503599627370496 * pow2 1022 := by rw [e52, pow2_add 52 1022 1074 (by omega)]; rfl

theorem lt_one {q n : Nat} (hq : q < 9007199254740992) (hn : n ≤ 1021 ∨ n ≤ 1022 ∧ q < 4503599627370496) : q * 2 ^ n < one := by
  obtain ⟨K, hK, e⟩ := pow2_ex 1022
  rw [one_q, e]
  rcases hn with hn | ⟨hn, hq2⟩
  · have h1 : q * 2 ^ n < 9007199254740992 * 2 ^ n := (Nat.mul_lt_mul_right (Nat.two_pow_pos n)).2 hq
    have h2 : 9007199254740992 * 2 ^ n = 4503599627370496 * 2 ^ (n + 1) := by rw [Nat.pow_succ]; omega
    have h3 : 2 ^ (n + 1) ≤ 2 ^ K := Nat.pow_le_pow_right (by omega) (by omega)
    have h4 := Nat.mul_le_mul_left 4503599627370496 h3
    omega
  · have h1 : q * 2 ^ n < 4503599627370496 * 2 ^ n := (Nat.mul_lt_mul_right (Nat.two_pow_pos n)).2 hq2
    have h3 : 2 ^ n ≤ 2 ^ K := Nat.pow_le_pow_right (by omega) (by omega)
    have h4 := Nat.mul_le_mul_left 4503599627370496 h3
    omega
theorem ge_one {q n : Nat} (hq : 4503599627370496 ≤ q) (hn : 1022 ≤ n) : one ≤ q * 2 ^ n := by
  obtain ⟨K, hK, e⟩ := pow2_ex 1022
  rw [one_q, e]
  exact Nat.mul_le_mul hq (Nat.pow_le_pow_right (by omega) (by omega))
theorem two_q : 2 * one = 4503599627370496 * pow2 1023 := by rw [two_one, e52, pow2_add 52 1023 1075 (by omega)]
theorem lt_two {q n : Nat} (hq : q < 9007199254740992) (hn : n ≤ 1022) : q * 2 ^ n < 2 * one := by
  obtain ⟨K, hK, e⟩ := pow2_ex 1023
  rw [two_q, e]
  have h1 : q * 2 ^ n < 9007199254740992 * 2 ^ n := (Nat.mul_lt_mul_right (Nat.two_pow_pos n)).2 hq
  have h2 : 9007199254740992 * 2 ^ n = 4503599627370496 * 2 ^ (n + 1) := by rw [Nat.pow_succ]; omega
  have h3 : 2 ^ (n + 1) ≤ 2 ^ K := Nat.pow_le_pow_right (by omega) (by omega)
  have h4 := Nat.mul_le_mul_left 4503599627370496 h3
  omega
theorem ge_two {q n : Nat} (hq : 4503599627370496 ≤ q) (hn : 1023 ≤ n) : 2 * one ≤ q * 2 ^ n := by
  obtain ⟨K, hK, e⟩ := pow2_ex 1023
  rw [two_q, e]
  exact Nat.mul_le_mul hq (Nat.pow_le_pow_right (by omega) (by omega))

theorem fq_lt_one {q n : Nat} (hq : q < 9007199254740992) (hn : n ≤ 1021 ∨ n ≤ 1022 ∧ q < 4503599627370496) : FloatKind.f64.format.order (fq q n) 4607182418800017408 = some .lt := by
  rw [← fl_one]; exact order_lt (rep_qn q n hq (by omega)) rep_one (lt_one hq hn)
theorem fq_ge_one {q n : Nat} (hq : q < 9007199254740992) (h2 : 4503599627370496 ≤ q) (hn : n = 1022) : (FloatKind.f64.format.order (fq q n) 4607182418800017408 == some .lt) = false := by
  rw [← fl_one]
  rcases order_ge (rep_qn q n hq (by omega)) rep_one (ge_one h2 (by omega)) with h | h <;> (unfold fq; rw [h]; rfl)
theorem fq_lt_two {q n : Nat} (hq : q < 9007199254740992) (hn : n ≤ 1022) : FloatKind.f64.format.order (fq q n) 4611686018427387904 = some .lt := by
  rw [← fl_two]; exact order_lt (rep_qn q n hq (by omega)) rep_two (lt_two hq hn)
theorem fq_ge_two {q n : Nat} (hq : q < 9007199254740992) (h2 : 4503599627370496 ≤ q) (hn : 1023 ≤ n) (hn2 : n ≤ 2045) : FloatKind.f64.format.order (fq q n) 4611686018427387904 = some .gt ∨ FloatKind.f64.format.order (fq q n) 4611686018427387904 = some .eq := by
  rw [← fl_two]; exact order_ge (rep_qn q n hq (by omega)) rep_two (ge_two h2 hn)

theorem fq_half {q n : Nat} (hq : q < 9007199254740992) (hn : n + 1 ≤ 2045) : FloatKind.f64.format.mul (fq q (n + 1)) 4602678819172646912 = some (fq q n) := by
  rw [← fl_half]
  exact mul_fl false false (rep_qn q (n + 1) hq hn) rep_half (rep_qn q n hq (by omega)) (by rw [← two_half, Nat.pow_succ]; simp only [Nat.mul_assoc])
theorem fq_two {q n : Nat} (hq : q < 9007199254740992) (hn : n + 1 ≤ 2045) : FloatKind.f64.format.mul (fq q n) 4611686018427387904 = some (fq q (n + 1)) := by
  rw [← fl_two]
  exact mul_fl false false (rep_qn q n hq (by omega)) rep_two (rep_qn q (n + 1) hq hn) (by rw [Nat.pow_succ]; simp only [Nat.mul_assoc])
theorem fq_p52 {m n : Nat} (hm : m < 9007199254740992) (hn : n = 1022) : FloatKind.f64.format.mul (fq m n) 4841369599423283200 = some (fl false (m * one)) := by
  rw [← fl_p52]
  refine mul_fl false false (rep_qn m n hm (by omega)) rep_p52 (rep_whole m (by omega)) ?_
  obtain ⟨K, hK, e⟩ := pow2_ex 1022
  have : n = K := by omega
  subst this
  have ho : one = 4503599627370496 * 2 ^ n := by rw [one_q, e]
  calc m * 2 ^ n * (4503599627370496 * one) = m * (4503599627370496 * 2 ^ n) * one := by simp only [Nat.mul_assoc, Nat.mul_left_comm]
    _ = m * one * one := by rw [← ho]
theorem fq_sub_one {q n : Nat} (hq : q < 9007199254740992) (h2 : 4503599627370496 ≤ q) (hn : n = 1022) : FloatKind.f64.format.sub (fq q n) 4607182418800017408 = some (fq (q - 4503599627370496) n) := by
  rw [← fl_one]
  obtain ⟨K, hK, e⟩ := pow2_ex 1022
  have : n = K := by omega
  subst this
  have ho : one = 4503599627370496 * 2 ^ n := by rw [one_q, e]
  have hs : q * 2 ^ n - one = (q - 4503599627370496) * 2 ^ n := by rw [ho, Nat.sub_mul]
  have := sub_pos (rep_qn q n hq (by omega)) rep_one (ge_one h2 (by omega)) (by rw [hs]; exact rep_qn _ _ (by omega) (by omega))
  rw [hs] at this
  exact this

theorem whole_div (m : Nat) : m * one / one = m := Nat.mul_div_cancel _ one_pos

/-- a whole number's word, to an integer kind that holds it -/
theorem toInt_whole (s : Bool) (m : Nat) (hr : Rep (m * one)) (k : IntKind) (hlo : k.min ≤ sv s m) (hhi : sv s m ≤ k.max) : floatToIntVal .f64 (fl s (m * one)) k = some (sv s m) := by
  have h : (FloatKind.f64.decode (fl s (m * one))).toInt .zero = some (sv s m) := by
    show (double.read _).toInt .zero = _
    rw [toInt_fl s hr, whole_div]
  unfold floatToIntVal
  rw [h]
  simp only
  rw [if_pos ⟨hlo, hhi⟩]
theorem toU64_whole (m : Nat) (hm : m < 9007199254740992) : floatToIntVal .f64 (fl false (m * one)) .u64 = some (m : Int) := by
  have := toInt_whole false m (rep_whole m (by omega)) .u64 (by simp [IntKind.min, sv, IntKind.signed]) (by simp [IntKind.max, sv, IntKind.signed, IntKind.bits]; omega)
  simpa [sv] using this
end Go.Proofs.YtknhncpmijgdfaaDoor.Flt
