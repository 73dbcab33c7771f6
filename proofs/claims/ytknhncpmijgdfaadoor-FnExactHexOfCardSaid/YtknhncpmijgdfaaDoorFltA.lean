/- The double's words as exact numbers: rungs, their sizes in units of 2^-1074, exact rounding, order, sums, products. Plain law; no program. No condition. -/
import Derived.Laws.FloatArith
namespace Go.Proofs.YtknhncpmijgdfaaDoor.Flt
open Ieee

theorem log2_mul_pow (n k : Nat) (h : n ≠ 0) : (n * 2 ^ k).log2 = n.log2 + k := by
  have hp : 0 < 2 ^ k := Nat.two_pow_pos k
  have hn : n * 2 ^ k ≠ 0 := Nat.mul_ne_zero h (by omega)
  have h1 : 2 ^ n.log2 ≤ n := (Nat.le_log2 h).1 (Nat.le_refl _)
  have h2 : n < 2 ^ (n.log2 + 1) := (Nat.log2_lt h).1 (by omega)
  have a : n.log2 + k ≤ (n * 2 ^ k).log2 := (Nat.le_log2 hn).2 (by rw [Nat.pow_add]; exact Nat.mul_le_mul_right _ h1)
  have b : (n * 2 ^ k).log2 < n.log2 + k + 1 := (Nat.log2_lt hn).2 (by
    rw [show n.log2 + k + 1 = (n.log2 + 1) + k by omega, Nat.pow_add]; exact (Nat.mul_lt_mul_right hp).2 h2)
  omega

/-- an exact cut, whatever the way -/
theorem cut_exact (way : Toward) (neg : Bool) (q d : Nat) : way.cut neg (q * 2 ^ d) d = q := by
  have hp : 0 < 2 ^ d := Nat.two_pow_pos d
  have key : q * 2 ^ d / (1 <<< min d ((q * 2 ^ d).log2 + 2)) = q ∧ q * 2 ^ d % (1 <<< min d ((q * 2 ^ d).log2 + 2)) = 0 := by
    by_cases h : q = 0
    · subst h; simp
    · have : min d ((q * 2 ^ d).log2 + 2) = d := by rw [log2_mul_pow q d h]; omega
      rw [this, Nat.one_shiftLeft]
      exact ⟨Nat.mul_div_cancel _ hp, Nat.mul_mod_left _ _⟩
  unfold Toward.cut
  simp only [key.1, key.2]
  cases way
  · have e1 : decide (1 <<< min d ((q * 2 ^ d).log2 + 2) < 2 * 0) = false := by simp
    have e2 : ((1 <<< min d ((q * 2 ^ d).log2 + 2)) == 2 * 0) = false := by simp
    simp only [e1, e2]; rfl
  all_goals simp

theorem cut_gap (n d : Nat) : n / (1 <<< min d (n.log2 + 2)) = n / 2 ^ d ∧ n % (1 <<< min d (n.log2 + 2)) = n % 2 ^ d := by
  by_cases h : d ≤ n.log2 + 2
  · rw [Nat.min_eq_left h, Nat.one_shiftLeft]; exact ⟨rfl, rfl⟩
  · have e : min d (n.log2 + 2) = n.log2 + 2 := by omega
    have l1 : n < 2 ^ (n.log2 + 2) := by
      by_cases hn : n = 0
      · subst hn; exact Nat.two_pow_pos _
      · exact (Nat.log2_lt hn).1 (by omega)
    have l2 : n < 2 ^ d := Nat.lt_of_lt_of_le l1 (Nat.pow_le_pow_right (by omega) (by omega))
    rw [e, Nat.one_shiftLeft, Nat.div_eq_of_lt l1, Nat.div_eq_of_lt l2, Nat.mod_eq_of_lt l1, Nat.mod_eq_of_lt l2]
    exact ⟨rfl, rfl⟩

theorem cut_zero (neg : Bool) (n d : Nat) : Toward.zero.cut neg n d = n / 2 ^ d := by
  unfold Toward.cut; simp [(cut_gap n d).1]

theorem cut_down (neg : Bool) (n d : Nat) : Toward.down.cut neg n d = n / 2 ^ d + (neg && n % 2 ^ d != 0).toNat := by
  unfold Toward.cut; simp [(cut_gap n d).1, (cut_gap n d).2]

theorem leastPlace_eq : double.leastPlace = -1074 := by decide
theorem binade_eq : double.binade = 4503599627370496 := by decide
theorem infRung_eq : double.infRung = 9218868437227405312 := by decide
theorem signWeight_eq : double.signWeight = 9223372036854775808 := by decide
theorem fractionBits_eq : double.fractionBits = 52 := rfl

/-- THE NEAREST WORD OF A NUMBER THAT THE FORMAT HAS. -/
theorem nearest_qt (s : Bool) (mag : Nat) (place : Int) (q t a b : Nat) (hq : q < 9007199254740992) (hqt : t = 0 ∨ 4503599627370496 ≤ q) (ht : t ≤ 2045)
    (h : mag * 2 ^ a = q * 2 ^ t * 2 ^ b) (hp : place + 1074 + b = a) : double.nearest s mag place = double.word s (t * 4503599627370496 + q) := by
  have pa : 0 < 2 ^ a := Nat.two_pow_pos a
  have pb : 0 < 2 ^ b := Nat.two_pow_pos b
  have pt : 0 < 2 ^ t := Nat.two_pow_pos t
  unfold Format.nearest
  by_cases hm : mag = 0
  · subst hm
    have hq0 : q = 0 := by
      have : q * 2 ^ t * 2 ^ b = 0 := by rw [← h]; simp
      rcases Nat.mul_eq_zero.1 this with h1 | h1
      · rcases Nat.mul_eq_zero.1 h1 with h2 | h2
        · exact h2
        · omega
      · omega
    have ht0 : t = 0 := by omega
    subst hq0; subst ht0
    simp
  · rw [if_neg hm]
    have hq0 : q ≠ 0 := by
      intro e; subst e
      have : mag * 2 ^ a = 0 := by rw [h]; simp
      rcases Nat.mul_eq_zero.1 this with h1 | h1 <;> omega
    have hl : mag.log2 + a = q.log2 + t + b := by
      rw [← log2_mul_pow mag a hm, h, Nat.mul_assoc, ← Nat.pow_add, log2_mul_pow q (t + b) hq0]; omega
    have hk : q.log2 < 53 := (Nat.log2_lt hq0).2 (by simpa using hq)
    have hk2 : t = 0 ∨ q.log2 = 52 := by
      rcases hqt with h1 | h1
      · exact Or.inl h1
      · have : 52 ≤ q.log2 := (Nat.le_log2 hq0).2 (by simpa using h1)
        right; omega
    have hlast : max (place + mag.log2 - double.fractionBits) double.leastPlace = (t : Int) - 1074 := by
      rw [leastPlace_eq, fractionBits_eq]
      rcases hk2 with h1 | h1 <;> omega
    simp only [hlast]
    have hcut : Toward.even.cut s (mag <<< (place - ((t : Int) - 1074)).toNat) (((t : Int) - 1074) - place).toNat = q := by
      by_cases hc : t + b ≤ a
      · have e1 : (place - ((t : Int) - 1074)).toNat = a - (t + b) := by omega
        have e2 : (((t : Int) - 1074) - place).toNat = 0 := by omega
        rw [e1, e2, Nat.shiftLeft_eq]
        have : mag * 2 ^ (a - (t + b)) = q := by
          have h2 : mag * 2 ^ (a - (t + b)) * 2 ^ (t + b) = q * 2 ^ (t + b) := by
            rw [Nat.mul_assoc, ← Nat.pow_add, show a - (t + b) + (t + b) = a by omega, h, Nat.mul_assoc, ← Nat.pow_add]
          exact Nat.eq_of_mul_eq_mul_right (Nat.two_pow_pos _) h2
        rw [this]
        have := cut_exact .even s q 0
        simpa using this
      · have e1 : (place - ((t : Int) - 1074)).toNat = 0 := by omega
        have e2 : (((t : Int) - 1074) - place).toNat = t + b - a := by omega
        rw [e1, e2, Nat.shiftLeft_zero]
        have : mag = q * 2 ^ (t + b - a) := by
          have h2 : mag * 2 ^ a = q * 2 ^ (t + b - a) * 2 ^ a := by
            rw [Nat.mul_assoc, ← Nat.pow_add, show t + b - a + a = t + b by omega, h, Nat.mul_assoc, ← Nat.pow_add]
          exact Nat.eq_of_mul_eq_mul_right pa h2
        rw [this]
        exact cut_exact .even s q _
    rw [hcut, leastPlace_eq, binade_eq, infRung_eq]
    have : ((t : Int) - 1074 - -1074).toNat = t := by omega
    rw [this, Nat.min_eq_left (by omega)]
end Go.Proofs.YtknhncpmijgdfaaDoor.Flt
