/- Bits of 64-bit words as sums: laying a fraction under an exponent, a sign above. Plain law; no program. No condition. -/
import Derived.Laws.BitsAllLaws
import Derived.Laws.Bits64
import Derived.RowKit
namespace Go.Proofs.Ytknhncpmijgdfaa.Flt

theorem nat_or_lo (i a b : Nat) (h : b < 2 ^ i) : (a * 2 ^ i) ||| b = a * 2 ^ i + b := by
  rw [Nat.mul_comm, ← Nat.two_pow_add_eq_or_of_lt h]

theorem or_lo52 (E M : Nat) (hE : E < 4096) (hM : M < 4503599627370496) : bits .or .u64 ((E : Int) * 4503599627370496) (M : Int) = ((E * 4503599627370496 + M : Nat) : Int) := by
  rw [u64_or _ _ (by omega) (by omega) (by omega) (by omega)]
  have e1 : ((E : Int) * 4503599627370496).toNat = E * 4503599627370496 := by omega
  rw [e1, Int.toNat_natCast]
  have := nat_or_lo 52 E M (by simpa using hM)
  rw [show (2 : Nat) ^ 52 = 4503599627370496 by decide] at this
  rw [this]
theorem or_hi63 (n : Nat) (h : n < 9223372036854775808) : bits .or .u64 (n : Int) 9223372036854775808 = ((n + 9223372036854775808 : Nat) : Int) := by
  rw [u64_or _ _ (by omega) (by omega) (by omega) (by omega)]
  have e1 : (9223372036854775808 : Int).toNat = 9223372036854775808 := by omega
  rw [e1, Int.toNat_natCast, Nat.or_comm]
  have := nat_or_lo 63 1 n (by simpa using h)
  rw [Nat.one_mul, show (2 : Nat) ^ 63 = 9223372036854775808 by decide] at this
  rw [this, Nat.add_comm]
theorem and_2047 (y : Nat) (h : y < 18446744073709551616) : bits .and .u64 (y : Int) 2047 = ((y % 2048 : Nat) : Int) := by
  have := u64_and_nat y 2047 h (by omega)
  rw [show (((2047 : Nat) : Int)) = 2047 from rfl] at this
  rw [this, show (2047 : Nat) = 2 ^ 11 - 1 by decide, Nat.and_two_pow_sub_one_eq_mod, show (2 : Nat) ^ 11 = 2048 by decide]
theorem and_52 (y : Nat) (h : y < 18446744073709551616) : bits .and .u64 (y : Int) 4503599627370495 = ((y % 4503599627370496 : Nat) : Int) := by
  have := u64_and_nat y 4503599627370495 h (by omega)
  rw [show (((4503599627370495 : Nat) : Int)) = 4503599627370495 by omega] at this
  rw [this, show (4503599627370495 : Nat) = 2 ^ 52 - 1 by decide, Nat.and_two_pow_sub_one_eq_mod, show (2 : Nat) ^ 52 = 4503599627370496 by decide]
theorem or_52 (M : Nat) (h : M < 4503599627370496) : bits .or .u64 (M : Int) 4503599627370496 = ((4503599627370496 + M : Nat) : Int) := by
  have := u64_or_nat M 4503599627370496 (by omega) (by omega)
  rw [show (((4503599627370496 : Nat) : Int)) = 4503599627370496 by omega] at this
  rw [this, Nat.or_comm]
  have := nat_or_lo 52 1 M (by simpa using h)
  rw [Nat.one_mul, show (2 : Nat) ^ 52 = 4503599627370496 by decide] at this
  rw [this]
end Go.Proofs.Ytknhncpmijgdfaa.Flt
