/- What the reference's FromBits (function 17 here) returns: of the int64 of a word that is no NaN that word; of a NaN's some NaN. -/
import Derived.Test.YtknhncpmijgdfaaScaled2
namespace Go.Proofs.Ytknhncpmijgdfaa
open Go.RowKit
open Flt Ieee

theorem scaled_any (q : Nat) (a e : Int) (N : Nat) (w : World) (ha : a = q) (he : e + 1074 = N) (hq : q < 9007199254740992) (hN : N ≤ 2045) : Calls Try.prog 33 #[.int .u64 a, .int .i64 e] w fun e w' => e = .returned (.float .f64 (fq q N)) ∧ w' = w := by
  subst ha
  by_cases h : 0 ≤ e
  · obtain ⟨k, rfl⟩ := Int.eq_ofNat_of_zero_le h
    exact scaled_up q k N w hq (by omega) (by omega)
  · obtain ⟨k, hk⟩ := Int.eq_ofNat_of_zero_le (show 0 ≤ -e by omega)
    have : e = -(k : Int) := by omega
    subst this
    exact scaled_down q k N w hq (by omega) (by omega)

set_option maxRecDepth 100000 in
set_option maxHeartbeats 400000 in
theorem from_inf (n x : Int) (s : Bool) (w : World) (hu : IntKind.u64.wrap n = x) (_hx0 : 0 ≤ x) (hs : (x / 9223372036854775808 == 1) = s) (hE : bits .and .u64 (x / 4503599627370496) 2047 = 2047) (hM : bits .and .u64 x 4503599627370495 = 0) :
    Calls Try.prog 17 #[.int .i64 n] w fun e w' => e = .returned (.float .f64 (cond s (Op.negFloat .f64 9218868437227405312) 9218868437227405312)) ∧ w' = w := by
  go_enter Try.func17, Try.ntmps17
  go_wp2_with (first | (go_at_call 32; refine (l2inf_any _).mono ?_; rintro e w' ⟨rfl, rfl⟩) | (go_at_call 31; refine (l2signed_any _ _ _).mono ?_; rintro e w' ⟨rfl, rfl⟩))
  go_ret
  exact ⟨rfl, rfl⟩

set_option maxRecDepth 100000 in
set_option maxHeartbeats 400000 in
theorem from_nan (n x M : Int) (w : World) (hu : IntKind.u64.wrap n = x) (_hx0 : 0 ≤ x) (hE : bits .and .u64 (x / 4503599627370496) 2047 = 2047) (hM : bits .and .u64 x 4503599627370495 = M) (hm : (M != 0) = true) :
    Calls Try.prog 17 #[.int .i64 n] w (SomeNan w) := by
  go_enter Try.func17, Try.ntmps17
  go_wp2_with (go_at_call 30; refine (l2nan_any _).mono ?_; rintro e w' ⟨z, hz, rfl, rfl⟩)
  go_ret
  exact ⟨z, hz, rfl, rfl⟩

set_option maxRecDepth 100000 in
set_option maxHeartbeats 400000 in
theorem from_sub (n x : Int) (M : Nat) (s : Bool) (w : World) (hu : IntKind.u64.wrap n = x) (_hx0 : 0 ≤ x) (hs : (x / 9223372036854775808 == 1) = s) (hE : bits .and .u64 (x / 4503599627370496) 2047 = 0) (hM : bits .and .u64 x 4503599627370495 = M) (hm : M < 4503599627370496) :
    Calls Try.prog 17 #[.int .i64 n] w fun e w' => e = .returned (.float .f64 (cond s (Op.negFloat .f64 (fq M 0)) (fq M 0))) ∧ w' = w := by
  go_enter Try.func17, Try.ntmps17
  go_wp2_with (first | (go_at_call 33; refine (scaled_any M _ _ 0 _ rfl (by omega) (by omega) (by omega)).mono ?_; rintro e w' ⟨rfl, rfl⟩) | (go_at_call 31; refine (l2signed_any _ _ _).mono ?_; rintro e w' ⟨rfl, rfl⟩))
  go_ret
  exact ⟨rfl, rfl⟩

set_option maxRecDepth 100000 in
set_option maxHeartbeats 400000 in
theorem from_norm (n x : Int) (M N : Nat) (s : Bool) (w : World) (hu : IntKind.u64.wrap n = x) (_hx0 : 0 ≤ x) (hs : (x / 9223372036854775808 == 1) = s) (hE : bits .and .u64 (x / 4503599627370496) 2047 = (N : Int) + 1) (hN : N ≤ 2045) (hM : bits .and .u64 x 4503599627370495 = M) (hm : M < 4503599627370496)
    (ho : bits .or .u64 M 4503599627370496 = ((4503599627370496 + M : Nat) : Int)) :
    Calls Try.prog 17 #[.int .i64 n] w fun e w' => e = .returned (.float .f64 (cond s (Op.negFloat .f64 (fq (4503599627370496 + M) N)) (fq (4503599627370496 + M) N))) ∧ w' = w := by
  have h1 : ((N : Int) + 1 == 2047) = false := by simp; omega
  have h2 : ((N : Int) + 1 == 0) = false := by simp; omega
  go_enter Try.func17, Try.ntmps17
  go_wp2_with (first | (go_at_call 33; refine (scaled_any (4503599627370496 + M) _ _ N _ (by omega) (by omega) (by omega) (by omega)).mono ?_; rintro e w' ⟨rfl, rfl⟩) | (go_at_call 31; refine (l2signed_any _ _ _).mono ?_; rintro e w' ⟨rfl, rfl⟩))
  go_ret
  exact ⟨rfl, rfl⟩
end Go.Proofs.Ytknhncpmijgdfaa
