/- The reference's l2scaled (function 33 here): a whole number below 2^53 times 2^e, e from -1074 to 971, as a float, exactly. Conditions: these bounds. -/
import Derived.Test.YtknhncpmijgdfaaScaled
namespace Go.Proofs.Ytknhncpmijgdfaa
open Go.RowKit
open Flt Ieee

theorem conv_run {q n : Nat} (hq : q < 9007199254740992) (hn : n = 1074) (w : World) : (convert 38 25 (.int .u64 (q : Int))).run Try.prog w = .ok (.float .f64 (fq q n)) w := by
  rw [run_convert_int_float w 38 25 .u64 .f64 _ (by rw [Try.underlying38]; rfl) Try.underlying25, of_nat q n hq hn]

set_option maxRecDepth 100000 in
set_option maxHeartbeats 400000 in
theorem scaled_up (q k : Nat) (N : Nat) (w : World) (hq : q < 9007199254740992) (hk : k ≤ 971) (hN : N = 1074 + k) : Calls Try.prog 33 #[.int .u64 q, .int .i64 k] w fun e w' => e = .returned (.float .f64 (fq q N)) ∧ w' = w := by
  obtain ⟨n, hn⟩ : ∃ n : Nat, n = 1074 := ⟨_, rfl⟩
  have hc := conv_run hq hn
  have hna : n ≤ 1074 := by omega
  have hnb : 1074 ≤ n := by omega
  have HN := Lib.hid hN
  clear hN hn
  go_enter Try.func33, Try.ntmps33
  go_wp2
  clear hc
  go_loop [1, 5] (fun e f => ∃ j m : Nat, j ≤ k ∧ e = .int .i64 ((k - j : Nat) : Int) ∧ m = n + j ∧ f = .float .f64 (fq q m)) (fun e _ => (intOf e).toNat)
  case atStart => exact ⟨0, n, by omega, by go_num, rfl, rfl⟩
  case round =>
    obtain ⟨j, m, hj, rfl, hm0, rfl⟩ := hrel
    have hma : m ≤ n + j := by omega
    have hmb : n + j ≤ m := by omega
    clear hm0
    by_cases h : j < k
    · have hr := two_run (q := q) (n := m) hq (by omega)
      obtain ⟨d, hd⟩ : ∃ d, k - j = d + 1 := ⟨k - j - 1, by omega⟩
      have hd2 : d + 1 + j = k := by omega
      have HD := Lib.hid hd2
      have hd3 : d ≤ 971 := by omega
      rw [hd]
      clear hd hd2
      go_wp2
      go_round
      case rel => exact ⟨j + 1, m + 1, by omega, by have := HD.out; rw [show k - (j + 1) = d by omega], by omega, rfl⟩
      case measure => simp [intOf]
    · obtain ⟨z, hz⟩ : ∃ z : Int, ((k - j : Nat) : Int) = z := ⟨_, rfl⟩
      have hz1 : z ≤ 0 := by omega
      have hz2 : 0 ≤ z := by omega
      rw [hz]
      clear hz
      go_wp2
      go_loop [1, 5] (fun e f => e = .int .i64 z ∧ f = .float .f64 (fq q m)) (fun _ _ => 0)
      case atStart => exact ⟨rfl, rfl⟩
      case round =>
        obtain ⟨rfl, rfl⟩ := hrel
        go_wp2
        go_ret
        have : m = N := by have := HN.out; omega
        subst this
        exact ⟨rfl, rfl⟩

set_option maxRecDepth 100000 in
set_option maxHeartbeats 400000 in
theorem scaled_down (q k : Nat) (N : Nat) (w : World) (hq : q < 9007199254740992) (hk : 1 ≤ k) (hN : N + k = 1074) : Calls Try.prog 33 #[.int .u64 q, .int .i64 (-(k : Int))] w fun e w' => e = .returned (.float .f64 (fq q N)) ∧ w' = w := by
  obtain ⟨n, hn⟩ : ∃ n : Nat, n = 1074 := ⟨_, rfl⟩
  have hc := conv_run hq hn
  have hna : n ≤ 1074 := by omega
  have hnb : 1074 ≤ n := by omega
  have hkb : k ≤ 1074 := by omega
  have HN := Lib.hid hN
  clear hN hn
  go_enter Try.func33, Try.ntmps33
  go_wp2
  clear hc
  go_loop [1, 5] (fun e f => e = .int .i64 (-(k : Int)) ∧ f = .float .f64 (fq q n)) (fun _ _ => 0)
  case atStart => exact ⟨rfl, rfl⟩
  case round =>
    obtain ⟨rfl, rfl⟩ := hrel
    go_wp2
    go_loop [1, 5] (fun e f => ∃ j m : Nat, j ≤ k ∧ e = .int .i64 ((j : Int) - (k : Int)) ∧ m + j = n ∧ f = .float .f64 (fq q m)) (fun e _ => (-(intOf e)).toNat)
    case atStart => exact ⟨0, n, by omega, by go_num, rfl, rfl⟩
    case round =>
      obtain ⟨j, m, hj, rfl, hm0, rfl⟩ := hrel
      have hma : m + j ≤ n := by omega
      have hmb : n ≤ m + j := by omega
      clear hm0
      by_cases h : j < k
      · obtain ⟨m', rfl⟩ : ∃ m', m = m' + 1 := ⟨m - 1, by omega⟩
        have hr := half_run (q := q) (n := m') hq (by omega)
        go_wp2
        go_round
        case rel => exact ⟨j + 1, m', by omega, by go_num, by omega, rfl⟩
        case measure => simp [intOf]; omega
      · go_wp2
        go_ret
        have : m = N := by have := HN.out; omega
        subst this
        exact ⟨rfl, rfl⟩
end Go.Proofs.Ytknhncpmijgdfaa
