/- What the reference's l2raw (function 16 here) returns at every float64: the sign and the lower 63 bits, of a NaN one fixed number. No condition. -/
import Derived.Test.YtknhncpmijgdfaaDoorFltD
import Derived.Test.YtknhncpmijgdfaaDoorBits
import Derived.Test.YtknhncpmijgdfaaDoorRows
import Derived.WalkKit
import Derived.WalkSpells
import Derived.WalkLawsBesides
import Derived.Lib.Hide
namespace Go.Proofs.YtknhncpmijgdfaaDoor
open Go.RowKit
open Flt

@[go_sem] theorem unary_neg_float (k : FloatKind) (b : Nat) : Op.unary .neg (.float k b) = pure (.float k (Op.negFloat k b)) := rfl

set_option maxHeartbeats 400000 in
theorem raw_nan (x : Nat) (w : World) (h : FloatKind.f64.format.order x x = none) : Calls Tryd.prog 16 #[.float .f64 x] w fun e w' => e = .returned (.tuple #[.bool false, .int .u64 9221120237041090560]) ∧ w' = w := by
  go_enter Tryd.func16, Tryd.ntmps16
  go_wp2
  go_ret2
  exact ⟨rfl, rfl⟩

theorem ret_bu {s : Bool} {a b : Int} (h : a = b) : Ending.returned (.tuple #[.bool s, .int .u64 a]) = .returned (.tuple #[.bool s, .int .u64 b]) := by rw [h]

theorem half_run {q n : Nat} (hq : q < 9007199254740992) (hn : n + 1 ≤ 2045) (t : TypeId) (w : World) : (binOp .mul t (.float .f64 (fq q (n + 1))) (.float .f64 4602678819172646912)).run Tryd.prog w = .ok (.float .f64 (fq q n)) w :=
  run_float_arith w .mul t .f64 _ _ _ (fq_half hq hn)
theorem two_run {q n : Nat} (hq : q < 9007199254740992) (hn : n + 1 ≤ 2045) (t : TypeId) (w : World) : (binOp .mul t (.float .f64 (fq q n)) (.float .f64 4611686018427387904)).run Tryd.prog w = .ok (.float .f64 (fq q (n + 1))) w :=
  run_float_arith w .mul t .f64 _ _ _ (fq_two hq hn)
theorem p52_run {m n : Nat} (hm : m < 9007199254740992) (hn : n = 1022) (t : TypeId) (w : World) : (binOp .mul t (.float .f64 (fq m n)) (.float .f64 4841369599423283200)).run Tryd.prog w = .ok (.float .f64 (fl false (m * one))) w :=
  run_float_arith w .mul t .f64 _ _ _ (fq_p52 hm hn)
theorem sub_run {q n : Nat} (hq : q < 9007199254740992) (h2 : 4503599627370496 ≤ q) (hn : n = 1022) (t : TypeId) (w : World) : (binOp .sub t (.float .f64 (fq q n)) (.float .f64 4607182418800017408)).run Tryd.prog w = .ok (.float .f64 (fq (q - 4503599627370496) n)) w :=
  run_float_arith w .sub t .f64 _ _ _ (fq_sub_one hq h2 hn)
theorem u64_run {m : Nat} (hm : m < 9007199254740992) (w : World) : (convert 22 31 (.float .f64 (fl false (m * one)))).run Tryd.prog w = .ok (.int .u64 m) w :=
  run_convert_float_int w 22 31 .f64 .u64 _ _ (by rw [Tryd.underlying22]; rfl) Tryd.underlying31 (toU64_whole m hm)

set_option maxRecDepth 100000 in
set_option maxHeartbeats 1000000 in
theorem raw_norm (s : Bool) (x y q t : Nat) (w : World) (hy : y = fq q t) (hq : q < 9007199254740992) (hq2 : 4503599627370496 ≤ q) (ht : t ≤ 2045) (hxx : FloatKind.f64.format.order x x = some .eq) (hx0 : FloatKind.f64.format.order x 0 = some (cond s .lt .gt))
    (hng : cond s (Op.negFloat .f64 x) x = y) (hy0 : FloatKind.f64.format.order y 0 = some .gt) (hmx : (FloatKind.f64.format.order y 9218868437227405311 == some .gt) = false) :
    Calls Tryd.prog 16 #[.float .f64 x] w fun e w' => e = .returned (.tuple #[.bool s, .int .u64 (t * 4503599627370496 + q : Nat)]) ∧ w' = w := by
  have Hy := Lib.hid hy
  clear hy
  cases s
  all_goals simp only [cond_true, cond_false] at hx0 hng
  · subst hng
    go_enter Tryd.func16, Tryd.ntmps16
    go_wp2
    go_loop [0, 5] (fun f e => ∃ k n : Nat, e = .int .i64 (1023 + k) ∧ (k = 0 ∨ k + 1022 ≤ t) ∧ n + k = t ∧ f = .float .f64 (fq q n)) (fun _ e => 2046 - (intOf e).toNat)
    case atStart => exact ⟨0, t, rfl, Or.inl rfl, rfl, by rw [Hy.out]⟩
    case round =>
      obtain ⟨k, n, rfl, hk, hn0, rfl⟩ := hrel
      have hna : n + k ≤ t := by omega
      have hnb : t ≤ n + k := by omega
      clear hn0
      by_cases hc : 1023 ≤ n
      · obtain ⟨m, rfl⟩ : ∃ m, n = m + 1 := ⟨n - 1, by omega⟩
        have hm := half_run (n := m) hq (by omega)
        rcases fq_ge_two hq hq2 hc (by omega) with hge | hge
        all_goals
          go_wp2
          go_round
          case rel => exact ⟨k + 1, m, by go_num, Or.inr (by omega), by omega, rfl⟩
          case measure => simp [intOf]; omega
      · have hlt := fq_lt_two (q := q) (n := n) hq (by omega)
        go_wp2
        clear hlt
        go_loop [0, 5] (fun f e => ∃ j m : Nat, e = .int .i64 (1023 + k - j) ∧ j ≤ 1023 + k ∧ (j = 0 ∨ k = 0) ∧ m ≤ 1022 ∧ m = n + j ∧ f = .float .f64 (fq q m)) (fun _ e => (intOf e).toNat)
        case atStart => exact ⟨0, n, by go_num, by omega, Or.inl rfl, by omega, rfl, rfl⟩
        case round =>
          obtain ⟨j, m, rfl, hj0, hj, hm1, hm0, rfl⟩ := hrel
          have hma : m ≤ n + j := by omega
          have hmb : n + j ≤ m := by omega
          clear hm0
          by_cases hc2 : m ≤ 1021
          · have hm := two_run (n := m) hq (by omega)
            have hlt := fq_lt_one (q := q) (n := m) hq (Or.inl hc2)
            have hj2 : j ≤ 1021 := by omega
            go_wp2
            go_round
            case rel => exact ⟨j + 1, m + 1, by go_num, by omega, by omega, by omega, by omega, rfl⟩
            case measure => simp [intOf]; omega
          · have hm2 : m = 1022 := by omega
            have hge := fq_ge_one hq hq2 hm2
            have hs := sub_run hq hq2 hm2
            have hp := p52_run (m := q - 4503599627370496) (by omega) hm2
            have hu := u64_run (m := q - 4503599627370496) (by omega)
            clear hm2
            go_wp2
            go_ret2
            refine ⟨ret_bu ?_, rfl⟩
            have e1 : (1023 + (k : Int) - (j : Int)) = ((1023 + k - j : Nat) : Int) := by omega
            rw [e1, or_lo52 _ _ (by omega) (by omega)]
            omega
  · go_enter Tryd.func16, Tryd.ntmps16
    go_wp2
    go_loop [0, 5] (fun f e => ∃ k n : Nat, e = .int .i64 (1023 + k) ∧ (k = 0 ∨ k + 1022 ≤ t) ∧ n + k = t ∧ f = .float .f64 (fq q n)) (fun _ e => 2046 - (intOf e).toNat)
    case atStart => exact ⟨0, t, rfl, Or.inl rfl, rfl, by rw [Hy.out]⟩
    case round =>
      obtain ⟨k, n, rfl, hk, hn0, rfl⟩ := hrel
      have hna : n + k ≤ t := by omega
      have hnb : t ≤ n + k := by omega
      clear hn0
      by_cases hc : 1023 ≤ n
      · obtain ⟨m, rfl⟩ : ∃ m, n = m + 1 := ⟨n - 1, by omega⟩
        have hm := half_run (n := m) hq (by omega)
        rcases fq_ge_two hq hq2 hc (by omega) with hge | hge
        all_goals
          go_wp2
          go_round
          case rel => exact ⟨k + 1, m, by go_num, Or.inr (by omega), by omega, rfl⟩
          case measure => simp [intOf]; omega
      · have hlt := fq_lt_two (q := q) (n := n) hq (by omega)
        go_wp2
        clear hlt
        go_loop [0, 5] (fun f e => ∃ j m : Nat, e = .int .i64 (1023 + k - j) ∧ j ≤ 1023 + k ∧ (j = 0 ∨ k = 0) ∧ m ≤ 1022 ∧ m = n + j ∧ f = .float .f64 (fq q m)) (fun _ e => (intOf e).toNat)
        case atStart => exact ⟨0, n, by go_num, by omega, Or.inl rfl, by omega, rfl, rfl⟩
        case round =>
          obtain ⟨j, m, rfl, hj0, hj, hm1, hm0, rfl⟩ := hrel
          have hma : m ≤ n + j := by omega
          have hmb : n + j ≤ m := by omega
          clear hm0
          by_cases hc2 : m ≤ 1021
          · have hm := two_run (n := m) hq (by omega)
            have hlt := fq_lt_one (q := q) (n := m) hq (Or.inl hc2)
            have hj2 : j ≤ 1021 := by omega
            go_wp2
            go_round
            case rel => exact ⟨j + 1, m + 1, by go_num, by omega, by omega, by omega, by omega, rfl⟩
            case measure => simp [intOf]; omega
          · have hm2 : m = 1022 := by omega
            have hge := fq_ge_one hq hq2 hm2
            have hs := sub_run hq hq2 hm2
            have hp := p52_run (m := q - 4503599627370496) (by omega) hm2
            have hu := u64_run (m := q - 4503599627370496) (by omega)
            clear hm2
            go_wp2
            go_ret2
            refine ⟨ret_bu ?_, rfl⟩
            have e1 : (1023 + (k : Int) - (j : Int)) = ((1023 + k - j : Nat) : Int) := by omega
            rw [e1, or_lo52 _ _ (by omega) (by omega)]
            omega

set_option maxRecDepth 100000 in
set_option maxHeartbeats 1000000 in
theorem raw_sub (s : Bool) (x y q : Nat) (w : World) (hy : y = fq q 0) (hq : q < 4503599627370496) (hxx : FloatKind.f64.format.order x x = some .eq) (hx0 : FloatKind.f64.format.order x 0 = some (cond s .lt .gt))
    (hng : cond s (Op.negFloat .f64 x) x = y) (hy0 : FloatKind.f64.format.order y 0 = some .gt) (hmx : (FloatKind.f64.format.order y 9218868437227405311 == some .gt) = false) :
    Calls Tryd.prog 16 #[.float .f64 x] w fun e w' => e = .returned (.tuple #[.bool s, .int .u64 q]) ∧ w' = w := by
  have Hy := Lib.hid hy
  clear hy
  cases s
  all_goals simp only [cond_true, cond_false] at hx0 hng
  · subst hng
    go_enter Tryd.func16, Tryd.ntmps16
    go_wp2
    go_loop [0, 5] (fun f e => e = .int .i64 1023 ∧ f = .float .f64 (fq q 0)) (fun _ _ => 0)
    case atStart => exact ⟨rfl, by rw [Hy.out]⟩
    case round =>
      obtain ⟨rfl, rfl⟩ := hrel
      have hlt := fq_lt_two (q := q) (n := 0) (by omega) (by omega)
      go_wp2
      clear hlt
      go_loop [0, 5] (fun f e => ∃ j : Nat, e = .int .i64 (1023 - j) ∧ j ≤ 1022 ∧ f = .float .f64 (fq q j)) (fun _ e => (intOf e).toNat)
      case atStart => exact ⟨0, by go_num, by omega, rfl⟩
      case round =>
        obtain ⟨j, rfl, hj, rfl⟩ := hrel
        have hlt := fq_lt_one (q := q) (n := j) (by omega) (Or.inr ⟨hj, hq⟩)
        by_cases hc2 : j ≤ 1021
        · have hm := two_run (q := q) (n := j) (by omega) (by omega)
          go_wp2
          go_round
          case rel => exact ⟨j + 1, by go_num, by omega, rfl⟩
          case measure => simp [intOf]; omega
        · have hm2 : j = 1022 := by omega
          have hp := p52_run (m := q) (by omega) hm2
          have hu := u64_run (m := q) (by omega)
          clear hm2
          go_wp2
          go_ret2
          exact ⟨rfl, rfl⟩
  · go_enter Tryd.func16, Tryd.ntmps16
    go_wp2
    go_loop [0, 5] (fun f e => e = .int .i64 1023 ∧ f = .float .f64 (fq q 0)) (fun _ _ => 0)
    case atStart => exact ⟨rfl, by rw [Hy.out]⟩
    case round =>
      obtain ⟨rfl, rfl⟩ := hrel
      have hlt := fq_lt_two (q := q) (n := 0) (by omega) (by omega)
      go_wp2
      clear hlt
      go_loop [0, 5] (fun f e => ∃ j : Nat, e = .int .i64 (1023 - j) ∧ j ≤ 1022 ∧ f = .float .f64 (fq q j)) (fun _ e => (intOf e).toNat)
      case atStart => exact ⟨0, by go_num, by omega, rfl⟩
      case round =>
        obtain ⟨j, rfl, hj, rfl⟩ := hrel
        have hlt := fq_lt_one (q := q) (n := j) (by omega) (Or.inr ⟨hj, hq⟩)
        by_cases hc2 : j ≤ 1021
        · have hm := two_run (q := q) (n := j) (by omega) (by omega)
          go_wp2
          go_round
          case rel => exact ⟨j + 1, by go_num, by omega, rfl⟩
          case measure => simp [intOf]; omega
        · have hm2 : j = 1022 := by omega
          have hp := p52_run (m := q) (by omega) hm2
          have hu := u64_run (m := q) (by omega)
          clear hm2
          go_wp2
          go_ret2
          exact ⟨rfl, rfl⟩

end Go.Proofs.YtknhncpmijgdfaaDoor
