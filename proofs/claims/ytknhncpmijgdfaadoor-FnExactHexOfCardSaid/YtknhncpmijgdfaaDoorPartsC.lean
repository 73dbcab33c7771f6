/- What the reference's PartsOf (function 7) returns at every float64. No condition. -/
import Derived.Test.YtknhncpmijgdfaaDoorRaw2
import Derived.Test.YtknhncpmijgdfaaDoorBits
import Derived.Test.YtknhncpmijgdfaaDoorTz
namespace Go.Proofs.YtknhncpmijgdfaaDoor
open Go.RowKit
open Flt Ieee

/-- a Parts is returned; nothing that was there has turned -/
def Prt (k : Int) (s : Bool) (m e : Int) (w : World) (en : Ending) (w' : World) : Prop := en = .returned (.agg #[.int .i64 k, .bool s, .int .i64 m, .int .i64 e]) ∧ Below w.heap.size w w'

/-- an odd number times a power of two -/
def od (d i : Nat) : Nat := 2 ^ i * (2 * d + 1)
theorem od_succ (d i : Nat) : od d (i + 1) = 2 * od d i := by unfold od; rw [Nat.pow_succ, Nat.mul_comm (2 ^ i) 2, Nat.mul_assoc]
theorem od_zero (d : Nat) : od d 0 = 2 * d + 1 := by unfold od; rw [Nat.pow_zero, Nat.one_mul]
theorem od_mono (d : Nat) : ∀ i j, od d i ≤ od d (i + j)
  | i, 0 => Nat.le_refl _
  | i, j + 1 => by have := od_mono d i j; rw [← Nat.add_assoc, od_succ]; omega
theorem od_ctz (x : Nat) (h0 : x ≠ 0) (h : x < 18446744073709551616) : ∃ d, x = od d (Lib.ctz 64 x) := by
  obtain ⟨m, hm, _⟩ := Lib.ctzFrom_spec 64 x (by omega) (by simpa using h)
  refine ⟨m, ?_⟩
  unfold od Lib.ctz
  rw [if_neg h0]
  exact hm

set_option maxRecDepth 100000 in
set_option maxHeartbeats 400000 in
theorem sparts_nan (x : Nat) (w : World) (h : FloatKind.f64.format.order x x = none) : Calls Tryd.prog 7 #[.float .f64 x] w (Prt 3 false 0 0 w) := by
  go_enter Tryd.func7, Tryd.ntmps7
  go_wp2
  exact bodyPost_ret (v := .agg #[.int .i64 3, .bool false, .int .i64 0, .int .i64 0]) (by simp [results, Tryd.results7, go_sem]) rfl ⟨rfl, by repeat (first | exact Below.refl _ _ | refine below_new ?_ _)⟩

set_option maxRecDepth 100000 in
set_option maxHeartbeats 400000 in
theorem sparts_zero (x : Nat) (s : Bool) (w : World) (h : FloatKind.f64.format.order x x = some .eq) (hc : ∀ w, Calls Tryd.prog 16 #[.float .f64 x] w fun e w' => e = .returned (.tuple #[.bool s, .int .u64 0]) ∧ w' = w) : Calls Tryd.prog 7 #[.float .f64 x] w (Prt 0 s 0 0 w) := by
  have H := Lib.hid hc
  have hb : bits .and .u64 0 4503599627370495 = 0 := by decide
  clear hc
  go_enter Tryd.func7, Tryd.ntmps7
  go_wp2_with (go_at_call 16; refine (H.out _).mono ?_; rintro e w' ⟨rfl, rfl⟩)
  exact bodyPost_ret (v := .agg #[.int .i64 0, .bool s, .int .i64 0, .int .i64 0]) (by simp [results, Tryd.results7, go_sem]) rfl ⟨rfl, by repeat (first | exact Below.refl _ _ | refine below_new ?_ _)⟩

set_option maxRecDepth 100000 in
set_option maxHeartbeats 400000 in
theorem sparts_inf (x : Nat) (s : Bool) (w : World) (h : FloatKind.f64.format.order x x = some .eq) (hc : ∀ w, Calls Tryd.prog 16 #[.float .f64 x] w fun e w' => e = .returned (.tuple #[.bool s, .int .u64 9218868437227405312]) ∧ w' = w) : Calls Tryd.prog 7 #[.float .f64 x] w (Prt 2 s 0 0 w) := by
  have H := Lib.hid hc
  have hb : bits .and .u64 9218868437227405312 4503599627370495 = 0 := by decide
  clear hc
  go_enter Tryd.func7, Tryd.ntmps7
  go_wp2_with (go_at_call 16; refine (H.out _).mono ?_; rintro e w' ⟨rfl, rfl⟩)
  exact bodyPost_ret (v := .agg #[.int .i64 2, .bool s, .int .i64 0, .int .i64 0]) (by simp [results, Tryd.results7, go_sem]) rfl ⟨rfl, by repeat (first | exact Below.refl _ _ | refine below_new ?_ _)⟩

set_option maxRecDepth 100000 in
set_option maxHeartbeats 1000000 in
theorem sparts_norm (x r c d E q : Nat) (s : Bool) (w : World) (h : FloatKind.f64.format.order x x = some .eq) (hc : ∀ w, Calls Tryd.prog 16 #[.float .f64 x] w fun e w' => e = .returned (.tuple #[.bool s, .int .u64 r]) ∧ w' = w)
    (hr0 : ((r : Int) == 0) = false) (hE : (r : Int) / 4503599627370496 = (E : Int)) (hE1 : ((E : Int) == 2047) = false) (hE0 : 0 < E) (hE2 : E ≤ 2046) (hM : bits .and .u64 (r : Int) 4503599627370495 = (q : Int)) (ho : bits .or .u64 (q : Int) 4503599627370496 = ((od d c : Nat) : Int)) (hq : od d c < 9007199254740992) (hc52 : c ≤ 52) : Calls Tryd.prog 7 #[.float .f64 x] w (Prt 1 s (od d 0 : Nat) (((E : Int) - 1075) + c) w) := by
  have H := Lib.hid hc
  clear hc
  go_enter Tryd.func7, Tryd.ntmps7
  go_wp2_with (go_at_call 16; refine (H.out _).mono ?_; rintro e w' ⟨rfl, rfl⟩)
  go_loopw [7] (fun m wr => ∃ i j : Nat, i + j = c ∧ m = .int .u64 (od d i : Nat) ∧ wr = (w.alloc (.cells #[.int .i64 0, .bool false, .int .i64 0, .int .i64 0] 24)).alloc (.cells #[.int .i64 1, .bool s, .int .i64 0, .int .i64 (((E : Int) - 1075) + j)] 24)) (fun m _ => (intOf m).toNat)
  case atStart => exact ⟨c, 0, rfl, rfl, by rw [show (((E : Int) - 1075) + ((0 : Nat) : Int)) = ((E : Int) - 1075) by omega]⟩
  case round =>
    obtain ⟨i, j, hij, rfl, rfl⟩ := hrel
    have hjc : j ≤ c := by omega
    have hsm : od d i ≤ od d c := by have := od_mono d i j; rw [hij] at this; exact this
    cases i with
    | zero =>
      have hz := od_zero d
      have hm2 : ((od d 0 : Nat) : Int) % 2 = 1 := by omega
      have hj0 : j = c := by omega
      subst hj0
      clear hij hz
      go_wp2
      exact bodyPost_ret (v := .agg #[.int .i64 1, .bool s, .int .i64 (od d 0 : Nat), .int .i64 (((E : Int) - 1075) + j)]) (by simp [results, Tryd.results7, go_sem]) rfl ⟨rfl, by repeat (first | exact Below.refl _ _ | refine below_new ?_ _)⟩
    | succ i =>
      have hs := od_succ d i
      have hlt : od d i < od d (i + 1) := by have := od_mono d 0 i; rw [od_zero, Nat.zero_add] at this; omega
      have hm2 : ((od d (i + 1) : Nat) : Int) % 2 = 0 := by omega
      have hd2 : ((od d (i + 1) : Nat) : Int) / 2 = ((od d i : Nat) : Int) := by omega
      have hin : i + 1 + j ≤ c := by omega
      have HI := Lib.hid hij
      clear hs hij
      go_wp2
      go_roundw
      case rel => exact ⟨i, j + 1, by have := HI.out; omega, rfl, by rw [show (((E : Int) - 1075) + ((j + 1 : Nat) : Int)) = ((E : Int) - 1075) + (j : Int) + 1 by omega]⟩
      case measure => simp [intOf]; omega
set_option maxRecDepth 100000 in
set_option maxHeartbeats 1000000 in
theorem sparts_sub (x r c d : Nat) (s : Bool) (w : World) (h : FloatKind.f64.format.order x x = some .eq) (hc : ∀ w, Calls Tryd.prog 16 #[.float .f64 x] w fun e w' => e = .returned (.tuple #[.bool s, .int .u64 r]) ∧ w' = w)
    (hr0 : ((r : Int) == 0) = false) (hE : (r : Int) / 4503599627370496 = 0) (hM : bits .and .u64 (r : Int) 4503599627370495 = ((od d c : Nat) : Int)) (hq : od d c < 9007199254740992) (hc52 : c ≤ 52) : Calls Tryd.prog 7 #[.float .f64 x] w (Prt 1 s (od d 0 : Nat) (-1074 + c) w) := by
  have H := Lib.hid hc
  clear hc
  go_enter Tryd.func7, Tryd.ntmps7
  go_wp2_with (go_at_call 16; refine (H.out _).mono ?_; rintro e w' ⟨rfl, rfl⟩)
  go_loopw [7] (fun m wr => ∃ i j : Nat, i + j = c ∧ m = .int .u64 (od d i : Nat) ∧ wr = (w.alloc (.cells #[.int .i64 0, .bool false, .int .i64 0, .int .i64 0] 24)).alloc (.cells #[.int .i64 1, .bool s, .int .i64 0, .int .i64 (-1074 + j)] 24)) (fun m _ => (intOf m).toNat)
  case atStart => exact ⟨c, 0, rfl, rfl, by rw [show (-1074 + ((0 : Nat) : Int)) = -1074 by omega]⟩
  case round =>
    obtain ⟨i, j, hij, rfl, rfl⟩ := hrel
    have hjc : j ≤ c := by omega
    have hsm : od d i ≤ od d c := by have := od_mono d i j; rw [hij] at this; exact this
    cases i with
    | zero =>
      have hz := od_zero d
      have hm2 : ((od d 0 : Nat) : Int) % 2 = 1 := by omega
      have hj0 : j = c := by omega
      subst hj0
      clear hij hz
      go_wp2
      exact bodyPost_ret (v := .agg #[.int .i64 1, .bool s, .int .i64 (od d 0 : Nat), .int .i64 (-1074 + j)]) (by simp [results, Tryd.results7, go_sem]) rfl ⟨rfl, by repeat (first | exact Below.refl _ _ | refine below_new ?_ _)⟩
    | succ i =>
      have hs := od_succ d i
      have hlt : od d i < od d (i + 1) := by have := od_mono d 0 i; rw [od_zero, Nat.zero_add] at this; omega
      have hm2 : ((od d (i + 1) : Nat) : Int) % 2 = 0 := by omega
      have hd2 : ((od d (i + 1) : Nat) : Int) / 2 = ((od d i : Nat) : Int) := by omega
      have hin : i + 1 + j ≤ c := by omega
      have HI := Lib.hid hij
      clear hs hij
      go_wp2
      go_roundw
      case rel => exact ⟨i, j + 1, by have := HI.out; omega, rfl, by rw [show (-1074 + ((j + 1 : Nat) : Int)) = -1074 + (j : Int) + 1 by omega]⟩
      case measure => simp [intOf]; omega
end Go.Proofs.YtknhncpmijgdfaaDoor
