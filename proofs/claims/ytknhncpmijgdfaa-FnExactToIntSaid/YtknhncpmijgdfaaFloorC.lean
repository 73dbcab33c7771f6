/- What Floor returns, the reference's and the program's (functions 20 and 21 here), at every float64 that is no NaN: one and the same word. Of a NaN: a NaN. -/
import Derived.Test.YtknhncpmijgdfaaFloorP
import Derived.Test.YtknhncpmijgdfaaFromD
namespace Go.Proofs.Ytknhncpmijgdfaa
open Go.RowKit
open Flt Ieee

set_option maxRecDepth 100000 in
set_option maxHeartbeats 400000 in
theorem floor_nan_spec (x : Nat) (w : World) (h : FloatKind.f64.format.order x x = none) : Calls Try.prog 20 #[.float .f64 x] w fun e w' => e = .returned (.float .f64 x) ∧ w' = w := by
  go_enter Try.func20, Try.ntmps20
  go_wp2
  go_ret
  exact ⟨rfl, rfl⟩
set_option maxRecDepth 100000 in
set_option maxHeartbeats 400000 in
theorem floor_zero_spec (x : Nat) (w : World) (h : FloatKind.f64.format.order x x = some .eq) (h0 : FloatKind.f64.format.order x 0 = some .eq) : Calls Try.prog 20 #[.float .f64 x] w fun e w' => e = .returned (.float .f64 x) ∧ w' = w := by
  go_enter Try.func20, Try.ntmps20
  go_wp2
  go_ret
  exact ⟨rfl, rfl⟩
set_option maxRecDepth 100000 in
set_option maxHeartbeats 400000 in
theorem floor_big_spec (x : Nat) (w : World) (h : FloatKind.f64.format.order x x = some .eq) (h0 : FloatKind.f64.format.order x 0 = some .gt) (hb : FloatKind.f64.format.order x 4890909195324358656 = some .gt ∨ FloatKind.f64.format.order x 4890909195324358656 = some .eq) : Calls Try.prog 20 #[.float .f64 x] w fun e w' => e = .returned (.float .f64 x) ∧ w' = w := by
  rcases hb with hb | hb
  all_goals
    go_enter Try.func20, Try.ntmps20
    go_wp2
    go_ret
    exact ⟨rfl, rfl⟩
set_option maxRecDepth 100000 in
set_option maxHeartbeats 400000 in
theorem floor_low_spec (x : Nat) (w : World) (h : FloatKind.f64.format.order x x = some .eq) (h0 : FloatKind.f64.format.order x 0 = some .lt) (hp : FloatKind.f64.format.order x 4890909195324358656 = some .lt) (hb : FloatKind.f64.format.order x 14114281232179134464 = some .lt ∨ FloatKind.f64.format.order x 14114281232179134464 = some .eq) : Calls Try.prog 20 #[.float .f64 x] w fun e w' => e = .returned (.float .f64 x) ∧ w' = w := by
  rcases hb with hb | hb
  all_goals
    go_enter Try.func20, Try.ntmps20
    go_wp2
    go_ret
    exact ⟨rfl, rfl⟩
theorem i64_conv (x : Nat) (n : Int) (h : floatToIntVal .f64 x .i64 = some n) (w : World) : (convert 25 2 (.float .f64 x)).run Try.prog w = .ok (.int .i64 n) w :=
  run_convert_float_int w 25 2 .f64 .i64 _ _ (by rw [Try.underlying25]; rfl) Try.underlying2 h
theorem i64_back (n : Int) (t : Nat) (h : floatOfInt .f64 n = t) (w : World) : (convert 2 25 (.int .i64 n)).run Try.prog w = .ok (.float .f64 t) w := by
  rw [run_convert_int_float w 2 25 .i64 .f64 _ (by rw [Try.underlying2]; rfl) Try.underlying25, h]
set_option maxRecDepth 100000 in
set_option maxHeartbeats 400000 in
theorem floor_keep_spec (x t : Nat) (n : Int) (w : World) (h : FloatKind.f64.format.order x x = some .eq) (h0 : (FloatKind.f64.format.order x 0 == some .eq) = false) (hp : FloatKind.f64.format.order x 4890909195324358656 = some .lt) (hn : FloatKind.f64.format.order x 14114281232179134464 = some .gt)
    (hi : floatToIntVal .f64 x .i64 = some n) (hb : floatOfInt .f64 n = t) (ht : (FloatKind.f64.format.order t x == some .gt) = false) : Calls Try.prog 20 #[.float .f64 x] w fun e w' => e = .returned (.float .f64 t) ∧ w' = w := by
  have hc := i64_conv x n hi
  have hd := i64_back n t hb
  clear hi hb
  go_enter Try.func20, Try.ntmps20
  go_wp2
  go_ret
  exact ⟨rfl, rfl⟩
set_option maxRecDepth 100000 in
set_option maxHeartbeats 400000 in
theorem floor_down_spec (x t g : Nat) (n : Int) (w : World) (h : FloatKind.f64.format.order x x = some .eq) (h0 : (FloatKind.f64.format.order x 0 == some .eq) = false) (hp : FloatKind.f64.format.order x 4890909195324358656 = some .lt) (hn : FloatKind.f64.format.order x 14114281232179134464 = some .gt)
    (hi : floatToIntVal .f64 x .i64 = some n) (hb : floatOfInt .f64 n = t) (ht : FloatKind.f64.format.order t x = some .gt) (hs : FloatKind.f64.format.sub t 4607182418800017408 = some g) : Calls Try.prog 20 #[.float .f64 x] w fun e w' => e = .returned (.float .f64 g) ∧ w' = w := by
  have hc := i64_conv x n hi
  have hd := i64_back n t hb
  have hm : ∀ ty w, (binOp .sub ty (.float .f64 t) (.float .f64 4607182418800017408)).run Try.prog w = .ok (.float .f64 g) w := fun ty w => run_float_arith w .sub ty .f64 _ _ _ hs
  clear hi hb hs
  go_enter Try.func20, Try.ntmps20
  go_wp2
  go_ret
  exact ⟨rfl, rfl⟩

theorem arch_run (x : Nat) (d : Ieee.Datum) (hd : FloatKind.f64.decode x = d) (hn : d.isNaN = false) (w : World) : (callFunc 38 #[.float .f64 x]).run Try.prog w = .ok (.value (.float .f64 (FloatKind.f64.encode (d.integral .down)))) w := by
  rw [run_callFunc_extern (e := Extern.MathFloor.toIntegral "math.archFloor" .down) Try.func38 (by kernel_rfl) (by kernel_rfl) (by kernel_rfl) (by kernel_rfl)]
  show (Sem.run _ (Go.Extern.MathFloor.toIntegral.match_1 (fun _ => Sem Value) (FloatKind.f64.decode x) _ _) w).andThen _ = _
  rw [hd]
  cases d with
  | nan s t => simp [Datum.isNaN] at hn
  | infinity s => rfl
  | number s m e => rfl

set_option maxRecDepth 100000 in
set_option maxHeartbeats 400000 in
theorem floor_impl (x g : Nat) (w : World) (hr : ∀ w, (callFunc 38 #[.float .f64 x]).run Try.prog w = .ok (.value (.float .f64 g)) w) : Calls Try.prog 21 #[.float .f64 x] w fun e w' => e = .returned (.float .f64 g) ∧ w' = w := by
  go_enter Try.func21, Try.ntmps21
  go_wp2
  go_ret
  exact ⟨rfl, rfl⟩
end Go.Proofs.Ytknhncpmijgdfaa
