/- What ToInt returns, the reference's and the program's (functions 22 and 23 here): one and the same struct, in new memory, at every float64. No condition. -/
import Derived.Test.YtknhncpmijgdfaaFloor
namespace Go.Proofs.Ytknhncpmijgdfaa
open Go.RowKit
open Flt Ieee

/-- a Whole is returned, its fields a and b; one new block bears it -/
def Whl (a b : Int) (w : World) (e : Ending) (w' : World) : Prop := e = .returned (.agg #[.int .i64 a, .int .i64 b]) ∧ w' = w.alloc (.cells #[.int .i64 a, .int .i64 b] 34)

set_option maxRecDepth 100000 in
set_option maxHeartbeats 400000 in
theorem floor35 (x g : Nat) (w : World) (hr : ∀ w, (callFunc 38 #[.float .f64 x]).run Try.prog w = .ok (.value (.float .f64 g)) w) : Calls Try.prog 35 #[.float .f64 x] w fun e w' => e = .returned (.float .f64 g) ∧ w' = w := by
  go_enter Try.func35, Try.ntmps35
  go_wp2
  go_ret
  exact ⟨rfl, rfl⟩

set_option maxRecDepth 100000 in
set_option maxHeartbeats 400000 in
theorem toint_nan_spec (x : Nat) (w : World) (h : FloatKind.f64.format.order x x = none) : Calls Try.prog 22 #[.float .f64 x] w (Whl 3 0 w) := by
  go_enter Try.func22, Try.ntmps22
  go_wp2
  exact bodyPost_ret (v := .agg #[.int .i64 3, .int .i64 0]) (by simp [results, Try.results22, go_sem]) rfl ⟨rfl, rfl⟩
set_option maxRecDepth 100000 in
set_option maxHeartbeats 400000 in
theorem toint_big_spec (x : Nat) (w : World) (h : FloatKind.f64.format.order x x = some .eq) (hp : FloatKind.f64.format.order x 4890909195324358656 = some .gt ∨ FloatKind.f64.format.order x 4890909195324358656 = some .eq) (_hn : FloatKind.f64.format.order x 14114281232179134464 = some .gt) : Calls Try.prog 22 #[.float .f64 x] w (Whl 3 0 w) := by
  rcases hp with hp | hp
  all_goals
    go_enter Try.func22, Try.ntmps22
    go_wp2
    exact bodyPost_ret (v := .agg #[.int .i64 3, .int .i64 0]) (by simp [results, Try.results22, go_sem]) rfl ⟨rfl, rfl⟩
set_option maxRecDepth 100000 in
set_option maxHeartbeats 400000 in
theorem toint_low_spec (x : Nat) (w : World) (h : FloatKind.f64.format.order x x = some .eq) (hp : FloatKind.f64.format.order x 4890909195324358656 = some .lt) (hn : FloatKind.f64.format.order x 14114281232179134464 = some .lt) : Calls Try.prog 22 #[.float .f64 x] w (Whl 3 0 w) := by
  go_enter Try.func22, Try.ntmps22
  go_wp2
  exact bodyPost_ret (v := .agg #[.int .i64 3, .int .i64 0]) (by simp [results, Try.results22, go_sem]) rfl ⟨rfl, rfl⟩
set_option maxRecDepth 100000 in
set_option maxHeartbeats 400000 in
theorem toint_part_spec (x g : Nat) (w : World) (h : FloatKind.f64.format.order x x = some .eq) (hp : FloatKind.f64.format.order x 4890909195324358656 = some .lt) (hn : FloatKind.f64.format.order x 14114281232179134464 = some .gt ∨ FloatKind.f64.format.order x 14114281232179134464 = some .eq) (hf : ∀ w, Calls Try.prog 20 #[.float .f64 x] w fun e w' => e = .returned (.float .f64 g) ∧ w' = w) (ho : (FloatKind.f64.format.order g x != some .eq) = true) : Calls Try.prog 22 #[.float .f64 x] w (Whl 2 0 w) := by
  have HF := Lib.hid hf
  clear hf
  rcases hn with hn | hn
  all_goals
    go_enter Try.func22, Try.ntmps22
    go_wp2_with (go_at_call 20; refine (HF.out _).mono ?_; rintro e w' ⟨rfl, rfl⟩)
    exact bodyPost_ret (v := .agg #[.int .i64 2, .int .i64 0]) (by simp [results, Try.results22, go_sem]) rfl ⟨rfl, rfl⟩
set_option maxRecDepth 100000 in
set_option maxHeartbeats 400000 in
theorem toint_whole_spec (x g : Nat) (n : Int) (w : World) (h : FloatKind.f64.format.order x x = some .eq) (hp : FloatKind.f64.format.order x 4890909195324358656 = some .lt) (hn : FloatKind.f64.format.order x 14114281232179134464 = some .gt ∨ FloatKind.f64.format.order x 14114281232179134464 = some .eq) (hf : ∀ w, Calls Try.prog 20 #[.float .f64 x] w fun e w' => e = .returned (.float .f64 g) ∧ w' = w) (ho : FloatKind.f64.format.order g x = some .eq) (hi : floatToIntVal .f64 x .i64 = some n) : Calls Try.prog 22 #[.float .f64 x] w (Whl 0 n w) := by
  have hc := i64_conv x n hi
  clear hi
  have HF := Lib.hid hf
  clear hf
  rcases hn with hn | hn
  all_goals
    go_enter Try.func22, Try.ntmps22
    go_wp2_with (go_at_call 20; refine (HF.out _).mono ?_; rintro e w' ⟨rfl, rfl⟩)
    exact bodyPost_ret (v := .agg #[.int .i64 0, .int .i64 n]) (by simp [results, Try.results22, go_sem]) rfl ⟨rfl, rfl⟩
set_option maxRecDepth 100000 in
set_option maxHeartbeats 400000 in
theorem toint_nan_impl (x : Nat) (w : World) (h : FloatKind.f64.format.order x x = none) : Calls Try.prog 23 #[.float .f64 x] w (Whl 3 0 w) := by
  go_enter Try.func23, Try.ntmps23
  go_wp2
  exact bodyPost_ret (v := .agg #[.int .i64 3, .int .i64 0]) (by simp [results, Try.results23, go_sem]) rfl ⟨rfl, rfl⟩
set_option maxRecDepth 100000 in
set_option maxHeartbeats 400000 in
theorem toint_big_impl (x : Nat) (w : World) (h : FloatKind.f64.format.order x x = some .eq) (hp : FloatKind.f64.format.order x 4890909195324358656 = some .gt ∨ FloatKind.f64.format.order x 4890909195324358656 = some .eq) (hn : FloatKind.f64.format.order x 14114281232179134464 = some .gt) : Calls Try.prog 23 #[.float .f64 x] w (Whl 3 0 w) := by
  rcases hp with hp | hp
  all_goals
    go_enter Try.func23, Try.ntmps23
    go_wp2
    exact bodyPost_ret (v := .agg #[.int .i64 3, .int .i64 0]) (by simp [results, Try.results23, go_sem]) rfl ⟨rfl, rfl⟩
set_option maxRecDepth 100000 in
set_option maxHeartbeats 400000 in
theorem toint_low_impl (x : Nat) (w : World) (h : FloatKind.f64.format.order x x = some .eq) (_hp : FloatKind.f64.format.order x 4890909195324358656 = some .lt) (hn : FloatKind.f64.format.order x 14114281232179134464 = some .lt) : Calls Try.prog 23 #[.float .f64 x] w (Whl 3 0 w) := by
  go_enter Try.func23, Try.ntmps23
  go_wp2
  exact bodyPost_ret (v := .agg #[.int .i64 3, .int .i64 0]) (by simp [results, Try.results23, go_sem]) rfl ⟨rfl, rfl⟩
set_option maxRecDepth 100000 in
set_option maxHeartbeats 400000 in
theorem toint_part_impl (x g : Nat) (w : World) (h : FloatKind.f64.format.order x x = some .eq) (hp : FloatKind.f64.format.order x 4890909195324358656 = some .lt) (hn : FloatKind.f64.format.order x 14114281232179134464 = some .gt ∨ FloatKind.f64.format.order x 14114281232179134464 = some .eq) (hf : ∀ w, Calls Try.prog 35 #[.float .f64 x] w fun e w' => e = .returned (.float .f64 g) ∧ w' = w) (ho : (FloatKind.f64.format.order x g != some .eq) = true) : Calls Try.prog 23 #[.float .f64 x] w (Whl 2 0 w) := by
  have HF := Lib.hid hf
  clear hf
  rcases hn with hn | hn
  all_goals
    go_enter Try.func23, Try.ntmps23
    go_wp2_with (first | (go_at_call 35; refine (HF.out _).mono ?_; rintro e w' ⟨rfl, rfl⟩) | (go_at_call 27; go_in))
    exact bodyPost_ret (v := .agg #[.int .i64 2, .int .i64 0]) (by simp [results, Try.results23, go_sem]) rfl ⟨rfl, rfl⟩
set_option maxRecDepth 100000 in
set_option maxHeartbeats 400000 in
theorem toint_whole_impl (x g : Nat) (n : Int) (w : World) (h : FloatKind.f64.format.order x x = some .eq) (hp : FloatKind.f64.format.order x 4890909195324358656 = some .lt) (hn : FloatKind.f64.format.order x 14114281232179134464 = some .gt ∨ FloatKind.f64.format.order x 14114281232179134464 = some .eq) (hf : ∀ w, Calls Try.prog 35 #[.float .f64 x] w fun e w' => e = .returned (.float .f64 g) ∧ w' = w) (ho : FloatKind.f64.format.order x g = some .eq) (hi : floatToIntVal .f64 x .i64 = some n) : Calls Try.prog 23 #[.float .f64 x] w (Whl 0 n w) := by
  have hc := i64_conv x n hi
  clear hi
  have HF := Lib.hid hf
  clear hf
  rcases hn with hn | hn
  all_goals
    go_enter Try.func23, Try.ntmps23
    go_wp2_with (first | (go_at_call 35; refine (HF.out _).mono ?_; rintro e w' ⟨rfl, rfl⟩) | (go_at_call 27; go_in))
    exact bodyPost_ret (v := .agg #[.int .i64 0, .int .i64 n]) (by simp [results, Try.results23, go_sem]) rfl ⟨rfl, rfl⟩
end Go.Proofs.Ytknhncpmijgdfaa
