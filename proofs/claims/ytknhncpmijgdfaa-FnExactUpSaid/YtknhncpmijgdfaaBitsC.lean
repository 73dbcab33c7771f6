/- What BitsOf returns, the program's and the reference's (functions 16 and 15 here), at every float64: its 64 bits as an int64, of a NaN one fixed number. No condition. -/
import Derived.Test.YtknhncpmijgdfaaRaw2
namespace Go.Proofs.Ytknhncpmijgdfaa
open Go.RowKit
open Flt Ieee

theorem f64bits_run (x : Nat) (w : World) : (callFunc 29 #[.float .f64 x]).run Try.prog w = .ok (.value (.int .u64 x)) w := by
  rw [run_callFunc_extern (e := Extern.MathFloatBits.float64bits) Try.func29 (by kernel_rfl) (by kernel_rfl) (by kernel_rfl) (by kernel_rfl)]; rfl

theorem word_false (r : Nat) : double.word false r = r := rfl
theorem word_true (r : Nat) : double.word true r = r + 9223372036854775808 := by unfold Format.word; rw [signWeight_eq, if_pos rfl, Nat.add_comm]
theorem ret_i64 {a b : Int} (h : a = b) : Ending.returned (.int .i64 a) = .returned (.int .i64 b) := by rw [h]

set_option maxRecDepth 100000 in
set_option maxHeartbeats 400000 in
theorem specbits_nan (x : Nat) (w : World) (h : FloatKind.f64.format.order x x = none) : Calls Try.prog 15 #[.float .f64 x] w fun e w' => e = .returned (.int .i64 9221120237041090560) ∧ w' = w := by
  go_enter Try.func15, Try.ntmps15
  go_wp2_with (go_at_call 28; refine (raw_nan _ _ h).mono ?_; rintro e w' ⟨rfl, rfl⟩)
  go_ret
  exact ⟨rfl, rfl⟩
set_option maxRecDepth 100000 in
set_option maxHeartbeats 400000 in
theorem implbits_nan (x : Nat) (w : World) (h : FloatKind.f64.format.order x x = none) : Calls Try.prog 16 #[.float .f64 x] w fun e w' => e = .returned (.int .i64 9221120237041090560) ∧ w' = w := by
  go_enter Try.func16, Try.ntmps16
  go_wp2
  go_ret
  exact ⟨rfl, rfl⟩
set_option maxRecDepth 100000 in
set_option maxHeartbeats 400000 in
theorem specbits_word (s : Bool) (r : Nat) (hr : r ≤ 9218868437227405312) (w : World) : Calls Try.prog 15 #[.float .f64 (double.word s r)] w fun e w' => e = .returned (.int .i64 (wrap64 (double.word s r : Nat))) ∧ w' = w := by
  have hc := raw_word s r hr w
  generalize hx : double.word s r = x at hc ⊢
  have Hx := Lib.hid hx
  clear hx
  cases s
  · go_enter Try.func15, Try.ntmps15
    go_wp2_with (go_at_call 28; refine hc.mono ?_; rintro e w' ⟨rfl, rfl⟩)
    go_ret
    refine ⟨ret_i64 ?_, rfl⟩
    have hx := Hx.out
    rw [word_false] at hx
    subst hx
    unfold wrap64; omega
  · go_enter Try.func15, Try.ntmps15
    go_wp2_with (go_at_call 28; refine hc.mono ?_; rintro e w' ⟨rfl, rfl⟩)
    go_ret
    refine ⟨ret_i64 ?_, rfl⟩
    have hx := Hx.out
    rw [word_true] at hx
    rw [or_hi63 _ (by omega), hx]
set_option maxRecDepth 100000 in
set_option maxHeartbeats 400000 in
theorem implbits_word (x : Nat) (w : World) (h : FloatKind.f64.format.order x x = some .eq) : Calls Try.prog 16 #[.float .f64 x] w fun e w' => e = .returned (.int .i64 (wrap64 x)) ∧ w' = w := by
  have hb := f64bits_run
  go_enter Try.func16, Try.ntmps16
  go_wp2
  go_ret
  exact ⟨rfl, rfl⟩
end Go.Proofs.Ytknhncpmijgdfaa
