/- What Up returns, the reference's and the program's (functions 25 and 26 here), at every float64 that is no NaN: the next word. No condition but that. -/
import Derived.Test.YtknhncpmijgdfaaFromD
import Derived.Test.YtknhncpmijgdfaaBitsC
namespace Go.Proofs.Ytknhncpmijgdfaa
open Go.RowKit
open Flt Ieee

theorem ret_f64 {a b : Nat} (h : a = b) : Ending.returned (.float .f64 a) = .returned (.float .f64 b) := by rw [h]

set_option maxRecDepth 100000 in
set_option maxHeartbeats 400000 in
theorem up_nan_spec (x : Nat) (w : World) (h : FloatKind.f64.format.order x x = none) : Calls Try.prog 25 #[.float .f64 x] w fun e w' => e = .returned (.float .f64 x) ∧ w' = w := by
  go_enter Try.func25, Try.ntmps25
  go_wp2
  go_ret
  exact ⟨rfl, rfl⟩
set_option maxRecDepth 100000 in
set_option maxHeartbeats 400000 in
theorem up_nan_impl (x : Nat) (w : World) (h : FloatKind.f64.format.order x x = none) : Calls Try.prog 26 #[.float .f64 x] w fun e w' => e = .returned (.float .f64 x) ∧ w' = w := by
  go_enter Try.func26, Try.ntmps26
  go_wp2
  go_ret
  exact ⟨rfl, rfl⟩
set_option maxRecDepth 100000 in
set_option maxHeartbeats 400000 in
theorem up_inf_spec (x : Nat) (w : World) (h : FloatKind.f64.format.order x x = some .eq) (hm : FloatKind.f64.format.order x 9218868437227405311 = some .gt) : Calls Try.prog 25 #[.float .f64 x] w fun e w' => e = .returned (.float .f64 x) ∧ w' = w := by
  go_enter Try.func25, Try.ntmps25
  go_wp2
  go_ret
  exact ⟨rfl, rfl⟩
set_option maxRecDepth 100000 in
set_option maxHeartbeats 400000 in
theorem up_inf_impl (x : Nat) (w : World) (h : FloatKind.f64.format.order x x = some .eq) (hi : FloatKind.f64.format.order 9218868437227405312 9218868437227405312 = some .eq) (hxi : FloatKind.f64.format.order x 9218868437227405312 = some .eq) : Calls Try.prog 26 #[.float .f64 x] w fun e w' => e = .returned (.float .f64 x) ∧ w' = w := by
  have hf := frombits_run
  go_enter Try.func26, Try.ntmps26
  go_wp2
  go_ret
  exact ⟨rfl, rfl⟩
set_option maxRecDepth 100000 in
set_option maxHeartbeats 400000 in
theorem up_zero_impl (x : Nat) (w : World) (h : FloatKind.f64.format.order x x = some .eq) (hi : FloatKind.f64.format.order 9218868437227405312 9218868437227405312 = some .eq) (hxi : FloatKind.f64.format.order x 9218868437227405312 = some .lt) (hx0 : FloatKind.f64.format.order x 0 = some .eq) : Calls Try.prog 26 #[.float .f64 x] w fun e w' => e = .returned (.float .f64 1) ∧ w' = w := by
  have hf := frombits_run
  have hb := f64bits_run
  have b1 : bits .andNot .u64 1 9223372036854775808 = 1 := by decide
  have b2 : bits .and .u64 9218868437227405312 9223372036854775808 = 0 := by decide
  have b3 : bits .or .u64 1 0 = 1 := by decide
  go_enter Try.func26, Try.ntmps26
  go_wp2
  go_ret
  exact ⟨rfl, rfl⟩
set_option maxRecDepth 100000 in
set_option maxHeartbeats 400000 in
theorem up_zero_spec (x : Nat) (w : World) (h : FloatKind.f64.format.order x x = some .eq) (hm : (FloatKind.f64.format.order x 9218868437227405311 == some .gt) = false) (hx0 : FloatKind.f64.format.order x 0 = some .eq) : Calls Try.prog 25 #[.float .f64 x] w fun e w' => e = .returned (.float .f64 1) ∧ w' = w := by
  go_enter Try.func25, Try.ntmps25
  go_wp2_with (go_at_call 17; refine (from_word false 1 (by omega) 1 (by rw [IntKind.wrap_u64]; rfl) _).mono ?_; rintro e w' ⟨rfl, rfl⟩)
  go_ret
  exact ⟨rfl, rfl⟩
set_option maxRecDepth 100000 in
set_option maxHeartbeats 400000 in
theorem up_impl (s : Bool) (x y : Nat) (w : World) (h : FloatKind.f64.format.order x x = some .eq) (hi : FloatKind.f64.format.order 9218868437227405312 9218868437227405312 = some .eq) (hxi : FloatKind.f64.format.order x 9218868437227405312 = some .lt) (hix : FloatKind.f64.format.order 9218868437227405312 x = some .gt) (hx0 : FloatKind.f64.format.order x 0 = some (cond s .lt .gt))
    (hx : x < 18446744073709551615) (hy : y = cond s (x - 1) (x + 1)) (hs : s = true → 1 ≤ x) : Calls Try.prog 26 #[.float .f64 x] w fun e w' => e = .returned (.float .f64 y) ∧ w' = w := by
  have hf := frombits_run
  have hb := f64bits_run
  have Hy := Lib.hid hy
  clear hy
  cases s
  all_goals simp only [cond_true, cond_false] at hx0
  · go_enter Try.func26, Try.ntmps26
    go_wp2
    go_ret
    exact ⟨ret_f64 Hy.out.symm, rfl⟩
  · have hs1 := hs rfl
    clear hs
    go_enter Try.func26, Try.ntmps26
    go_wp2
    go_ret
    exact ⟨ret_f64 Hy.out.symm, rfl⟩
set_option maxRecDepth 100000 in
set_option maxHeartbeats 400000 in
theorem up_spec (s s' : Bool) (r r' : Nat) (w : World) (hr : r ≤ 9218868437227405312) (hr' : r' ≤ 9218868437227405312) (x y : Nat) (hx : x = double.word s r) (hy : y = double.word s' r') (h : FloatKind.f64.format.order x x = some .eq) (hm : (FloatKind.f64.format.order x 9218868437227405311 == some .gt) = false) (hx0 : FloatKind.f64.format.order x 0 = some (cond s .lt .gt))
    (hxy : y = cond s (x - 1) (x + 1)) (hs : s = true → 1 ≤ x) : Calls Try.prog 25 #[.float .f64 x] w fun e w' => e = .returned (.float .f64 y) ∧ w' = w := by
  have hb : ∀ w, Calls Try.prog 15 #[.float .f64 x] w fun e w' => e = .returned (.int .i64 (wrap64 (x : Nat))) ∧ w' = w := fun w => by rw [hx]; exact specbits_word s r hr w
  have hf : ∀ (n : Int) w, IntKind.u64.wrap n = (y : Nat) → Calls Try.prog 17 #[.int .i64 n] w fun e w' => e = .returned (.float .f64 y) ∧ w' = w := fun n w hn => by rw [hy] at hn ⊢; exact from_word s' r' hr' n hn w
  have hl : x < 18446744073709551616 := by rw [hx]; exact word_lt s r (by omega)
  have hl' : y < 18446744073709551616 := by rw [hy]; exact word_lt s' r' (by omega)
  have Hb := Lib.hid hb
  have Hf := Lib.hid hf
  have Hy := Lib.hid hxy
  clear hb hf hxy hx hy hr hr'
  cases s
  all_goals simp only [cond_true, cond_false] at hx0
  · go_enter Try.func25, Try.ntmps25
    go_wp2_with (first | (go_at_call 15; refine (Hb.out _).mono ?_; rintro e w' ⟨rfl, rfl⟩) | (go_at_call 17; refine (Hf.out _ _ (by have := Hy.out; simp only [cond_false] at this; rw [IntKind.wrap_u64, this]; unfold wrap64; omega)).mono ?_; rintro e w' ⟨rfl, rfl⟩))
    go_ret
    exact ⟨rfl, rfl⟩
  · have hs1 := hs rfl
    clear hs
    go_enter Try.func25, Try.ntmps25
    go_wp2_with (first | (go_at_call 15; refine (Hb.out _).mono ?_; rintro e w' ⟨rfl, rfl⟩) | (go_at_call 17; refine (Hf.out _ _ (by have := Hy.out; simp only [cond_true] at this; rw [IntKind.wrap_u64, this]; unfold wrap64; omega)).mono ?_; rintro e w' ⟨rfl, rfl⟩))
    go_ret
    exact ⟨rfl, rfl⟩
end Go.Proofs.Ytknhncpmijgdfaa
