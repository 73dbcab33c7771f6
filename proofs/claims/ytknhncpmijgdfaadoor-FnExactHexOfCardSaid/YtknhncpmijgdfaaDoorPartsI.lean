/- What the program's PartsOf (function 8 here) returns at every float64. Condition: the table of TrailingZeros64, where it is read. -/
import Derived.Test.YtknhncpmijgdfaaDoorPartsC
namespace Go.Proofs.YtknhncpmijgdfaaDoor
open Go.RowKit
open Flt Ieee

theorem f64bits_run (x : Nat) (w : World) : (callFunc 20 #[.float .f64 x]).run Tryd.prog w = .ok (.value (.int .u64 x)) w := by
  rw [run_callFunc_extern (e := Extern.MathFloatBits.float64bits) Tryd.func20 (by kernel_rfl) (by kernel_rfl) (by kernel_rfl) (by kernel_rfl)]; rfl
theorem frombits_run (n : Int) (w : World) : (callFunc 33 #[.int .u64 n]).run Tryd.prog w = .ok (.value (.float .f64 n.toNat)) w := by
  rw [run_callFunc_extern (e := Extern.MathFloatBits.float64frombits) Tryd.func33 (by kernel_rfl) (by kernel_rfl) (by kernel_rfl) (by kernel_rfl)]; rfl

set_option maxRecDepth 100000 in
set_option maxHeartbeats 400000 in
theorem iparts_nan (x : Nat) (w : World) (h : FloatKind.f64.format.order x x = none) : Calls Tryd.prog 8 #[.float .f64 x] w (Prt 3 false 0 0 w) := by
  go_enter Tryd.func8, Tryd.ntmps8
  go_wp2
  exact bodyPost_ret (v := .agg #[.int .i64 3, .bool false, .int .i64 0, .int .i64 0]) (by simp [results, Tryd.results8, go_sem]) rfl ⟨rfl, by repeat (first | exact Below.refl _ _ | refine below_new ?_ _)⟩

set_option maxRecDepth 100000 in
set_option maxHeartbeats 400000 in
theorem iparts_inf (x y : Nat) (s : Bool) (w : World) (h : FloatKind.f64.format.order x x = some .eq) (ha : bits .andNot .u64 (x : Int) 9223372036854775808 = (y : Int)) (hy : FloatKind.f64.format.order y 9218868437227405311 = some .gt) (hx0 : FloatKind.f64.format.order x 0 = some (cond s .lt .gt)) : Calls Tryd.prog 8 #[.float .f64 x] w (Prt 2 s 0 0 w) := by
  have hb := f64bits_run
  have hf := frombits_run
  cases s
  all_goals simp only [cond_true, cond_false] at hx0
  · go_enter Tryd.func8, Tryd.ntmps8
    go_wp2
    exact bodyPost_ret (v := .agg #[.int .i64 2, .bool false, .int .i64 0, .int .i64 0]) (by simp [results, Tryd.results8, go_sem]) rfl ⟨rfl, by repeat (first | exact Below.refl _ _ | refine below_new ?_ _)⟩
  · go_enter Tryd.func8, Tryd.ntmps8
    go_wp2
    exact bodyPost_ret (v := .agg #[.int .i64 2, .bool true, .int .i64 0, .int .i64 0]) (by simp [results, Tryd.results8, go_sem]) rfl ⟨rfl, by repeat (first | exact Below.refl _ _ | refine below_new ?_ _)⟩

set_option maxRecDepth 100000 in
set_option maxHeartbeats 400000 in
theorem iparts_zero (x y : Nat) (s : Bool) (w : World) (h : FloatKind.f64.format.order x x = some .eq) (ha : bits .andNot .u64 (x : Int) 9223372036854775808 = (y : Int)) (hy : (FloatKind.f64.format.order y 9218868437227405311 == some .gt) = false) (hx0 : FloatKind.f64.format.order x 0 = some .eq) (hs : decide (wrap64 (x : Int) < 0) = s) : Calls Tryd.prog 8 #[.float .f64 x] w (Prt 0 s 0 0 w) := by
  have hb := f64bits_run
  have hf := frombits_run
  go_enter Tryd.func8, Tryd.ntmps8
  go_wp2
  exact bodyPost_ret (v := .agg #[.int .i64 0, .bool s, .int .i64 0, .int .i64 0]) (by simp [results, Tryd.results8, go_sem]) rfl ⟨rfl, by repeat (first | exact Below.refl _ _ | refine below_new ?_ _)⟩

set_option maxRecDepth 100000 in
set_option maxHeartbeats 1000000 in
theorem iparts_norm (x y m0 d c E q : Nat) (s : Bool) (w : World) (hT : ∀ w', Below w.heap.size w w' → Calls Tryd.prog 21 #[.int .u64 m0] w' fun e w2 => e = .returned (.int .i64 c) ∧ w2 = w') (h : FloatKind.f64.format.order x x = some .eq) (ha : bits .andNot .u64 (x : Int) 9223372036854775808 = (y : Int)) (hy : (FloatKind.f64.format.order y 9218868437227405311 == some .gt) = false) (hx0 : FloatKind.f64.format.order x 0 = some (cond s .lt .gt))
    (hE : bits .and .u64 ((x : Int) / 4503599627370496) 2047 = (E : Int)) (hE1 : ((E : Int) == 0) = false) (hE2 : E ≤ 2046) (hM : bits .and .u64 (x : Int) 4503599627370495 = (q : Int)) (hq : q < 4503599627370496) (hq2 : (q : Int) + 4503599627370496 = (m0 : Int)) (_hm : m0 < 9007199254740992) (hc : c ≤ 52) (hod : (m0 : Int) / 2 ^ c = (od d 0 : Nat)) :
    Calls Tryd.prog 8 #[.float .f64 x] w (Prt 1 s (od d 0 : Nat) (((E : Int) - 1075) + c) w) := by
  have hb := f64bits_run
  have hf := frombits_run
  have HT := Lib.hid hT
  have hdiv := Lib.hid hod
  clear hT hod
  cases s
  all_goals simp only [cond_true, cond_false] at hx0
  · go_enter Tryd.func8, Tryd.ntmps8
    go_wp2_with (first | (go_at_call 21; refine (HT.out _ (by repeat (first | exact Below.refl _ _ | refine below_new ?_ _))).mono ?_; rintro e w' ⟨rfl, rfl⟩) | (go_at_call 17; go_in) | (go_at_call 18; go_in) | (go_at_call 29; go_in))
    exact bodyPost_ret (v := .agg #[.int .i64 1, .bool false, .int .i64 ((m0 : Int) / 2 ^ c), .int .i64 (((E : Int) - 1075) + c)]) (by simp [results, Tryd.results8, go_sem]) rfl ⟨by rw [hdiv.out], by repeat (first | exact Below.refl _ _ | refine below_new ?_ _)⟩
  · go_enter Tryd.func8, Tryd.ntmps8
    go_wp2_with (first | (go_at_call 21; refine (HT.out _ (by repeat (first | exact Below.refl _ _ | refine below_new ?_ _))).mono ?_; rintro e w' ⟨rfl, rfl⟩) | (go_at_call 17; go_in) | (go_at_call 18; go_in) | (go_at_call 29; go_in))
    exact bodyPost_ret (v := .agg #[.int .i64 1, .bool true, .int .i64 ((m0 : Int) / 2 ^ c), .int .i64 (((E : Int) - 1075) + c)]) (by simp [results, Tryd.results8, go_sem]) rfl ⟨by rw [hdiv.out], by repeat (first | exact Below.refl _ _ | refine below_new ?_ _)⟩

set_option maxRecDepth 100000 in
set_option maxHeartbeats 1000000 in
theorem iparts_sub (x y m0 d c : Nat) (s : Bool) (w : World) (hT : ∀ w', Below w.heap.size w w' → Calls Tryd.prog 21 #[.int .u64 m0] w' fun e w2 => e = .returned (.int .i64 c) ∧ w2 = w') (h : FloatKind.f64.format.order x x = some .eq) (ha : bits .andNot .u64 (x : Int) 9223372036854775808 = (y : Int)) (hy : (FloatKind.f64.format.order y 9218868437227405311 == some .gt) = false) (hx0 : FloatKind.f64.format.order x 0 = some (cond s .lt .gt))
    (hE : bits .and .u64 ((x : Int) / 4503599627370496) 2047 = 0) (hM : bits .and .u64 (x : Int) 4503599627370495 = (m0 : Int)) (hm : m0 < 9007199254740992) (hc : c ≤ 52) (hod : (m0 : Int) / 2 ^ c = (od d 0 : Nat)) :
    Calls Tryd.prog 8 #[.float .f64 x] w (Prt 1 s (od d 0 : Nat) (-1074 + c) w) := by
  have hb := f64bits_run
  have hf := frombits_run
  have HT := Lib.hid hT
  have hdiv := Lib.hid hod
  clear hT hod
  cases s
  all_goals simp only [cond_true, cond_false] at hx0
  · go_enter Tryd.func8, Tryd.ntmps8
    go_wp2_with (first | (go_at_call 21; refine (HT.out _ (by repeat (first | exact Below.refl _ _ | refine below_new ?_ _))).mono ?_; rintro e w' ⟨rfl, rfl⟩) | (go_at_call 17; go_in) | (go_at_call 18; go_in) | (go_at_call 29; go_in))
    exact bodyPost_ret (v := .agg #[.int .i64 1, .bool false, .int .i64 ((m0 : Int) / 2 ^ c), .int .i64 (-1074 + c)]) (by simp [results, Tryd.results8, go_sem]) rfl ⟨by rw [hdiv.out], by repeat (first | exact Below.refl _ _ | refine below_new ?_ _)⟩
  · go_enter Tryd.func8, Tryd.ntmps8
    go_wp2_with (first | (go_at_call 21; refine (HT.out _ (by repeat (first | exact Below.refl _ _ | refine below_new ?_ _))).mono ?_; rintro e w' ⟨rfl, rfl⟩) | (go_at_call 17; go_in) | (go_at_call 18; go_in) | (go_at_call 29; go_in))
    exact bodyPost_ret (v := .agg #[.int .i64 1, .bool true, .int .i64 ((m0 : Int) / 2 ^ c), .int .i64 (-1074 + c)]) (by simp [results, Tryd.results8, go_sem]) rfl ⟨by rw [hdiv.out], by repeat (first | exact Below.refl _ _ | refine below_new ?_ _)⟩

theorem od_div (d c : Nat) : ((od d c : Nat) : Int) / 2 ^ c = ((od d 0 : Nat) : Int) := by
  rw [od_zero]
  unfold od
  have hp : (0 : Int) < 2 ^ c := Int.pow_pos (by omega)
  rw [show ((2 ^ c * (2 * d + 1) : Nat) : Int) = 2 ^ c * ((2 * d + 1 : Nat) : Int) by simp]
  exact Int.mul_ediv_cancel_left _ (Int.ne_of_gt hp)

set_option maxRecDepth 100000 in
set_option maxHeartbeats 1000000 in
theorem eqparts_any (k m e : Int) (s : Bool) (w : World) : Calls Tryd.prog 9 #[.agg #[.int .i64 k, .bool s, .int .i64 m, .int .i64 e], .agg #[.int .i64 k, .bool s, .int .i64 m, .int .i64 e]] w fun en w' => en = .returned (.bool true) ∧ Below w.heap.size w w' := by
  go_enter Tryd.func9, Tryd.ntmps9
  go_wp2
  go_ret
  exact ⟨rfl, by repeat (first | exact Below.refl _ _ | refine below_new ?_ _)⟩

set_option maxRecDepth 100000 in
set_option maxHeartbeats 1000000 in
theorem parts_law (x : Nat) (k m e : Int) (s : Bool) (w : World) (h1 : ∀ w', Below w.heap.size w w' → Calls Tryd.prog 7 #[.float .f64 x] w' (Prt k s m e w')) (h2 : ∀ w', Below w.heap.size w w' → Calls Tryd.prog 8 #[.float .f64 x] w' (Prt k s m e w')) :
    Calls Tryd.prog 3 #[.float .f64 x] w fun e w' => e = .returned (.bool true) ∧ Below w.heap.size w w' := by
  have H1 := Lib.hid h1
  have H2 := Lib.hid h2
  clear h1 h2
  go_enter Tryd.func3, Tryd.ntmps3
  go_wp2_with fail
  refine (H1.out _ (Below.refl _ _)).mono ?_
  rintro e w1 ⟨rfl, hb1⟩
  go_wp2_with fail
  refine (H2.out _ (below_new hb1 _)).mono ?_
  rintro e w2 ⟨rfl, hb2⟩
  have hz : w1.heap.size < w2.heap.size := by have := hb2.size; simp at this; omega
  have c0 : w2.cell? ⟨w1.heap.size, 0, none⟩ = some (.int .i64 k) := by rw [hb2.cell (p := ⟨w1.heap.size, 0, none⟩) (by simp)]; simp
  have c1 : w2.cell? ⟨w1.heap.size, 1, none⟩ = some (.bool s) := by rw [hb2.cell (p := ⟨w1.heap.size, 1, none⟩) (by simp)]; simp
  have c2 : w2.cell? ⟨w1.heap.size, 2, none⟩ = some (.int .i64 m) := by rw [hb2.cell (p := ⟨w1.heap.size, 2, none⟩) (by simp)]; simp
  have c3 : w2.cell? ⟨w1.heap.size, 3, none⟩ = some (.int .i64 e) := by rw [hb2.cell (p := ⟨w1.heap.size, 3, none⟩) (by simp)]; simp
  go_wp2_with fail
  refine (eqparts_any _ _ _ _ _).mono ?_
  rintro e w3 ⟨rfl, hb3⟩
  go_wp2_with fail
  go_ret
  exact ⟨rfl, below_trans (below_new hb1 _) (below_trans (below_new hb2 _) hb3)⟩
end Go.Proofs.YtknhncpmijgdfaaDoor
