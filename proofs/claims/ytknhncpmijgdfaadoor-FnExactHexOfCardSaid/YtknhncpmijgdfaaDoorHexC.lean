/- What the reference's l5size and l5odd (functions 25 and 26 here) and the program's special (27) return at every float64. No condition. -/
import Derived.Test.YtknhncpmijgdfaaDoorParts
namespace Go.Proofs.YtknhncpmijgdfaaDoor
open Go.RowKit
open Flt Ieee

/-- the sign's text -/
def sgn (s : Bool) : ByteArray := cond s ⟨#[45]⟩ ⟨#[]⟩
theorem sgn_size (s : Bool) : (sgn s).size < 2 := by cases s <;> decide

set_option maxRecDepth 100000 in
set_option maxHeartbeats 400000 in
theorem size_num (x y : Nat) (s : Bool) (w : World) (h : FloatKind.f64.format.order x 0 = some (cond s .lt .gt)) (hn : cond s (Op.negFloat .f64 x) x = y) :
    Calls Tryd.prog 25 #[.float .f64 x] w fun e w' => e = .returned (.tuple #[.float .f64 y, .string (sgn s)]) ∧ w' = w := by
  cases s
  all_goals simp only [cond_true, cond_false, sgn] at h hn ⊢
  · subst hn
    go_enter Tryd.func25, Tryd.ntmps25
    go_wp2
    go_ret2
    exact ⟨rfl, rfl⟩
  · go_enter Tryd.func25, Tryd.ntmps25
    go_wp2
    go_ret2
    exact ⟨rfl, rfl⟩

set_option maxRecDepth 100000 in
set_option maxHeartbeats 400000 in
theorem size_zero (x y r : Nat) (s : Bool) (w : World) (hx0 : FloatKind.f64.format.order x 0 = some .eq)
    (hd : FloatKind.f64.format.div 4607182418800017408 x = some r) (hr : FloatKind.f64.format.order r 0 = some (cond s .lt .gt)) (hn : cond s (Op.negFloat .f64 x) x = y) :
    Calls Tryd.prog 25 #[.float .f64 x] w fun e w' => e = .returned (.tuple #[.float .f64 y, .string (sgn s)]) ∧ w' = w := by
  have hdr : ∀ t w, (binOp .quo t (.float .f64 4607182418800017408) (.float .f64 x)).run Tryd.prog w = .ok (.float .f64 r) w := fun t w => run_float_arith w .quo t .f64 _ _ _ hd
  clear hd
  cases s
  all_goals simp only [cond_true, cond_false, sgn] at hr hn ⊢
  · subst hn
    go_enter Tryd.func25, Tryd.ntmps25
    go_wp2
    go_ret2
    exact ⟨rfl, rfl⟩
  · go_enter Tryd.func25, Tryd.ntmps25
    go_wp2
    go_ret2
    exact ⟨rfl, rfl⟩

set_option maxRecDepth 100000 in
set_option maxHeartbeats 400000 in
theorem size_nan (x : Nat) (w : World) (h : FloatKind.f64.format.order x 0 = none) :
    Calls Tryd.prog 25 #[.float .f64 x] w fun e w' => e = .returned (.tuple #[.float .f64 x, .string ⟨#[]⟩]) ∧ w' = w := by
  go_enter Tryd.func25, Tryd.ntmps25
  go_wp2
  go_ret2
  exact ⟨rfl, rfl⟩

set_option maxRecDepth 100000 in
set_option maxHeartbeats 400000 in
theorem odd_num (x : Nat) (w : World) (h : FloatKind.f64.format.order x x = some .eq) (hm : (FloatKind.f64.format.order x 9218868437227405311 == some .gt) = false) (h0 : FloatKind.f64.format.order x 0 = some .gt) :
    Calls Tryd.prog 26 #[.float .f64 x] w fun e w' => e = .returned (.tuple #[.string ⟨#[48]⟩, .bool false]) ∧ w' = w := by
  go_enter Tryd.func26, Tryd.ntmps26
  go_wp2
  go_ret2
  exact ⟨rfl, rfl⟩
set_option maxRecDepth 100000 in
set_option maxHeartbeats 400000 in
theorem odd_zero (x : Nat) (w : World) (h : FloatKind.f64.format.order x x = some .eq) (hm : (FloatKind.f64.format.order x 9218868437227405311 == some .gt) = false) (h0 : FloatKind.f64.format.order x 0 = some .eq) :
    Calls Tryd.prog 26 #[.float .f64 x] w fun e w' => e = .returned (.tuple #[.string ⟨#[48]⟩, .bool true]) ∧ w' = w := by
  go_enter Tryd.func26, Tryd.ntmps26
  go_wp2
  go_ret2
  exact ⟨rfl, rfl⟩
set_option maxRecDepth 100000 in
set_option maxHeartbeats 400000 in
theorem odd_inf (x : Nat) (w : World) (h : FloatKind.f64.format.order x x = some .eq) (hm : FloatKind.f64.format.order x 9218868437227405311 = some .gt) :
    Calls Tryd.prog 26 #[.float .f64 x] w fun e w' => e = .returned (.tuple #[.string ⟨#[105, 110, 102]⟩, .bool true]) ∧ w' = w := by
  go_enter Tryd.func26, Tryd.ntmps26
  go_wp2
  go_ret2
  exact ⟨rfl, rfl⟩
set_option maxRecDepth 100000 in
set_option maxHeartbeats 400000 in
theorem odd_nan (x : Nat) (w : World) (h : FloatKind.f64.format.order x x = none) :
    Calls Tryd.prog 26 #[.float .f64 x] w fun e w' => e = .returned (.tuple #[.string ⟨#[110, 97, 110]⟩, .bool true]) ∧ w' = w := by
  go_enter Tryd.func26, Tryd.ntmps26
  go_wp2
  go_ret2
  exact ⟨rfl, rfl⟩

set_option maxRecDepth 100000 in
set_option maxHeartbeats 400000 in
theorem special_num (x : Nat) (z : ByteArray) (m e : Int) (s : Bool) (w : World) (hp : Calls Tryd.prog 8 #[.float .f64 x] w (Prt 1 s m e w)) :
    Calls Tryd.prog 27 #[.float .f64 x, .string z] w fun e w' => e = .returned (.tuple #[.string (sgn s), .bool false]) ∧ Below w.heap.size w w' := by
  have HP := Lib.hid hp
  clear hp
  cases s
  all_goals simp only [cond_true, cond_false, sgn]
  all_goals
    go_enter Tryd.func27, Tryd.ntmps27
    go_wp2_with fail
    refine (HP.out).mono ?_
    rintro e w1 ⟨rfl, hb1⟩
    go_wp2
    go_ret2
    exact ⟨rfl, by repeat (first | exact hb1 | refine below_new ?_ _)⟩
set_option maxRecDepth 100000 in
set_option maxHeartbeats 400000 in
theorem special_nan (x : Nat) (z : ByteArray) (m e : Int) (s : Bool) (w : World) (hp : Calls Tryd.prog 8 #[.float .f64 x] w (Prt 3 s m e w)) :
    Calls Tryd.prog 27 #[.float .f64 x, .string z] w fun e w' => e = .returned (.tuple #[.string ⟨#[110, 97, 110]⟩, .bool true]) ∧ Below w.heap.size w w' := by
  have HP := Lib.hid hp
  clear hp
  cases s
  all_goals
    go_enter Tryd.func27, Tryd.ntmps27
    go_wp2_with fail
    refine (HP.out).mono ?_
    rintro e w1 ⟨rfl, hb1⟩
    go_wp2
    go_ret2
    exact ⟨rfl, by repeat (first | exact hb1 | refine below_new ?_ _)⟩
set_option maxRecDepth 100000 in
set_option maxHeartbeats 400000 in
theorem special_inf (x : Nat) (z : ByteArray) (m e : Int) (s : Bool) (w : World) (hp : Calls Tryd.prog 8 #[.float .f64 x] w (Prt 2 s m e w)) :
    Calls Tryd.prog 27 #[.float .f64 x, .string z] w fun e w' => e = .returned (.tuple #[.string (sgn s ++ ⟨#[105, 110, 102]⟩), .bool true]) ∧ Below w.heap.size w w' := by
  have HP := Lib.hid hp
  clear hp
  cases s
  all_goals simp only [cond_true, cond_false, sgn]
  all_goals
    go_enter Tryd.func27, Tryd.ntmps27
    go_wp2_with fail
    refine (HP.out).mono ?_
    rintro e w1 ⟨rfl, hb1⟩
    go_wp2
    go_ret2
    exact ⟨rfl, by repeat (first | exact hb1 | refine below_new ?_ _)⟩
set_option maxRecDepth 100000 in
set_option maxHeartbeats 400000 in
theorem special_zero (x : Nat) (m e : Int) (s : Bool) (w : World) (hp : Calls Tryd.prog 8 #[.float .f64 x] w (Prt 0 s m e w)) :
    Calls Tryd.prog 27 #[.float .f64 x, .string ⟨#[48, 120, 48, 112, 48]⟩] w fun e w' => e = .returned (.tuple #[.string (sgn s ++ ⟨#[48, 120, 48, 112, 48]⟩), .bool true]) ∧ Below w.heap.size w w' := by
  have HP := Lib.hid hp
  clear hp
  cases s
  all_goals simp only [cond_true, cond_false, sgn]
  all_goals
    go_enter Tryd.func27, Tryd.ntmps27
    go_wp2_with fail
    refine (HP.out).mono ?_
    rintro e w1 ⟨rfl, hb1⟩
    go_wp2
    go_ret2
    exact ⟨rfl, by repeat (first | exact hb1 | refine below_new ?_ _)⟩
end Go.Proofs.YtknhncpmijgdfaaDoor
