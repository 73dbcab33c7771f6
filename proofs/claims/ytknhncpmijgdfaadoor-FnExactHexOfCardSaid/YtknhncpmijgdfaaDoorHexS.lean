/- What the reference's HexOf (function 14 here) returns, from what its callees return. No condition. -/
import Derived.Test.YtknhncpmijgdfaaDoorHexC
import Derived.Test.YtknhncpmijgdfaaDoorWriteI
import Derived.Deep.QuietTactic
import Derived.BigQuiet
namespace Go.Proofs.YtknhncpmijgdfaaDoor
open Go.RowKit
open Flt Ieee Digs

/-- a number's text in base 16 with its power of two -/
def hexText (sg : ByteArray) (la lb : List UInt8) : ByteArray := sg ++ ⟨#[48, 120]⟩ ++ ⟨la.toArray⟩ ++ ⟨#[112]⟩ ++ ⟨lb.toArray⟩

set_option maxRecDepth 100000 in
set_option maxHeartbeats 1000000 in
theorem shex_num (x y : Nat) (sg : ByteArray) (la lb : List UInt8) (yes : Bool) (k m e : Int) (s : Bool) (w : World) (h1 : ∀ w, Calls Tryd.prog 25 #[.float .f64 x] w fun e w' => e = .returned (.tuple #[.float .f64 y, .string sg]) ∧ w' = w) (h2 : ∀ w, Calls Tryd.prog 26 #[.float .f64 y] w fun e w' => e = .returned (.tuple #[.string ⟨#[48]⟩, .bool yes]) ∧ w' = w)
    (h3 : ∀ w, Calls Tryd.prog 7 #[.float .f64 y] w (Prt k s m e w))
    (h4 : ∀ w, Calls Tryd.prog 12 #[.int .i64 m, .int .i64 16] w fun r w' => r = .returned (.string ⟨la.toArray⟩) ∧ w' = w)
    (h5 : ∀ w, Calls Tryd.prog 12 #[.int .i64 e, .int .i64 10] w fun r w' => r = .returned (.string ⟨lb.toArray⟩) ∧ w' = w)
    (hsg : sg.size < 2) (hla : la.length < 66) (hlb : lb.length < 66) : Calls Tryd.prog 14 #[.float .f64 x] w fun e w' => e = .returned (.string (hexText sg la lb)) ∧ Below w.heap.size w w' := by
  have H1 := Lib.hid h1
  have H2 := Lib.hid h2
  have H3 := Lib.hid h3
  have H4 := Lib.hid h4
  have H5 := Lib.hid h5
  clear h1 h2 h3 h4 h5
  unfold hexText
  cases yes
  all_goals
    go_enter Tryd.func14, Tryd.ntmps14
    go_wp2_with (first | (go_at_call 25; refine (H1.out _).mono ?_; rintro e w' ⟨rfl, rfl⟩) | (go_at_call 26; refine (H2.out _).mono ?_; rintro e w' ⟨rfl, rfl⟩))
    refine (H3.out _).mono ?_
    rintro e w1 ⟨rfl, hb1⟩
    go_wp2_with fail
    go_quiet (first | (go_at_call_of 12 (Value.int IntKind.i64 m); exact Calls.quiet_of_same (H4.out _)) | (go_at_call_of 12 (Value.int IntKind.i64 e); exact Calls.quiet_of_same (H5.out _)))
    go_wp2_with fail
    go_ret
    refine ⟨rfl, ?_⟩
    have hz := below_new hb1 (Obj.cells #[.int .i64 k, .bool s, .int .i64 m, .int .i64 e] 24)
    exact ⟨hz.os, hz.tape, hz.output, hz.size, hz.block⟩

set_option maxRecDepth 100000 in
set_option maxHeartbeats 1000000 in
theorem shex_nan (x : Nat) (w : World) (h1 : ∀ w, Calls Tryd.prog 25 #[.float .f64 x] w fun e w' => e = .returned (.tuple #[.float .f64 x, .string ⟨#[]⟩]) ∧ w' = w) (h2 : ∀ w, Calls Tryd.prog 26 #[.float .f64 x] w fun e w' => e = .returned (.tuple #[.string ⟨#[110, 97, 110]⟩, .bool true]) ∧ w' = w) :
    Calls Tryd.prog 14 #[.float .f64 x] w fun e w' => e = .returned (.string ⟨#[110, 97, 110]⟩) ∧ w' = w := by
  have H1 := Lib.hid h1
  have H2 := Lib.hid h2
  clear h1 h2
  go_enter Tryd.func14, Tryd.ntmps14
  go_wp2_with (first | (go_at_call 25; refine (H1.out _).mono ?_; rintro e w' ⟨rfl, rfl⟩) | (go_at_call 26; refine (H2.out _).mono ?_; rintro e w' ⟨rfl, rfl⟩))
  go_ret
  exact ⟨rfl, rfl⟩

set_option maxRecDepth 100000 in
set_option maxHeartbeats 1000000 in
theorem shex_inf (x y : Nat) (s : Bool) (w : World) (h1 : ∀ w, Calls Tryd.prog 25 #[.float .f64 x] w fun e w' => e = .returned (.tuple #[.float .f64 y, .string (sgn s)]) ∧ w' = w) (h2 : ∀ w, Calls Tryd.prog 26 #[.float .f64 y] w fun e w' => e = .returned (.tuple #[.string ⟨#[105, 110, 102]⟩, .bool true]) ∧ w' = w) :
    Calls Tryd.prog 14 #[.float .f64 x] w fun e w' => e = .returned (.string (sgn s ++ ⟨#[105, 110, 102]⟩)) ∧ w' = w := by
  have H1 := Lib.hid h1
  have H2 := Lib.hid h2
  clear h1 h2
  cases s
  all_goals simp only [sgn, cond_true, cond_false] at H1 ⊢
  all_goals
    go_enter Tryd.func14, Tryd.ntmps14
    go_wp2_with (first | (go_at_call 25; refine (H1.out _).mono ?_; rintro e w' ⟨rfl, rfl⟩) | (go_at_call 26; refine (H2.out _).mono ?_; rintro e w' ⟨rfl, rfl⟩))
    go_ret
    exact ⟨rfl, rfl⟩
end Go.Proofs.YtknhncpmijgdfaaDoor
