/- The reference's small float makers (functions 30 to 33 here): a NaN, an infinity, a sign, a whole number times a power of two. The last under bounds on its arguments. -/
import Derived.Test.YtknhncpmijgdfaaRaw2
namespace Go.Proofs.Ytknhncpmijgdfaa
open Go.RowKit
open Flt Ieee

def IsNan (x : Nat) : Prop := double.order x x = none
/-- a NaN is returned, one answer of the tape is drawn -/
def SomeNan (w : World) (e : Ending) (w' : World) : Prop := ∃ z, IsNan z ∧ e = .returned (.float .f64 z) ∧ w.drew = w'

theorem nan_drawn (t : Nat) (x y : Nat) : IsNan ((Question.nanBits .f64 x y).cut t) := by
  have e : (Question.nanBits .f64 x y).cut t = (t % 2) * 9223372036854775808 + 9218868437227405312 + 1 + (t / 2) % 4503599627370495 := rfl
  have key : ∀ s, s = false ∨ s = true → (if s then (1 : Nat) else 0) = t % 2 → (Question.nanBits .f64 x y).cut t = double.word s (9218868437227405312 + (1 + (t / 2) % 4503599627370495)) := by
    intro s _ h
    rw [e]
    unfold Format.word; rw [signWeight_eq]
    cases s
    · simp at h ⊢; omega
    · simp at h ⊢; omega
  unfold IsNan
  by_cases h : t % 2 = 0
  · rw [key false (Or.inl rfl) (by simp [h])]
    exact order_nan_left _ _ (by omega) (by omega) _
  · rw [key true (Or.inr rfl) (by simp; omega)]
    exact order_nan_left _ _ (by omega) (by omega) _

theorem zero_over_zero : FloatKind.f64.format.div 0 0 = none := by decide
theorem run_quo_nan (P : Program) (t : TypeId) (x y : Nat) (w : World) (h : FloatKind.f64.format.div x y = none) : (binOp .quo t (.float .f64 x) (.float .f64 y)).run P w = .ok (.float .f64 ((Question.nanBits .f64 x y).cut (w.tape w.drawn (.nanBits .f64 x y)))) w.drew := by
  have e : binOp .quo t (.float .f64 x) (.float .f64 y) = Op.floatArith .quo .f64 x y := by simp [binOp]
  rw [e]
  unfold Op.floatArith
  simp only [h, Sem.run_bind, Sem.run_pure, Result.andThen_ok]
  rfl
theorem one_over_zero' : FloatKind.f64.format.div 4607182418800017408 0 = some 9218868437227405312 := by decide

set_option maxRecDepth 100000 in
set_option maxHeartbeats 400000 in
theorem l2nan_any (w : World) : Calls Try.prog 30 #[] w (SomeNan w) := by
  have hq : ∀ t (w : World), (binOp .quo t (.float .f64 0) (.float .f64 0)).run Try.prog w = .ok (.float .f64 ((Question.nanBits .f64 0 0).cut (w.tape w.drawn (.nanBits .f64 0 0)))) w.drew := by
    exact fun t w => run_quo_nan Try.prog t 0 0 w zero_over_zero
  have hz := fun w : World => nan_drawn (w.tape w.drawn (.nanBits .f64 0 0)) 0 0
  generalize hg : (fun w : World => (Question.nanBits .f64 0 0).cut (w.tape w.drawn (.nanBits .f64 0 0))) = g at *
  have hg' : ∀ w : World, (Question.nanBits .f64 0 0).cut (w.tape w.drawn (.nanBits .f64 0 0)) = g w := fun w => by rw [← hg]
  simp only [hg'] at hq hz
  clear hg hg'
  go_enter Try.func30, Try.ntmps30
  go_wp2
  go_ret
  exact ⟨_, hz _, rfl, rfl⟩

set_option maxRecDepth 100000 in
set_option maxHeartbeats 400000 in
theorem l2inf_any (w : World) : Calls Try.prog 32 #[] w fun e w' => e = .returned (.float .f64 9218868437227405312) ∧ w' = w := by
  have hq : ∀ t w, (binOp .quo t (.float .f64 4607182418800017408) (.float .f64 0)).run Try.prog w = .ok (.float .f64 9218868437227405312) w := fun t w => run_float_arith w .quo t .f64 _ _ _ one_over_zero'
  go_enter Try.func32, Try.ntmps32
  go_wp2
  go_ret
  exact ⟨rfl, rfl⟩

set_option maxRecDepth 100000 in
set_option maxHeartbeats 400000 in
theorem l2signed_any (s : Bool) (x : Nat) (w : World) : Calls Try.prog 31 #[.bool s, .float .f64 x] w fun e w' => e = .returned (.float .f64 (cond s (Op.negFloat .f64 x) x)) ∧ w' = w := by
  cases s
  · go_enter Try.func31, Try.ntmps31
    go_wp2
    go_ret
    exact ⟨rfl, rfl⟩
  · go_enter Try.func31, Try.ntmps31
    go_wp2
    go_ret
    exact ⟨rfl, rfl⟩

theorem of_nat (m n : Nat) (hm : m < 9007199254740992) (hn : n = 1074) : floatOfInt .f64 (m : Int) = fq m n := by
  obtain ⟨K, hK, ho⟩ := one_eq
  have : n = K := by omega
  subst this
  have := nearest_int (m : Int) (by rw [Int.natAbs_natCast]; exact rep_whole m (by omega))
  rw [Int.natAbs_natCast, show decide ((m : Int) < 0) = false from by simp] at this
  unfold floatOfInt fq
  rw [this, ho]
end Go.Proofs.Ytknhncpmijgdfaa
