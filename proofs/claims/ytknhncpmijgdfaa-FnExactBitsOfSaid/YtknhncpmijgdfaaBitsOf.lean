/- FnExactBitsOf returns true at every float64. No condition. -/
import Derived.Test.YtknhncpmijgdfaaBitsC
import Derived.Test.YtknhncpmijgdfaaBase
import Derived.ChangeAlike
namespace Go.Proofs.Ytknhncpmijgdfaa
open Go.ChangeShapes Go.WideShapes Go.ChangeAt Go.RowKit
open Flt Ieee

/-- the words, by what == says of them -/
theorem word_cases (x : Nat) (hx : x < 18446744073709551616) : FloatKind.f64.format.order x x = none ∨ FloatKind.f64.format.order x x = some .eq ∧ ∃ s r, r ≤ 9218868437227405312 ∧ x = double.word s r := by
  rcases words x hx with ⟨s, v, hv, rfl⟩ | ⟨s, rfl⟩ | ⟨s, t, h0, h1, rfl⟩
  · exact Or.inr ⟨order_self s hv, s, rungOf v, by have := rungOf_lt hv; omega, rfl⟩
  · exact Or.inr ⟨by show double.order _ _ = _; rw [order_inf_inf]; cases s <;> rfl, s, _, Nat.le_refl _, rfl⟩
  · exact Or.inl (order_nan_left s t h0 h1 _)

set_option maxRecDepth 100000 in
set_option maxHeartbeats 400000 in
theorem bitsof_walk (x : Nat) (n : Int) (w : World) (h1 : ∀ w, Calls Try.prog 15 #[.float .f64 x] w fun e w' => e = .returned (.int .i64 n) ∧ w' = w) (h2 : ∀ w, Calls Try.prog 16 #[.float .f64 x] w fun e w' => e = .returned (.int .i64 n) ∧ w' = w) :
    Calls Try.prog 6 #[.float .f64 x] w fun e w' => e = .returned (.bool true) ∧ w' = w := by
  have H1 := Lib.hid h1
  have H2 := Lib.hid h2
  clear h1 h2
  go_enter Try.func6, Try.ntmps6
  go_wp2_with (first | (go_at_call 15; refine (H1.out _).mono ?_; rintro e w' ⟨rfl, rfl⟩) | (go_at_call 16; refine (H2.out _).mono ?_; rintro e w' ⟨rfl, rfl⟩))
  go_ret
  exact ⟨rfl, rfl⟩

theorem bitsof_any (x : Nat) (w : World) (hx : (Lit.float .f64 x).wf = true) : Calls Try.prog 6 #[.float .f64 x] w fun e w' => e = .returned (.bool true) ∧ w'.Alike w := by
  have k : ∀ (e : Ending) (w' : World), e = .returned (.bool true) ∧ w' = w → e = .returned (.bool true) ∧ w'.Alike w := fun e w' ⟨he, hw⟩ => ⟨he, by subst hw; exact ⟨rfl, rfl, rfl⟩⟩
  rcases word_cases x (by simpa [Lit.wf] using hx) with h | ⟨h, s, r, hr, rfl⟩
  · exact (bitsof_walk x _ w (fun w => specbits_nan x w h) (fun w => implbits_nan x w h)).mono k
  · exact (bitsof_walk _ _ w (fun w => specbits_word s r hr w) (fun w => implbits_word _ w h)).mono k

set_option maxRecDepth 100000 in
theorem bitsof_lifted (os : Os) (started : os.Started) (H : Type) (enc : TypeId × Value → H) :
    ReturnsInHanded {} Try.checked os 6 .any (Rows.fnExactBitsOfSpec.pre6 enc Try.prog Try.f6 Rows.fnExactBitsOfRow.domain false) (Rows.fnExactBitsOfSpec.post enc Try.prog Try.f6 false true false false) := by
  refine returnsInHanded_of_change (C := Try.checked) Try.own started (by kernel_rfl) Try.func6
    (ChangeSpec.witness6 (enc := enc) (C := Try.checked) false ⟨#[], #[.float .f64 0], []⟩ 8 (by kernel_rfl) (by kernel_rfl) (by kernel_rfl) (by kernel_rfl)) ?_
  intro W base args ds gs before hval0 hW hcnd _
  have hval : ∀ (j : Nat) t v, Try.f6.params[j]? = some t → args[j]? = some v → Value.okWide Try.prog W .any base t v := hval0
  have hW' := hW
  obtain ⟨p, q, hA0, hV, rfl, hfz, hnd⟩ := hW
  have hA : DataW.TrodAll enc Try.prog W 0 (fun _ => true) true Try.f6.params.toList args.toList ds p := hA0
  rw [Try.params6] at hA hval
  obtain ⟨v0, d0, rfl, rfl, h0⟩ := trodAll_one hA
  obtain ⟨rfl, rfl⟩ := trodVars_none hV
  obtain ⟨a0, rfl, rfl, rfl, wa0⟩ := open_float Try.underlying25 (hval 0 25 v0 rfl rfl) h0
  clear hA0 hval0
  simp only [List.append_nil] at hW'
  refine (bitsof_any a0 W wa0).mono fun e W' ⟨he, hw⟩ => ?_
  subst he
  exact ⟨_, rfl, ChangeSpec.post_alike (post_of_same (pa := []) (pv := []) hW' (fun _ _ _ => trodAll_mk1 (shut_bool Try.underlying4 true)) (fun sp _ => trodAll_mk1 (shut_float Try.underlying25 wa0)) (fun _ _ => rfl) rfl
    (World.keptBut_refl _ _) (fun _ => rfl) (ok_one (by kernel_rfl) rfl (okWide_bool_mk Try.underlying4 true))) hw⟩

theorem bitsof_holds : Rows.FnExactBitsOfSaid :=
  OpenClaim.holds_of_wide 6 Try.f6 rfl rfl rfl rfl rfl rfl rfl ⟨rfl, rfl, rfl, rfl, rfl⟩ rfl rfl rfl rfl rfl (by kernel_rfl) Try.func6 (by kernel_rfl)
    (of_decide_eq_true (by kernel_rfl)) (by unfold Func.isWrapper; rw [if_neg (of_decide_eq_false (by kernel_rfl))]; exact ⟨rfl, rfl⟩)
    (fun os started H enc _ => bitsof_lifted os started H enc)
end Go.Proofs.Ytknhncpmijgdfaa
