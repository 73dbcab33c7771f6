/- FnExactFromBits returns true at every int64. No condition. -/
import Derived.Test.YtknhncpmijgdfaaFromD
import Derived.Test.YtknhncpmijgdfaaBase
import Derived.ChangeAlike
namespace Go.Proofs.Ytknhncpmijgdfaa
open Go.ChangeShapes Go.WideShapes Go.ChangeAt Go.RowKit
open Flt Ieee

theorem conv_same (x : Nat) (w : World) : (convert 25 25 (.float .f64 x)).run Try.prog w = .ok (.float .f64 x) w :=
  run_convert_float_float w 25 25 .f64 .f64 x x (by rw [Try.underlying25]; rfl) Try.underlying25 (by unfold floatToFloatBits; rw [if_pos rfl])

set_option maxRecDepth 100000 in
set_option maxHeartbeats 400000 in
theorem frombits_eq (n : Int) (x : Nat) (w : World) (h1 : ∀ w, Calls Try.prog 17 #[.int .i64 n] w fun e w' => e = .returned (.float .f64 x) ∧ w' = w) (h2 : ∀ w, Calls Try.prog 18 #[.int .i64 n] w fun e w' => e = .returned (.float .f64 x) ∧ w' = w)
    (h3 : ∀ w, Calls Try.prog 19 #[.float .f64 x, .float .f64 x] w fun e w' => e = .returned (.bool true) ∧ w' = w) :
    Calls Try.prog 7 #[.int .i64 n] w fun e w' => e = .returned (.bool true) ∧ w'.Alike w := by
  have hc := conv_same x
  have H1 := Lib.hid h1
  have H2 := Lib.hid h2
  have H3 := Lib.hid h3
  clear h1 h2 h3
  go_enter Try.func7, Try.ntmps7
  go_wp2_with (first | (go_at_call 17; refine (H1.out _).mono ?_; rintro e w' ⟨rfl, rfl⟩) | (go_at_call 18; refine (H2.out _).mono ?_; rintro e w' ⟨rfl, rfl⟩) | (go_at_call 19; refine (H3.out _).mono ?_; rintro e w' ⟨rfl, rfl⟩))
  go_ret
  exact ⟨rfl, rfl, rfl, rfl⟩

set_option maxRecDepth 100000 in
set_option maxHeartbeats 400000 in
theorem frombits_nan (n : Int) (x : Nat) (w : World) (hx : IsNan x) (h1 : ∀ w, Calls Try.prog 17 #[.int .i64 n] w (SomeNan w)) (h2 : ∀ w, Calls Try.prog 18 #[.int .i64 n] w fun e w' => e = .returned (.float .f64 x) ∧ w' = w) :
    Calls Try.prog 7 #[.int .i64 n] w fun e w' => e = .returned (.bool true) ∧ w'.Alike w := by
  have hc := conv_same
  have H1 := Lib.hid h1
  have H2 := Lib.hid h2
  clear h1 h2
  go_enter Try.func7, Try.ntmps7
  go_wp2_with (first | (go_at_call 17; refine (H1.out _).mono ?_; rintro e w' ⟨z, hz, rfl, rfl⟩) | (go_at_call 18; refine (H2.out _).mono ?_; rintro e w' ⟨rfl, rfl⟩) | (go_at_call 19; refine (same_nan _ _ _ hx hz).mono ?_; rintro e w' ⟨rfl, rfl⟩))
  go_ret
  exact ⟨rfl, rfl, rfl, rfl⟩

theorem frombits_any (n : Int) (w : World) (_ : (Lit.int .i64 n).wf = true) : Calls Try.prog 7 #[.int .i64 n] w fun e w' => e = .returned (.bool true) ∧ w'.Alike w := by
  obtain ⟨x, hx⟩ : ∃ x : Nat, IntKind.u64.wrap n = (x : Int) := ⟨(n % 18446744073709551616).toNat, by rw [IntKind.wrap_u64]; omega⟩
  have hl : x < 18446744073709551616 := by rw [IntKind.wrap_u64] at hx; omega
  have h2 := fun w => implfrom_any n x w hx
  rcases words x hl with ⟨s, v, hv, rfl⟩ | ⟨s, rfl⟩ | ⟨s, t, h0, h1, rfl⟩
  · exact frombits_eq n _ w (fun w => from_word s (rungOf v) (by have := rungOf_lt hv; omega) n hx w) h2 (fun w => same_word s (rungOf v) (by have := rungOf_lt hv; omega) w)
  · exact frombits_eq n _ w (fun w => from_word s _ (Nat.le_refl _) n hx w) h2 (fun w => same_word s _ (Nat.le_refl _) w)
  · exact frombits_nan n _ w (order_nan_left s t h0 h1 _) (fun w => from_word_nan s t h0 h1 n hx w) h2

set_option maxRecDepth 100000 in
theorem frombits_lifted (os : Os) (started : os.Started) (H : Type) (enc : TypeId × Value → H) :
    ReturnsInHanded {} Try.checked os 7 .any (Rows.fnExactFromBitsSpec.pre6 enc Try.prog Try.f7 Rows.fnExactFromBitsRow.domain false) (Rows.fnExactFromBitsSpec.post enc Try.prog Try.f7 false true false false) := by
  refine returnsInHanded_of_change (C := Try.checked) Try.own started (by kernel_rfl) Try.func7
    (ChangeSpec.witness6 (enc := enc) (C := Try.checked) false ⟨#[], #[.int .i64 0], []⟩ 8 (by kernel_rfl) (by kernel_rfl) (by kernel_rfl) (by kernel_rfl)) ?_
  intro W base args ds gs before hval0 hW hcnd _
  have hval : ∀ (j : Nat) t v, Try.f7.params[j]? = some t → args[j]? = some v → Value.okWide Try.prog W .any base t v := hval0
  have hW' := hW
  obtain ⟨p, q, hA0, hV, rfl, hfz, hnd⟩ := hW
  have hA : DataW.TrodAll enc Try.prog W 0 (fun _ => true) true Try.f7.params.toList args.toList ds p := hA0
  rw [Try.params7] at hA hval
  obtain ⟨v0, d0, rfl, rfl, h0⟩ := trodAll_one hA
  obtain ⟨rfl, rfl⟩ := trodVars_none hV
  obtain ⟨a0, rfl, rfl, rfl, wa0⟩ := open_int Try.underlying2 (hval 0 2 v0 rfl rfl) h0
  clear hA0 hval0
  simp only [List.append_nil] at hW'
  refine (frombits_any a0 W wa0).mono fun e W' ⟨he, hw⟩ => ?_
  subst he
  exact ⟨_, rfl, ChangeSpec.post_alike (post_of_same (pa := []) (pv := []) hW' (fun _ _ _ => trodAll_mk1 (shut_bool Try.underlying4 true)) (fun sp _ => trodAll_mk1 (shut_int Try.underlying2 wa0)) (fun _ _ => rfl) rfl
    (World.keptBut_refl _ _) (fun _ => rfl) (ok_one (by kernel_rfl) rfl (okWide_bool_mk Try.underlying4 true))) hw⟩

theorem frombits_holds : Rows.FnExactFromBitsSaid :=
  OpenClaim.holds_of_wide 7 Try.f7 rfl rfl rfl rfl rfl rfl rfl ⟨rfl, rfl, rfl, rfl, rfl⟩ rfl rfl rfl rfl rfl (by kernel_rfl) Try.func7 (by kernel_rfl)
    (of_decide_eq_true (by kernel_rfl)) (by unfold Func.isWrapper; rw [if_neg (of_decide_eq_false (by kernel_rfl))]; exact ⟨rfl, rfl⟩)
    (fun os started H enc _ => frombits_lifted os started H enc)
end Go.Proofs.Ytknhncpmijgdfaa
