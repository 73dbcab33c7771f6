/- FnExactUp returns true at every float64. No condition. -/
import Derived.Test.YtknhncpmijgdfaaUpC
import Derived.Test.YtknhncpmijgdfaaBase
import Derived.ChangeAlike
namespace Go.Proofs.Ytknhncpmijgdfaa
open Go.ChangeShapes Go.WideShapes Go.ChangeAt Go.RowKit
open Flt Ieee

theorem conv_same (x : Nat) (w : World) : (convert 25 25 (.float .f64 x)).run Try.prog w = .ok (.float .f64 x) w :=
  run_convert_float_float w 25 25 .f64 .f64 x x (by rw [Try.underlying25]; rfl) Try.underlying25 (by unfold floatToFloatBits; rw [if_pos rfl])

set_option maxRecDepth 100000 in
set_option maxHeartbeats 400000 in
theorem up_law (x y : Nat) (w : World) (h1 : ∀ w, Calls Try.prog 25 #[.float .f64 x] w fun e w' => e = .returned (.float .f64 y) ∧ w' = w) (h2 : ∀ w, Calls Try.prog 26 #[.float .f64 x] w fun e w' => e = .returned (.float .f64 y) ∧ w' = w)
    (h3 : ∀ w, Calls Try.prog 19 #[.float .f64 y, .float .f64 y] w fun e w' => e = .returned (.bool true) ∧ w' = w) :
    Calls Try.prog 10 #[.float .f64 x] w fun e w' => e = .returned (.bool true) ∧ w' = w := by
  have hc := conv_same y
  have H1 := Lib.hid h1
  have H2 := Lib.hid h2
  have H3 := Lib.hid h3
  clear h1 h2 h3
  go_enter Try.func10, Try.ntmps10
  go_wp2_with (first | (go_at_call 25; refine (H1.out _).mono ?_; rintro e w' ⟨rfl, rfl⟩) | (go_at_call 26; refine (H2.out _).mono ?_; rintro e w' ⟨rfl, rfl⟩) | (go_at_call 19; refine (H3.out _).mono ?_; rintro e w' ⟨rfl, rfl⟩))
  go_ret
  exact ⟨rfl, rfl⟩

theorem inf_self : FloatKind.f64.format.order 9218868437227405312 9218868437227405312 = some .eq := order_inf_inf false false
theorem ord_inf {v : Nat} (s : Bool) (hv : Rep v) : FloatKind.f64.format.order (fl s v) 9218868437227405312 = some .lt := order_fl_inf false s hv
theorem inf_ord {v : Nat} (s : Bool) (hv : Rep v) : FloatKind.f64.format.order 9218868437227405312 (fl s v) = some .gt := order_inf_fl false s hv
theorem not_gt_mx {v : Nat} (s : Bool) (hv : Rep v) : (FloatKind.f64.format.order (fl s v) 9218868437227405311 == some .gt) = false := by
  cases s
  · exact order_mx hv
  · rw [← fl_mx]
    show (double.order _ _ == _) = _
    rw [order_fl true false hv rep_mx]
    have h : ¬ compare (sv true v) (sv false mx) = .gt := by
      rw [Int.compare_eq_gt]
      simp [sv]
    cases hc : compare (sv true v) (sv false mx) <;> first | rfl | exact absurd hc h

theorem up_any (x : Nat) (w : World) (hx : (Lit.float .f64 x).wf = true) : Calls Try.prog 10 #[.float .f64 x] w fun e w' => e = .returned (.bool true) ∧ w'.Alike w := by
  have k : ∀ (e : Ending) (w' : World), e = .returned (.bool true) ∧ w' = w → e = .returned (.bool true) ∧ w'.Alike w := fun e w' ⟨he, hw⟩ => ⟨he, by subst hw; exact ⟨rfl, rfl, rfl⟩⟩
  rcases words x (by simpa [Lit.wf] using hx) with ⟨s, v, hv, rfl⟩ | ⟨s, rfl⟩ | ⟨s, t, h0, h1, rfl⟩
  · have hr := rungOf_lt hv
    by_cases h0 : v = 0
    · subst h0
      have ho : FloatKind.f64.format.order (fl s 0) 0 = some .eq := by
        have e := order_fl s false rep_zero rep_zero
        rw [fl_zero_false] at e
        refine e.trans ?_
        cases s <;> rfl
      exact (up_law _ 1 w (fun w => up_zero_spec _ w (order_self s hv) (not_gt_mx s hv) ho) (fun w => up_zero_impl _ w (order_self s hv) inf_self (ord_inf s hv) ho) (fun w => same_word false 1 (by omega) w)).mono k
    · have hz := order_zero s hv h0
      have hr0 : rungOf v ≠ 0 := by
        intro e
        have e1 : fl s v = fl s 0 := by unfold fl; rw [e]; unfold rungOf; simp
        rw [e1] at hz
        have e := order_fl s false rep_zero rep_zero
        rw [fl_zero_false] at e
        have e2 : double.order (fl s 0) 0 = some .eq := e.trans (by cases s <;> rfl)
        have e3 : double.order (fl s 0) 0 = some (cond s .lt .gt) := hz
        rw [e2] at e3
        cases s <;> simp at e3
      cases s
      · have hy : fl false v + 1 = double.word false (rungOf v + 1) := rfl
        exact (up_law _ (fl false v + 1) w (fun w => up_spec false false (rungOf v) (rungOf v + 1) w (by omega) (by omega) _ _ rfl hy (order_self false hv) (not_gt_mx false hv) hz rfl (by simp))
          (fun w => up_impl false _ _ w (order_self false hv) inf_self (ord_inf false hv) (inf_ord false hv) hz (by show rungOf v < _; omega) rfl (by simp)) (fun w => by rw [hy]; exact same_word false _ (by omega) w)).mono k
      · have ew : fl true v = rungOf v + 9223372036854775808 := word_true _
        have hy : fl true v - 1 = double.word true (rungOf v - 1) := by rw [ew, word_true]; omega
        have hge : 1 ≤ fl true v := by omega
        have hlt : fl true v < 18446744073709551615 := by omega
        exact (up_law _ (fl true v - 1) w (fun w => up_spec true true (rungOf v) (rungOf v - 1) w (by omega) (by omega) _ _ rfl hy (order_self true hv) (not_gt_mx true hv) hz rfl (fun _ => hge))
          (fun w => up_impl true _ _ w (order_self true hv) inf_self (ord_inf true hv) (inf_ord true hv) hz hlt rfl (fun _ => hge)) (fun w => by rw [hy]; exact same_word true _ (by omega) w)).mono k
  · have hs : FloatKind.f64.format.order (double.word s 9218868437227405312) (double.word s 9218868437227405312) = some .eq := by
      show double.order _ _ = _; rw [order_inf_inf]; cases s <;> rfl
    have hm : FloatKind.f64.format.order (double.word s 9218868437227405312) 9218868437227405311 = some (if s then .lt else .gt) := by
      rw [← fl_mx]; exact order_inf_fl s false rep_mx
    have hz : FloatKind.f64.format.order (double.word s 9218868437227405312) 0 = some (if s then .lt else .gt) := by
      have e := order_inf_fl s false rep_zero
      rw [fl_zero_false] at e; exact e
    cases s
    · exact (up_law _ _ w (fun w => up_inf_spec _ w hs hm) (fun w => up_inf_impl _ w hs inf_self (order_inf_inf false false)) (fun w => same_word false _ (Nat.le_refl _) w)).mono k
    · have ew : double.word true 9218868437227405312 = 18442240474082181120 := by rw [word_true]
      have hy : double.word true 9218868437227405312 - 1 = double.word true 9218868437227405311 := by rw [word_true, word_true]
      exact (up_law _ _ w (fun w => up_spec true true 9218868437227405312 9218868437227405311 w (by omega) (by omega) _ _ rfl hy hs (by rw [hm]; rfl) hz rfl (by intro _; omega))
        (fun w => up_impl true _ _ w hs inf_self (order_inf_inf true false) (order_inf_inf false true) hz (by omega) rfl (by intro _; omega)) (fun w => by rw [hy]; exact same_word true _ (by omega) w)).mono k
  · have h := order_nan_left s t h0 h1
    have k3 := fun w => same_nan _ _ w (h _) (h _)
    exact (up_law _ _ w (fun w => up_nan_spec _ w (h _)) (fun w => up_nan_impl _ w (h _)) k3).mono k

set_option maxRecDepth 100000 in
theorem up_lifted (os : Os) (started : os.Started) (H : Type) (enc : TypeId × Value → H) :
    ReturnsInHanded {} Try.checked os 10 .any (Rows.fnExactUpSpec.pre6 enc Try.prog Try.f10 Rows.fnExactUpRow.domain false) (Rows.fnExactUpSpec.post enc Try.prog Try.f10 false true false false) := by
  refine returnsInHanded_of_change (C := Try.checked) Try.own started (by kernel_rfl) Try.func10
    (ChangeSpec.witness6 (enc := enc) (C := Try.checked) false ⟨#[], #[.float .f64 0], []⟩ 8 (by kernel_rfl) (by kernel_rfl) (by kernel_rfl) (by kernel_rfl)) ?_
  intro W base args ds gs before hval0 hW hcnd _
  have hval : ∀ (j : Nat) t v, Try.f10.params[j]? = some t → args[j]? = some v → Value.okWide Try.prog W .any base t v := hval0
  have hW' := hW
  obtain ⟨p, q, hA0, hV, rfl, hfz, hnd⟩ := hW
  have hA : DataW.TrodAll enc Try.prog W 0 (fun _ => true) true Try.f10.params.toList args.toList ds p := hA0
  rw [Try.params10] at hA hval
  obtain ⟨v0, d0, rfl, rfl, h0⟩ := trodAll_one hA
  obtain ⟨rfl, rfl⟩ := trodVars_none hV
  obtain ⟨a0, rfl, rfl, rfl, wa0⟩ := open_float Try.underlying25 (hval 0 25 v0 rfl rfl) h0
  clear hA0 hval0
  simp only [List.append_nil] at hW'
  refine (up_any a0 W wa0).mono fun e W' ⟨he, hw⟩ => ?_
  subst he
  exact ⟨_, rfl, ChangeSpec.post_alike (post_of_same (pa := []) (pv := []) hW' (fun _ _ _ => trodAll_mk1 (shut_bool Try.underlying4 true)) (fun sp _ => trodAll_mk1 (shut_float Try.underlying25 wa0)) (fun _ _ => rfl) rfl
    (World.keptBut_refl _ _) (fun _ => rfl) (ok_one (by kernel_rfl) rfl (okWide_bool_mk Try.underlying4 true))) hw⟩

theorem up_holds : Rows.FnExactUpSaid :=
  OpenClaim.holds_of_wide 10 Try.f10 rfl rfl rfl rfl rfl rfl rfl ⟨rfl, rfl, rfl, rfl, rfl⟩ rfl rfl rfl rfl rfl (by kernel_rfl) Try.func10 (by kernel_rfl)
    (of_decide_eq_true (by kernel_rfl)) (by unfold Func.isWrapper; rw [if_neg (of_decide_eq_false (by kernel_rfl))]; exact ⟨rfl, rfl⟩)
    (fun os started H enc _ => up_lifted os started H enc)
end Go.Proofs.Ytknhncpmijgdfaa
