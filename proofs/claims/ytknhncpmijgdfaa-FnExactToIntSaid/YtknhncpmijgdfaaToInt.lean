/- FnExactToInt returns true at every float64. No condition. -/
import Derived.Test.YtknhncpmijgdfaaToIntC
import Derived.Test.YtknhncpmijgdfaaBase
import Derived.ChangeAlike
namespace Go.Proofs.Ytknhncpmijgdfaa
open Go.ChangeShapes Go.WideShapes Go.ChangeAt Go.RowKit
open Flt Ieee

theorem below_new {a w : World} (h : Below a.heap.size a w) (o : Obj) : Below a.heap.size a (w.alloc o) := h.alloc h.size o

set_option maxRecDepth 100000 in
set_option maxHeartbeats 400000 in
theorem eqwhole_any (a b : Int) (w : World) : Calls Try.prog 24 #[.agg #[.int .i64 a, .int .i64 b], .agg #[.int .i64 a, .int .i64 b]] w fun e w' => e = .returned (.bool true) ∧ w' = (w.alloc (.cells #[.int .i64 a, .int .i64 b] 34)).alloc (.cells #[.int .i64 a, .int .i64 b] 34) := by
  go_enter Try.func24, Try.ntmps24
  go_wp2
  go_ret
  exact ⟨rfl, rfl⟩

set_option maxRecDepth 100000 in
set_option maxHeartbeats 400000 in
theorem toint_law (x : Nat) (a b : Int) (w : World) (h1 : ∀ w, Calls Try.prog 22 #[.float .f64 x] w (Whl a b w)) (h2 : ∀ w, Calls Try.prog 23 #[.float .f64 x] w (Whl a b w)) :
    Calls Try.prog 9 #[.float .f64 x] w fun e w' => e = .returned (.bool true) ∧ Below w.heap.size w w' := by
  have H1 := Lib.hid h1
  have H2 := Lib.hid h2
  clear h1 h2
  go_enter Try.func9, Try.ntmps9
  go_wp2_with (first | (go_at_call 22; refine (H1.out _).mono ?_; rintro e w' ⟨rfl, rfl⟩) | (go_at_call 23; refine (H2.out _).mono ?_; rintro e w' ⟨rfl, rfl⟩) | (go_at_call 24; refine (eqwhole_any _ _ _).mono ?_; rintro e w' ⟨rfl, rfl⟩))
  go_ret
  refine ⟨rfl, ?_⟩
  repeat (first | exact Below.refl _ _ | refine below_new ?_ _)

theorem toI64_low {v : Nat} (h : Rep v) (hv : v ≤ 9223372036854775808 * one) : floatToIntVal .f64 (fl true v) .i64 = some (sv true (v / one)) := by
  have h1 : (FloatKind.f64.decode (fl true v)).toInt .zero = some (sv true (v / one)) := toInt_fl true h
  have h2 : v / one ≤ 9223372036854775808 := Nat.div_le_of_le_mul (by rw [Nat.mul_comm]; exact hv)
  unfold floatToIntVal
  rw [h1]
  simp only
  rw [if_pos]
  simp only [IntKind.min, IntKind.max, IntKind.signed, IntKind.bits]
  generalize v / one = k at *
  rw [sv_true]; simp; omega

theorem flo_ne {v : Nat} (s : Bool) (hm : v % one ≠ 0) : compare (sv s (flk s v * one)) (sv s v) ≠ .eq ∧ compare (sv s v) (sv s (flk s v * one)) ≠ .eq := by
  have hne : flk s v * one ≠ v := by
    intro e
    apply hm
    rw [← e, Nat.mul_mod_left]
  generalize flk s v * one = c at *
  rw [ne_eq, ne_eq, Int.compare_eq_eq, Int.compare_eq_eq]
  cases s
  · rw [sv_false, sv_false]; omega
  · rw [sv_true, sv_true]; omega

theorem ne_eq_ord (o : Ordering) (h : o ≠ .eq) : (some o != some Ordering.eq) = true := by
  cases o <;> first | rfl | exact absurd rfl h

/-- both at a finite word within the bounds -/
theorem toint_mid {v : Nat} (s : Bool) (hv : Rep v) (hp : FloatKind.f64.format.order (fl s v) 4890909195324358656 = some .lt) (hn : FloatKind.f64.format.order (fl s v) 14114281232179134464 = some .gt ∨ FloatKind.f64.format.order (fl s v) 14114281232179134464 = some .eq)
    (hi : floatToIntVal .f64 (fl s v) .i64 = some (sv s (v / one))) : ∃ a b, (∀ w, Calls Try.prog 22 #[.float .f64 (fl s v)] w (Whl a b w)) ∧ (∀ w, Calls Try.prog 23 #[.float .f64 (fl s v)] w (Whl a b w)) := by
  have hs := order_self s hv
  have f1 := (floor_fl s hv).1
  have f2 := fun w => floor35 _ _ w (arch_fl s hv)
  by_cases hm : v % one = 0
  · have e := flo_whole s hm
    rw [e] at f1 f2
    exact ⟨0, _, fun w => toint_whole_spec _ _ _ w hs hp hn f1 hs hi, fun w => toint_whole_impl _ _ _ w hs hp hn f2 hs hi⟩
  · obtain ⟨n1, n2⟩ := flo_ne s hm
    refine ⟨2, 0, fun w => toint_part_spec _ _ w hs hp hn f1 ?_, fun w => toint_part_impl _ _ w hs hp hn f2 ?_⟩
    · show (double.order (fl s (flk s v * one)) (fl s v) != _) = _
      rw [order_fl s s (rep_flk s hv) hv]; exact ne_eq_ord _ n1
    · show (double.order (fl s v) (fl s (flk s v * one)) != _) = _
      rw [order_fl s s hv (rep_flk s hv)]; exact ne_eq_ord _ n2

theorem toint_both (x : Nat) (hx : x < 18446744073709551616) : ∃ a b, (∀ w, Calls Try.prog 22 #[.float .f64 x] w (Whl a b w)) ∧ (∀ w, Calls Try.prog 23 #[.float .f64 x] w (Whl a b w)) := by
  rcases words x hx with ⟨s, v, hv, rfl⟩ | ⟨s, rfl⟩ | ⟨s, t, h0, h1, rfl⟩
  · have hs := order_self s hv
    have op : ∀ o, compare (sv s v) (sv false (9223372036854775808 * one)) = o → FloatKind.f64.format.order (fl s v) 4890909195324358656 = some o := fun o h => by
      rw [← fl_p63_false]; exact ord_eq s false hv rep_p63 o h
    have on : ∀ o, compare (sv s v) (sv true (9223372036854775808 * one)) = o → FloatKind.f64.format.order (fl s v) 14114281232179134464 = some o := fun o h => by
      rw [← fl_p63_true]; exact ord_eq s true hv rep_p63 o h
    have hb0 : 0 < 9223372036854775808 * one := Nat.mul_pos (by omega) one_pos
    have hi1 := fun h => toI64_fl (v := v) s hv h
    have hi2 := fun h => toI64_low (v := v) hv h
    generalize 9223372036854775808 * one = b at *
    cases s
    · have hn : FloatKind.f64.format.order (fl false v) 14114281232179134464 = some .gt := on .gt (by rw [Int.compare_eq_gt, sv_false, sv_true]; omega)
      by_cases hc : b ≤ v
      · have hp : FloatKind.f64.format.order (fl false v) 4890909195324358656 = some .gt ∨ FloatKind.f64.format.order (fl false v) 4890909195324358656 = some .eq := by
          rcases cmp_ge hc with h | h
          · exact Or.inl (op .gt h)
          · exact Or.inr (op .eq h)
        exact ⟨3, 0, fun w => toint_big_spec _ w hs hp hn, fun w => toint_big_impl _ w hs hp hn⟩
      · exact toint_mid false hv (op .lt (by rw [Int.compare_eq_lt, sv_false, sv_false]; omega)) (Or.inl hn) (hi1 (by omega))
    · have hp : FloatKind.f64.format.order (fl true v) 4890909195324358656 = some .lt := op .lt (by rw [Int.compare_eq_lt, sv_false, sv_true]; omega)
      by_cases hc : b < v
      · have hn : FloatKind.f64.format.order (fl true v) 14114281232179134464 = some .lt := on .lt (by rw [Int.compare_eq_lt, sv_true, sv_true]; omega)
        exact ⟨3, 0, fun w => toint_low_spec _ w hs hp hn, fun w => toint_low_impl _ w hs hp hn⟩
      · refine toint_mid true hv hp ?_ (hi2 (by omega))
        by_cases he : v = b
        · exact Or.inr (on .eq (by rw [he]; exact Int.compare_eq_eq.2 rfl))
        · exact Or.inl (on .gt (by rw [Int.compare_eq_gt, sv_true, sv_true]; omega))
  · have hs : FloatKind.f64.format.order (double.word s 9218868437227405312) (double.word s 9218868437227405312) = some .eq := by
      show double.order _ _ = _; rw [order_inf_inf]; cases s <;> rfl
    have hp : FloatKind.f64.format.order (double.word s 9218868437227405312) 4890909195324358656 = some (if s then .lt else .gt) := by
      rw [← fl_p63_false]; exact order_inf_fl s false rep_p63
    have hn : FloatKind.f64.format.order (double.word s 9218868437227405312) 14114281232179134464 = some (if s then .lt else .gt) := by
      rw [← fl_p63_true]; exact order_inf_fl s true rep_p63
    cases s
    · exact ⟨3, 0, fun w => toint_big_spec _ w hs (Or.inl hp) hn, fun w => toint_big_impl _ w hs (Or.inl hp) hn⟩
    · exact ⟨3, 0, fun w => toint_low_spec _ w hs hp hn, fun w => toint_low_impl _ w hs hp hn⟩
  · have h := order_nan_left s t h0 h1
    exact ⟨3, 0, fun w => toint_nan_spec _ w (h _), fun w => toint_nan_impl _ w (h _)⟩

theorem toint_any (x : Nat) (w : World) (hx : (Lit.float .f64 x).wf = true) : Calls Try.prog 9 #[.float .f64 x] w fun e w' => e = .returned (.bool true) ∧ Below w.heap.size w w' := by
  obtain ⟨a, b, h1, h2⟩ := toint_both x (by simpa [Lit.wf] using hx)
  exact toint_law x a b w h1 h2

set_option maxRecDepth 100000 in
theorem toint_lifted (os : Os) (started : os.Started) (H : Type) (enc : TypeId × Value → H) :
    ReturnsInHanded {} Try.checked os 9 .any (Rows.fnExactToIntSpec.pre6 enc Try.prog Try.f9 Rows.fnExactToIntRow.domain false) (Rows.fnExactToIntSpec.post enc Try.prog Try.f9 false true false false) := by
  refine returnsInHanded_of_change (C := Try.checked) Try.own started (by kernel_rfl) Try.func9
    (ChangeSpec.witness6 (enc := enc) (C := Try.checked) false ⟨#[], #[.float .f64 0], []⟩ 8 (by kernel_rfl) (by kernel_rfl) (by kernel_rfl) (by kernel_rfl)) ?_
  intro W base args ds gs before hval0 hW hcnd _
  have hval : ∀ (j : Nat) t v, Try.f9.params[j]? = some t → args[j]? = some v → Value.okWide Try.prog W .any base t v := hval0
  have hW' := hW
  obtain ⟨p, q, hA0, hV, rfl, hfz, hnd⟩ := hW
  have hA : DataW.TrodAll enc Try.prog W 0 (fun _ => true) true Try.f9.params.toList args.toList ds p := hA0
  rw [Try.params9] at hA hval
  obtain ⟨v0, d0, rfl, rfl, h0⟩ := trodAll_one hA
  obtain ⟨rfl, rfl⟩ := trodVars_none hV
  obtain ⟨a0, rfl, rfl, rfl, wa0⟩ := open_float Try.underlying25 (hval 0 25 v0 rfl rfl) h0
  clear hA0 hval0
  simp only [List.append_nil] at hW'
  refine (toint_any a0 W wa0).mono fun e W' ⟨he, hw⟩ => ?_
  subst he
  exact ⟨_, rfl, _, _, _, [], [], [], hW', trodAll_mk1 (shut_bool Try.underlying4 true), trodAll_mk1 (shut_float Try.underlying25 wa0), rfl, hw.frame _, fun h => by cases h⟩

theorem toint_holds : Rows.FnExactToIntSaid :=
  OpenClaim.holds_of_wide 9 Try.f9 rfl rfl rfl rfl rfl rfl rfl ⟨rfl, rfl, rfl, rfl, rfl⟩ rfl rfl rfl rfl rfl (by kernel_rfl) Try.func9 (by kernel_rfl)
    (of_decide_eq_true (by kernel_rfl)) (by unfold Func.isWrapper; rw [if_neg (of_decide_eq_false (by kernel_rfl))]; exact ⟨rfl, rfl⟩)
    (fun os started H enc _ => toint_lifted os started H enc)

end Go.Proofs.Ytknhncpmijgdfaa
