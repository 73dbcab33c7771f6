/- FnExactFloor returns true at every float64. No condition. -/
import Derived.Test.YtknhncpmijgdfaaFloorC
import Derived.Test.YtknhncpmijgdfaaBase
import Derived.ChangeAlike
namespace Go.Proofs.Ytknhncpmijgdfaa
open Go.ChangeShapes Go.WideShapes Go.ChangeAt Go.RowKit
open Flt Ieee

theorem conv_same (x : Nat) (w : World) : (convert 25 25 (.float .f64 x)).run Try.prog w = .ok (.float .f64 x) w :=
  run_convert_float_float w 25 25 .f64 .f64 x x (by rw [Try.underlying25]; rfl) Try.underlying25 (by unfold floatToFloatBits; rw [if_pos rfl])

theorem quiet_ok (t : Nat) (h0 : t ≠ 0) (h1 : t < 4503599627370496) : FloatKind.f64.format.quiet t ≠ 0 ∧ FloatKind.f64.format.quiet t < 4503599627370496 := by
  have e : FloatKind.f64.format.quiet t = t ||| 2251799813685248 := rfl
  rw [e]
  constructor
  · intro h
    have h2 : t ≤ t ||| 2251799813685248 := Nat.left_le_or
    omega
  · have := Nat.or_lt_two_pow (x := t) (y := 2251799813685248) (n := 52) (by simpa using h1) (by decide)
    rw [show (2 : Nat) ^ 52 = 4503599627370496 by decide] at this
    exact this

theorem arch_nan (s : Bool) (t : Nat) (h0 : t ≠ 0) (h1 : t < 4503599627370496) (w : World) : ∃ z w2, (callFunc 38 #[.float .f64 (double.word s (9218868437227405312 + t))]).run Try.prog w = .ok (.value (.float .f64 z)) w2 ∧ IsNan z ∧ w2.Alike w := by
  have hd : FloatKind.f64.decode (double.word s (9218868437227405312 + t)) = .nan s t := read_nan s t h0 h1
  have hx : IsNan (double.word s (9218868437227405312 + t)) := order_nan_left s t h0 h1 _
  obtain ⟨q0, q1⟩ := quiet_ok t h0 h1
  have hq : IsNan (FloatKind.f64.encode (.nan s (FloatKind.f64.format.quiet t))) := by
    have e : FloatKind.f64.encode (.nan s (FloatKind.f64.format.quiet t)) = double.word s (9218868437227405312 + FloatKind.f64.format.quiet t) := by
      show double.word s (double.infRung + FloatKind.f64.format.quiet t % double.binade) = _
      rw [infRung_eq, binade_eq, Nat.mod_eq_of_lt q1]
    rw [e]; exact order_nan_left s _ q0 q1 _
  generalize double.word s (9218868437227405312 + t) = x at *
  rw [run_callFunc_extern (e := Extern.MathFloor.toIntegral "math.archFloor" .down) Try.func38 (by kernel_rfl) (by kernel_rfl) (by kernel_rfl) (by kernel_rfl)]
  by_cases hqt : FloatKind.f64.format.quiet t = t
  · refine ⟨x, w, ?_, hx, rfl, rfl, rfl⟩
    show (Sem.run _ (Go.Extern.MathFloor.toIntegral.match_1 (fun _ => Sem Value) (FloatKind.f64.decode x) _ _) w).andThen _ = _
    rw [hd]
    show (Sem.run _ (if FloatKind.f64.format.quiet t = t then _ else _) w).andThen _ = _
    rw [if_pos hqt]; rfl
  · obtain ⟨k, hk⟩ : ∃ k : Nat, (((Extern.MathFloor.toIntegral "math.archFloor" .down #[.float .f64 x]).run Try.prog w).andThen fun v w' => (Result.ok (Next.value v) w' : Result Next)) =
        .ok (.value (.float .f64 (if k == 1 then x else FloatKind.f64.encode (.nan s (FloatKind.f64.format.quiet t))))) w.drew := by
      apply Exists.intro
      show (Sem.run _ (Go.Extern.MathFloor.toIntegral.match_1 (fun _ => Sem Value) (FloatKind.f64.decode x) _ _) w).andThen _ = _
      rw [hd]
      show (Sem.run _ (if FloatKind.f64.format.quiet t = t then _ else _) w).andThen _ = _
      rw [if_neg hqt]; rfl
    refine ⟨_, _, hk, ?_, rfl, rfl, rfl⟩
    split
    · exact hx
    · exact hq

set_option maxRecDepth 100000 in
set_option maxHeartbeats 400000 in
theorem floor_impl_at (x z : Nat) (w w2 : World) (hr : (callFunc 38 #[.float .f64 x]).run Try.prog w = .ok (.value (.float .f64 z)) w2) : Calls Try.prog 21 #[.float .f64 x] w fun e w' => e = .returned (.float .f64 z) ∧ w2 = w' := by
  go_enter Try.func21, Try.ntmps21
  go_wp2
  go_ret
  exact ⟨rfl, rfl⟩

set_option maxRecDepth 100000 in
set_option maxHeartbeats 400000 in
theorem floor_law (x y : Nat) (w : World) (h1 : ∀ w, Calls Try.prog 20 #[.float .f64 x] w fun e w' => e = .returned (.float .f64 y) ∧ w' = w) (h2 : ∀ w, Calls Try.prog 21 #[.float .f64 x] w fun e w' => e = .returned (.float .f64 y) ∧ w' = w)
    (h3 : ∀ w, Calls Try.prog 19 #[.float .f64 y, .float .f64 y] w fun e w' => e = .returned (.bool true) ∧ w' = w) :
    Calls Try.prog 8 #[.float .f64 x] w fun e w' => e = .returned (.bool true) ∧ w' = w := by
  have hc := conv_same y
  have H1 := Lib.hid h1
  have H2 := Lib.hid h2
  have H3 := Lib.hid h3
  clear h1 h2 h3
  go_enter Try.func8, Try.ntmps8
  go_wp2_with (first | (go_at_call 20; refine (H1.out _).mono ?_; rintro e w' ⟨rfl, rfl⟩) | (go_at_call 21; refine (H2.out _).mono ?_; rintro e w' ⟨rfl, rfl⟩) | (go_at_call 19; refine (H3.out _).mono ?_; rintro e w' ⟨rfl, rfl⟩))
  go_ret
  exact ⟨rfl, rfl⟩

set_option maxRecDepth 100000 in
set_option maxHeartbeats 400000 in
theorem floor_law_nan (x z : Nat) (w w2 : World) (hx : IsNan x) (hz : IsNan z) (hr : (callFunc 38 #[.float .f64 x]).run Try.prog w = .ok (.value (.float .f64 z)) w2) :
    Calls Try.prog 8 #[.float .f64 x] w fun e w' => e = .returned (.bool true) ∧ w2 = w' := by
  have hc := conv_same
  have h2 := floor_impl_at x z w w2 hr
  have H2 := Lib.hid h2
  have HX := Lib.hid hx
  have HZ := Lib.hid hz
  clear h2 hr hx hz
  go_enter Try.func8, Try.ntmps8
  go_wp2_with (first | (go_at_call 20; refine (floor_nan_spec _ _ HX.out).mono ?_; rintro e w' ⟨rfl, rfl⟩) | (go_at_call 21; refine H2.out.mono ?_; rintro e w' ⟨rfl, rfl⟩) | (go_at_call 19; refine (same_nan _ _ _ HZ.out HX.out).mono ?_; rintro e w' ⟨rfl, rfl⟩))
  go_ret
  exact ⟨rfl, rfl⟩

theorem arch_fl {v : Nat} (s : Bool) (h : Rep v) (w : World) : (callFunc 38 #[.float .f64 (fl s v)]).run Try.prog w = .ok (.value (.float .f64 (flo s v))) w := by
  obtain ⟨q, t, h1, e1⟩ := read_fl s h
  rw [arch_run (fl s v) _ rfl (by show (double.read _).isNaN = false; rw [e1]; rfl) w, integral_write s h]

theorem ne_zero_ord {v : Nat} (s : Bool) (hv : Rep v) (h0 : v ≠ 0) : (FloatKind.f64.format.order (fl s v) 0 == some .eq) = false := by
  rw [order_zero s hv h0]; cases s <;> rfl

/-- BOTH FLOORS AT A FINITE WORD -/
theorem floor_fl {v : Nat} (s : Bool) (hv : Rep v) : (∀ w, Calls Try.prog 20 #[.float .f64 (fl s v)] w fun e w' => e = .returned (.float .f64 (flo s v)) ∧ w' = w) ∧ (∀ w, Calls Try.prog 21 #[.float .f64 (fl s v)] w fun e w' => e = .returned (.float .f64 (flo s v)) ∧ w' = w) := by
  refine ⟨fun w => ?_, fun w => floor_impl _ _ w (arch_fl s hv)⟩
  by_cases h0 : v = 0
  · subst h0
    have ho : FloatKind.f64.format.order (fl s 0) 0 = some .eq := by
      have e := order_fl s false rep_zero rep_zero
      rw [fl_zero_false] at e
      refine e.trans ?_
      cases s <;> rfl
    have := floor_zero_spec _ w (order_self s hv) ho
    rw [flo_whole s (Nat.zero_mod _)]
    exact this
  · by_cases hb : 9223372036854775808 * one ≤ v
    · rw [flo_whole s (big_whole hv hb)]
      cases s
      · refine floor_big_spec _ w (order_self false hv) (order_zero false hv h0) ?_
        rw [← fl_p63_false]
        exact order_ge hv rep_p63 hb
      · refine floor_low_spec _ w (order_self true hv) (order_zero true hv h0) ?_ ?_
        · rw [← fl_p63_false]
          refine ord_eq true false hv rep_p63 .lt ?_
          rw [Int.compare_eq_lt, sv_true, sv_false]
          generalize 9223372036854775808 * one = b at *
          omega
        · rw [← fl_p63_true]
          have h2 : compare (sv true v) (sv true (9223372036854775808 * one)) = .lt ∨ compare (sv true v) (sv true (9223372036854775808 * one)) = .eq := by
            rw [Int.compare_eq_lt, Int.compare_eq_eq, sv_true, sv_true]
            generalize 9223372036854775808 * one = b at *
            omega
          rcases h2 with h2 | h2
          · exact Or.inl (ord_eq true true hv rep_p63 .lt h2)
          · exact Or.inr (ord_eq true true hv rep_p63 .eq h2)
    · have hlt : v < 9223372036854775808 * one := by omega
      have hp : FloatKind.f64.format.order (fl s v) 4890909195324358656 = some .lt := by
        rw [← fl_p63_false]
        refine ord_eq s false hv rep_p63 .lt ?_
        rw [Int.compare_eq_lt, sv_false]
        generalize 9223372036854775808 * one = b at *
        cases s
        · rw [sv_false]; omega
        · rw [sv_true]; omega
      have hn : FloatKind.f64.format.order (fl s v) 14114281232179134464 = some .gt := by
        rw [← fl_p63_true]
        refine ord_eq s true hv rep_p63 .gt ?_
        rw [Int.compare_eq_gt, sv_true]
        generalize 9223372036854775808 * one = b at *
        cases s
        · rw [sv_false]; omega
        · rw [sv_true]; omega
      have hi := toI64_fl s hv hlt
      have hbk := back_fl s hv
      cases s
      · have hk := keep_pos hv
        have e : decide (sv false (v / one) < 0) = false := by
          generalize v / one = k
          rw [sv_false]; simp
        rw [e] at hbk
        rw [← hk.2]
        exact floor_keep_spec _ _ _ w (order_self false hv) (ne_zero_ord false hv h0) hp hn hi hbk hk.1
      · by_cases hm : v % one = 0
        · have hk := keep_neg hv hm
          have hd := div_mod_one v
          have hq0 : v / one ≠ 0 := by
            intro e; rw [e, Nat.zero_mul] at hd; omega
          rw [sign_neg hq0] at hbk
          rw [← hk.2]
          exact floor_keep_spec _ _ _ w (order_self true hv) (ne_zero_ord true hv h0) hp hn hi hbk hk.1
        · exact floor_down_spec _ _ _ _ w (order_self true hv) (ne_zero_ord true hv h0) hp hn hi hbk (down_gt hv hm) (down_sub hv hm)

/-- BOTH FLOORS AT AN INFINITY -/
theorem floor_inf (s : Bool) : (∀ w, Calls Try.prog 20 #[.float .f64 (double.word s 9218868437227405312)] w fun e w' => e = .returned (.float .f64 (double.word s 9218868437227405312)) ∧ w' = w) ∧ (∀ w, Calls Try.prog 21 #[.float .f64 (double.word s 9218868437227405312)] w fun e w' => e = .returned (.float .f64 (double.word s 9218868437227405312)) ∧ w' = w) := by
  have hs : FloatKind.f64.format.order (double.word s 9218868437227405312) (double.word s 9218868437227405312) = some .eq := by
    show double.order _ _ = _; rw [order_inf_inf]; cases s <;> rfl
  have hz : FloatKind.f64.format.order (double.word s 9218868437227405312) 0 = some (if s then .lt else .gt) := by
    have e := order_inf_fl s false rep_zero
    rw [fl_zero_false] at e; exact e
  have hp : FloatKind.f64.format.order (double.word s 9218868437227405312) 4890909195324358656 = some (if s then .lt else .gt) := by
    rw [← fl_p63_false]; exact order_inf_fl s false rep_p63
  have hn : FloatKind.f64.format.order (double.word s 9218868437227405312) 14114281232179134464 = some (if s then .lt else .gt) := by
    rw [← fl_p63_true]; exact order_inf_fl s true rep_p63
  refine ⟨fun w => ?_, fun w => floor_impl _ _ w ?_⟩
  · cases s
    · exact floor_big_spec _ w hs hz (Or.inl hp)
    · exact floor_low_spec _ w hs hz hp (Or.inl hn)
  · intro w
    have hd : FloatKind.f64.decode (double.word s 9218868437227405312) = .infinity s := read_inf s
    rw [arch_run _ _ hd rfl w]
    have : FloatKind.f64.encode ((Datum.infinity s).integral .down) = double.word s 9218868437227405312 := by
      show double.word s double.infRung = _
      rw [infRung_eq]
    rw [this]

theorem flo_lt {v : Nat} (s : Bool) (hv : Rep v) : flo s v = double.word s (rungOf (flk s v * one)) ∧ rungOf (flk s v * one) ≤ 9218868437227405312 := ⟨rfl, by have := rungOf_lt (rep_flk s hv); omega⟩

theorem floor_any (x : Nat) (w : World) (hx : (Lit.float .f64 x).wf = true) : Calls Try.prog 8 #[.float .f64 x] w fun e w' => e = .returned (.bool true) ∧ w'.Alike w := by
  have k : ∀ (e : Ending) (w' : World), e = .returned (.bool true) ∧ w' = w → e = .returned (.bool true) ∧ w'.Alike w := fun e w' ⟨he, hw⟩ => ⟨he, by subst hw; exact ⟨rfl, rfl, rfl⟩⟩
  rcases words x (by simpa [Lit.wf] using hx) with ⟨s, v, hv, rfl⟩ | ⟨s, rfl⟩ | ⟨s, t, h0, h1, rfl⟩
  · obtain ⟨e1, e2⟩ := flo_lt s hv
    exact (floor_law _ (flo s v) w (floor_fl s hv).1 (floor_fl s hv).2 (fun w => by rw [e1]; exact same_word s _ e2 w)).mono k
  · exact (floor_law _ _ w (floor_inf s).1 (floor_inf s).2 (fun w => same_word s _ (Nat.le_refl _) w)).mono k
  · obtain ⟨z, w2, hr, hz, ha⟩ := arch_nan s t h0 h1 w
    exact (floor_law_nan _ z w w2 (order_nan_left s t h0 h1 _) hz hr).mono fun e w' ⟨he, hw⟩ => ⟨he, by subst hw; exact ha⟩

set_option maxRecDepth 100000 in
theorem floor_lifted (os : Os) (started : os.Started) (H : Type) (enc : TypeId × Value → H) :
    ReturnsInHanded {} Try.checked os 8 .any (Rows.fnExactFloorSpec.pre6 enc Try.prog Try.f8 Rows.fnExactFloorRow.domain false) (Rows.fnExactFloorSpec.post enc Try.prog Try.f8 false true false false) := by
  refine returnsInHanded_of_change (C := Try.checked) Try.own started (by kernel_rfl) Try.func8
    (ChangeSpec.witness6 (enc := enc) (C := Try.checked) false ⟨#[], #[.float .f64 0], []⟩ 8 (by kernel_rfl) (by kernel_rfl) (by kernel_rfl) (by kernel_rfl)) ?_
  intro W base args ds gs before hval0 hW hcnd _
  have hval : ∀ (j : Nat) t v, Try.f8.params[j]? = some t → args[j]? = some v → Value.okWide Try.prog W .any base t v := hval0
  have hW' := hW
  obtain ⟨p, q, hA0, hV, rfl, hfz, hnd⟩ := hW
  have hA : DataW.TrodAll enc Try.prog W 0 (fun _ => true) true Try.f8.params.toList args.toList ds p := hA0
  rw [Try.params8] at hA hval
  obtain ⟨v0, d0, rfl, rfl, h0⟩ := trodAll_one hA
  obtain ⟨rfl, rfl⟩ := trodVars_none hV
  obtain ⟨a0, rfl, rfl, rfl, wa0⟩ := open_float Try.underlying25 (hval 0 25 v0 rfl rfl) h0
  clear hA0 hval0
  simp only [List.append_nil] at hW'
  refine (floor_any a0 W wa0).mono fun e W' ⟨he, hw⟩ => ?_
  subst he
  exact ⟨_, rfl, ChangeSpec.post_alike (post_of_same (pa := []) (pv := []) hW' (fun _ _ _ => trodAll_mk1 (shut_bool Try.underlying4 true)) (fun sp _ => trodAll_mk1 (shut_float Try.underlying25 wa0)) (fun _ _ => rfl) rfl
    (World.keptBut_refl _ _) (fun _ => rfl) (ok_one (by kernel_rfl) rfl (okWide_bool_mk Try.underlying4 true))) hw⟩

theorem floor_holds : Rows.FnExactFloorSaid :=
  OpenClaim.holds_of_wide 8 Try.f8 rfl rfl rfl rfl rfl rfl rfl ⟨rfl, rfl, rfl, rfl, rfl⟩ rfl rfl rfl rfl rfl (by kernel_rfl) Try.func8 (by kernel_rfl)
    (of_decide_eq_true (by kernel_rfl)) (by unfold Func.isWrapper; rw [if_neg (of_decide_eq_false (by kernel_rfl))]; exact ⟨rfl, rfl⟩)
    (fun os started H enc _ => floor_lifted os started H enc)
end Go.Proofs.Ytknhncpmijgdfaa
