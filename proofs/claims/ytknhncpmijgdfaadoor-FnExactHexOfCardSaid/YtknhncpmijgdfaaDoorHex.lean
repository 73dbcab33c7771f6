/- FnExactHexOf's law (function 6 here) returns true at every float64. Conditions: the two tables, laid. -/
import Derived.Test.YtknhncpmijgdfaaDoorHexI
namespace Go.Proofs.YtknhncpmijgdfaaDoor
open Go.RowKit
open Flt Ieee Digs

/-- strconv.Itoa: the text in base 10 -/
theorem itoa_any (n : Int) (w : World) (h0 : -9223372036854775808 ≤ n) (h1 : n ≤ 9223372036854775807) (hP : PowAt w) :
    Calls Tryd.prog 28 #[.int .i64 n] w fun e w' => e = .returned (.string ⟨(itext 10 n).toArray⟩) ∧ Below w.heap.size w w' := by
  refine (Tryd.strconv_Itoa n h0 h1 w hP).mono fun e w' ⟨he, k, os, hw⟩ => ⟨?_, by rw [hw]; exact below_grow w k os⟩
  rw [he]
  have : Lib.itoa n = itext 10 n := by
    unfold Lib.itoa itext
    by_cases hn : n < 0
    · rw [if_pos hn, if_pos hn, dl_ten _ _ (Nat.le_refl _)]
    · rw [if_neg hn, if_neg hn, dl_ten _ _ (Nat.le_refl _), show n.toNat = n.natAbs by omega]
  rw [this]

theorem itext_short (b : Nat) (n : Int) (hb : 2 ≤ b) (h : n.natAbs < 2 ^ 63) : (itext b n).length < 66 := by
  have := dl_length b hb 63 n.natAbs h
  unfold itext
  by_cases hn : n < 0
  · rw [if_pos hn]; simp; omega
  · rw [if_neg hn]; omega

theorem word_cond (s : Bool) (r : Nat) (h : r < 9223372036854775808) : cond s (Op.negFloat .f64 (double.word s r)) (double.word s r) = double.word false r := by
  cases s
  · rfl
  · exact neg_word true r h

theorem hexText_zero (s : Bool) : hexText (sgn s) [48] [48] = sgn s ++ ⟨#[48, 120, 48, 112, 48]⟩ := by cases s <;> decide

/-- a NaN -/
theorem hexof_nan (x : Nat) (w : World) (h : ∀ y, FloatKind.f64.format.order x y = none) : Calls Tryd.prog 6 #[.float .f64 x] w fun e w' => e = .returned (.bool true) ∧ Below w.heap.size w w' :=
  hex_law x _ w ((shex_nan x w (fun w => size_nan x w (h 0)) (fun w => odd_nan x w (h x))).mono fun _ _ ⟨he, hw⟩ => ⟨he, by rw [hw]; exact Below.refl _ _⟩)
    (fun w' _ => ihex_odd x _ w' (special_nan x _ 0 0 false w' (iparts_nan x w' (h x))))

/-- an infinity -/
theorem hexof_inf (s : Bool) (w : World) : Calls Tryd.prog 6 #[.float .f64 (double.word s 9218868437227405312)] w fun e w' => e = .returned (.bool true) ∧ Below w.heap.size w w' := by
  have hs : ∀ s, FloatKind.f64.format.order (double.word s 9218868437227405312) (double.word s 9218868437227405312) = some .eq := fun s => by
    show double.order _ _ = _; rw [order_inf_inf]; cases s <;> rfl
  have hz : FloatKind.f64.format.order (double.word s 9218868437227405312) 0 = some (cond s .lt .gt) := by
    have e := order_inf_fl s false rep_zero
    rw [fl_zero_false] at e
    refine e.trans ?_
    cases s <;> rfl
  have hm : FloatKind.f64.format.order (double.word false 9218868437227405312) 9218868437227405311 = some .gt := by
    have e := order_inf_fl false false rep_mx
    rw [fl_mx] at e; exact e
  exact hex_law _ _ w ((shex_inf _ _ s w (fun w => size_num _ _ s w hz (word_cond s _ (by omega))) (fun w => odd_inf _ w (hs false) hm)).mono fun _ _ ⟨he, hw⟩ => ⟨he, by rw [hw]; exact Below.refl _ _⟩)
    (fun w' _ => ihex_odd _ _ w' (special_inf _ _ 0 0 s w' (iparts_inf _ _ s w' (hs s) (word_abs s _ (by omega)) hm hz)))

/-- a zero -/
theorem hexof_zero (s : Bool) (w : World) : Calls Tryd.prog 6 #[.float .f64 (double.word s 0)] w fun e w' => e = .returned (.bool true) ∧ Below w.heap.size w w' := by
  have hw := fun s => (fl_zero s).symm
  have hself : ∀ s, FloatKind.f64.format.order (double.word s 0) (double.word s 0) = some .eq := fun s => by rw [hw]; exact order_self s rep_zero
  have ho : ∀ s, FloatKind.f64.format.order (double.word s 0) 0 = some .eq := fun s => by
    have e := order_fl s false rep_zero rep_zero
    rw [fl_zero_false, fl_zero] at e
    refine e.trans ?_
    cases s <;> rfl
  have hmx : (FloatKind.f64.format.order 0 9218868437227405311 == some .gt) = false := by
    have e : double.word false 0 = 0 := rfl
    rw [← e, hw]; exact order_mx rep_zero
  have hi : FloatKind.f64.format.order (double.word s 9218868437227405312) 0 = some (cond s .lt .gt) := by
    have e := order_inf_fl s false rep_zero
    rw [fl_zero_false] at e
    refine e.trans ?_
    cases s <;> rfl
  have h16 : itext 16 0 = [48] := by unfold itext; rw [if_neg (by omega)]; exact dl_one 16 0 (by omega)
  have h10 : itext 10 0 = [48] := by unfold itext; rw [if_neg (by omega)]; exact dl_one 10 0 (by omega)
  refine hex_law _ (hexText (sgn s) [48] [48]) w
    (shex_num _ _ (sgn s) _ _ true 0 0 0 false w (fun w => size_zero _ _ _ s w (ho s) (one_over_zero s) hi (word_cond s 0 (by omega))) (fun w => odd_zero _ w (hself false) hmx (ho false))
      (fun w => sparts_zero _ false w (hself false) (raw_word false 0 (by omega))) (fun w => ?_) (fun w => ?_) (sgn_size s) (by decide) (by decide))
    (fun w' _ => ?_)
  · rw [← h16]; exact swi_any 0 16 w (by omega) (by omega) (by omega) (by omega)
  · rw [← h10]; exact swi_any 0 10 w (by omega) (by omega) (by omega) (by omega)
  · rw [hexText_zero]
    exact ihex_odd _ _ w' (special_zero _ 0 0 s w' (iparts_zero _ _ s w' (hself s) (word_abs s _ (by omega)) hmx (ho s) (word_neg s 0 (by omega))))

/-- a finite number -/
theorem hexof_fin (s : Bool) (r : Nat) (hr : r < 9218868437227405312) (h0 : r ≠ 0) (w : World) (hT : TabAt w) (hP : PowAt w) :
    Calls Tryd.prog 6 #[.float .f64 (double.word s r)] w fun e w' => e = .returned (.bool true) ∧ Below w.heap.size w w' := by
  obtain ⟨m, e, ⟨hm0, hm1, he0, he1⟩, hp⟩ := parts_fin r hr h0
  obtain ⟨v, hv, hw, hv0⟩ := word_fl r hr
  have hself : ∀ s, FloatKind.f64.format.order (double.word s r) (double.word s r) = some .eq := fun s => by rw [hw]; exact order_self s hv
  have hz : ∀ s, FloatKind.f64.format.order (double.word s r) 0 = some (cond s .lt .gt) := fun s => by rw [hw]; exact order_zero s hv (hv0 h0)
  have hmx : (FloatKind.f64.format.order (double.word false r) 9218868437227405311 == some .gt) = false := by rw [hw]; exact order_mx hv
  have hla : (itext 16 m).length < 66 := itext_short 16 m (by omega) (by omega)
  have hlb : (itext 10 e).length < 66 := itext_short 10 e (by omega) (by omega)
  refine hex_law _ (hexText (sgn s) (itext 16 m) (itext 10 e)) w
    (shex_num _ _ (sgn s) _ _ false 1 m e false w (fun w => size_num _ _ s w (hz s) (word_cond s r (by omega))) (fun w => odd_num _ w (hself false) hmx (hz false))
      (fun w => (hp false).1 w) (fun w => swi_any m 16 w (by omega) (by omega) (by omega) (by omega)) (fun w => swi_any e 10 w (by omega) (by omega) (by omega) (by omega)) (sgn_size s) hla hlb)
    (fun w' hb => ?_)
  have hT' := tab_below hT hb
  have hP' := pow_below hP hb
  exact ihex_num _ (sgn s) _ _ 1 m e s w' (special_num _ _ m e s w' ((hp s).2 w' hT')) (fun w2 hb2 => (hp s).2 w2 (tab_below hT' hb2))
    (fun b w2 h => (fi_any m 16 w2 (by omega) (by omega) (by omega) (by omega) (tab_below hT' h.2.2.2) (pow_below hP' h.2.2.2)).mono fun _ _ ⟨he, hb3⟩ => ⟨he, hexat_step h hb3⟩)
    (fun b w2 h => (itoa_any e w2 (by omega) (by omega) (pow_below hP' h.2.2.2)).mono fun _ _ ⟨he, hb3⟩ => ⟨he, hexat_step h hb3⟩)
    (sgn_size s) hla hlb

theorem hexof_any (x : Nat) (w : World) (hx : x < 18446744073709551616) (h : TabAt w ∧ PowAt w) : Calls Tryd.prog 6 #[.float .f64 x] w fun e w' => e = .returned (.bool true) ∧ Below w.heap.size w w' := by
  rcases words x hx with ⟨s, v, hv, rfl⟩ | ⟨s, rfl⟩ | ⟨s, t, h0, h1, rfl⟩
  · have hr : rungOf v < 9218868437227405312 := by have := rungOf_lt hv; omega
    show Calls Tryd.prog 6 #[.float .f64 (double.word s (rungOf v))] w _
    by_cases h0 : rungOf v = 0
    · rw [h0]; exact hexof_zero s w
    · exact hexof_fin s _ hr h0 w h.1 h.2
  · exact hexof_inf s w
  · exact hexof_nan _ w (fun y => order_nan_left s t h0 h1 y)
end Go.Proofs.YtknhncpmijgdfaaDoor
