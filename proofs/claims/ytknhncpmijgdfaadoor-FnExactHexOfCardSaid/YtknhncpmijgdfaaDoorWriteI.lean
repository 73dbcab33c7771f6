/- What the program's WriteBits and WriteInt (functions 11 and 13 here) return: the digits in a base from 2 to 36, a minus ahead; nothing for another base. Conditions: the two tables, laid. -/
import Derived.Test.YtknhncpmijgdfaaDoorFmtU
namespace Go.Proofs.YtknhncpmijgdfaaDoor
open Go.RowKit Go.Sort
open Digs

theorem isP_log : ∀ b : Nat, b < 37 → isP b = true → ∃ s, s < 6 ∧ 2 ^ s = b ∧ Lib.ctz 64 b = s := by decide +kernel
theorem and_low (s k b : Nat) (hb : 2 ^ s = b) (hb2 : b ≤ 36) (hk : k < 18446744073709551616) : bits .and .u64 (k : Int) ((b : Int) - 1) = ((k % b : Nat) : Int) := by
  have h1 : 1 ≤ b := by rw [← hb]; exact Nat.two_pow_pos s
  have e : ((b : Int) - 1) = ((b - 1 : Nat) : Int) := by omega
  rw [e, u64_and_nat k (b - 1) hk (by omega)]
  have := Nat.and_two_pow_sub_one_eq_mod k s
  rw [hb] at this
  rw [this]

/-- formatBits in every base but 10 -/
theorem fmt_any (n b : Nat) (w : World) (hn : n < 18446744073709551616) (hb : 2 ≤ b) (hb2 : b ≤ 36) (h10 : b ≠ 10) (hT : TabAt w) :
    Calls Tryd.prog 37 #[.slice none 0 0, .int .u64 n, .int .i64 b, .bool false, .bool false] w fun e w' => e = .returned (.tuple #[.slice none 0 0, .string ⟨(dl b n).toArray⟩]) ∧ Below w.heap.size w w' := by
  have h10' : ((b : Int) == 10) = false := by simp; omega
  cases hP : isP b with
  | false => exact fmt_gen n b w hn hb hb2 h10' hP
  | true =>
    obtain ⟨s, hs, hbs, hc⟩ := isP_log b (by omega) hP
    exact fmt_pow n b w s (fun w' hw => by rw [← hc]; exact tz_any b (by omega) (by omega) w' (tab_below hT hw)) hn hb hb2 h10' hP (by omega) hbs (fun k hk => and_low s k b hbs hb2 hk)
theorem fmt_any_neg (n b : Nat) (U : Int) (w : World) (hn : n < 18446744073709551616) (hU : IntKind.u64.wrap (-U) = (n : Int)) (hb : 2 ≤ b) (hb2 : b ≤ 36) (h10 : b ≠ 10) (hT : TabAt w) :
    Calls Tryd.prog 37 #[.slice none 0 0, .int .u64 U, .int .i64 b, .bool true, .bool false] w fun e w' => e = .returned (.tuple #[.slice none 0 0, .string ⟨(45 :: dl b n).toArray⟩]) ∧ Below w.heap.size w w' := by
  have h10' : ((b : Int) == 10) = false := by simp; omega
  cases hP : isP b with
  | false => exact fmt_gen_neg n b U w hn hU hb hb2 h10' hP
  | true =>
    obtain ⟨s, hs, hbs, hc⟩ := isP_log b (by omega) hP
    exact fmt_pow_neg n b U w s (fun w' hw => by rw [← hc]; exact tz_any b (by omega) (by omega) w' (tab_below hT hw)) hn hU hb hb2 h10' hP (by omega) hbs (fun k hk => and_low s k b hbs hb2 hk)

set_option maxRecDepth 100000 in
set_option maxHeartbeats 1000000 in
theorem fu_other (n b : Nat) (w : World) (hn : n < 18446744073709551616) (hb : 2 ≤ b) (hb2 : b ≤ 36) (h10 : b ≠ 10) (hT : TabAt w) : Calls Tryd.prog 30 #[.int .u64 n, .int .i64 b] w fun e w' => e = .returned (.string ⟨(dl b n).toArray⟩) ∧ Below w.heap.size w w' := by
  have h10' : ((b : Int) == 10) = false := by simp; omega
  have H := Lib.hid (fmt_any n b w hn hb hb2 h10 hT)
  clear hT h10
  go_enter Tryd.func30, Tryd.ntmps30
  go_wp2_with (go_at_call 37; refine H.out.mono ?_; rintro e w1 ⟨rfl, hb1⟩)
  go_ret
  exact ⟨rfl, hb1⟩
theorem fu_any (n b : Nat) (w : World) (hn : n < 18446744073709551616) (hb : 2 ≤ b) (hb2 : b ≤ 36) (hT : TabAt w) (hP : PowAt w) : Calls Tryd.prog 30 #[.int .u64 n, .int .i64 b] w fun e w' => e = .returned (.string ⟨(dl b n).toArray⟩) ∧ Below w.heap.size w w' := by
  by_cases h10 : b = 10
  · subst h10
    by_cases h : n < 100
    · exact fu_small n w h
    · exact fu_ten n w (by omega) hn hP
  · exact fu_other n b w hn hb hb2 h10 hT
set_option maxRecDepth 100000 in
set_option maxHeartbeats 1000000 in
theorem fu23 (n b : Nat) (w : World) (hn : n < 18446744073709551616) (hb : 2 ≤ b) (hb2 : b ≤ 36) (hT : TabAt w) (hP : PowAt w) : Calls Tryd.prog 23 #[.int .u64 n, .int .i64 b] w fun e w' => e = .returned (.string ⟨(dl b n).toArray⟩) ∧ Below w.heap.size w w' := by
  have H := Lib.hid (fu_any n b w hn hb hb2 hT hP)
  clear hT hP
  go_enter Tryd.func23, Tryd.ntmps23
  go_wp2_with (go_at_call 30; refine H.out.mono ?_; rintro e w1 ⟨rfl, hb1⟩)
  go_ret
  exact ⟨rfl, hb1⟩
set_option maxRecDepth 100000 in
set_option maxHeartbeats 1000000 in
theorem iwb_any (n : Int) (u b : Nat) (w : World) (hu : IntKind.u64.wrap n = (u : Int)) (hl : u < 18446744073709551616) (hb : 2 ≤ b) (hb2 : b ≤ 36) (hT : TabAt w) (hP : PowAt w) : Calls Tryd.prog 11 #[.int .i64 n, .int .i64 b] w fun e w' => e = .returned (.string ⟨(dl b u).toArray⟩) ∧ Below w.heap.size w w' := by
  have H := Lib.hid (fu23 u b w hl hb hb2 hT hP)
  clear hT hP
  go_enter Tryd.func11, Tryd.ntmps11
  go_wp2_with (go_at_call 23; refine H.out.mono ?_; rintro e w1 ⟨rfl, hb1⟩)
  go_ret
  exact ⟨rfl, hb1⟩
set_option maxRecDepth 100000 in
set_option maxHeartbeats 400000 in
theorem iwb_bad (n b : Int) (w : World) (h : badBase b) : Calls Tryd.prog 11 #[.int .i64 n, .int .i64 b] w fun e w' => e = .returned (.string ⟨#[]⟩) ∧ w' = w := by
  rcases h with h | h
  · go_enter Tryd.func11, Tryd.ntmps11
    go_wp2
    go_ret
    exact ⟨rfl, rfl⟩
  · have h2 : 2 ≤ b := by omega
    go_enter Tryd.func11, Tryd.ntmps11
    go_wp2
    go_ret
    exact ⟨rfl, rfl⟩

set_option maxRecDepth 100000 in
set_option maxHeartbeats 1000000 in
theorem fi_other (n b : Nat) (w : World) (hn : n < 9223372036854775808) (hb : 2 ≤ b) (hb2 : b ≤ 36) (h10 : b ≠ 10) (hT : TabAt w) : Calls Tryd.prog 31 #[.int .i64 n, .int .i64 b] w fun e w' => e = .returned (.string ⟨(dl b n).toArray⟩) ∧ Below w.heap.size w w' := by
  have h10' : ((b : Int) == 10) = false := by simp; omega
  have H := Lib.hid (fmt_any n b w (by omega) hb hb2 h10 hT)
  clear hT h10
  go_enter Tryd.func31, Tryd.ntmps31
  go_wp2_with (go_at_call 37; refine H.out.mono ?_; rintro e w1 ⟨rfl, hb1⟩)
  go_ret
  exact ⟨rfl, hb1⟩
set_option maxRecDepth 100000 in
set_option maxHeartbeats 1000000 in
theorem fi_other_neg (n : Int) (u b : Nat) (w : World) (hn : n < 0) (hw : IntKind.u64.wrap (-IntKind.u64.wrap n) = (u : Int)) (hu : u < 18446744073709551616) (hb : 2 ≤ b) (hb2 : b ≤ 36) (h10 : b ≠ 10) (hT : TabAt w) : Calls Tryd.prog 31 #[.int .i64 n, .int .i64 b] w fun e w' => e = .returned (.string ⟨(45 :: dl b u).toArray⟩) ∧ Below w.heap.size w w' := by
  have h10' : ((b : Int) == 10) = false := by simp; omega
  have H := Lib.hid (fmt_any_neg u b (IntKind.u64.wrap n) w hu hw hb hb2 h10 hT)
  clear hT h10 hw
  go_enter Tryd.func31, Tryd.ntmps31
  go_wp2_with (go_at_call 37; refine H.out.mono ?_; rintro e w1 ⟨rfl, hb1⟩)
  go_ret
  exact ⟨rfl, hb1⟩
set_option maxRecDepth 100000 in
set_option maxHeartbeats 1000000 in
theorem fi24 (n : Int) (l : List UInt8) (b : Nat) (w : World) (h : Calls Tryd.prog 31 #[.int .i64 n, .int .i64 b] w fun e w' => e = .returned (.string ⟨l.toArray⟩) ∧ Below w.heap.size w w') : Calls Tryd.prog 24 #[.int .i64 n, .int .i64 b] w fun e w' => e = .returned (.string ⟨l.toArray⟩) ∧ Below w.heap.size w w' := by
  have H := Lib.hid h
  clear h
  go_enter Tryd.func24, Tryd.ntmps24
  go_wp2_with (go_at_call 31; refine H.out.mono ?_; rintro e w1 ⟨rfl, hb1⟩)
  go_ret
  exact ⟨rfl, hb1⟩

/-- what FormatInt writes -/
def itext (b : Nat) (n : Int) : List UInt8 := if n < 0 then 45 :: dl b n.natAbs else dl b n.natAbs

theorem fi_any (n : Int) (b : Nat) (w : World) (h0 : -9223372036854775808 ≤ n) (h1 : n ≤ 9223372036854775807) (hb : 2 ≤ b) (hb2 : b ≤ 36) (hT : TabAt w) (hP : PowAt w) :
    Calls Tryd.prog 24 #[.int .i64 n, .int .i64 b] w fun e w' => e = .returned (.string ⟨(itext b n).toArray⟩) ∧ Below w.heap.size w w' := by
  by_cases h10 : b = 10
  · subst h10
    refine (Tryd.strconv_FormatInt_10 n h0 h1 w hP).mono fun e w' ⟨he, k, os, hw⟩ => ⟨?_, by rw [hw]; exact below_grow w k os⟩
    rw [he]
    have : Lib.itoa n = itext 10 n := by
      unfold Lib.itoa itext
      by_cases hn : n < 0
      · rw [if_pos hn, if_pos hn, dl_ten _ _ (Nat.le_refl _)]
      · rw [if_neg hn, if_neg hn, dl_ten _ _ (Nat.le_refl _), show n.toNat = n.natAbs by omega]
    rw [this]
  · by_cases hn : n < 0
    · obtain ⟨u, hu⟩ : ∃ u : Nat, n = -(u : Int) := ⟨n.natAbs, by omega⟩
      have e : itext b n = 45 :: dl b u := by unfold itext; rw [if_pos hn, hu, Int.natAbs_neg, Int.natAbs_natCast]
      rw [e]
      exact fi24 n _ b w (fi_other_neg n u b w hn (by rw [IntKind.wrap_u64, IntKind.wrap_u64]; omega) (by omega) hb hb2 h10 hT)
    · obtain ⟨u, rfl⟩ : ∃ u : Nat, n = (u : Int) := ⟨n.natAbs, by omega⟩
      have e : itext b (u : Int) = dl b u := by unfold itext; rw [if_neg hn, Int.natAbs_natCast]
      rw [e]
      exact fi24 _ _ b w (fi_other u b w (by omega) hb hb2 h10 hT)

set_option maxRecDepth 100000 in
set_option maxHeartbeats 1000000 in
theorem iwi_any (n : Int) (b : Nat) (w : World) (h0 : -9223372036854775808 ≤ n) (h1 : n ≤ 9223372036854775807) (hb : 2 ≤ b) (hb2 : b ≤ 36) (hT : TabAt w) (hP : PowAt w) : Calls Tryd.prog 13 #[.int .i64 n, .int .i64 b] w fun e w' => e = .returned (.string ⟨(itext b n).toArray⟩) ∧ Below w.heap.size w w' := by
  have H := Lib.hid (fi_any n b w h0 h1 hb hb2 hT hP)
  clear hT hP
  go_enter Tryd.func13, Tryd.ntmps13
  go_wp2_with (go_at_call 24; refine H.out.mono ?_; rintro e w1 ⟨rfl, hb1⟩)
  go_ret
  exact ⟨rfl, hb1⟩
set_option maxRecDepth 100000 in
set_option maxHeartbeats 400000 in
theorem iwi_bad (n b : Int) (w : World) (h : badBase b) : Calls Tryd.prog 13 #[.int .i64 n, .int .i64 b] w fun e w' => e = .returned (.string ⟨#[]⟩) ∧ w' = w := by
  rcases h with h | h
  · go_enter Tryd.func13, Tryd.ntmps13
    go_wp2
    go_ret
    exact ⟨rfl, rfl⟩
  · have h2 : 2 ≤ b := by omega
    go_enter Tryd.func13, Tryd.ntmps13
    go_wp2
    go_ret
    exact ⟨rfl, rfl⟩
theorem swi_any (n : Int) (b : Nat) (w : World) (h0 : -9223372036854775808 ≤ n) (h1 : n ≤ 9223372036854775807) (hb : 2 ≤ b) (hb2 : b ≤ 36) : Calls Tryd.prog 12 #[.int .i64 n, .int .i64 b] w fun e w' => e = .returned (.string ⟨(itext b n).toArray⟩) ∧ w' = w := by
  by_cases hn : n < 0
  · obtain ⟨u, hu⟩ : ∃ u : Nat, n = -(u : Int) := ⟨n.natAbs, by omega⟩
    have e : itext b n = 45 :: dl b u := by unfold itext; rw [if_pos hn, hu, Int.natAbs_neg, Int.natAbs_natCast]
    rw [e]
    exact swi_neg u b n w hn (by rw [IntKind.wrap_u64, IntKind.wrap_u64]; omega) (by omega) (dl_length b hb 64 u (by rw [show (2 : Nat) ^ 64 = 18446744073709551616 by decide]; omega)) hb hb2
  · obtain ⟨u, rfl⟩ : ∃ u : Nat, n = (u : Int) := ⟨n.natAbs, by omega⟩
    have e : itext b (u : Int) = dl b u := by unfold itext; rw [if_neg hn, Int.natAbs_natCast]
    rw [e]
    exact swi_nonneg u b w (by omega) hb hb2

set_option maxRecDepth 100000 in
set_option maxHeartbeats 1000000 in
theorem wb_law (n b : Int) (l : List UInt8) (w : World) (h1 : Calls Tryd.prog 10 #[.int .i64 n, .int .i64 b] w fun e w' => e = .returned (.string ⟨l.toArray⟩) ∧ w' = w) (h2 : Calls Tryd.prog 11 #[.int .i64 n, .int .i64 b] w fun e w' => e = .returned (.string ⟨l.toArray⟩) ∧ Below w.heap.size w w') :
    Calls Tryd.prog 4 #[.int .i64 n, .int .i64 b] w fun e w' => e = .returned (.bool true) ∧ Below w.heap.size w w' := by
  have H1 := Lib.hid h1
  have H2 := Lib.hid h2
  clear h1 h2
  go_enter Tryd.func4, Tryd.ntmps4
  go_wp2_with (first | (go_at_call 10; refine H1.out.mono ?_; rintro e w1 ⟨rfl, rfl⟩) | (go_at_call 11; refine H2.out.mono ?_; rintro e w1 ⟨rfl, hb1⟩))
  go_ret
  exact ⟨rfl, hb1⟩
set_option maxRecDepth 100000 in
set_option maxHeartbeats 1000000 in
theorem wi_law (n b : Int) (l : List UInt8) (w : World) (h1 : Calls Tryd.prog 12 #[.int .i64 n, .int .i64 b] w fun e w' => e = .returned (.string ⟨l.toArray⟩) ∧ w' = w) (h2 : Calls Tryd.prog 13 #[.int .i64 n, .int .i64 b] w fun e w' => e = .returned (.string ⟨l.toArray⟩) ∧ Below w.heap.size w w') :
    Calls Tryd.prog 5 #[.int .i64 n, .int .i64 b] w fun e w' => e = .returned (.bool true) ∧ Below w.heap.size w w' := by
  have H1 := Lib.hid h1
  have H2 := Lib.hid h2
  clear h1 h2
  go_enter Tryd.func5, Tryd.ntmps5
  go_wp2_with (first | (go_at_call 12; refine H1.out.mono ?_; rintro e w1 ⟨rfl, rfl⟩) | (go_at_call 13; refine H2.out.mono ?_; rintro e w1 ⟨rfl, hb1⟩))
  go_ret
  exact ⟨rfl, hb1⟩

theorem i64_bounds {n : Int} (h : (Lit.int .i64 n).wf = true) : -9223372036854775808 ≤ n ∧ n ≤ 9223372036854775807 := by
  simp only [Lit.wf, IntKind.min, IntKind.max, IntKind.signed, IntKind.bits, Bool.and_eq_true, decide_eq_true_eq, if_true] at h
  omega

theorem wb_any (n b : Int) (w : World) (_ : (Lit.int .i64 n).wf = true) (_ : (Lit.int .i64 b).wf = true) (hT : TabAt w ∧ PowAt w) : Calls Tryd.prog 4 #[.int .i64 n, .int .i64 b] w fun e w' => e = .returned (.bool true) ∧ Below w.heap.size w w' := by
  by_cases hb : badBase b
  · exact wb_law n b [] w (swb_bad n b w hb) ((iwb_bad n b w hb).mono fun e w' ⟨he, hw⟩ => ⟨he, by rw [hw]; exact Below.refl _ _⟩)
  · unfold badBase at hb
    obtain ⟨u, hu⟩ : ∃ u : Nat, IntKind.u64.wrap n = (u : Int) := ⟨(n % 18446744073709551616).toNat, by rw [IntKind.wrap_u64]; omega⟩
    have hl : u < 18446744073709551616 := by rw [IntKind.wrap_u64] at hu; omega
    obtain ⟨c, rfl⟩ : ∃ c : Nat, b = (c : Int) := ⟨b.toNat, by omega⟩
    exact wb_law n c _ w (swb_any n u c w hu hl (by omega) (by omega)) (iwb_any n u c w hu hl (by omega) (by omega) hT.1 hT.2)
theorem wi_any (n b : Int) (w : World) (hn : (Lit.int .i64 n).wf = true) (_ : (Lit.int .i64 b).wf = true) (hT : TabAt w ∧ PowAt w) : Calls Tryd.prog 5 #[.int .i64 n, .int .i64 b] w fun e w' => e = .returned (.bool true) ∧ Below w.heap.size w w' := by
  obtain ⟨h0, h1⟩ := i64_bounds hn
  by_cases hb : badBase b
  · exact wi_law n b [] w (swi_bad n b w hb) ((iwi_bad n b w hb).mono fun e w' ⟨he, hw⟩ => ⟨he, by rw [hw]; exact Below.refl _ _⟩)
  · unfold badBase at hb
    obtain ⟨c, rfl⟩ : ∃ c : Nat, b = (c : Int) := ⟨b.toNat, by omega⟩
    exact wi_law n c _ w (swi_any n c w h0 h1 (by omega) (by omega)) (iwi_any n c w h0 h1 (by omega) (by omega) hT.1 hT.2)
end Go.Proofs.YtknhncpmijgdfaaDoor
