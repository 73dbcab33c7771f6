/- What strconv's inner formatBits (function 37 here) returns in a base from 2 to 36 other than 10: the digits, a minus ahead of a negative number's. Condition: the table of TrailingZeros64 where the base is a power of two. -/
import Derived.Test.YtknhncpmijgdfaaDoorFmt
namespace Go.Proofs.YtknhncpmijgdfaaDoor
open Go.RowKit
open Digs

set_option maxRecDepth 100000 in
set_option maxHeartbeats 1000000 in
theorem fmt_pow (n b : Nat) (w : World) (s : Nat) (hT : ∀ w', Below w.heap.size w w' → Calls Tryd.prog 42 #[.int .u64 b] w' fun e w2 => e = .returned (.int .i64 s) ∧ w2 = w') (hn : n < 18446744073709551616) (hb : 2 ≤ b) (hb2 : b ≤ 36) (h10 : ((b : Int) == 10) = false) (hP : isP b = true) (hs : s ≤ 5) (hbs : 2 ^ s = b) (hand : ∀ k : Nat, k < 18446744073709551616 → bits .and .u64 (k : Int) ((b : Int) - 1) = ((k % b : Nat) : Int)) :
    Calls Tryd.prog 37 #[.slice none 0 0, .int .u64 n, .int .i64 b, .bool false, .bool false] w fun e w' => e = .returned (.tuple #[.slice none 0 0, .string ⟨(dl b n).toArray⟩]) ∧ Below w.heap.size w w' := by
  have hp := fun w => pow2_any b w hb hb2
  rw [hP] at hp
  have HP := Lib.hid hp
  have hz := zero65
  clear hp hP
  have HT := Lib.hid hT
  have HA := Lib.hid hand
  have HB := Lib.hid hbs
  clear hT hand hbs
  go_enter Tryd.func37, Tryd.ntmps37
  go_wp2_with (first | (go_at_call 41; refine (HP.out _).mono ?_; rintro e w' ⟨rfl, rfl⟩) | (go_at_call 42; refine (HT.out _ (by repeat (first | exact Below.refl _ _ | refine below_new ?_ _))).mono ?_; rintro e w' ⟨rfl, rfl⟩))
  go_loopw [1, 13] (fun vu vi wr => ∃ (k j : Nat) (l : List UInt8) (C : Array Value), vu = .int .u64 k ∧ vi = .int .i64 j ∧ wr = w.alloc (.cells C 57) ∧ Row n b k j l C) (fun vu _ _ => (intOf vu).toNat)
  case atStart => exact ⟨n, 65, [], zeros65, rfl, rfl, rfl, Row.start n b⟩
  case round =>
    obtain ⟨k, j, l, C, rfl, rfl, rfl, hI⟩ := hrel
    obtain ⟨hk64, hj2⟩ := hI.small hn
    have hj65 : j ≤ 65 := by have := hI.cel.len; omega
    have HI := Lib.hid hI
    clear hI
    by_cases hc : b ≤ k
    · obtain ⟨d, hd, hdn⟩ : ∃ d : Nat, (k : Int) % b = d ∧ d = k % b := ⟨k % b, by simp, rfl⟩
      obtain ⟨q, hq, hqn⟩ : ∃ q : Nat, (k : Int) / b = q ∧ q = k / b := ⟨k / b, by simp, rfl⟩
      have hd1 : d < b := by rw [hdn]; exact Nat.mod_lt _ (by omega)
      have hqk : q ≤ k := by rw [hqn]; exact Nat.div_le_self _ _
      have hqlt : q < k := by rw [hqn]; exact Nat.div_lt_self (by omega) (by omega)
      have hq2 : (k : Int) / 2 ^ s = q := by
        rw [show ((2 : Int) ^ s) = (b : Int) by rw [← HB.out]; simp]; exact hq
      have hand := HA.out k hk64
      rw [← hdn] at hand
      obtain ⟨i, rfl⟩ : ∃ i, j = i + 1 := ⟨j - 1, by omega⟩
      have hi65 : i < 65 := by omega
      have hidx := idx_digits d (by omega)
      obtain ⟨v0, hv0⟩ := HI.out.cel.cell i hi65
      have HS := Lib.hid (HI.out.step hb hc)
      have HD := Lib.hid hdn
      have HQ := Lib.hid hqn
      clear hdn hqn
      go_wp2
      refine ⟨⟨q, i, dig d :: l, _, rfl, rfl, rfl, ?_⟩, ?_⟩
      · rw [HQ.out, HD.out]; exact HS.out
      · simp [intOf]; omega
    · have hkb : k < b := by omega
      clear hc
      obtain ⟨i, rfl⟩ : ∃ i, j = i + 1 := ⟨j - 1, by omega⟩
      have hi65 : i < 65 := by have := HI.out.cel.len; omega
      have hidx := idx_digits k (by omega)
      obtain ⟨v0, hv0⟩ := HI.out.cel.cell i hi65
      have hF := HI.out.last hkb
      have hcv := string_run hF w
      have hsl := slice_run w.heap.size i hi65
      clear hF
      go_wp2_with fail
      go_ret2
      exact ⟨rfl, by repeat (first | exact Below.refl _ _ | refine below_new ?_ _)⟩

set_option maxRecDepth 100000 in
set_option maxHeartbeats 1000000 in
theorem fmt_pow_neg (n b : Nat) (U : Int) (w : World) (s : Nat) (hT : ∀ w', Below w.heap.size w w' → Calls Tryd.prog 42 #[.int .u64 b] w' fun e w2 => e = .returned (.int .i64 s) ∧ w2 = w') (hn : n < 18446744073709551616) (hU : IntKind.u64.wrap (-U) = (n : Int)) (hb : 2 ≤ b) (hb2 : b ≤ 36) (h10 : ((b : Int) == 10) = false) (hP : isP b = true) (hs : s ≤ 5) (hbs : 2 ^ s = b) (hand : ∀ k : Nat, k < 18446744073709551616 → bits .and .u64 (k : Int) ((b : Int) - 1) = ((k % b : Nat) : Int)) :
    Calls Tryd.prog 37 #[.slice none 0 0, .int .u64 U, .int .i64 b, .bool true, .bool false] w fun e w' => e = .returned (.tuple #[.slice none 0 0, .string ⟨(45 :: dl b n).toArray⟩]) ∧ Below w.heap.size w w' := by
  have hp := fun w => pow2_any b w hb hb2
  rw [hP] at hp
  have HP := Lib.hid hp
  have hz := zero65
  clear hp hP
  have HT := Lib.hid hT
  have HA := Lib.hid hand
  have HB := Lib.hid hbs
  clear hT hand hbs
  go_enter Tryd.func37, Tryd.ntmps37
  go_wp2_with (first | (go_at_call 41; refine (HP.out _).mono ?_; rintro e w' ⟨rfl, rfl⟩) | (go_at_call 42; refine (HT.out _ (by repeat (first | exact Below.refl _ _ | refine below_new ?_ _))).mono ?_; rintro e w' ⟨rfl, rfl⟩))
  go_loopw [1, 13] (fun vu vi wr => ∃ (k j : Nat) (l : List UInt8) (C : Array Value), vu = .int .u64 k ∧ vi = .int .i64 j ∧ wr = w.alloc (.cells C 57) ∧ Row n b k j l C) (fun vu _ _ => (intOf vu).toNat)
  case atStart => exact ⟨n, 65, [], zeros65, rfl, rfl, rfl, Row.start n b⟩
  case round =>
    obtain ⟨k, j, l, C, rfl, rfl, rfl, hI⟩ := hrel
    obtain ⟨hk64, hj2⟩ := hI.small hn
    have hj65 : j ≤ 65 := by have := hI.cel.len; omega
    have HI := Lib.hid hI
    clear hI
    by_cases hc : b ≤ k
    · obtain ⟨d, hd, hdn⟩ : ∃ d : Nat, (k : Int) % b = d ∧ d = k % b := ⟨k % b, by simp, rfl⟩
      obtain ⟨q, hq, hqn⟩ : ∃ q : Nat, (k : Int) / b = q ∧ q = k / b := ⟨k / b, by simp, rfl⟩
      have hd1 : d < b := by rw [hdn]; exact Nat.mod_lt _ (by omega)
      have hqk : q ≤ k := by rw [hqn]; exact Nat.div_le_self _ _
      have hqlt : q < k := by rw [hqn]; exact Nat.div_lt_self (by omega) (by omega)
      have hq2 : (k : Int) / 2 ^ s = q := by
        rw [show ((2 : Int) ^ s) = (b : Int) by rw [← HB.out]; simp]; exact hq
      have hand := HA.out k hk64
      rw [← hdn] at hand
      obtain ⟨i, rfl⟩ : ∃ i, j = i + 1 := ⟨j - 1, by omega⟩
      have hi65 : i < 65 := by omega
      have hidx := idx_digits d (by omega)
      obtain ⟨v0, hv0⟩ := HI.out.cel.cell i hi65
      have HS := Lib.hid (HI.out.step hb hc)
      have HD := Lib.hid hdn
      have HQ := Lib.hid hqn
      clear hdn hqn
      go_wp2
      refine ⟨⟨q, i, dig d :: l, _, rfl, rfl, rfl, ?_⟩, ?_⟩
      · rw [HQ.out, HD.out]; exact HS.out
      · simp [intOf]; omega
    · have hkb : k < b := by omega
      clear hc
      obtain ⟨i, rfl⟩ : ∃ i, j = i + 1 + 1 := ⟨j - 2, by omega⟩
      have hi65 : i + 1 < 65 := by have := HI.out.cel.len; omega
      have hidx := idx_digits k (by omega)
      obtain ⟨v0, hv0⟩ := HI.out.cel.cell (i + 1) hi65
      have hF := HI.out.last hkb
      obtain ⟨v1, hv1⟩ := hF.cell i (by omega)
      have hG := hF.push 45
      have hcv := string_run hG w
      rw [show (((45 : UInt8).toNat : Nat) : Int) = 45 from rfl] at hcv
      have hsl := slice_run w.heap.size i (by omega)
      clear hF hG
      go_wp2_with fail
      go_ret2
      exact ⟨rfl, by repeat (first | exact Below.refl _ _ | refine below_new ?_ _)⟩

end Go.Proofs.YtknhncpmijgdfaaDoor
