/- What strconv's inner formatBits (function 37 here) returns in a base from 2 to 36 other than 10: the digits, a minus ahead of a negative number's. Condition: the table of TrailingZeros64 where the base is a power of two. -/
import Derived.Test.YtknhncpmijgdfaaDoorFmtP
namespace Go.Proofs.YtknhncpmijgdfaaDoor
open Go.RowKit
open Digs

/-- after some rounds: k is left, the row's cells from j on are the digits l -/
structure Row (n b k j : Nat) (l : List UInt8) (C : Array Value) : Prop where
  cel : Cel j l C
  le : k * 2 ^ l.length ≤ n
  one : 1 ≤ k ∨ l = []
  digs : dl b n = dl b k ++ l

theorem Row.start (n b : Nat) : Row n b n 65 [] zeros65 := ⟨Cel.start, by simp, Or.inr rfl, by simp⟩
theorem Row.small {n b k j : Nat} {l : List UInt8} {C : Array Value} (h : Row n b k j l C) (hn : n < 18446744073709551616) : k < 18446744073709551616 ∧ 2 ≤ j := by
  have h1 := h.le
  have h2 := Nat.le_mul_of_pos_right k (Nat.two_pow_pos l.length)
  have h3 := h.cel.len
  refine ⟨by omega, ?_⟩
  rcases h.one with h4 | h4
  · rcases Nat.lt_or_ge l.length 64 with h5 | h5
    · omega
    · exfalso
      have h6 : (2 : Nat) ^ 64 ≤ 2 ^ l.length := Nat.pow_le_pow_right (by omega) h5
      have h7 : 1 * 2 ^ l.length ≤ k * 2 ^ l.length := Nat.mul_le_mul_right _ h4
      rw [show (2 : Nat) ^ 64 = 18446744073709551616 by decide] at h6
      omega
  · subst h4; simp at h3; omega
theorem Row.step {n b k i : Nat} {l : List UInt8} {C : Array Value} (h : Row n b k (i + 1) l C) (hb : 2 ≤ b) (hk : b ≤ k) : Row n b (k / b) i (dig (k % b) :: l) (C.setIfInBounds i (.int .u8 ((dig (k % b)).toNat : Int))) := by
  have h5 : k / b ≤ k / 2 := Nat.div_le_div_left hb (by omega)
  refine ⟨h.cel.push _, ?_, Or.inl (Nat.div_pos hk (by omega)), by rw [h.digs, dl_step b k hb hk, List.append_assoc]; rfl⟩
  have h1 := h.le
  have h4 : 2 * (k / b) * 2 ^ l.length ≤ k * 2 ^ l.length := Nat.mul_le_mul_right _ (by omega)
  rw [List.length_cons, Nat.pow_succ, Nat.mul_comm (2 ^ l.length) 2, ← Nat.mul_assoc, Nat.mul_comm (k / b) 2]
  omega
theorem Row.last {n b k i : Nat} {l : List UInt8} {C : Array Value} (h : Row n b k (i + 1) l C) (hk : k < b) : Cel i (dl b n) (C.setIfInBounds i (.int .u8 ((dig k).toNat : Int))) := by
  rw [h.digs, dl_one b k hk]
  exact h.cel.push (dig k)

theorem ret_fs {a b : List UInt8} (h : a = b) : Ending.returned (.tuple #[.slice none 0 0, .string ⟨a.toArray⟩]) = .returned (.tuple #[.slice none 0 0, .string ⟨b.toArray⟩]) := by rw [h]

set_option maxRecDepth 100000 in
set_option maxHeartbeats 1000000 in
theorem fmt_gen (n b : Nat) (w : World) (hn : n < 18446744073709551616) (hb : 2 ≤ b) (hb2 : b ≤ 36) (h10 : ((b : Int) == 10) = false) (hP : isP b = false) :
    Calls Tryd.prog 37 #[.slice none 0 0, .int .u64 n, .int .i64 b, .bool false, .bool false] w fun e w' => e = .returned (.tuple #[.slice none 0 0, .string ⟨(dl b n).toArray⟩]) ∧ Below w.heap.size w w' := by
  have hp := fun w => pow2_any b w hb hb2
  rw [hP] at hp
  have HP := Lib.hid hp
  have hz := zero65
  clear hp hP
  go_enter Tryd.func37, Tryd.ntmps37
  go_wp2_with ((go_at_call 41; refine (HP.out _).mono ?_; rintro e w' ⟨rfl, rfl⟩))
  go_loopw [1, 13] (fun vu vi wr => ∃ (k j : Nat) (l : List UInt8) (C : Array Value), vu = .int .u64 k ∧ vi = .int .i64 j ∧ wr = w.alloc (.cells C 57) ∧ Row n b k j l C) (fun vu _ _ => (intOf vu).toNat)
  case atStart => exact ⟨n, 65, [], zeros65, rfl, rfl, rfl, Row.start n b⟩
  case round =>
    obtain ⟨k, j, l, C, rfl, rfl, rfl, hI⟩ := hrel
    obtain ⟨hk64, hj2⟩ := hI.small hn
    have hj65 : j ≤ 65 := by have := hI.cel.len; omega
    have HI := Lib.hid hI
    clear hI
    by_cases hc : b ≤ k
    · obtain ⟨d, hd, hdn⟩ : ∃ d : Nat, (k : Int) % b = d ∧ d = k % b := ⟨k % b, by simp, rfl⟩
      obtain ⟨q, hq, hqn⟩ : ∃ q : Nat, (k : Int) / b = q ∧ q = k / b := ⟨k / b, by simp, rfl⟩
      have hd1 : d < b := by rw [hdn]; exact Nat.mod_lt _ (by omega)
      have hqk : q ≤ k := by rw [hqn]; exact Nat.div_le_self _ _
      have hqlt : q < k := by rw [hqn]; exact Nat.div_lt_self (by omega) (by omega)
      obtain ⟨m, hm⟩ : ∃ m : Nat, (q : Int) * b = m := ⟨q * b, by simp⟩
      have hmk : (k : Int) - m = d := by
        have := Int.emod_add_mul_ediv (k : Int) b
        rw [hd, hq, Int.mul_comm, hm] at this; omega
      have hml : m ≤ k := by omega
      obtain ⟨i, rfl⟩ : ∃ i, j = i + 1 := ⟨j - 1, by omega⟩
      have hi65 : i < 65 := by omega
      have hidx := idx_digits d (by omega)
      obtain ⟨v0, hv0⟩ := HI.out.cel.cell i hi65
      have HS := Lib.hid (HI.out.step hb hc)
      have HD := Lib.hid hdn
      have HQ := Lib.hid hqn
      clear hdn hqn
      go_wp2
      refine ⟨⟨q, i, dig d :: l, _, rfl, rfl, rfl, ?_⟩, ?_⟩
      · rw [HQ.out, HD.out]; exact HS.out
      · simp [intOf]; omega
    · have hkb : k < b := by omega
      clear hc
      obtain ⟨i, rfl⟩ : ∃ i, j = i + 1 := ⟨j - 1, by omega⟩
      have hi65 : i < 65 := by have := HI.out.cel.len; omega
      have hidx := idx_digits k (by omega)
      obtain ⟨v0, hv0⟩ := HI.out.cel.cell i hi65
      have hF := HI.out.last hkb
      have hcv := string_run hF w
      have hsl := slice_run w.heap.size i hi65
      clear hF
      go_wp2_with fail
      go_ret2
      exact ⟨rfl, by repeat (first | exact Below.refl _ _ | refine below_new ?_ _)⟩

set_option maxRecDepth 100000 in
set_option maxHeartbeats 1000000 in
theorem fmt_gen_neg (n b : Nat) (U : Int) (w : World) (hn : n < 18446744073709551616) (hU : IntKind.u64.wrap (-U) = (n : Int)) (hb : 2 ≤ b) (hb2 : b ≤ 36) (h10 : ((b : Int) == 10) = false) (hP : isP b = false) :
    Calls Tryd.prog 37 #[.slice none 0 0, .int .u64 U, .int .i64 b, .bool true, .bool false] w fun e w' => e = .returned (.tuple #[.slice none 0 0, .string ⟨(45 :: dl b n).toArray⟩]) ∧ Below w.heap.size w w' := by
  have hp := fun w => pow2_any b w hb hb2
  rw [hP] at hp
  have HP := Lib.hid hp
  have hz := zero65
  clear hp hP
  go_enter Tryd.func37, Tryd.ntmps37
  go_wp2_with ((go_at_call 41; refine (HP.out _).mono ?_; rintro e w' ⟨rfl, rfl⟩))
  go_loopw [1, 13] (fun vu vi wr => ∃ (k j : Nat) (l : List UInt8) (C : Array Value), vu = .int .u64 k ∧ vi = .int .i64 j ∧ wr = w.alloc (.cells C 57) ∧ Row n b k j l C) (fun vu _ _ => (intOf vu).toNat)
  case atStart => exact ⟨n, 65, [], zeros65, rfl, rfl, rfl, Row.start n b⟩
  case round =>
    obtain ⟨k, j, l, C, rfl, rfl, rfl, hI⟩ := hrel
    obtain ⟨hk64, hj2⟩ := hI.small hn
    have hj65 : j ≤ 65 := by have := hI.cel.len; omega
    have HI := Lib.hid hI
    clear hI
    by_cases hc : b ≤ k
    · obtain ⟨d, hd, hdn⟩ : ∃ d : Nat, (k : Int) % b = d ∧ d = k % b := ⟨k % b, by simp, rfl⟩
      obtain ⟨q, hq, hqn⟩ : ∃ q : Nat, (k : Int) / b = q ∧ q = k / b := ⟨k / b, by simp, rfl⟩
      have hd1 : d < b := by rw [hdn]; exact Nat.mod_lt _ (by omega)
      have hqk : q ≤ k := by rw [hqn]; exact Nat.div_le_self _ _
      have hqlt : q < k := by rw [hqn]; exact Nat.div_lt_self (by omega) (by omega)
      obtain ⟨m, hm⟩ : ∃ m : Nat, (q : Int) * b = m := ⟨q * b, by simp⟩
      have hmk : (k : Int) - m = d := by
        have := Int.emod_add_mul_ediv (k : Int) b
        rw [hd, hq, Int.mul_comm, hm] at this; omega
      have hml : m ≤ k := by omega
      obtain ⟨i, rfl⟩ : ∃ i, j = i + 1 := ⟨j - 1, by omega⟩
      have hi65 : i < 65 := by omega
      have hidx := idx_digits d (by omega)
      obtain ⟨v0, hv0⟩ := HI.out.cel.cell i hi65
      have HS := Lib.hid (HI.out.step hb hc)
      have HD := Lib.hid hdn
      have HQ := Lib.hid hqn
      clear hdn hqn
      go_wp2
      refine ⟨⟨q, i, dig d :: l, _, rfl, rfl, rfl, ?_⟩, ?_⟩
      · rw [HQ.out, HD.out]; exact HS.out
      · simp [intOf]; omega
    · have hkb : k < b := by omega
      clear hc
      obtain ⟨i, rfl⟩ : ∃ i, j = i + 1 + 1 := ⟨j - 2, by omega⟩
      have hi65 : i + 1 < 65 := by have := HI.out.cel.len; omega
      have hidx := idx_digits k (by omega)
      obtain ⟨v0, hv0⟩ := HI.out.cel.cell (i + 1) hi65
      have hF := HI.out.last hkb
      obtain ⟨v1, hv1⟩ := hF.cell i (by omega)
      have hG := hF.push 45
      have hcv := string_run hG w
      rw [show (((45 : UInt8).toNat : Nat) : Int) = 45 from rfl] at hcv
      have hsl := slice_run w.heap.size i (by omega)
      clear hF hG
      go_wp2_with fail
      go_ret2
      exact ⟨rfl, by repeat (first | exact Below.refl _ _ | refine below_new ?_ _)⟩

end Go.Proofs.YtknhncpmijgdfaaDoor
