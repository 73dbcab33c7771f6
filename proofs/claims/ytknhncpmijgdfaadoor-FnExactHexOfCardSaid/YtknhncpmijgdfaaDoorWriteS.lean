/- What the reference's l1write, WriteBits and WriteInt (functions 22, 10 and 12 here) return: the digits in a base from 2 to 36, a minus ahead; nothing for another base. No condition. -/
import Derived.Test.YtknhncpmijgdfaaDoorDigs
import Derived.Test.YtknhncpmijgdfaaDoorRows
import Derived.WalkKit
import Derived.WalkSpells
import Derived.WalkLawsBesides
import Derived.Lib.Hide
namespace Go.Proofs.YtknhncpmijgdfaaDoor
open Go.RowKit
open Digs

theorem ret_str {a b : List UInt8} (h : a = b) : Ending.returned (.string ⟨a.toArray⟩) = .returned (.string ⟨b.toArray⟩) := by rw [h]

theorem ret_cons (l : List UInt8) : Ending.returned (.string ((⟨#[45]⟩ : ByteArray) ++ ⟨l.toArray⟩)) = .returned (.string ⟨(45 :: l).toArray⟩) := by
  have h : ((⟨#[45]⟩ : ByteArray) ++ ⟨l.toArray⟩) = ⟨(45 :: l).toArray⟩ := by
    apply ByteArray.ext
    simp [ByteArray.data_append]
  rw [h]

set_option maxRecDepth 100000 in
set_option maxHeartbeats 400000 in
theorem l1write_zero (b : Nat) (w : World) : Calls Tryd.prog 22 #[.int .u64 0, .int .i64 b] w fun e w' => e = .returned (.string ⟨(dl b 0).toArray⟩) ∧ w' = w := by
  have hd : dl b 0 = [48] := by
    by_cases h : 0 < b
    · rw [dl_one b 0 h]; rfl
    · rw [dl, dif_pos (Or.inr (by omega))]; rfl
  rw [hd]
  clear hd
  go_enter Tryd.func22, Tryd.ntmps22
  go_wp2
  go_ret
  exact ⟨rfl, rfl⟩

set_option maxRecDepth 100000 in
set_option maxHeartbeats 400000 in
theorem l1write_pos (n b : Nat) (w : World) (hn : n < 18446744073709551616) (hn0 : ((n : Int) == 0) = false) (hb : 2 ≤ b) (hb2 : b ≤ 36) : Calls Tryd.prog 22 #[.int .u64 n, .int .i64 b] w fun e w' => e = .returned (.string ⟨(dl b n).toArray⟩) ∧ w' = w := by
  have hz : n ≠ 0 := by simpa using hn0
  have hfin := wr0_dl b hb n n (Nat.le_refl _) hz
  have HF := Lib.hid hfin
  clear hfin hz
  go_enter Tryd.func22, Tryd.ntmps22
  go_wp2
  go_loop [0, 6] (fun m o => ∃ (k : Nat) (l : List UInt8), k * 2 ^ l.length ≤ n ∧ m = .int .u64 k ∧ o = .string ⟨l.toArray⟩ ∧ wr0 b n = wr0 b k ++ l) (fun m _ => (intOf m).toNat)
  case atStart => exact ⟨n, [], by simp, rfl, rfl, by simp⟩
  case round =>
    obtain ⟨k, l, hk, rfl, rfl, hl⟩ := hrel
    have hk64 : k < 18446744073709551616 := by
      have := Nat.le_mul_of_pos_right k (Nat.two_pow_pos l.length); omega
    have HL := Lib.hid hl
    have HK := Lib.hid hk
    clear hl hk
    by_cases h0 : 0 < k
    · obtain ⟨d, hd, hdn⟩ : ∃ d : Nat, (k : Int) % b = d ∧ d = k % b := ⟨k % b, by simp, rfl⟩
      obtain ⟨q, hq, hqn⟩ : ∃ q : Nat, (k : Int) / b = q ∧ q = k / b := ⟨k / b, by simp, rfl⟩
      have hd1 : d < b := by rw [hdn]; exact Nat.mod_lt _ (by omega)
      have hqk : 2 * q ≤ k := by
        have h5 : k / b ≤ k / 2 := Nat.div_le_div_left hb (by omega)
        omega
      have hlen : l.length ≤ 64 := by
        rcases Nat.lt_or_ge l.length 65 with h | h
        · omega
        · exfalso
          have h2 : (2 : Nat) ^ 65 ≤ 2 ^ l.length := Nat.pow_le_pow_right (by omega) h
          have h3 : 1 * 2 ^ l.length ≤ k * 2 ^ l.length := Nat.mul_le_mul_right _ h0
          have := HK.out
          rw [show (2 : Nat) ^ 65 = 36893488147419103232 by decide] at h2
          omega
      have HD := Lib.hid hdn
      have HQ := Lib.hid hqn
      have hpc := piece_app d (by omega) l
      clear hdn hqn
      go_wp2
      all_goals
        go_round
        case rel =>
          refine ⟨q, dig d :: l, ?_, rfl, rfl, ?_⟩
          · have := HK.out
            have h4 : 2 * q * 2 ^ l.length ≤ k * 2 ^ l.length := Nat.mul_le_mul_right _ hqk
            rw [List.length_cons, Nat.pow_succ, Nat.mul_comm (2 ^ l.length) 2, ← Nat.mul_assoc, Nat.mul_comm q 2]
            omega
          · rw [HL.out, wr0_step b k hb (by omega), HD.out, HQ.out]; simp
        case measure => simp [intOf]; omega
    · have hk0 : k = 0 := by omega
      subst hk0
      go_wp2
      go_ret
      refine ⟨ret_str ?_, rfl⟩
      rw [← HF.out, HL.out, wr0_zero]; rfl

theorem l1write_any (n b : Nat) (w : World) (hn : n < 18446744073709551616) (hb : 2 ≤ b) (hb2 : b ≤ 36) : Calls Tryd.prog 22 #[.int .u64 n, .int .i64 b] w fun e w' => e = .returned (.string ⟨(dl b n).toArray⟩) ∧ w' = w := by
  by_cases h : n = 0
  · subst h; exact l1write_zero b w
  · exact l1write_pos n b w hn (by simpa using h) hb hb2

/-- no base from 2 to 36: nothing -/
def badBase (b : Int) : Prop := b < 2 ∨ 36 < b

set_option maxRecDepth 100000 in
set_option maxHeartbeats 400000 in
theorem swb_bad (n b : Int) (w : World) (h : badBase b) : Calls Tryd.prog 10 #[.int .i64 n, .int .i64 b] w fun e w' => e = .returned (.string ⟨#[]⟩) ∧ w' = w := by
  rcases h with h | h
  · go_enter Tryd.func10, Tryd.ntmps10
    go_wp2
    go_ret
    exact ⟨rfl, rfl⟩
  · have h2 : 2 ≤ b := by omega
    go_enter Tryd.func10, Tryd.ntmps10
    go_wp2
    go_ret
    exact ⟨rfl, rfl⟩
set_option maxRecDepth 100000 in
set_option maxHeartbeats 400000 in
theorem swi_bad (n b : Int) (w : World) (h : badBase b) : Calls Tryd.prog 12 #[.int .i64 n, .int .i64 b] w fun e w' => e = .returned (.string ⟨#[]⟩) ∧ w' = w := by
  rcases h with h | h
  · go_enter Tryd.func12, Tryd.ntmps12
    go_wp2
    go_ret
    exact ⟨rfl, rfl⟩
  · have h2 : 2 ≤ b := by omega
    go_enter Tryd.func12, Tryd.ntmps12
    go_wp2
    go_ret
    exact ⟨rfl, rfl⟩
set_option maxRecDepth 100000 in
set_option maxHeartbeats 400000 in
theorem swb_any (n : Int) (u b : Nat) (w : World) (hu : IntKind.u64.wrap n = (u : Int)) (hl : u < 18446744073709551616) (hb : 2 ≤ b) (hb2 : b ≤ 36) : Calls Tryd.prog 10 #[.int .i64 n, .int .i64 b] w fun e w' => e = .returned (.string ⟨(dl b u).toArray⟩) ∧ w' = w := by
  go_enter Tryd.func10, Tryd.ntmps10
  go_wp2_with (go_at_call 22; refine (l1write_any u b _ hl hb hb2).mono ?_; rintro e w' ⟨rfl, rfl⟩)
  go_ret
  exact ⟨rfl, rfl⟩
set_option maxRecDepth 100000 in
set_option maxHeartbeats 400000 in
theorem swi_nonneg (u b : Nat) (w : World) (hl : u < 9223372036854775808) (hb : 2 ≤ b) (hb2 : b ≤ 36) : Calls Tryd.prog 12 #[.int .i64 u, .int .i64 b] w fun e w' => e = .returned (.string ⟨(dl b u).toArray⟩) ∧ w' = w := by
  go_enter Tryd.func12, Tryd.ntmps12
  go_wp2_with (go_at_call 22; refine (l1write_any u b _ (by omega) hb hb2).mono ?_; rintro e w' ⟨rfl, rfl⟩)
  go_ret
  exact ⟨rfl, rfl⟩
set_option maxRecDepth 100000 in
set_option maxHeartbeats 400000 in
theorem swi_neg (u b : Nat) (n : Int) (w : World) (hn : n < 0) (hw : IntKind.u64.wrap (-IntKind.u64.wrap n) = (u : Int)) (hl : u ≤ 9223372036854775808) (hlen : (dl b u).length ≤ 65) (hb : 2 ≤ b) (hb2 : b ≤ 36) : Calls Tryd.prog 12 #[.int .i64 n, .int .i64 b] w fun e w' => e = .returned (.string ⟨(45 :: dl b u).toArray⟩) ∧ w' = w := by
  go_enter Tryd.func12, Tryd.ntmps12
  go_wp2_with (go_at_call 22; refine (l1write_any u b _ (by omega) hb hb2).mono ?_; rintro e w' ⟨rfl, rfl⟩)
  go_ret
  exact ⟨ret_cons _, rfl⟩
end Go.Proofs.YtknhncpmijgdfaaDoor
