/- The digits of a number in a base from 2 to 36, as bytes: two ways to make them, one list. Plain law; no program. No condition. -/
import Derived.Lib.ItoaNum
namespace Go.Proofs.YtknhncpmijgdfaaDoor.Digs

/-- one digit -/
def dig (d : Nat) : UInt8 := if d < 10 then UInt8.ofNat (48 + d) else UInt8.ofNat (87 + d)

/-- the reference's way: while the number is above 0 -/
def wr0 (b n : Nat) : List UInt8 :=
  if _h : n = 0 ∨ b < 2 then [] else wr0 b (n / b) ++ [dig (n % b)]
termination_by n
decreasing_by
  have h1 : 0 < n := by omega
  exact Nat.div_lt_self h1 (by omega)

/-- the library's way: while the number is not below the base -/
def dl (b n : Nat) : List UInt8 :=
  if _h : n < b ∨ b < 2 then [dig n] else dl b (n / b) ++ [dig (n % b)]
termination_by n
decreasing_by
  have h1 : 0 < n := by omega
  exact Nat.div_lt_self h1 (by omega)

theorem wr0_zero (b : Nat) : wr0 b 0 = [] := by rw [wr0, dif_pos (Or.inl rfl)]
theorem wr0_step (b n : Nat) (hb : 2 ≤ b) (hn : n ≠ 0) : wr0 b n = wr0 b (n / b) ++ [dig (n % b)] := by rw [wr0, dif_neg (by omega)]
theorem dl_one (b n : Nat) (h : n < b) : dl b n = [dig n] := by rw [dl, dif_pos (Or.inl h)]
theorem dl_step (b n : Nat) (hb : 2 ≤ b) (hn : b ≤ n) : dl b n = dl b (n / b) ++ [dig (n % b)] := by rw [dl, dif_neg (by omega)]

theorem wr0_dl (b : Nat) (hb : 2 ≤ b) : ∀ k n, n ≤ k → n ≠ 0 → wr0 b n = dl b n := by
  intro k
  induction k with
  | zero => intro n h1 h2; omega
  | succ k ih =>
    intro n h1 h2
    rw [wr0_step b n hb h2]
    by_cases hc : n < b
    · rw [Nat.div_eq_of_lt hc, wr0_zero, dl_one b n hc, Nat.mod_eq_of_lt hc]; rfl
    · have hl : n / b < n := Nat.div_lt_self (by omega) (by omega)
      have hp : n / b ≠ 0 := by have := Nat.div_pos (show b ≤ n by omega) (show 0 < b by omega); omega
      rw [dl_step b n hb (by omega), ih (n / b) (by omega) hp]

theorem dl_ten (k : Nat) : ∀ n, n ≤ k → dl 10 n = Lib.decDigits n := by
  induction k with
  | zero =>
    intro n h
    have : n = 0 := by omega
    subst this
    rw [dl_one 10 0 (by omega), Lib.decDigits_one (by omega)]; rfl
  | succ k ih =>
    intro n h
    by_cases hc : n < 10
    · rw [dl_one 10 n hc, Lib.decDigits_one hc]
      simp only [dig, if_pos hc]
    · have e : Lib.decDigits n = Lib.decDigits (n / 10) ++ [UInt8.ofNat (48 + n % 10)] := by
        conv => lhs; rw [Lib.decDigits, dif_neg hc]
      rw [dl_step 10 n (by omega) (by omega), ih (n / 10) (by omega), e]
      have : n % 10 < 10 := Nat.mod_lt _ (by omega)
      simp only [dig, if_pos this]

theorem dl_length (b : Nat) (hb : 2 ≤ b) : ∀ m n, n < 2 ^ m → (dl b n).length ≤ m + 1 := by
  intro m
  induction m with
  | zero => intro n h; have : n = 0 := by omega
            subst this; rw [dl_one b 0 (by omega)]; simp
  | succ m ih =>
    intro n h
    by_cases hc : n < b
    · rw [dl_one b n hc]; simp
    · rw [dl_step b n hb (by omega), List.length_append]
      have h2 : n / b ≤ n / 2 := Nat.div_le_div_left hb (by omega)
      have := ih (n / b) (by rw [Nat.pow_succ] at h; omega)
      simp only [List.length_singleton]; omega

/-- the constant's piece -/
theorem piece : ∀ d, d < 36 → (⟨#[48, 49, 50, 51, 52, 53, 54, 55, 56, 57, 97, 98, 99, 100, 101, 102, 103, 104, 105, 106, 107, 108, 109, 110, 111, 112, 113, 114, 115, 116, 117, 118, 119, 120, 121, 122]⟩ : ByteArray).extract d (d + 1) = ⟨#[dig d]⟩ := by decide +kernel
theorem byte_at : ∀ d, d < 36 → (#[48, 49, 50, 51, 52, 53, 54, 55, 56, 57, 97, 98, 99, 100, 101, 102, 103, 104, 105, 106, 107, 108, 109, 110, 111, 112, 113, 114, 115, 116, 117, 118, 119, 120, 121, 122] : Array UInt8)[d]? = some (dig d) := by decide +kernel
theorem piece_app (d : Nat) (hd : d < 36) (l : List UInt8) : (⟨#[48, 49, 50, 51, 52, 53, 54, 55, 56, 57, 97, 98, 99, 100, 101, 102, 103, 104, 105, 106, 107, 108, 109, 110, 111, 112, 113, 114, 115, 116, 117, 118, 119, 120, 121, 122]⟩ : ByteArray).extract d (d + 1) ++ ⟨l.toArray⟩ = ⟨(dig d :: l).toArray⟩ := by
  rw [piece d hd]
  apply ByteArray.ext
  simp [ByteArray.data_append]
end Go.Proofs.YtknhncpmijgdfaaDoor.Digs
