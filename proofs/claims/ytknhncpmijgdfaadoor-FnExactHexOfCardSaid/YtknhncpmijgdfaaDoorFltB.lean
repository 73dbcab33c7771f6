/- The double's finite words told by their sizes: 'fl s v' is the word of the number v * 2^-1074 with sign s; reading, rounding, order, negation. Plain law; no program. No condition. -/
import Derived.Test.YtknhncpmijgdfaaDoorFltA
namespace Go.Proofs.YtknhncpmijgdfaaDoor.Flt
open Ieee

/-- a size that a double has, in units of 2^-1074 -/
def Rep (v : Nat) : Prop := ∃ q t, q < 9007199254740992 ∧ t ≤ 2045 ∧ v = q * 2 ^ t
/-- the rung of such a size -/
def rungOf (v : Nat) : Nat := if v < 9007199254740992 then v else (v.log2 - 52) * 4503599627370496 + v / 2 ^ (v.log2 - 52)
/-- the word of such a size with a sign -/
def fl (s : Bool) (v : Nat) : Nat := double.word s (rungOf v)
/-- the size with its sign -/
def sv (s : Bool) (v : Nat) : Int := if s then -(v : Int) else v

/-- a size in its own form -/
def Nrm (v q t : Nat) : Prop := q < 9007199254740992 ∧ (t = 0 ∨ 4503599627370496 ≤ q) ∧ t ≤ 2045 ∧ v = q * 2 ^ t

theorem rungOf_nrm {v q t : Nat} (h : Nrm v q t) : rungOf v = t * 4503599627370496 + q := by
  obtain ⟨h1, h2, _, rfl⟩ := h
  unfold rungOf
  rcases Nat.eq_zero_or_pos t with ht | ht
  · subst ht
    rw [Nat.pow_zero, Nat.mul_one, if_pos h1]; omega
  · have hq : 4503599627370496 ≤ q := by omega
    have hq0 : q ≠ 0 := by omega
    have hl : q.log2 = 52 := by
      have a : q.log2 < 53 := (Nat.log2_lt hq0).2 (by simpa using h1)
      have b : 52 ≤ q.log2 := (Nat.le_log2 hq0).2 (by simpa using hq)
      omega
    have h2t : 2 ≤ 2 ^ t := by
      have := Nat.pow_le_pow_right (n := 2) (by omega) ht
      simpa using this
    have hbig : ¬ q * 2 ^ t < 9007199254740992 := by
      have : 4503599627370496 * 2 ≤ q * 2 ^ t := Nat.mul_le_mul hq h2t
      omega
    rw [if_neg hbig, log2_mul_pow q t hq0, hl, show 52 + t - 52 = t by omega, Nat.mul_div_cancel _ (Nat.two_pow_pos t)]

theorem Rep.nrm {v : Nat} (h : Rep v) : ∃ q t, Nrm v q t := by
  obtain ⟨q, t, hq, ht, rfl⟩ := h
  by_cases h0 : q = 0
  · exact ⟨0, 0, by omega, Or.inl rfl, by omega, by subst h0; simp⟩
  · have h1 : 2 ^ q.log2 ≤ q := (Nat.le_log2 h0).1 (Nat.le_refl _)
    have h2 : q < 2 ^ (q.log2 + 1) := (Nat.log2_lt h0).1 (by omega)
    have hk : q.log2 < 53 := (Nat.log2_lt h0).2 (by simpa using hq)
    -- shift as far as there is room
    have e53 : (2 : Nat) ^ 53 = 9007199254740992 := by decide
    have e52 : (2 : Nat) ^ 52 = 4503599627370496 := by decide
    by_cases hc : 52 - q.log2 ≤ t
    · refine ⟨q * 2 ^ (52 - q.log2), t - (52 - q.log2), ?_, Or.inr ?_, by omega, ?_⟩
      · calc q * 2 ^ (52 - q.log2) < 2 ^ (q.log2 + 1) * 2 ^ (52 - q.log2) := (Nat.mul_lt_mul_right (Nat.two_pow_pos _)).2 h2
          _ = 2 ^ 53 := by rw [← Nat.pow_add]; congr 1; omega
          _ = 9007199254740992 := e53
      · calc 4503599627370496 = 2 ^ 52 := e52.symm
          _ = 2 ^ q.log2 * 2 ^ (52 - q.log2) := by rw [← Nat.pow_add]; congr 1; omega
          _ ≤ q * 2 ^ (52 - q.log2) := Nat.mul_le_mul_right _ h1
      · rw [Nat.mul_assoc, ← Nat.pow_add]; congr 2; omega
    · refine ⟨q * 2 ^ t, 0, ?_, Or.inl rfl, by omega, by simp⟩
      calc q * 2 ^ t < 2 ^ (q.log2 + 1) * 2 ^ t := (Nat.mul_lt_mul_right (Nat.two_pow_pos _)).2 h2
        _ = 2 ^ (q.log2 + 1 + t) := by rw [← Nat.pow_add]
        _ ≤ 2 ^ 53 := Nat.pow_le_pow_right (by omega) (by omega)
        _ = 9007199254740992 := e53

theorem Nrm.rep {v q t : Nat} (h : Nrm v q t) : Rep v := ⟨q, t, h.1, h.2.2.1, h.2.2.2⟩

theorem fl_nrm {v q t : Nat} (s : Bool) (h : Nrm v q t) : fl s v = double.word s (t * 4503599627370496 + q) := by
  unfold fl; rw [rungOf_nrm h]

theorem fl_qt (s : Bool) (q t : Nat) (h1 : q < 9007199254740992) (h2 : t = 0 ∨ 4503599627370496 ≤ q) (h3 : t ≤ 2045) : fl s (q * 2 ^ t) = double.word s (t * 4503599627370496 + q) :=
  fl_nrm s ⟨h1, h2, h3, rfl⟩

theorem read_word (s : Bool) (r : Nat) (h : r < 9223372036854775808) : double.read (double.word s r) =
    if r < 4503599627370496 then .number s r (-1074) else if r < 9218868437227405312 then .number s (4503599627370496 + r % 4503599627370496) (-1074 + (r / 4503599627370496 - 1 : Nat))
      else if r = 9218868437227405312 then .infinity s else .nan s (r - 9218868437227405312) := by
  have hs : (double.word s r / 9223372036854775808 % 2 == 1) = s := by
    unfold Format.word; rw [signWeight_eq]
    cases s
    · simp; omega
    · simp; omega
  have hr : double.word s r % 9223372036854775808 = r := by
    unfold Format.word; rw [signWeight_eq]
    cases s
    · simp; omega
    · simp; omega
  unfold Format.read
  rw [signWeight_eq, binade_eq, infRung_eq, leastPlace_eq]
  simp only [hs, hr]

theorem read_nrm {v q t : Nat} (s : Bool) (h : Nrm v q t) : double.read (fl s v) = .number s q ((t : Int) - 1074) := by
  rw [fl_nrm s h]
  obtain ⟨h1, h2, h3, _⟩ := h
  have hb : t * 4503599627370496 + q < 9218868437227405312 := by omega
  rw [read_word s _ (by omega)]
  by_cases hc : t * 4503599627370496 + q < 4503599627370496
  · rw [if_pos hc]
    have : t = 0 := by omega
    subst this
    simp
  · rw [if_neg hc, if_pos hb]
    have e1 : (t * 4503599627370496 + q) % 4503599627370496 + 4503599627370496 = q := by omega
    have e2 : (t * 4503599627370496 + q) / 4503599627370496 - 1 = t := by omega
    rw [Nat.add_comm, e1, e2]
    rw [show (-1074 + (t : Int)) = (t : Int) - 1074 by omega]

theorem read_fl {v : Nat} (s : Bool) (h : Rep v) : ∃ q t, Nrm v q t ∧ double.read (fl s v) = .number s q ((t : Int) - 1074) := by
  obtain ⟨q, t, h'⟩ := h.nrm
  exact ⟨q, t, h', read_nrm s h'⟩

theorem nearest_fl (s : Bool) {v : Nat} (h : Rep v) (mag : Nat) (place : Int) (a b : Nat) (hm : mag * 2 ^ a = v * 2 ^ b) (hp : place + 1074 + b = a) : double.nearest s mag place = fl s v := by
  obtain ⟨q, t, h'⟩ := h.nrm
  rw [fl_nrm s h']
  obtain ⟨h1, h2, h3, rfl⟩ := h'
  exact nearest_qt s mag place q t a b h1 h2 h3 hm hp

theorem rungOf_lt {v : Nat} (h : Rep v) : rungOf v < 9218868437227405312 := by
  obtain ⟨q, t, h'⟩ := h.nrm
  rw [rungOf_nrm h']
  obtain ⟨h1, h2, h3, rfl⟩ := h'
  omega

theorem fl_lt {v : Nat} (s : Bool) (h : Rep v) : fl s v < 18446744073709551616 := by
  have := rungOf_lt h
  unfold fl Format.word; rw [signWeight_eq]; split <;> omega

/-- the words: finite ones, infinities, NaNs -/
theorem words (x : Nat) (hx : x < 18446744073709551616) : (∃ s v, Rep v ∧ x = fl s v) ∨ (∃ s, x = double.word s 9218868437227405312) ∨ (∃ s t, t ≠ 0 ∧ t < 4503599627370496 ∧ x = double.word s (9218868437227405312 + t)) := by
  have key : ∀ s r, r < 9223372036854775808 → (∃ s' v, Rep v ∧ double.word s r = fl s' v) ∨ (∃ s', double.word s r = double.word s' 9218868437227405312) ∨ (∃ s' t, t ≠ 0 ∧ t < 4503599627370496 ∧ double.word s r = double.word s' (9218868437227405312 + t)) := by
    intro s r hr
    by_cases h1 : r < 4503599627370496
    · exact Or.inl ⟨s, r, ⟨r, 0, by omega, by omega, by simp⟩, by rw [fl_nrm s (q := r) (t := 0) ⟨by omega, Or.inl rfl, by omega, by simp⟩, Nat.zero_mul, Nat.zero_add]⟩
    · by_cases h2 : r < 9218868437227405312
      · have hn : Nrm ((4503599627370496 + r % 4503599627370496) * 2 ^ (r / 4503599627370496 - 1)) (4503599627370496 + r % 4503599627370496) (r / 4503599627370496 - 1) := ⟨by omega, Or.inr (by omega), by omega, rfl⟩
        exact Or.inl ⟨s, _, hn.rep, by rw [fl_nrm s hn]; exact congrArg _ (by omega)⟩
      · by_cases h3 : r = 9218868437227405312
        · exact Or.inr (Or.inl ⟨s, by rw [h3]⟩)
        · exact Or.inr (Or.inr ⟨s, r - 9218868437227405312, by omega, by omega, congrArg _ (by omega)⟩)
  by_cases hs : x < 9223372036854775808
  · have := key false x hs
    have e : double.word false x = x := rfl
    rw [e] at this; exact this
  · have := key true (x - 9223372036854775808) (by omega)
    have e : double.word true (x - 9223372036854775808) = x := by unfold Format.word; rw [signWeight_eq]; simp; omega
    rw [e] at this; exact this

theorem read_inf (s : Bool) : double.read (double.word s 9218868437227405312) = .infinity s := by
  rw [read_word s _ (by omega), if_neg (by omega), if_neg (by omega), if_pos rfl]
theorem read_nan (s : Bool) (t : Nat) (h0 : t ≠ 0) (h : t < 4503599627370496) : double.read (double.word s (9218868437227405312 + t)) = .nan s t := by
  rw [read_word s _ (by omega), if_neg (by omega), if_neg (by omega), if_neg (by omega)]
  rw [show 9218868437227405312 + t - 9218868437227405312 = t by omega]

theorem cmp_scale (a b : Int) (c : Nat) (hc : 0 < c) : compare (a * c) (b * c) = compare a b := by
  have hc' : (0 : Int) < c := by omega
  rcases Int.lt_trichotomy a b with h | h | h
  · have h2 : a * c < b * c := Int.mul_lt_mul_of_pos_right h hc'
    rw [Int.compare_eq_lt.2 h, Int.compare_eq_lt.2 h2]
  · subst h; simp
  · have h2 : b * c < a * c := Int.mul_lt_mul_of_pos_right h hc'
    rw [Int.compare_eq_gt.2 h, Int.compare_eq_gt.2 h2]

theorem signed_scale (s : Bool) (q a c : Nat) : signed s q a * ((2 ^ c : Nat) : Int) = sv s (q * 2 ^ (a + c)) := by
  unfold signed sv
  rw [Nat.shiftLeft_eq, Nat.pow_add, ← Nat.mul_assoc]
  cases s
  · simp
  · simp [Int.neg_mul]

/-- ORDER OF FINITE WORDS -/
theorem order_fl {v u : Nat} (s s' : Bool) (hv : Rep v) (hu : Rep u) : double.order (fl s v) (fl s' u) = some (compare (sv s v) (sv s' u)) := by
  obtain ⟨q, t, h1, e1⟩ := read_fl s hv
  obtain ⟨q', t', h2, e2⟩ := read_fl s' hu
  unfold Format.order
  rw [e1, e2]
  simp only [Datum.order]
  rw [← cmp_scale _ _ (2 ^ (min t t')) (Nat.two_pow_pos _)]
  rw [signed_scale, signed_scale]
  have a1 : ((t : Int) - 1074 - min ((t : Int) - 1074) ((t' : Int) - 1074)).toNat + min t t' = t := by omega
  have a2 : ((t' : Int) - 1074 - min ((t : Int) - 1074) ((t' : Int) - 1074)).toNat + min t t' = t' := by omega
  rw [a1, a2, ← h1.2.2.2, ← h2.2.2.2]

theorem order_inf_fl {u : Nat} (s s' : Bool) (hu : Rep u) : double.order (double.word s 9218868437227405312) (fl s' u) = some (if s then .lt else .gt) := by
  obtain ⟨q', t', _, e2⟩ := read_fl s' hu
  unfold Format.order
  rw [read_inf, e2]; rfl
theorem order_fl_inf {u : Nat} (s s' : Bool) (hu : Rep u) : double.order (fl s' u) (double.word s 9218868437227405312) = some (if s then .gt else .lt) := by
  obtain ⟨q', t', _, e2⟩ := read_fl s' hu
  unfold Format.order
  rw [read_inf, e2]; rfl
theorem order_inf_inf (s s' : Bool) : double.order (double.word s 9218868437227405312) (double.word s' 9218868437227405312) = some (compare s'.toNat s.toNat) := by
  unfold Format.order
  rw [read_inf, read_inf]; rfl
theorem order_nan_left (s : Bool) (t : Nat) (h0 : t ≠ 0) (h : t < 4503599627370496) (y : Nat) : double.order (double.word s (9218868437227405312 + t)) y = none := by
  unfold Format.order
  rw [read_nan s t h0 h]; rfl
theorem order_nan_right (s : Bool) (t : Nat) (h0 : t ≠ 0) (h : t < 4503599627370496) (y : Nat) : double.order y (double.word s (9218868437227405312 + t)) = none := by
  unfold Format.order
  rw [read_nan s t h0 h]
  cases double.read y <;> rfl

theorem neg_word (s : Bool) (r : Nat) (h : r < 9223372036854775808) : Op.negFloat .f64 (double.word s r) = double.word (!s) r := by
  have e : ∀ y, y < 9223372036854775808 → y ^^^ 9223372036854775808 = y + 9223372036854775808 := by
    intro y hy
    have h1 : y + 9223372036854775808 = 9223372036854775808 * 1 + y := by omega
    rw [h1]
    have := Nat.two_pow_add_eq_or_of_lt (i := 63) (b := y) (by simpa using hy) 1
    rw [show (9223372036854775808 : Nat) = 2 ^ 63 by decide, this, Nat.mul_one]
    apply Nat.eq_of_testBit_eq
    intro i
    rw [Nat.testBit_xor, Nat.testBit_or, Nat.testBit_two_pow]
    by_cases hi : 63 = i
    · subst hi
      have : y.testBit 63 = false := Nat.testBit_lt_two_pow (by simpa using hy)
      simp [this]
    · simp [hi]
  have hw : Op.negFloat .f64 (double.word s r) = double.word s r ^^^ 9223372036854775808 := rfl
  rw [hw]
  unfold Format.word; rw [signWeight_eq]
  cases s
  · simp only [Bool.not_false, if_true]; simp; rw [e r h]; omega
  · simp only [Bool.not_true, if_true]; simp
    rw [Nat.add_comm, ← e r h, Nat.xor_assoc, Nat.xor_self, Nat.xor_zero]
theorem neg_fl (s : Bool) {v : Nat} (h : Rep v) : Op.negFloat .f64 (fl s v) = fl (!s) v := neg_word s _ (by have := rungOf_lt h; omega)
end Go.Proofs.YtknhncpmijgdfaaDoor.Flt
