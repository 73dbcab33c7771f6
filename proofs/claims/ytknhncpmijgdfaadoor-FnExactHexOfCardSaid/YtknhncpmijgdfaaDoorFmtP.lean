/- The row of bytes that strconv's formatBits fills from behind; a digit's byte; its slice and its string. Facts on memory; the walk is elsewhere. No condition. -/
import Derived.Test.YtknhncpmijgdfaaDoorWriteS
import Derived.Test.YtknhncpmijgdfaaDoorTz
import Derived.Laws.IdiomStrings
namespace Go.Proofs.YtknhncpmijgdfaaDoor
open Go.RowKit
open Digs

def isP (b : Nat) : Bool := b == 2 || b == 4 || b == 8 || b == 16 || b == 32
theorem isP_bits : ∀ b : Nat, b < 37 → 2 ≤ b → (bits .and .i64 (b : Int) ((b : Int) - 1) == 0) = isP b := by decide +kernel

set_option maxRecDepth 100000 in
set_option maxHeartbeats 400000 in
theorem pow2_any (b : Nat) (w : World) (hb : 2 ≤ b) (hb2 : b ≤ 36) : Calls Tryd.prog 41 #[.int .i64 b] w fun e w' => e = .returned (.bool (isP b)) ∧ w' = w := by
  have h := isP_bits b (by omega) hb
  go_enter Tryd.func41, Tryd.ntmps41
  go_wp2
  go_ret
  exact ⟨rfl, rfl⟩

/-- 'var a [65]byte', as it is laid -/
def zeros65 : Array Value := Array.replicate 65 (.int .u8 0)
theorem zero65 (w : World) : (zeroValue 57).run Tryd.prog w = .ok (.agg zeros65) w := by kernel_rfl

/-- a digit's byte, for the walk to take -/
theorem idx_digits (d : Nat) (hd : d < 36) (w : World) : (Instr.index 9 (.string ⟨#[48, 49, 50, 51, 52, 53, 54, 55, 56, 57, 97, 98, 99, 100, 101, 102, 103, 104, 105, 106, 107, 108, 109, 110, 111, 112, 113, 114, 115, 116, 117, 118, 119, 120, 121, 122]⟩) (.int .u64 (d : Int))).run Tryd.prog w = .ok (.int .u8 ((dig d).toNat : Int)) w := by
  have hs : (⟨#[48, 49, 50, 51, 52, 53, 54, 55, 56, 57, 97, 98, 99, 100, 101, 102, 103, 104, 105, 106, 107, 108, 109, 110, 111, 112, 113, 114, 115, 116, 117, 118, 119, 120, 121, 122]⟩ : ByteArray).size = 36 := by decide +kernel
  rw [run_index_string w 9 _ .u64 _ Tryd.underlying9, dif_pos ⟨by omega, by rw [hs]; omega⟩]
  have h := byte_at d hd
  rw [Array.getElem?_eq_some_iff] at h
  obtain ⟨_, h⟩ := h
  have e : ((d : Int)).toNat = d := by omega
  simp only [e]
  have h2 : (⟨#[48, 49, 50, 51, 52, 53, 54, 55, 56, 57, 97, 98, 99, 100, 101, 102, 103, 104, 105, 106, 107, 108, 109, 110, 111, 112, 113, 114, 115, 116, 117, 118, 119, 120, 121, 122]⟩ : ByteArray)[d]'(by rw [hs]; omega) = dig d := h
  rw [h2]

/-- the row's cells from j on are the bytes l, up to its end -/
structure Cel (j : Nat) (l : List UInt8) (C : Array Value) : Prop where
  size : C.size = 65
  len : j + l.length = 65
  at_ : ∀ t (h : t < l.length), C[j + t]? = some (.int .u8 (l[t].toNat : Int))

theorem Cel.start : Cel 65 [] zeros65 := ⟨by unfold zeros65; rw [Array.size_replicate], rfl, fun t h => by simp at h⟩
theorem Cel.push {i : Nat} {l : List UInt8} {C : Array Value} (h : Cel (i + 1) l C) (x : UInt8) : Cel i (x :: l) (C.setIfInBounds i (.int .u8 (x.toNat : Int))) := by
  have hl := h.len
  refine ⟨by rw [Array.size_setIfInBounds]; exact h.size, by rw [List.length_cons]; omega, fun t ht => ?_⟩
  have hs := h.size
  cases t with
  | zero => rw [Nat.add_zero, Array.getElem?_setIfInBounds_self_of_lt (by omega)]; rfl
  | succ t =>
    have ht' : t < l.length := by simpa using ht
    rw [Array.getElem?_setIfInBounds_ne (by omega), show i + (t + 1) = i + 1 + t by omega, h.at_ t ht']; rfl
theorem Cel.cell {j : Nat} {l : List UInt8} {C : Array Value} (h : Cel j l C) (i : Nat) (hi : i < 65) : ∃ v, C[i]? = some v := ⟨C[i]'(by rw [h.size]; exact hi), Array.getElem?_eq_getElem _⟩

/-- 'a[j:]', for the walk to take -/
theorem slice_run (B j : Nat) (hj : j < 65) (W : World) : (Instr.sliceAt 57 (.pointer (some ⟨B, 0, none⟩)) (some (.int .i64 (j : Int))) none none).run Tryd.prog W = .ok (.slice (some ⟨B, j, none⟩) (65 - j) (65 - j)) W := by
  have hal : Tryd.prog.arrayLen 57 = 65 := by simp [Program.arrayLen, Tryd.underlying57]
  rw [run_sliceAt_array_l W 57 ⟨B, 0, none⟩ (by simp [Program.arrayLen, Program.elem, Tryd.underlying57]) .i64 (j : Int) (by omega) (by rw [hal]; omega)]
  have hel : Tryd.prog.elem 57 = 5 := by simp [Program.elem, Tryd.underlying57]
  rw [hal, hel]
  go_simp
  intro h; omega

/-- 'string(a[j:])', for the walk to take -/
theorem string_run {j : Nat} {l : List UInt8} {C : Array Value} (h : Cel j l C) (w : World) : (convert 50 9 (.slice (some ⟨w.heap.size, j, none⟩) (65 - j) (65 - j))).run Tryd.prog (w.alloc (.cells C 57)) = .ok (.string ⟨l.toArray⟩) (w.alloc (.cells C 57)) := by
  have hl := h.len
  have := run_convert_bytes_back (P := Tryd.prog) (w.alloc (.cells C 57)) 50 9 5 ⟨w.heap.size, j, none⟩ (65 - j) l Tryd.underlying50 Tryd.underlying5 Tryd.underlying9 (fun t ht => by
    have ha : (⟨w.heap.size, j, none⟩ : Addr).add t = ⟨w.heap.size, j + t, none⟩ := by
      unfold Addr.add
      split
      · rename_i h0; subst h0; rfl
      · rfl
    rw [ha, World.cell?_alloc_new]
    exact h.at_ t ht)
  rw [show l.length = 65 - j by omega] at this
  exact this
end Go.Proofs.YtknhncpmijgdfaaDoor
