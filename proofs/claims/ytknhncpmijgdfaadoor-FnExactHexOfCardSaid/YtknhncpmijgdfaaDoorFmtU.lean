/- What strconv.FormatUint and FormatInt (functions 23 and 24 here) return in every base from 2 to 36: the digits, a minus ahead of a negative number's. Conditions: the base; the two tables, laid. -/
import Derived.Test.YtknhncpmijgdfaaDoorFmtPow
import Derived.Test.YtknhncpmijgdfaaDoorShelf
import Derived.Lib.ItoaMem
import Derived.Lib.Walk
namespace Go.Proofs.YtknhncpmijgdfaaDoor
open Go.RowKit Go.Sort
open Digs

/-- the table of powers of ten, in its variable -/
def PowAt (w : World) : Prop := Lib.TabIs Tryd.prog w "internal/strconv.uint64pow10" .u64 Lib.pow10Tab

theorem below_grow (w : World) (k : Nat) (os : Array Obj) : Below w.heap.size w (grow (w.drewN k) os) :=
  ⟨rfl, rfl, rfl, by simp [grow, World.drewN], fun i hi => by show (w.heap ++ os)[i]? = _; rw [Array.getElem?_append_left hi]⟩

theorem gpow : Tryd.prog.globalNamed "internal/strconv.uint64pow10" = some 2 := by kernel_rfl
theorem pow_size {w : World} (h : PowAt w) : 2 < w.heap.size := by
  have := Lib.TabIs.cell h gpow 0 (by decide)
  rcases Nat.lt_or_ge 2 w.heap.size with h1 | h1
  · exact h1
  · simp [World.cell?, Array.getElem?_eq_none h1] at this
theorem pow_below {w w' : World} (h : PowAt w) (hb : Below w.heap.size w w') : PowAt w' := by
  unfold PowAt Lib.TabIs World.var? at *
  rw [gpow] at h ⊢
  simp only [Option.bind_some] at h ⊢
  rw [hb.block 2 (pow_size h)]
  exact h

theorem holds_zero0 (w : World) (nd : Nat) (hs : nd ≤ 24) : Holds (fun (b : UInt8) => Value.int .u8 (b.toNat : Int)) (w.alloc (.cells Lib.zeros24 48)) w.heap.size 0 (Array.replicate nd (0 : UInt8)) := fun j hj => by
  have hj' : j < nd := by simpa using hj
  refine ⟨?_, World.frozen?_alloc_new _ _ _ _⟩
  rw [World.cell?_alloc_new, Lib.zeros24_at _ (by omega), getElem!_pos _ j hj]
  simp

theorem fin0 (w : World) (o : Obj) (dk : Array UInt8) (k : Nat) : ∃ os, (putRow (fun (b : UInt8) => Value.int .u8 (b.toNat : Int)) (w.alloc o) w.heap.size 0 dk).drewN k = grow (w.drewN k) os := by
  rw [alloc_eq_grow]
  obtain ⟨os', _, e⟩ := putRow_grow_new (fun (b : UInt8) => Value.int .u8 (b.toNat : Int)) w #[o] w.heap.size 0 dk (Nat.le_refl _)
  exact ⟨os', by rw [e]; rfl⟩

theorem zero48 (w : World) : (zeroValue 48).run Tryd.prog w = .ok (.agg Lib.zeros24) w := by kernel_rfl

theorem slice48 (B nd : Nat) (h : nd ≤ 24) (W : World) : (Instr.sliceAt 48 (.pointer (some ⟨B, 0, none⟩)) none (some (.int .i64 (nd : Int))) none).run Tryd.prog W = .ok (.slice (some ⟨B, 0, none⟩) nd 24) W := by
  have hal : Tryd.prog.arrayLen 48 = 24 := by simp [Program.arrayLen, Tryd.underlying48]
  rw [run_sliceAt_array_h W 48 ⟨B, 0, none⟩ (by simp [Program.arrayLen, Program.elem, Tryd.underlying48]) .i64 (nd : Int) (by omega) (by rw [hal]; omega)]
  have hel : Tryd.prog.elem 48 = 5 := by simp [Program.elem, Tryd.underlying48]
  rw [hal, hel]
  go_simp

set_option maxRecDepth 100000 in
set_option maxHeartbeats 1000000 in
theorem fu_small (n : Nat) (w : World) (hn : n < 100) : Calls Tryd.prog 30 #[.int .u64 n, .int .i64 10] w fun e w' => e = .returned (.string ⟨(dl 10 n).toArray⟩) ∧ Below w.heap.size w w' := by
  rw [dl_ten n n (Nat.le_refl _)]
  go_enter Tryd.func30, Tryd.ntmps30
  go_wp2_with (go_at_call 34; refine (Tryd.internal_strconv_small n hn _).mono ?_; rintro e w' ⟨rfl, rfl⟩)
  go_ret
  exact ⟨rfl, Below.refl _ _⟩

set_option maxRecDepth 100000 in
set_option maxHeartbeats 2000000 in
theorem fu_ten (u : Nat) (w : World) (h100 : 100 ≤ u) (hu64 : u < 18446744073709551616) (htab : PowAt w) : Calls Tryd.prog 30 #[.int .u64 u, .int .i64 10] w fun e w' => e = .returned (.string ⟨(dl 10 u).toArray⟩) ∧ Below w.heap.size w w' := by
  rw [dl_ten u u (Nat.le_refl _)]
  have hu1 : 1 ≤ u := by omega
  have hnd20 : Lib.nDigits u ≤ 20 := by have := Lib.numDigits_eq u hu1 hu64; split at this <;> omega
  have hz := zero48
  have hsl := slice48 w.heap.size (Lib.nDigits u) (by omega)
  have hH0 := holds_zero0 w (Lib.nDigits u) (by omega)
  have hfmt := Tryd.internal_strconv_formatBase10 w.heap.size 0 24 u (Array.replicate (Lib.nDigits u) 0) (w.alloc (.cells Lib.zeros24 48)) hH0 (by rw [Array.size_replicate]; exact Lib.lt_pow_nDigits u) hu64 (by rw [Array.size_replicate]; omega)
  rw [Array.size_replicate] at hfmt
  have hdig := Tryd.internal_strconv_numDigits u hu1 hu64 (w.alloc (.cells Lib.zeros24 48)) (Lib.tabIs_alloc htab _)
  have HH0 := Lib.hid hH0
  have HF := Lib.hid hfmt
  have HD := Lib.hid hdig
  clear hH0 hfmt hdig htab
  go_enter Tryd.func30, Tryd.ntmps30
  go_wp2_with (go_at_call 35; refine HD.out.mono ?_; rintro e w' ⟨rfl, rfl⟩)
  go_at_call 36
  refine HF.out.mono ?_
  rintro e w' ⟨rfl, k, v', dk, rfl, hF⟩
  have hcv : (convert 50 9 (.slice (some ⟨w.heap.size, 0, none⟩) (Lib.nDigits u) 24)).run Tryd.prog ((putRow (fun (b : UInt8) => Value.int .u8 (b.toNat : Int)) (w.alloc (.cells Lib.zeros24 48)) w.heap.size 0 dk).drewN k) = .ok (.string ⟨(Lib.decDigits u).toArray⟩) ((putRow (fun (b : UInt8) => Value.int .u8 (b.toNat : Int)) (w.alloc (.cells Lib.zeros24 48)) w.heap.size 0 dk).drewN k) := by
    have h := run_convert_bytes_back (P := Tryd.prog) ((putRow (fun (b : UInt8) => Value.int .u8 (b.toNat : Int)) (w.alloc (.cells Lib.zeros24 48)) w.heap.size 0 dk).drewN k) 50 9 5 ⟨w.heap.size, 0, none⟩ 24 (Lib.decDigits u) Tryd.underlying50 Tryd.underlying5 Tryd.underlying9 (fun j hj => by
      rw [Lib.row_is_numeral hF j hj, Lib.add_plain, World.cell?_drewN]
      exact cell?_putRow (fun (b : UInt8) => Value.int .u8 (b.toNat : Int)) _ w.heap.size 0 _ dk HH0.out (by rw [hF.size, Array.size_replicate]) j (by rw [hF.size]; rw [Lib.decDigits_length] at hj; exact hj))
    rw [Lib.decDigits_length] at h
    exact h
  go_wp2
  go_ret
  obtain ⟨os, eo⟩ := fin0 w (.cells Lib.zeros24 48) dk k
  refine ⟨rfl, ?_⟩
  rw [eo]
  exact below_grow w k os
end Go.Proofs.YtknhncpmijgdfaaDoor
