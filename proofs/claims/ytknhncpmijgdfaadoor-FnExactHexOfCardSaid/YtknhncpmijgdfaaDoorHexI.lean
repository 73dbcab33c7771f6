/- What the program's HexOf (function 15 here) returns, from what its callees return. No condition. -/
import Derived.Test.YtknhncpmijgdfaaDoorHexS
import Derived.Deep.RegionHeld3
namespace Go.Proofs.YtknhncpmijgdfaaDoor
open Go.RowKit
open Flt Ieee Digs

/-- what stays beside the calls of the last line: the number's two cells, and what lay before -/
def HexAt (b : Nat) (m e : Int) (w w' : World) : Prop :=
  w'.cell? ⟨b, 2, none⟩ = some (.int .i64 m) ∧ w'.cell? ⟨b, 3, none⟩ = some (.int .i64 e) ∧ b < w'.heap.size ∧ Below w.heap.size w w'

theorem hexat_begin {w w1 : World} (k m e : Int) (s : Bool) (h : Below w.heap.size w w1) :
    HexAt w1.heap.size m e w (w1.alloc (.cells #[.int .i64 k, .bool s, .int .i64 m, .int .i64 e] 24)).drew :=
  ⟨by simp [World.cell?_alloc_new], by simp [World.cell?_alloc_new], by show w1.heap.size < (w1.heap.push _).size; simp, (below_new h _).drew⟩

theorem hexat_step {b : Nat} {m e : Int} {w w2 w3 : World} (h : HexAt b m e w w2) (hb : Below w2.heap.size w2 w3) : HexAt b m e w w3 := by
  obtain ⟨h2, h3, hs, h4⟩ := h
  exact ⟨by rw [hb.cell (p := ⟨b, 2, none⟩) hs]; exact h2, by rw [hb.cell (p := ⟨b, 3, none⟩) hs]; exact h3, Nat.lt_of_lt_of_le hs hb.size, below_trans h4 hb⟩

set_option maxRecDepth 100000 in
set_option maxHeartbeats 1000000 in
theorem ihex_num (x : Nat) (sg : ByteArray) (la lb : List UInt8) (k m e : Int) (s : Bool) (w : World)
    (h1 : Calls Tryd.prog 27 #[.float .f64 x, .string ⟨#[48, 120, 48, 112, 48]⟩] w fun e w' => e = .returned (.tuple #[.string sg, .bool false]) ∧ Below w.heap.size w w')
    (h3 : ∀ w', Below w.heap.size w w' → Calls Tryd.prog 8 #[.float .f64 x] w' (Prt k s m e w'))
    (h4 : ∀ b w2, HexAt b m e w w2 → Calls Tryd.prog 24 #[.int .i64 m, .int .i64 16] w2 fun r w3 => r = .returned (.string ⟨la.toArray⟩) ∧ HexAt b m e w w3)
    (h5 : ∀ b w2, HexAt b m e w w2 → Calls Tryd.prog 28 #[.int .i64 e] w2 fun r w3 => r = .returned (.string ⟨lb.toArray⟩) ∧ HexAt b m e w w3)
    (hsg : sg.size < 2) (hla : la.length < 66) (hlb : lb.length < 66) : Calls Tryd.prog 15 #[.float .f64 x] w fun e w' => e = .returned (.string (hexText sg la lb)) ∧ Below w.heap.size w w' := by
  have H1 := Lib.hid h1
  have H3 := Lib.hid h3
  have H4 := Lib.hid h4
  have H5 := Lib.hid h5
  clear h1 h3 h4 h5
  have hk1 : ¬ (9223372036854775807 < sg.size + 2) := by omega
  have hk2 : ¬ (9223372036854775807 < sg.size + 2 + la.length) := by omega
  have hk3 : ¬ (9223372036854775807 < sg.size + 2 + la.length + 1) := by omega
  have hk4 : ¬ (9223372036854775807 < sg.size + 2 + la.length + 1 + lb.length) := by omega
  unfold hexText
  go_enter Tryd.func15, Tryd.ntmps15
  go_wp2_with fail
  refine (H1.out).mono ?_
  rintro e w0 ⟨rfl, hb0⟩
  go_wp2_with fail
  refine (H3.out _ hb0).mono ?_
  rintro e w1 ⟨rfl, hb2⟩
  have hb1 := below_trans hb0 hb2
  clear hb0 hb2
  have H0 := hexat_begin k m e s hb1
  go_wp2_with fail
  go_region_held3 (fun w' => w'.cell? ⟨w1.heap.size, 2, none⟩ = some (.int .i64 m) ∧ w'.cell? ⟨w1.heap.size, 3, none⟩ = some (.int .i64 e) ∧ w1.heap.size < w'.heap.size ∧ Below w.heap.size w w') (first | exact H0 | assumption | exact ⟨‹_›, ‹_›, ‹_›, ‹_›⟩)
    (first | (go_at_call_of 24 (Value.int IntKind.i64 m); refine (H4.out w1.heap.size _ (by first | exact H0 | exact ⟨‹_›, ‹_›, ‹_›, ‹_›⟩)).mono ?_; rintro r w3 ⟨rfl, hc2, hc3, hlt, hbb⟩) | (go_at_call_of 28 (Value.int IntKind.i64 e); refine (H5.out w1.heap.size _ (by first | exact H0 | exact ⟨‹_›, ‹_›, ‹_›, ‹_›⟩)).mono ?_; rintro r w3 ⟨rfl, hc2, hc3, hlt, hbb⟩))
  go_wp2_with fail
  go_ret
  exact ⟨rfl, ‹Below w.heap.size w _›⟩

/-- a float that is no number above 0 -/
theorem ihex_odd (x : Nat) (t : ByteArray) (w : World)
    (h1 : Calls Tryd.prog 27 #[.float .f64 x, .string ⟨#[48, 120, 48, 112, 48]⟩] w fun e w' => e = .returned (.tuple #[.string t, .bool true]) ∧ Below w.heap.size w w') :
    Calls Tryd.prog 15 #[.float .f64 x] w fun e w' => e = .returned (.string t) ∧ Below w.heap.size w w' := by
  have H1 := Lib.hid h1
  clear h1
  go_enter Tryd.func15, Tryd.ntmps15
  go_wp2_with fail
  refine (H1.out).mono ?_
  rintro e w0 ⟨rfl, hb0⟩
  go_wp2_with fail
  go_ret
  exact ⟨rfl, hb0⟩

set_option maxRecDepth 100000 in
set_option maxHeartbeats 400000 in
theorem hex_law (x : Nat) (t : ByteArray) (w : World) (h1 : Calls Tryd.prog 14 #[.float .f64 x] w fun e w' => e = .returned (.string t) ∧ Below w.heap.size w w')
    (h2 : ∀ w', Below w.heap.size w w' → Calls Tryd.prog 15 #[.float .f64 x] w' fun e w2 => e = .returned (.string t) ∧ Below w'.heap.size w' w2) :
    Calls Tryd.prog 6 #[.float .f64 x] w fun e w' => e = .returned (.bool true) ∧ Below w.heap.size w w' := by
  have H1 := Lib.hid h1
  have H2 := Lib.hid h2
  clear h1 h2
  go_enter Tryd.func6, Tryd.ntmps6
  go_wp2_with fail
  refine (H1.out).mono ?_
  rintro e w1 ⟨rfl, hb1⟩
  go_wp2_with fail
  refine (H2.out _ hb1).mono ?_
  rintro e w2 ⟨rfl, hb2⟩
  go_wp2_with fail
  go_ret
  exact ⟨rfl, below_trans hb1 hb2⟩
end Go.Proofs.YtknhncpmijgdfaaDoor
