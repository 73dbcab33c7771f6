/- Small facts on the tables that the laid rows of this seat list. No condition. -/
import Derived.Test.YtknhncpmijgdfaaDoorTz
import Derived.Test.YtknhncpmijgdfaaDoorBaseD
import Derived.Test.YtknhncpmijgdfaaDoorCards
import Derived.Test.YtknhncpmijgdfaaDoorTie
import Derived.OpenShut
import Derived.Deep.DeepHandedRow
import Derived.Lib.LaidTab
namespace Go.Proofs.YtknhncpmijgdfaaDoor
open Go.ChangeShapes Go.WideShapes Go.ChangeAt Go.RowKit

/-- a heap with a variable's cells laid anew -/
def layAt (h : Array Obj) (g : Nat) (cs : Array Value) : Array Obj := h.modify g fun
  | .cells _ t frozen => .cells cs t frozen
  | o => o
theorem Tryd.g64 : Tryd.prog.globalNamed "math/bits.deBruijn64tab" = some 1 := by kernel_rfl
theorem Tryd.g64t : (Tryd.prog.globals[1]?).map (·.type) = some 46 := by kernel_rfl
theorem Tryd.cells46' : Tryd.prog.cellsOf 46 = 64 := by kernel_rfl
theorem Tryd.cells5' : Tryd.prog.cellsOf 5 = 1 := by kernel_rfl
theorem Tryd.gp10 : Tryd.prog.globalNamed "internal/strconv.uint64pow10" = some 2 := by kernel_rfl
theorem Tryd.gp10t : (Tryd.prog.globals[2]?).map (·.type) = some 55 := by kernel_rfl
theorem Tryd.cells55' : Tryd.prog.cellsOf 55 = 20 := by kernel_rfl
theorem Tryd.cells31' : Tryd.prog.cellsOf 31 = 1 := by kernel_rfl
theorem tab_num : ∀ j, j < 64 → (([0, 1, 56, 2, 57, 49, 28, 3, 61, 58, 42, 50, 38, 29, 17, 4, 62, 47, 59, 36, 45, 43, 51, 22, 53, 39, 33, 30, 24, 18, 12, 5, 63, 55, 48, 27, 60, 41, 37, 16, 46, 35, 44, 21, 52, 32, 23, 11, 54, 26, 40, 15, 34, 20, 31, 10, 25, 14, 19, 9, 13, 8, 7, 6] : List Int).getD j 0) = ((Lib.deBruijn64tab.getD j 0 : Nat) : Int) := by
  decide +kernel
theorem tab_same (j : Nat) (hj : j < 64) : some (Value.int .u8 (([0, 1, 56, 2, 57, 49, 28, 3, 61, 58, 42, 50, 38, 29, 17, 4, 62, 47, 59, 36, 45, 43, 51, 22, 53, 39, 33, 30, 24, 18, 12, 5, 63, 55, 48, 27, 60, 41, 37, 16, 46, 35, 44, 21, 52, 32, 23, 11, 54, 26, 40, 15, 34, 20, 31, 10, 25, 14, 19, 9, 13, 8, 7, 6] : List Int).getD j 0)) = some (Value.int .u8 (Lib.deBruijn64tab.getD j 0 : Nat)) := by
  rw [tab_num j hj]
end Go.Proofs.YtknhncpmijgdfaaDoor
