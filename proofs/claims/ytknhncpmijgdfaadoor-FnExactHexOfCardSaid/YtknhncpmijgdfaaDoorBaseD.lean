/- Small facts of the loaded program that every row's proof of this seat uses. No condition. -/
import Derived.Test.YtknhncpmijgdfaaDoorRows
import Derived.ProofKit
namespace Go.Proofs.YtknhncpmijgdfaaDoor
theorem Tryd.own : ownKnob Tryd.prog.godebug = none := by kernel_rfl
end Go.Proofs.YtknhncpmijgdfaaDoor
