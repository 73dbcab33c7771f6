/- Small facts of the loaded program that every row's proof of this seat uses. No condition. -/
import Derived.Test.YtknhncpmijgdfaaRows
import Derived.ProofKit
namespace Go.Proofs.Ytknhncpmijgdfaa
theorem Try.own : ownKnob Try.prog.godebug = none := by kernel_rfl
end Go.Proofs.Ytknhncpmijgdfaa
