/- What the rows' lifts take. -/
import Derived.Test.YtmgiaedfonaefaaSlabAwake
import Derived.Test.YtmgiaedfonaefaaOpen
import Derived.ShutString
import Derived.ChangeOld
namespace Go.Proofs.Ytmgiaedfonaefaa

theorem own : ownKnob Try.prog.godebug = none := by kernel_rfl
theorem laidOut : laidOutB Try.prog = true := by kernel_rfl
end Go.Proofs.Ytmgiaedfonaefaa
