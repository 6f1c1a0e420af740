/- Closed facts of the program, each by itself. -/
import Derived.Test.YtpaiiaajbojmnaaGreatRows
import Derived.WalkKit
import Derived.ProofKit
import Derived.OpenShut
namespace Go.Proofs.YtpaiiaajbojmnaaGreat.facts
open Go.RowKit Go.Proofs.YtpaiiaajbojmnaaGreat

theorem laid : (laidOutB Tryz.pinned.checked.prog) = true := by kernel_rfl
theorem rowed : (mapsRowed Tryz.pinned.checked.prog) = true := by kernel_rfl
theorem stops : (Tryz.pinned.checked.prog.stops == []) = true := by kernel_rfl
theorem knobs : (Tryz.pinned.checked.prog.stopKnobs == []) = true := by kernel_rfl
theorem keys : (Rows.fnColorsFinerRow.plainKeys == Tryz.pinned.checked.prog.plainKeys) = true := by kernel_rfl
theorem heard : (Tryz.pinned.checked.prog.stopsHeard) = true := by kernel_rfl
theorem enter : (Tryz.pinned.checked.prog.mayEnter) = true := by kernel_rfl
theorem lifts : (Rows.fnColorsFinerRow.lifted == Tryz.pinned.checked.prog.liftsFinal) = true := by kernel_rfl
theorem make : (Tryz.pinned.checked.prog.make == some Rows.fnColorsFinerRow.make) = true := by kernel_rfl
theorem own : ownKnob Tryz.prog.godebug = none := by kernel_rfl
theorem laidOut : laidOutB Tryz.prog = true := laid
end Go.Proofs.YtpaiiaajbojmnaaGreat.facts
