/- Closed facts of the program, each by itself. -/
import Derived.Test.YtglddnkpccgchaaDoorRows
import Derived.WalkKit
import Derived.ProofKit
import Derived.OpenShut
namespace Go.Proofs.YtglddnkpccgchaaDoor.facts
open Go.RowKit Go.Proofs.YtglddnkpccgchaaDoor

theorem laid : (laidOutB Tryd.pinned.checked.prog) = true := by kernel_rfl
theorem rowed : (mapsRowed Tryd.pinned.checked.prog) = true := by kernel_rfl
theorem stops : (Tryd.pinned.checked.prog.stops == []) = true := by kernel_rfl
theorem knobs : (Tryd.pinned.checked.prog.stopKnobs == []) = true := by kernel_rfl
theorem keys : (Rows.fnNetlistTextRow.plainKeys == Tryd.pinned.checked.prog.plainKeys) = true := by kernel_rfl
theorem heard : (Tryd.pinned.checked.prog.stopsHeard) = true := by kernel_rfl
theorem enter : (Tryd.pinned.checked.prog.mayEnter) = true := by kernel_rfl
theorem lifts : (Rows.fnNetlistTextRow.lifted == Tryd.pinned.checked.prog.liftsFinal) = true := by kernel_rfl
theorem make : (Tryd.pinned.checked.prog.make == some Rows.fnNetlistTextRow.make) = true := by kernel_rfl
theorem own : ownKnob Tryd.prog.godebug = none := by kernel_rfl
theorem laidOut : laidOutB Tryd.prog = true := laid
end Go.Proofs.YtglddnkpccgchaaDoor.facts
