/- Closed facts of the program, each by itself. -/
import Derived.Test.YtjolkdckhmmenaaRows
import Derived.WalkKit
import Derived.ProofKit
import Derived.OpenShut
namespace Go.Proofs.Ytjolkdckhmmenaa.facts
open Go.RowKit Go.Proofs.Ytjolkdckhmmenaa

theorem laid : (laidOutB Try.pinned.checked.prog) = true := by kernel_rfl
theorem rowed : (mapsRowed Try.pinned.checked.prog) = true := by kernel_rfl
theorem stops : (Try.pinned.checked.prog.stops == []) = true := by kernel_rfl
theorem knobs : (Try.pinned.checked.prog.stopKnobs == []) = true := by kernel_rfl
theorem keys : (Rows.fnResistanceRow.plainKeys == Try.pinned.checked.prog.plainKeys) = true := by kernel_rfl
theorem heard : (Try.pinned.checked.prog.stopsHeard) = true := by kernel_rfl
theorem enter : (Try.pinned.checked.prog.mayEnter) = true := by kernel_rfl
theorem lifts : (Rows.fnResistanceRow.lifted == Try.pinned.checked.prog.liftsFinal) = true := by kernel_rfl
theorem make : (Try.pinned.checked.prog.make == some Rows.fnResistanceRow.make) = true := by kernel_rfl
theorem own : ownKnob Try.prog.godebug = none := by kernel_rfl
theorem laidOut : laidOutB Try.prog = true := laid
end Go.Proofs.Ytjolkdckhmmenaa.facts
