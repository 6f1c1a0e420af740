/- The statement of laws.FnExactMergePair: for every input the call returns true and the arguments read as before. -/
import Derived.Test.YtnchhdhlhlcejaaMpWalk
import Derived.Test.YtnchhdhlhlcejaaFacts
import Derived.WalkKit
import Derived.ProofKit
import Derived.OpenShut
import Derived.ShutString
import Derived.ChangeOld
import Derived.Below
namespace Go.Proofs.Ytnchhdhlhlcejaa.fnExactMergePair
open Go.ChangeShapes Go.WideShapes Go.ChangeAt Go.RowKit Go.Proofs.Ytnchhdhlhlcejaa
open Go.ChangeMaps (open_string shut_string)
set_option linter.unusedVariables false

theorem own : ownKnob Try.prog.godebug = none := facts.own
theorem laidOut : laidOutB Try.prog = true := facts.laidOut

theorem andT {a b : Bool} (ha : a = true) (hb : b = true) : (a && b) = true := by rw [ha, hb]; rfl
theorem j00 : (Rows.fnExactMergePairRow.wf (OpenSpec.ofChange Rows.fnExactMergePairSpec)) = true := by kernel_rfl
theorem j03 : (Try.f4.params.all (Try.pinned.checked.prog.readableRec ·)) = true := by kernel_rfl
theorem j04 : (namedTie Try.pinned.checked.prog Rows.fnExactMergePairRow.named Rows.fnExactMergePairSpec.vars) = true := by kernel_rfl
theorem j05 : ((Rows.fnExactMergePairRow.stops == [])) = true := by kernel_rfl
theorem j07 : ((Rows.fnExactMergePairRow.knobs == [])) = true := by kernel_rfl
theorem j09 : ((Rows.fnExactMergePairRow.inPlace == Try.pinned.checked.prog.inPlace 4)) = true := by kernel_rfl
theorem j10 : ((Rows.fnExactMergePairRow.unfollowed == Try.pinned.checked.prog.unfollowed 4)) = true := by kernel_rfl
theorem j11 : ((Rows.fnExactMergePairRow.recurses == Try.pinned.checked.prog.recurses 4)) = true := by kernel_rfl
theorem j12 : ((Rows.fnExactMergePairRow.named == Try.pinned.checked.prog.varsNamed 4)) = true := by kernel_rfl
theorem j13 : ((Rows.fnExactMergePairRow.maps == (Try.f4.params.toList ++ Rows.fnExactMergePairSpec.plain.varTypes Try.pinned.checked.prog).any (Try.pinned.checked.prog.mapsRec ·))) = true := by kernel_rfl
theorem j14 : ((Rows.fnExactMergePairRow.ifaces == (Try.f4.params.toList ++ Rows.fnExactMergePairSpec.plain.varTypes Try.pinned.checked.prog).any (Try.pinned.checked.prog.ifacesRec ·))) = true := by kernel_rfl
theorem j15 : ((Rows.fnExactMergePairRow.mapsOut == Try.pinned.checked.prog.mapsAmong Try.f4.resultTypes.toList)) = true := by kernel_rfl
theorem j16 : ((Rows.fnExactMergePairRow.loops == (Try.f4.params.toList ++ Rows.fnExactMergePairSpec.plain.varTypes Try.pinned.checked.prog).any (Try.pinned.checked.prog.loopsFrom ·))) = true := by kernel_rfl
theorem j17 : ((Rows.fnExactMergePairRow.wideKeys == (Try.f4.params.toList ++ Rows.fnExactMergePairSpec.plain.varTypes Try.pinned.checked.prog ++ Try.f4.resultTypes.toList).any (Try.pinned.checked.prog.wideKeysFrom ·))) = true := by kernel_rfl
theorem j18 : (Rows.fnExactMergePairSpec.vars.all (Try.pinned.checked.prog.varReadable ·)) = true := by kernel_rfl
theorem j19 : (Try.f4.resultTypes.all (fun t => Try.pinned.checked.prog.readableRec t && decide (t < Try.pinned.checked.prog.types.size))) = true := by kernel_rfl
theorem j20 : ((Rows.fnExactMergePairRow.ifacesOut == Try.f4.resultTypes.toList.any (Try.pinned.checked.prog.ifacesRec ·))) = true := by kernel_rfl
theorem j21 : ((Rows.fnExactMergePairRow.loopsOut == Try.f4.resultTypes.toList.any (Try.pinned.checked.prog.loopsFrom ·))) = true := by kernel_rfl
theorem j23 : (Rows.fnExactMergePairRow.shortTexts.isNone) = true := by kernel_rfl
theorem j29 : ((Rows.fnExactMergePairRow.pinned == Rows.fnExactMergePairRow.pinnedBy)) = true := by kernel_rfl
theorem j30 : ((Rows.fnExactMergePairRow.veiled == (Try.f4.params.toList ++ Rows.fnExactMergePairSpec.plain.varTypes Try.pinned.checked.prog ++ Try.f4.resultTypes.toList).any (Try.pinned.checked.prog.veiledRec ·))) = true := by kernel_rfl
theorem j31 : (Rows.fnExactMergePairRow.veiledFits Try.pinned.checked.prog Try.f4.params.toList (Try.f4.params.toList ++ Rows.fnExactMergePairSpec.plain.varTypes Try.pinned.checked.prog ++ Try.f4.resultTypes.toList)) = true := by kernel_rfl
theorem closed : joinedFacts Try.pinned.checked.prog 4 Try.f4 Rows.fnExactMergePairSpec Rows.fnExactMergePairRow = true := by unfold joinedFacts; exact (andT (andT (andT (andT (andT (andT (andT (andT (andT (andT (andT (andT (andT (andT (andT (andT (andT (andT (andT (andT (andT (andT (andT (andT (andT (andT (andT (andT (andT (andT (andT j00 facts.laid) facts.rowed) j03) j04) j05) facts.stops) j07) facts.knobs) j09) j10) j11) j12) j13) j14) j15) j16) j17) j18) j19) j20) j21) facts.keys) j23) facts.heard) facts.enter) facts.lifts) facts.make) (by kernel_rfl)) j29) j30) j31)
theorem inst : Try.f4.isInstance Try.pinned.checked.prog Rows.fnExactMergePairRow.origin Rows.fnExactMergePairRow.targs := of_decide_eq_true (by kernel_rfl)
theorem wrap : Try.f4.isWrapper Try.pinned.checked.prog Rows.fnExactMergePairRow.wrapper Rows.fnExactMergePairRow.mainSum := by unfold Func.isWrapper; first | (rw [if_pos (by decide +kernel)]; kernel_rfl) | (rw [if_neg (by decide +kernel)]; exact ⟨rfl, rfl⟩)
end Go.Proofs.Ytnchhdhlhlcejaa.fnExactMergePair
