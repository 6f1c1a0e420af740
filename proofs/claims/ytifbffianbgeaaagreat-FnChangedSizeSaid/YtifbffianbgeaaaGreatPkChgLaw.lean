/- The statement of laws.FnChangedSize: for every input the call returns true and the arguments read as before. -/
import Derived.Test.YtifbffianbgeaaaGreatPkChgLaw16
import Derived.WalkKit
import Derived.ProofKit
import Derived.OpenShut
import Derived.ShutString
import Derived.ChangeOld
import Derived.Below

namespace Go.Proofs.YtifbffianbgeaaaGreat.fnChangedSize
open Go.ChangeShapes Go.WideShapes Go.ChangeAt Go.RowKit Go.Proofs.YtifbffianbgeaaaGreat
open Go.ChangeMaps (open_string shut_string)
set_option linter.unusedVariables false

theorem own : ownKnob Tryz.prog.godebug = none := facts.own
theorem laidOut : laidOutB Tryz.prog = true := facts.laidOut

set_option maxRecDepth 100000 in
theorem lifted (os : Os) (started : os.Started) (H : Type) (enc : TypeId × Value → H) :
    ReturnsInHanded {} Tryz.checked os 8 .any (Rows.fnChangedSizeSpec.pre6 enc Tryz.prog Tryz.f8 Rows.fnChangedSizeRow.domain false) (Rows.fnChangedSizeSpec.post enc Tryz.prog Tryz.f8 false true false false) := by
  refine returnsInHanded_of_change (C := Tryz.checked) own started (by kernel_rfl) Tryz.func8
    (ChangeSpec.witness6 (enc := enc) (C := Tryz.checked) false ⟨#[], #[.slice none 0 0], []⟩ 8 (by kernel_rfl) (by kernel_rfl) (by kernel_rfl) (by kernel_rfl)) ?_
  intro W base args ds gs before hval0 hW hcnd _
  have hval : ∀ (j : Nat) t v, Tryz.f8.params[j]? = some t → args[j]? = some v → Value.okWide Tryz.prog W .any base t v := hval0
  have hW' := hW
  obtain ⟨p, q, hA0, hV, rfl, hfz, hnd⟩ := hW
  have hA : DataW.TrodAll enc Tryz.prog W 0 (fun _ => true) true Tryz.f8.params.toList args.toList ds p := hA0
  rw [Tryz.params8] at hA hval
  obtain ⟨v0, vs0, d0, ds0, p0, q0, hargs, rfl, rfl, h0, r0⟩ := trodAll_cons hA
  obtain ⟨rfl, rfl, rfl⟩ := trodAll_nil r0
  obtain rfl : args = #[v0] := by cases args; simp_all
  obtain ⟨rfl, rfl⟩ := trodVars_none hV
  have k0 := h0
  have lt0 : ∀ x ∈ p0, x.block < W.heap.size := by obtain ⟨m, hm⟩ := k0; exact DataW.trod_lt m _ _ _ hm
  have ok0 : Value.okWide Tryz.prog W .any base 49 v0 := hval 0 49 v0 rfl rfl
  obtain ⟨n, w0⟩ := opened_bytes ok0 k0
  clear hA0 hval0 hval hcnd
  refine (walk v0 W n w0).mono fun e W' ⟨he, bel⟩ => ?_
  subst he
  exact ⟨_, rfl, _, _, _, [], _, [], hW', trodAll_mk1 (shut_bool Tryz.underlying4 _), (trodAll_cons_mk (Below.trod laidOut (by kernel_rfl) (of_decide_eq_true (by kernel_rfl)) k0 bel lt0) trodAll_mk0), rfl, bel.frame _, fun h => by cases h⟩

theorem andT {a b : Bool} (ha : a = true) (hb : b = true) : (a && b) = true := by rw [ha, hb]; rfl
theorem j00 : (Rows.fnChangedSizeRow.wf (OpenSpec.ofChange Rows.fnChangedSizeSpec)) = true := by kernel_rfl
theorem j03 : (Tryz.f8.params.all (Tryz.pinned.checked.prog.readableRec ·)) = true := by kernel_rfl
theorem j04 : (namedTie Tryz.pinned.checked.prog Rows.fnChangedSizeRow.named Rows.fnChangedSizeSpec.vars) = true := by kernel_rfl
theorem j05 : ((Rows.fnChangedSizeRow.stops == [])) = true := by kernel_rfl
theorem j07 : ((Rows.fnChangedSizeRow.knobs == [])) = true := by kernel_rfl
theorem j09 : ((Rows.fnChangedSizeRow.inPlace == Tryz.pinned.checked.prog.inPlace 8)) = true := by kernel_rfl
theorem j10 : ((Rows.fnChangedSizeRow.unfollowed == Tryz.pinned.checked.prog.unfollowed 8)) = true := by kernel_rfl
theorem j11 : ((Rows.fnChangedSizeRow.recurses == Tryz.pinned.checked.prog.recurses 8)) = true := by kernel_rfl
theorem j12 : ((Rows.fnChangedSizeRow.named == Tryz.pinned.checked.prog.varsNamed 8)) = true := by kernel_rfl
theorem j13 : ((Rows.fnChangedSizeRow.maps == (Tryz.f8.params.toList ++ Rows.fnChangedSizeSpec.plain.varTypes Tryz.pinned.checked.prog).any (Tryz.pinned.checked.prog.mapsRec ·))) = true := by kernel_rfl
theorem j14 : ((Rows.fnChangedSizeRow.ifaces == (Tryz.f8.params.toList ++ Rows.fnChangedSizeSpec.plain.varTypes Tryz.pinned.checked.prog).any (Tryz.pinned.checked.prog.ifacesRec ·))) = true := by kernel_rfl
theorem j15 : ((Rows.fnChangedSizeRow.mapsOut == Tryz.pinned.checked.prog.mapsAmong Tryz.f8.resultTypes.toList)) = true := by kernel_rfl
theorem j16 : ((Rows.fnChangedSizeRow.loops == (Tryz.f8.params.toList ++ Rows.fnChangedSizeSpec.plain.varTypes Tryz.pinned.checked.prog).any (Tryz.pinned.checked.prog.loopsFrom ·))) = true := by kernel_rfl
theorem j17 : ((Rows.fnChangedSizeRow.wideKeys == (Tryz.f8.params.toList ++ Rows.fnChangedSizeSpec.plain.varTypes Tryz.pinned.checked.prog ++ Tryz.f8.resultTypes.toList).any (Tryz.pinned.checked.prog.wideKeysFrom ·))) = true := by kernel_rfl
theorem j18 : (Rows.fnChangedSizeSpec.vars.all (Tryz.pinned.checked.prog.varReadable ·)) = true := by kernel_rfl
theorem j19 : (Tryz.f8.resultTypes.all (fun t => Tryz.pinned.checked.prog.readableRec t && decide (t < Tryz.pinned.checked.prog.types.size))) = true := by kernel_rfl
theorem j20 : ((Rows.fnChangedSizeRow.ifacesOut == Tryz.f8.resultTypes.toList.any (Tryz.pinned.checked.prog.ifacesRec ·))) = true := by kernel_rfl
theorem j21 : ((Rows.fnChangedSizeRow.loopsOut == Tryz.f8.resultTypes.toList.any (Tryz.pinned.checked.prog.loopsFrom ·))) = true := by kernel_rfl
theorem j23 : (Rows.fnChangedSizeRow.shortTexts.isNone) = true := by kernel_rfl
theorem j29 : ((Rows.fnChangedSizeRow.pinned == Rows.fnChangedSizeRow.pinnedBy)) = true := by kernel_rfl
theorem j30 : ((Rows.fnChangedSizeRow.veiled == (Tryz.f8.params.toList ++ Rows.fnChangedSizeSpec.plain.varTypes Tryz.pinned.checked.prog ++ Tryz.f8.resultTypes.toList).any (Tryz.pinned.checked.prog.veiledRec ·))) = true := by kernel_rfl
theorem j31 : (Rows.fnChangedSizeRow.veiledFits Tryz.pinned.checked.prog Tryz.f8.params.toList (Tryz.f8.params.toList ++ Rows.fnChangedSizeSpec.plain.varTypes Tryz.pinned.checked.prog ++ Tryz.f8.resultTypes.toList)) = true := by kernel_rfl
theorem closed : joinedFacts Tryz.pinned.checked.prog 8 Tryz.f8 Rows.fnChangedSizeSpec Rows.fnChangedSizeRow = true := by unfold joinedFacts; exact (andT (andT (andT (andT (andT (andT (andT (andT (andT (andT (andT (andT (andT (andT (andT (andT (andT (andT (andT (andT (andT (andT (andT (andT (andT (andT (andT (andT (andT (andT (andT j00 facts.laid) facts.rowed) j03) j04) j05) facts.stops) j07) facts.knobs) j09) j10) j11) j12) j13) j14) j15) j16) j17) j18) j19) j20) j21) facts.keys) j23) facts.heard) facts.enter) facts.lifts) facts.make) (by kernel_rfl)) j29) j30) j31)
theorem inst : Tryz.f8.isInstance Tryz.pinned.checked.prog Rows.fnChangedSizeRow.origin Rows.fnChangedSizeRow.targs := of_decide_eq_true (by kernel_rfl)
theorem wrap : Tryz.f8.isWrapper Tryz.pinned.checked.prog Rows.fnChangedSizeRow.wrapper Rows.fnChangedSizeRow.mainSum := by unfold Func.isWrapper; first | (rw [if_pos (by decide +kernel)]; kernel_rfl) | (rw [if_neg (by decide +kernel)]; exact ⟨rfl, rfl⟩)
theorem over : Rows.fnChangedSizeRow.holds Tryz.pinned (OpenSpec.ofChange Rows.fnChangedSizeSpec) :=
  OpenClaim.holds_of_wide 8 Tryz.f8 rfl rfl rfl rfl rfl rfl rfl ⟨rfl, rfl, rfl, rfl, rfl⟩ rfl rfl rfl rfl rfl (by kernel_rfl) Tryz.func8 closed inst wrap
    (fun os started H enc _ => lifted os started H enc)

theorem proved : Rows.FnChangedSizeSaid := over
#print axioms proved
end Go.Proofs.YtifbffianbgeaaaGreat.fnChangedSize
