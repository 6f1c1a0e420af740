/- The statement of laws.FnExactComposeMatchings: for every input the call returns true and the arguments read as before. -/
import Derived.Test.YtadfjndjmfnmgaaCompWalk
import Derived.Test.YtadfjndjmfnmgaaFacts
import Derived.WalkKit
import Derived.ProofKit
import Derived.OpenShut
import Derived.ShutString
import Derived.ChangeOld
import Derived.Below
namespace Go.Proofs.Ytadfjndjmfnmgaa.fnExactComposeMatchings
open Go.ChangeShapes Go.WideShapes Go.ChangeAt Go.RowKit Go.Proofs.Ytadfjndjmfnmgaa
open Go.ChangeMaps (open_string shut_string)
set_option linter.unusedVariables false

theorem own : ownKnob Try.prog.godebug = none := facts.own
theorem laidOut : laidOutB Try.prog = true := facts.laidOut

set_option maxRecDepth 100000 in
theorem lifted (os : Os) (started : os.Started) (H : Type) (enc : TypeId × Value → H) :
    ReturnsInHanded {} Try.checked os 8 .any (Rows.fnExactComposeMatchingsSpec.pre6 enc Try.prog Try.f8 Rows.fnExactComposeMatchingsRow.domain false) (Rows.fnExactComposeMatchingsSpec.post enc Try.prog Try.f8 false true false false) := by
  refine returnsInHanded_of_change (C := Try.checked) own started (by kernel_rfl) Try.func8
    (ChangeSpec.witness6 (enc := enc) (C := Try.checked) false ⟨#[], #[.agg #[.slice none 0 0, .slice none 0 0], .agg #[.slice none 0 0, .slice none 0 0]], []⟩ 8 (by kernel_rfl) (by kernel_rfl) (by kernel_rfl) (by kernel_rfl)) ?_
  intro W base args ds gs before hval0 hW hcnd _
  have hval : ∀ (j : Nat) t v, Try.f8.params[j]? = some t → args[j]? = some v → Value.okWide Try.prog W .any base t v := hval0
  have hW' := hW
  obtain ⟨p, q, hA0, hV, rfl, hfz, hnd⟩ := hW
  have hA : DataW.TrodAll enc Try.prog W 0 (fun _ => true) true Try.f8.params.toList args.toList ds p := hA0
  rw [Try.params8] at hA hval
  obtain ⟨v0, vs0, d0, ds0, p0, q0, hargs, rfl, rfl, h0, r0⟩ := trodAll_cons hA
  obtain ⟨v1, vs1, d1, ds1, p1, q1, rfl, rfl, rfl, h1, r1⟩ := trodAll_cons r0
  obtain ⟨rfl, rfl, rfl⟩ := trodAll_nil r1
  obtain rfl : args = #[v0, v1] := by cases args; simp_all
  obtain ⟨rfl, rfl⟩ := trodVars_none hV
  have k0 := h0
  have lt0 : ∀ x ∈ p0, x.block < W.heap.size := by obtain ⟨m, hm⟩ := k0; exact DataW.trod_lt m _ _ _ hm
  have k1 := h1
  have lt1 : ∀ x ∈ p1, x.block < W.heap.size := by obtain ⟨m, hm⟩ := k1; exact DataW.trod_lt m _ _ _ hm
  have ok0 : Value.okWide Try.prog W .any base 54 v0 := hval 0 54 v0 rfl rfl
  obtain ⟨x, w0⟩ := opened_Ma ok0 k0
  have ok1 : Value.okWide Try.prog W .any base 54 v1 := hval 1 54 v1 rfl rfl
  obtain ⟨z, w1⟩ := opened_Ma ok1 k1
  clear hA0 hval0 hval hcnd
  refine (walk v0 v1 W x w0 z w1).mono fun e W' ⟨he, bel⟩ => ?_
  subst he
  exact ⟨_, rfl, _, _, _, [], _, [], hW', trodAll_mk1 (shut_bool Try.underlying4 _), (trodAll_cons_mk (Below.trod laidOut (by kernel_rfl) (of_decide_eq_true (by kernel_rfl)) k0 bel lt0) (trodAll_cons_mk (Below.trod laidOut (by kernel_rfl) (of_decide_eq_true (by kernel_rfl)) k1 bel lt1) trodAll_mk0)), rfl, bel.frame _, fun h => by cases h⟩

theorem andT {a b : Bool} (ha : a = true) (hb : b = true) : (a && b) = true := by rw [ha, hb]; rfl
theorem j00 : (Rows.fnExactComposeMatchingsRow.wf (OpenSpec.ofChange Rows.fnExactComposeMatchingsSpec)) = true := by kernel_rfl
theorem j03 : (Try.f8.params.all (Try.pinned.checked.prog.readableRec ·)) = true := by kernel_rfl
theorem j04 : (namedTie Try.pinned.checked.prog Rows.fnExactComposeMatchingsRow.named Rows.fnExactComposeMatchingsSpec.vars) = true := by kernel_rfl
theorem j05 : ((Rows.fnExactComposeMatchingsRow.stops == [])) = true := by kernel_rfl
theorem j07 : ((Rows.fnExactComposeMatchingsRow.knobs == [])) = true := by kernel_rfl
theorem j09 : ((Rows.fnExactComposeMatchingsRow.inPlace == Try.pinned.checked.prog.inPlace 8)) = true := by kernel_rfl
theorem j10 : ((Rows.fnExactComposeMatchingsRow.unfollowed == Try.pinned.checked.prog.unfollowed 8)) = true := by kernel_rfl
theorem j11 : ((Rows.fnExactComposeMatchingsRow.recurses == Try.pinned.checked.prog.recurses 8)) = true := by kernel_rfl
theorem j12 : ((Rows.fnExactComposeMatchingsRow.named == Try.pinned.checked.prog.varsNamed 8)) = true := by kernel_rfl
theorem j13 : ((Rows.fnExactComposeMatchingsRow.maps == (Try.f8.params.toList ++ Rows.fnExactComposeMatchingsSpec.plain.varTypes Try.pinned.checked.prog).any (Try.pinned.checked.prog.mapsRec ·))) = true := by kernel_rfl
theorem j14 : ((Rows.fnExactComposeMatchingsRow.ifaces == (Try.f8.params.toList ++ Rows.fnExactComposeMatchingsSpec.plain.varTypes Try.pinned.checked.prog).any (Try.pinned.checked.prog.ifacesRec ·))) = true := by kernel_rfl
theorem j15 : ((Rows.fnExactComposeMatchingsRow.mapsOut == Try.pinned.checked.prog.mapsAmong Try.f8.resultTypes.toList)) = true := by kernel_rfl
theorem j16 : ((Rows.fnExactComposeMatchingsRow.loops == (Try.f8.params.toList ++ Rows.fnExactComposeMatchingsSpec.plain.varTypes Try.pinned.checked.prog).any (Try.pinned.checked.prog.loopsFrom ·))) = true := by kernel_rfl
theorem j17 : ((Rows.fnExactComposeMatchingsRow.wideKeys == (Try.f8.params.toList ++ Rows.fnExactComposeMatchingsSpec.plain.varTypes Try.pinned.checked.prog ++ Try.f8.resultTypes.toList).any (Try.pinned.checked.prog.wideKeysFrom ·))) = true := by kernel_rfl
theorem j18 : (Rows.fnExactComposeMatchingsSpec.vars.all (Try.pinned.checked.prog.varReadable ·)) = true := by kernel_rfl
theorem j19 : (Try.f8.resultTypes.all (fun t => Try.pinned.checked.prog.readableRec t && decide (t < Try.pinned.checked.prog.types.size))) = true := by kernel_rfl
theorem j20 : ((Rows.fnExactComposeMatchingsRow.ifacesOut == Try.f8.resultTypes.toList.any (Try.pinned.checked.prog.ifacesRec ·))) = true := by kernel_rfl
theorem j21 : ((Rows.fnExactComposeMatchingsRow.loopsOut == Try.f8.resultTypes.toList.any (Try.pinned.checked.prog.loopsFrom ·))) = true := by kernel_rfl
theorem j23 : (Rows.fnExactComposeMatchingsRow.shortTexts.isNone) = true := by kernel_rfl
theorem j29 : ((Rows.fnExactComposeMatchingsRow.pinned == Rows.fnExactComposeMatchingsRow.pinnedBy)) = true := by kernel_rfl
theorem j30 : ((Rows.fnExactComposeMatchingsRow.veiled == (Try.f8.params.toList ++ Rows.fnExactComposeMatchingsSpec.plain.varTypes Try.pinned.checked.prog ++ Try.f8.resultTypes.toList).any (Try.pinned.checked.prog.veiledRec ·))) = true := by kernel_rfl
theorem j31 : (Rows.fnExactComposeMatchingsRow.veiledFits Try.pinned.checked.prog Try.f8.params.toList (Try.f8.params.toList ++ Rows.fnExactComposeMatchingsSpec.plain.varTypes Try.pinned.checked.prog ++ Try.f8.resultTypes.toList)) = true := by kernel_rfl
theorem closed : joinedFacts Try.pinned.checked.prog 8 Try.f8 Rows.fnExactComposeMatchingsSpec Rows.fnExactComposeMatchingsRow = true := by unfold joinedFacts; exact (andT (andT (andT (andT (andT (andT (andT (andT (andT (andT (andT (andT (andT (andT (andT (andT (andT (andT (andT (andT (andT (andT (andT (andT (andT (andT (andT (andT (andT (andT (andT j00 facts.laid) facts.rowed) j03) j04) j05) facts.stops) j07) facts.knobs) j09) j10) j11) j12) j13) j14) j15) j16) j17) j18) j19) j20) j21) facts.keys) j23) facts.heard) facts.enter) facts.lifts) facts.make) (by kernel_rfl)) j29) j30) j31)
theorem inst : Try.f8.isInstance Try.pinned.checked.prog Rows.fnExactComposeMatchingsRow.origin Rows.fnExactComposeMatchingsRow.targs := of_decide_eq_true (by kernel_rfl)
theorem wrap : Try.f8.isWrapper Try.pinned.checked.prog Rows.fnExactComposeMatchingsRow.wrapper Rows.fnExactComposeMatchingsRow.mainSum := by unfold Func.isWrapper; first | (rw [if_pos (by decide +kernel)]; kernel_rfl) | (rw [if_neg (by decide +kernel)]; exact ⟨rfl, rfl⟩)
theorem over : Rows.fnExactComposeMatchingsRow.holds Try.pinned (OpenSpec.ofChange Rows.fnExactComposeMatchingsSpec) :=
  OpenClaim.holds_of_wide 8 Try.f8 rfl rfl rfl rfl rfl rfl rfl ⟨rfl, rfl, rfl, rfl, rfl⟩ rfl rfl rfl rfl rfl (by kernel_rfl) Try.func8 closed inst wrap
    (fun os started H enc _ => lifted os started H enc)

/-- The statement. -/
theorem proved : Rows.FnExactComposeMatchingsSaid := over
#print axioms proved
end Go.Proofs.Ytadfjndjmfnmgaa.fnExactComposeMatchings
