/- The statement of laws.FnExactResistorCurrents: for every input the call returns true and the arguments read as before. -/
import Derived.Test.YtljlcjficjefdaaCurWalk
import Derived.Test.YtljlcjficjefdaaFacts
import Derived.WalkKit
import Derived.ProofKit
import Derived.OpenShut
import Derived.ShutString
import Derived.ChangeOld
import Derived.Below
namespace Go.Proofs.Ytljlcjficjefdaa.fnExactResistorCurrents
open Go.ChangeShapes Go.WideShapes Go.ChangeAt Go.RowKit Go.Proofs.Ytljlcjficjefdaa
open Go.ChangeMaps (open_string shut_string)
set_option linter.unusedVariables false

theorem own : ownKnob Try.prog.godebug = none := facts.own
theorem laidOut : laidOutB Try.prog = true := facts.laidOut

set_option maxRecDepth 100000 in
theorem lifted (os : Os) (started : os.Started) (H : Type) (enc : TypeId × Value → H) :
    ReturnsInHanded {} Try.checked os 5 .any (Rows.fnExactResistorCurrentsSpec.pre6 enc Try.prog Try.f5 Rows.fnExactResistorCurrentsRow.domain false) (Rows.fnExactResistorCurrentsSpec.post enc Try.prog Try.f5 false true false false) := by
  refine returnsInHanded_of_change (C := Try.checked) own started (by kernel_rfl) Try.func5
    (ChangeSpec.witness6 (enc := enc) (C := Try.checked) false ⟨#[], #[.agg #[.int .i64 0, .slice none 0 0], .int .i64 0, .int .i64 0], []⟩ 8 (by kernel_rfl) (by kernel_rfl) (by kernel_rfl) (by kernel_rfl)) ?_
  intro W base args ds gs before hval0 hW hcnd _
  have hval : ∀ (j : Nat) t v, Try.f5.params[j]? = some t → args[j]? = some v → Value.okWide Try.prog W .any base t v := hval0
  have hW' := hW
  obtain ⟨p, q, hA0, hV, rfl, hfz, hnd⟩ := hW
  have hA : DataW.TrodAll enc Try.prog W 0 (fun _ => true) true Try.f5.params.toList args.toList ds p := hA0
  rw [Try.params5] at hA hval
  obtain ⟨v0, vs0, d0, ds0, p0, q0, hargs, rfl, rfl, h0, r0⟩ := trodAll_cons hA
  obtain ⟨v1, vs1, d1, ds1, p1, q1, rfl, rfl, rfl, h1, r1⟩ := trodAll_cons r0
  obtain ⟨v2, vs2, d2, ds2, p2, q2, rfl, rfl, rfl, h2, r2⟩ := trodAll_cons r1
  obtain ⟨rfl, rfl, rfl⟩ := trodAll_nil r2
  obtain rfl : args = #[v0, v1, v2] := by cases args; simp_all
  obtain ⟨rfl, rfl⟩ := trodVars_none hV
  have k0 := h0
  have lt0 : ∀ x ∈ p0, x.block < W.heap.size := by obtain ⟨m, hm⟩ := k0; exact DataW.trod_lt m _ _ _ hm
  have k1 := h1
  have lt1 : ∀ x ∈ p1, x.block < W.heap.size := by obtain ⟨m, hm⟩ := k1; exact DataW.trod_lt m _ _ _ hm
  have k2 := h2
  have lt2 : ∀ x ∈ p2, x.block < W.heap.size := by obtain ⟨m, hm⟩ := k2; exact DataW.trod_lt m _ _ _ hm
  have ok0 : Value.okWide Try.prog W .any base 24 v0 := hval 0 24 v0 rfl rfl
  obtain ⟨x, w0⟩ := opened_nw ok0 k0
  have ok1 : Value.okWide Try.prog W .any base 2 v1 := hval 1 2 v1 rfl rfl
  obtain ⟨a, w1⟩ := opened_int Try.underlying2 ok1 k1
  have ok2 : Value.okWide Try.prog W .any base 2 v2 := hval 2 2 v2 rfl rfl
  obtain ⟨b, w2⟩ := opened_int Try.underlying2 ok2 k2
  clear hA0 hval0 hval hcnd
  refine (walk v0 v1 v2 W x w0 a w1 b w2).mono fun e W' ⟨he, bel⟩ => ?_
  subst he
  exact ⟨_, rfl, _, _, _, [], _, [], hW', trodAll_mk1 (shut_bool Try.underlying4 _), (trodAll_cons_mk (Below.trod laidOut (by kernel_rfl) (of_decide_eq_true (by kernel_rfl)) k0 bel lt0) (trodAll_cons_mk (Below.trod laidOut (by kernel_rfl) (of_decide_eq_true (by kernel_rfl)) k1 bel lt1) (trodAll_cons_mk (Below.trod laidOut (by kernel_rfl) (of_decide_eq_true (by kernel_rfl)) k2 bel lt2) trodAll_mk0))), rfl, bel.frame _, fun h => by cases h⟩

theorem andT {a b : Bool} (ha : a = true) (hb : b = true) : (a && b) = true := by rw [ha, hb]; rfl
theorem j00 : (Rows.fnExactResistorCurrentsRow.wf (OpenSpec.ofChange Rows.fnExactResistorCurrentsSpec)) = true := by kernel_rfl
theorem j03 : (Try.f5.params.all (Try.pinned.checked.prog.readableRec ·)) = true := by kernel_rfl
theorem j04 : (namedTie Try.pinned.checked.prog Rows.fnExactResistorCurrentsRow.named Rows.fnExactResistorCurrentsSpec.vars) = true := by kernel_rfl
theorem j05 : ((Rows.fnExactResistorCurrentsRow.stops == [])) = true := by kernel_rfl
theorem j07 : ((Rows.fnExactResistorCurrentsRow.knobs == [])) = true := by kernel_rfl
theorem j09 : ((Rows.fnExactResistorCurrentsRow.inPlace == Try.pinned.checked.prog.inPlace 5)) = true := by kernel_rfl
theorem j10 : ((Rows.fnExactResistorCurrentsRow.unfollowed == Try.pinned.checked.prog.unfollowed 5)) = true := by kernel_rfl
theorem j11 : ((Rows.fnExactResistorCurrentsRow.recurses == Try.pinned.checked.prog.recurses 5)) = true := by kernel_rfl
theorem j12 : ((Rows.fnExactResistorCurrentsRow.named == Try.pinned.checked.prog.varsNamed 5)) = true := by kernel_rfl
theorem j13 : ((Rows.fnExactResistorCurrentsRow.maps == (Try.f5.params.toList ++ Rows.fnExactResistorCurrentsSpec.plain.varTypes Try.pinned.checked.prog).any (Try.pinned.checked.prog.mapsRec ·))) = true := by kernel_rfl
theorem j14 : ((Rows.fnExactResistorCurrentsRow.ifaces == (Try.f5.params.toList ++ Rows.fnExactResistorCurrentsSpec.plain.varTypes Try.pinned.checked.prog).any (Try.pinned.checked.prog.ifacesRec ·))) = true := by kernel_rfl
theorem j15 : ((Rows.fnExactResistorCurrentsRow.mapsOut == Try.pinned.checked.prog.mapsAmong Try.f5.resultTypes.toList)) = true := by kernel_rfl
theorem j16 : ((Rows.fnExactResistorCurrentsRow.loops == (Try.f5.params.toList ++ Rows.fnExactResistorCurrentsSpec.plain.varTypes Try.pinned.checked.prog).any (Try.pinned.checked.prog.loopsFrom ·))) = true := by kernel_rfl
theorem j17 : ((Rows.fnExactResistorCurrentsRow.wideKeys == (Try.f5.params.toList ++ Rows.fnExactResistorCurrentsSpec.plain.varTypes Try.pinned.checked.prog ++ Try.f5.resultTypes.toList).any (Try.pinned.checked.prog.wideKeysFrom ·))) = true := by kernel_rfl
theorem j18 : (Rows.fnExactResistorCurrentsSpec.vars.all (Try.pinned.checked.prog.varReadable ·)) = true := by kernel_rfl
theorem j19 : (Try.f5.resultTypes.all (fun t => Try.pinned.checked.prog.readableRec t && decide (t < Try.pinned.checked.prog.types.size))) = true := by kernel_rfl
theorem j20 : ((Rows.fnExactResistorCurrentsRow.ifacesOut == Try.f5.resultTypes.toList.any (Try.pinned.checked.prog.ifacesRec ·))) = true := by kernel_rfl
theorem j21 : ((Rows.fnExactResistorCurrentsRow.loopsOut == Try.f5.resultTypes.toList.any (Try.pinned.checked.prog.loopsFrom ·))) = true := by kernel_rfl
theorem j23 : (Rows.fnExactResistorCurrentsRow.shortTexts.isNone) = true := by kernel_rfl
theorem j29 : ((Rows.fnExactResistorCurrentsRow.pinned == Rows.fnExactResistorCurrentsRow.pinnedBy)) = true := by kernel_rfl
theorem j30 : ((Rows.fnExactResistorCurrentsRow.veiled == (Try.f5.params.toList ++ Rows.fnExactResistorCurrentsSpec.plain.varTypes Try.pinned.checked.prog ++ Try.f5.resultTypes.toList).any (Try.pinned.checked.prog.veiledRec ·))) = true := by kernel_rfl
theorem j31 : (Rows.fnExactResistorCurrentsRow.veiledFits Try.pinned.checked.prog Try.f5.params.toList (Try.f5.params.toList ++ Rows.fnExactResistorCurrentsSpec.plain.varTypes Try.pinned.checked.prog ++ Try.f5.resultTypes.toList)) = true := by kernel_rfl
theorem closed : joinedFacts Try.pinned.checked.prog 5 Try.f5 Rows.fnExactResistorCurrentsSpec Rows.fnExactResistorCurrentsRow = true := by unfold joinedFacts; exact (andT (andT (andT (andT (andT (andT (andT (andT (andT (andT (andT (andT (andT (andT (andT (andT (andT (andT (andT (andT (andT (andT (andT (andT (andT (andT (andT (andT (andT (andT (andT j00 facts.laid) facts.rowed) j03) j04) j05) facts.stops) j07) facts.knobs) j09) j10) j11) j12) j13) j14) j15) j16) j17) j18) j19) j20) j21) facts.keys) j23) facts.heard) facts.enter) facts.lifts) facts.make) (by kernel_rfl)) j29) j30) j31)
theorem inst : Try.f5.isInstance Try.pinned.checked.prog Rows.fnExactResistorCurrentsRow.origin Rows.fnExactResistorCurrentsRow.targs := of_decide_eq_true (by kernel_rfl)
theorem wrap : Try.f5.isWrapper Try.pinned.checked.prog Rows.fnExactResistorCurrentsRow.wrapper Rows.fnExactResistorCurrentsRow.mainSum := by unfold Func.isWrapper; first | (rw [if_pos (by decide +kernel)]; kernel_rfl) | (rw [if_neg (by decide +kernel)]; exact ⟨rfl, rfl⟩)
theorem over : Rows.fnExactResistorCurrentsRow.holds Try.pinned (OpenSpec.ofChange Rows.fnExactResistorCurrentsSpec) :=
  OpenClaim.holds_of_wide 5 Try.f5 rfl rfl rfl rfl rfl rfl rfl ⟨rfl, rfl, rfl, rfl, rfl⟩ rfl rfl rfl rfl rfl (by kernel_rfl) Try.func5 closed inst wrap
    (fun os started H enc _ => lifted os started H enc)

/-- The statement. -/
theorem proved : Rows.FnExactResistorCurrentsSaid := over
#print axioms proved
end Go.Proofs.Ytljlcjficjefdaa.fnExactResistorCurrents
