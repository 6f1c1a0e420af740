/- Taking operations of a drawn region one by one: the operation is read off the list, so that the state stays small. -/
import Derived.Test.YtglddnkpccgchaaDoorBase
namespace Go.Proofs.YtglddnkpccgchaaDoor
open Go.RowKit
section
variable {P : Program} {ops : Array Oper} {Q : Exit → Act → World → Prop} {md : Region.Mode} {S : World → Prop} {l : Nat}
theorem opsL {i : Nat} {oi : Oper} (hi : ops.toList[i]? = some oi) : ops[i]? = some oi := by rw [← Array.getElem?_toList]; exact hi
theorem wpAnyE_takeL {i : Nat} {oi : Oper} {v : Value} {fuel : Nat} {listed : Array Bool} {a : Act} {w : World} (hi : ops.toList[i]? = some oi)
    (hk : (Region.noSelect ops && Region.free md ops listed i && (Region.ready md ops listed).contains i && headB md ops l listed && Region.sinkB md ops l && Region.chainB md ops l && decide (l < ops.size) && decide (i < l)) = true)
    (hQ : ∀ c a w, Q (.panic c) (a.put oi.dst v) w → Q (.panic c) a w) (hy : YieldsIf P ops S oi v a) (hS : S w)
    (h : wpAnyE P md ops Q S l fuel (listed.setIfInBounds i true) (a.put oi.dst v) w) : wpAnyE P md ops Q S l (fuel + 1) listed a w :=
  wpAnyE_take (opsL hi) hk hQ hy hS h
theorem wpAnyE_oneL {k : Nat} {o : Oper} {fuel : Nat} {listed : Array Bool} {a : Act} {w : World} (hr : Region.ready md ops listed = [k]) (ho : ops.toList[k]? = some o)
    (h : ∀ K' : Act → World → Prop, Shut (∀ a w, (k ≠ l → S w) → wpAnyE P md ops Q S l fuel (listed.setIfInBounds k true) a w → K' a w) → if Region.wanted o (yielded ops a.tmps) = true then Oper.wp P o a w K' Q else K' (a.put o.dst undef) w) :
    wpAnyE P md ops Q S l (fuel + 1) listed a w := wpAnyE_one hr (opsL ho) h
/-- Two may come up. -/
theorem wpAnyE_twoL {k k' : Nat} {o o' : Oper} {fuel : Nat} {listed : Array Bool} {a : Act} {w : World} (hr : Region.ready md ops listed = [k, k']) (ho : ops.toList[k]? = some o) (ho' : ops.toList[k']? = some o')
    (h : ∀ K' : Act → World → Prop, Shut (∀ a w, (k ≠ l → S w) → wpAnyE P md ops Q S l fuel (listed.setIfInBounds k true) a w → K' a w) → if Region.wanted o (yielded ops a.tmps) = true then Oper.wp P o a w K' Q else K' (a.put o.dst undef) w)
    (h' : ∀ K' : Act → World → Prop, Shut (∀ a w, (k' ≠ l → S w) → wpAnyE P md ops Q S l fuel (listed.setIfInBounds k' true) a w → K' a w) → if Region.wanted o' (yielded ops a.tmps) = true then Oper.wp P o' a w K' Q else K' (a.put o'.dst undef) w) :
    wpAnyE P md ops Q S l (fuel + 1) listed a w := by
  refine ⟨fun h0 => (by rw [h0] at hr; cases hr), fun i hi => ?_⟩
  rw [hr] at hi
  have hik : i = k ∨ i = k' := by simpa using hi
  rcases hik with rfl | rfl
  · exact wpOp_step (opsL ho) (fun K' hK => h K' (fun a w hS hW => hK a w ⟨hS, hW⟩))
  · exact wpOp_step (opsL ho') (fun K' hK => h' K' (fun a w hS hW => hK a w ⟨hS, hW⟩))
end
end Go.Proofs.YtglddnkpccgchaaDoor
