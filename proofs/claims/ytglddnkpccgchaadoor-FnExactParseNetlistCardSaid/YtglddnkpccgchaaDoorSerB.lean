/- Contracts of l27Degree and degrees. -/
import Derived.Test.YtglddnkpccgchaaDoorValid0
import Derived.Test.YtglddnkpccgchaaDoorImplNl
import Derived.Test.YtglddnkpccgchaaDoorCmps
namespace Go.Proofs.YtglddnkpccgchaaDoor
open Go.RowKit
set_option linter.unusedVariables false
set_option linter.unusedSimpArgs false

end Go.Proofs.YtglddnkpccgchaaDoor

/- Contract of degrees. -/
namespace Go.Proofs.YtglddnkpccgchaaDoor
open Go.RowKit
set_option linter.unusedVariables false
set_option linter.unusedSimpArgs false

end Go.Proofs.YtglddnkpccgchaaDoor

/- Devices in series: plain. -/
namespace Go.Proofs.YtglddnkpccgchaaDoor
open Go.RowKit

/-- A port is on a net. -/
def portB (ps : List Pt) (net : Int) : Bool := ps.any fun o => decide (o.net = net)
/-- A common net of the current pins, and whether there is just one, as the reference counts. -/
def comN (p q r s : Int) : Int := if q = r ∨ q = s then q else if p = r ∨ p = s then p else 0
def comC (p q r s : Int) : Int := (if p = r ∨ p = s then 1 else 0) + (if q = r ∨ q = s then 1 else 0)
/-- In series, up to the nets' use. -/
def serPre (x y : Dv) : Bool :=
  decide (x.kind = y.kind) && (!parB x y && (!decide (curP x.pins = curQ x.pins) && (!decide (curP y.pins = curQ y.pins) && (decide (x.kind = 2) || (decide (gateOf x.pins = gateOf y.pins) && decide (x.wd = y.wd))))))
def serN (x y : Dv) : Int := comN (curP x.pins) (curQ x.pins) (curP y.pins) (curQ y.pins)
def oneB (x y : Dv) : Bool := decide (comC (curP x.pins) (curQ x.pins) (curP y.pins) (curQ y.pins) = 1)
def useB (n : Nl) (net : Int) : Bool := decide (degN n.ds net = 2) && !portB n.ps net
/-- In series. -/
def serB (n : Nl) (x y : Dv) : Bool := serPre x y && (oneB x y && useB n (serN x y))

theorem serB_pre {n : Nl} {x y : Dv} (h : serPre x y = false) : serB n x y = false := by simp [serB, h]
theorem serB_one {n : Nl} {x y : Dv} (h : oneB x y = false) : serB n x y = false := by simp [serB, h]
theorem serB_use {n : Nl} {x y : Dv} (h : serPre x y = true) (h' : oneB x y = true) : serB n x y = useB n (serN x y) := by simp [serB, h, h']
theorem portB_no {ps : List Pt} {net : Int} (h : ∀ (j : Nat) o, j < ps.length → ps[j]? = some o → o.net ≠ net) : portB ps net = false := by
  unfold portB; rw [List.any_eq_false]; intro o ho
  obtain ⟨j, hj, e⟩ := List.mem_iff_getElem.1 ho
  simp [h j o hj (by rw [List.getElem?_eq_getElem hj, e])]
theorem portB_yes {ps : List Pt} {net : Int} {j : Nat} {o : Pt} (h : ps[j]? = some o) (h' : o.net = net) : portB ps net = true := by
  unfold portB; rw [List.any_eq_true]; exact ⟨o, List.mem_of_getElem? h, by simp [h']⟩
end Go.Proofs.YtglddnkpccgchaaDoor

/- Devices in series: contracts of the reference's helpers. -/
namespace Go.Proofs.YtglddnkpccgchaaDoor
open Go.RowKit
set_option linter.unusedVariables false
set_option linter.unusedSimpArgs false

end Go.Proofs.YtglddnkpccgchaaDoor
