/- Isomorphisms: the plain part. -/
import Derived.Test.YtpaiiaajbojmnaaGreatBldg
import Derived.Test.YtpaiiaajbojmnaaGreatOrdB
import Derived.Test.YtpaiiaajbojmnaaGreatCmps
import Derived.Test.YtpaiiaajbojmnaaGreatNormB
namespace Go.Proofs.YtpaiiaajbojmnaaGreat
open Go.RowKit
set_option linter.unusedVariables false
set_option linter.unusedSimpArgs false

def allB (f : Nat → Bool) (n : Nat) : Bool := (List.range n).all f
theorem allB_yes {f : Nat → Bool} {n : Nat} (h : ∀ i, i < n → f i = true) : allB f n = true := by
  simp only [allB, List.all_eq_true, List.mem_range]; exact h
theorem allB_no {f : Nat → Bool} {n i : Nat} (hi : i < n) (h : f i = false) : allB f n = false := by
  simp only [allB, List.all_eq_false, List.mem_range]; exact ⟨i, hi, by simp [h]⟩
/-- Port i corresponds. -/
def prtAt (ps qs : List Pt) (names : List Int) (i : Nat) : Bool :=
  match ps[i]?, qs[i]? with
  | some p, some q => (p.name.toList == q.name.toList) && decide (nmOf names p.net = q.net)
  | _, _ => false
/-- Device d corresponds to e. -/
def isoD (names : List Int) (d e : Dv) : Bool := decide (devcmp d.kind e.kind (normz d.kind (d.pins.map (nmOf names))) (normz e.kind e.pins) d.wd e.wd d.len e.len = 0)
def devAt (ds es : List Dv) (m : List Int × List Int) (i : Nat) : Bool :=
  match ds[i]?, es[(nmOf m.2 i).toNat]? with
  | some d, some e => isoD m.1 d e
  | _, _ => false
/-- m is an isomorphism of x to y. -/
def isoB (x y : Nl) (m : List Int × List Int) : Bool :=
  nlB x && (nlB y && (decide (x.nets = y.nets) && (decide (x.ds.length = y.ds.length) && (decide (x.ps.length = y.ps.length) && (permB m.1 x.nets && (permB m.2 x.ds.length && (allB (prtAt x.ps y.ps m.1) x.ps.length && allB (devAt x.ds y.ds m) x.ds.length)))))))
theorem prtAt_of {ps qs : List Pt} {names : List Int} {i : Nat} {p q : Pt} (hp : ps[i]? = some p) (hq : qs[i]? = some q) : prtAt ps qs names i = ((p.name.toList == q.name.toList) && decide (nmOf names p.net = q.net)) := by simp [prtAt, hp, hq]
theorem devAt_of {ds es : List Dv} {m : List Int × List Int} {i j : Nat} {d e : Dv} (hd : ds[i]? = some d) (hj : m.2[i]? = some (j : Int)) (he : es[j]? = some e) : devAt ds es m i = isoD m.1 d e := by
  have h1 : nmOf m.2 (i : Int) = j := by simp [nmOf, List.getD_eq_getElem?_getD, hj]
  simp [devAt, hd, h1, he]
end Go.Proofs.YtpaiiaajbojmnaaGreat
