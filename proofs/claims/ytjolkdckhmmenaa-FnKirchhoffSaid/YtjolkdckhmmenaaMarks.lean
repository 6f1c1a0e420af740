/- markText: what it answers hangs on the number alone. -/
import Derived.Test.YtjolkdckhmmenaaBase
import Derived.Laws.BytesArg
import Derived.WalkLawsBesides
import Derived.Test.YtjolkdckhmmenaaNormB
import Derived.Test.YtjolkdckhmmenaaNls
namespace Go.Proofs.Ytjolkdckhmmenaa
open Go.RowKit
set_option linter.unusedVariables false
set_option linter.unusedSimpArgs false

/-- The digits of k ahead of a text. -/
def dgF : Nat → Nat → ByteArray → ByteArray
  | 0, _, s => s
  | f + 1, k, s => if k = 0 then s else dgF f (k / 10) (strOfNums [((48 + k % 10 : Nat) : Int)] ++ s)
def mtxt (k : Nat) : ByteArray := ⟨#[109]⟩ ++ dgF k k ⟨#[]⟩
theorem size_one (v : Int) : (strOfNums [v]).size = 1 := by simp [strOfNums, ByteArray.size]
theorem dgF_end (f : Nat) (s : ByteArray) : dgF f 0 s = s := by cases f <;> simp [dgF]
theorem dgF_step (f k : Nat) (s : ByteArray) (h : 0 < k) (hf : k ≤ f) : ∃ f', k / 10 ≤ f' ∧ dgF f k s = dgF f' (k / 10) (strOfNums [((48 + k % 10 : Nat) : Int)] ++ s) := by
  cases f with
  | zero => omega
  | succ f =>
    refine ⟨f, by omega, ?_⟩
    have : ¬ k = 0 := by omega
    simp [dgF, this]

end Go.Proofs.Ytjolkdckhmmenaa

/- Slices of devices and of ports in memory of the call's own. -/
namespace Go.Proofs.Ytjolkdckhmmenaa
open Go.RowKit
set_option linter.unusedVariables false
set_option linter.unusedSimpArgs false

section
variable {w w' : World} {lo hi lo' hi' : Nat} {sv : Value} {ds : List Dv} {ps : List Pt}
end

/-- What a device, a slice of devices, of ports takes up in marks. -/
def dsum : List Dv → Int
  | [] => 0
  | d :: ds => 3 + d.pins.length + dsum ds
theorem dsum_nonneg : ∀ ds : List Dv, 0 ≤ dsum ds
  | [] => by simp [dsum]
  | d :: ds => by have := dsum_nonneg ds; simp only [dsum]; omega
theorem dsum_take (ds : List Dv) (k : Nat) (d : Dv) (h : ds[k]? = some d) : dsum (ds.take (k + 1)) = dsum (ds.take k) + (3 + d.pins.length) := by
  induction ds generalizing k with
  | nil => simp at h
  | cons y ys ih =>
    cases k with
    | zero => simp at h; subst h; simp [dsum]
    | succ k => simp at h; have := ih k h; simp only [List.take_succ_cons, dsum]; omega
theorem dsum_mono (ds : List Dv) (k : Nat) : dsum (ds.take k) ≤ dsum ds := by
  induction ds generalizing k with
  | nil => simp
  | cons y ys ih =>
    cases k with
    | zero => simp [dsum]; have := dsum_nonneg ys; omega
    | succ k => have := ih k; simp only [List.take_succ_cons, dsum]; omega
/-- A marked device. -/
def mkd (k : Int) (n : Nat) : Dv := ⟨k, marks (k + 1) n, k + 1 + n, k + 2 + n⟩
def markDs (k : Int) : List Dv → List Dv
  | [] => []
  | d :: ds => mkd k d.pins.length :: markDs (k + (3 + d.pins.length)) ds
theorem length_markDs (k : Int) (ds : List Dv) : (markDs k ds).length = ds.length := by
  induction ds generalizing k with
  | nil => rfl
  | cons d ds ih => simp [markDs, ih]
theorem markDs_get (k : Int) (ds : List Dv) (i : Nat) (d : Dv) (h : ds[i]? = some d) : (markDs k ds)[i]? = some (mkd (k + dsum (ds.take i)) d.pins.length) := by
  induction ds generalizing k i with
  | nil => simp at h
  | cons y ys ih =>
    cases i with
    | zero => simp at h; subst h; simp [markDs, dsum]
    | succ i =>
      simp at h
      simp only [markDs, List.getElem?_cons_succ, List.take_succ_cons, dsum]
      rw [ih _ i h]; congr 2; omega
theorem markDs_inv (k : Int) (ds : List Dv) (i : Nat) (y : Dv) (h : (markDs k ds)[i]? = some y) : ∃ d, ds[i]? = some d ∧ y = mkd (k + dsum (ds.take i)) d.pins.length := by
  have hi : i < ds.length := by have := (List.getElem?_eq_some_iff.1 h).1; rwa [length_markDs] at this
  refine ⟨ds[i], List.getElem?_eq_getElem hi, ?_⟩
  rw [markDs_get k ds i ds[i] (List.getElem?_eq_getElem hi)] at h
  exact (Option.some.inj h).symm
end Go.Proofs.Ytjolkdckhmmenaa

/- markDeviceS and heldDeviceS. -/
namespace Go.Proofs.Ytjolkdckhmmenaa
open Go.RowKit
set_option linter.unusedVariables false
set_option linter.unusedSimpArgs false

theorem Within.sub {lo hi lo' hi' : Nat} {w w' : World} (h : Within lo hi w w') (h1 : lo' ≤ lo) (h2 : hi ≤ hi') : Within lo' hi' w w' := ⟨h.os, h.tape, h.output, h.size, fun k hk hk' => h.block k hk (by omega)⟩

def set3 (cs : Array Value) (k : Nat) (u v z : Value) : Array Value := ((cs.setIfInBounds (k * 4) u).setIfInBounds (k * 4 + 2) v).setIfInBounds (k * 4 + 3) z
theorem set3_other {cs : Array Value} {j k : Nat} {a b c d : Value} (u v z : Value) (hne : j ≠ k) (h : Cs4 cs j a b c d) : Cs4 (set3 cs k u v z) j a b c d := by
  obtain ⟨h1, h2, h3, h4⟩ := h
  refine ⟨?_, ?_, ?_, ?_⟩ <;> simp only [set3, Array.getElem?_setIfInBounds, Array.size_setIfInBounds] <;> (repeat rw [if_neg (by omega)]) <;> assumption
theorem set3_same {cs : Array Value} {k : Nat} {b : Value} (u v z : Value) (hb : cs[k * 4 + 1]? = some b) (hs : k * 4 + 3 < cs.size) : Cs4 (set3 cs k u v z) k u b v z := by
  refine ⟨?_, ?_, ?_, ?_⟩ <;> simp only [set3, Array.getElem?_setIfInBounds, Array.size_setIfInBounds] <;> repeat (first | rw [if_pos trivial] | rw [if_pos (by omega)] | rw [if_neg (by omega)] | assumption)

end Go.Proofs.Ytjolkdckhmmenaa

/- markPortS and heldPortS. -/
namespace Go.Proofs.Ytjolkdckhmmenaa
open Go.RowKit
set_option linter.unusedVariables false
set_option linter.unusedSimpArgs false

def markPs (k n : Nat) : List Pt := (List.range n).map fun i => ⟨mtxt (k + 2 * i), ((k + 2 * i + 1 : Nat) : Int)⟩
theorem length_markPs (k n : Nat) : (markPs k n).length = n := by simp [markPs]
theorem markPs_get (k n i : Nat) (h : i < n) : (markPs k n)[i]? = some ⟨mtxt (k + 2 * i), ((k + 2 * i + 1 : Nat) : Int)⟩ := by simp [markPs, h]

end Go.Proofs.Ytjolkdckhmmenaa

/- toDeviceS, toPortS, toNetlist: with the memory of the call's own; marking netlists. -/
namespace Go.Proofs.Ytjolkdckhmmenaa
open Go.RowKit
set_option linter.unusedVariables false
set_option linter.unusedSimpArgs false

end Go.Proofs.Ytjolkdckhmmenaa

/- Netlists in memory of the call's own; marking them. -/
namespace Go.Proofs.Ytjolkdckhmmenaa
open Go.RowKit
set_option linter.unusedVariables false
set_option linter.unusedSimpArgs false

section
variable {w w' : World} {lo hi lo' hi' : Nat} {v : Value} {x : Nl}
end
def nsum (x : Nl) : Nat := (dsum x.ds).toNat + 2 * x.ps.length
/-- A marked netlist. -/
def markNl (k : Nat) (x : Nl) : Nl := ⟨x.nets, markDs k x.ds, markPs (k + (dsum x.ds).toNat) x.ps.length⟩

theorem Within.off {g o : Nat} {w : World} (v : Value) : Within g (g + 1) w (w.setCell ⟨g, o, none⟩ v) := Within.set (Within.refl g (g + 1) w) g o v (Nat.le_refl _) (by omega)

end Go.Proofs.Ytjolkdckhmmenaa

/- What a netlist's marks come to. -/
namespace Go.Proofs.Ytjolkdckhmmenaa
open Go.RowKit
set_option linter.unusedVariables false
theorem dsum_pins (ds : List Dv) : dsum ds = 3 * (ds.length : Int) + pinsAll ds := by
  induction ds with
  | nil => simp [dsum, pinsAll]
  | cons d ds ih => simp only [dsum, pinsAll, ih, List.length_cons]; omega
theorem nsum_le {x : Nl} (h : nlSize x.ds x.ps ≤ 1048576) : nsum x ≤ 4000000 := by
  unfold nlSize at h
  have h1 := pinsAll_nonneg x.ds
  have h2 := namesAll_nonneg x.ps
  have h3 := dsum_pins x.ds
  unfold nsum
  omega
theorem dsum_filter (p : Dv → Bool) (ds : List Dv) : dsum (ds.filter p) ≤ dsum ds := by
  induction ds with
  | nil => simp [dsum]
  | cons d ds ih =>
    have := dsum_nonneg ds
    cases hp : p d with
    | true => simp only [List.filter_cons, hp, dsum, if_true]; omega
    | false => simp only [List.filter_cons, hp, dsum, Bool.false_eq_true, if_false]; omega
end Go.Proofs.Ytjolkdckhmmenaa

/- Netlists of the call's own whose ports' block may lie between the blocks of the devices: marking them. -/
namespace Go.Proofs.Ytjolkdckhmmenaa
open Go.RowKit
set_option linter.unusedVariables false
set_option linter.unusedSimpArgs false

/-- As Within, and block P is as it was. -/
structure WithX (lo hi P : Nat) (w w' : World) : Prop where
  within : Within lo hi w w'
  keep : P < w.heap.size → w'.heap[P]? = w.heap[P]?
section
variable {lo hi P : Nat} {a w w' : World}
theorem WithX.refl (lo hi P : Nat) (w : World) : WithX lo hi P w w := ⟨Within.refl _ _ _, fun _ => rfl⟩
theorem WithX.set (h : WithX lo hi P a w) (g o : Nat) (v : Value) (h1 : lo ≤ g) (h2 : g < hi) (h3 : g ≠ P) : WithX lo hi P a (w.setCell ⟨g, o, none⟩ v) :=
  ⟨h.within.set g o v h1 h2, fun hp => (Below.heap_setCell w ⟨g, o, none⟩ v P (fun e => h3 e.symm)).trans (h.keep hp)⟩
theorem WithX.on (h : WithX lo hi P a w) (h' : WithX lo hi P w w') : WithX lo hi P a w' :=
  ⟨h.within.on h'.within, fun hp => (h'.keep (by have := h.within.size; omega)).trans (h.keep hp)⟩
theorem Within.subX {lo' hi' : Nat} (h : Within lo hi w w') (h1 : lo' ≤ lo) (h2 : hi ≤ hi') (h3 : P < lo ∨ hi ≤ P) : WithX lo' hi' P w w' := ⟨h.sub h1 h2, fun hp => h.block P hp h3⟩
end
section
variable {w w' : World} {lo hi P lo' hi' : Nat} {sv : Value} {ds : List Dv} {ps : List Pt}
end
section
variable {w w' : World} {lo hi lo' hi' : Nat} {v : Value} {x : Nl}
end

end Go.Proofs.Ytjolkdckhmmenaa
