/- The signature of a device: the plain part. -/
import Derived.Test.YtaiadcfgmichpaaIsCol
import Derived.Test.YtaiadcfgmichpaaParB
import Derived.Test.YtaiadcfgmichpaaBldI
import Derived.Test.YtaiadcfgmichpaaInts
namespace Go.Proofs.Ytaiadcfgmichpaa
open Go.RowKit
set_option linter.unusedVariables false
set_option linter.unusedSimpArgs false

def dsgT (a b : Int) : List Int := [min a b, max a b]
/-- The signature of device d of color ck among nets of the colors cn. -/
def dsgL (d : Dv) (ck : Int) (cn : List Int) : List Int := (if d.kind = 2 then [ck] else [ck, nmOf cn (gateOf d.pins)]) ++ dsgT (nmOf cn (curP d.pins)) (nmOf cn (curQ d.pins))
theorem dsgL_r {d : Dv} {p q : Int} (h : d.kind = 2) (hp : d.pins = [p, q]) (ck : Int) (cn : List Int) : dsgL d ck cn = [ck] ++ dsgT (nmOf cn p) (nmOf cn q) := by simp [dsgL, h, hp, curP, curQ]
theorem dsgL_m {d : Dv} {g p q : Int} (h : ¬ d.kind = 2) (hp : d.pins = [g, p, q]) (ck : Int) (cn : List Int) : dsgL d ck cn = [ck, nmOf cn g] ++ dsgT (nmOf cn p) (nmOf cn q) := by simp [dsgL, h, hp, curP, curQ, gateOf]
/-- The signature of device k, none where there is none. -/
def dsgS (x : Nl) (c : List Int × List Int) (k : Int) : List Int :=
  if coB x c = true ∧ 0 ≤ k ∧ k < x.ds.length then (match x.ds[k.toNat]? with | some d => dsgL d (nmOf c.2 k) c.1 | none => []) else []
theorem length_dsgL (d : Dv) (ck : Int) (cn : List Int) : (dsgL d ck cn).length ≤ 4 := by unfold dsgL dsgT; split <;> simp
theorem length_dsgS (x : Nl) (c : List Int × List Int) (k : Int) : (dsgS x c k).length ≤ 4 := by
  unfold dsgS
  split
  · split
    · exact length_dsgL _ _ _
    · simp
  · simp
/-- The colors' cells. -/
theorem IntSl.nm {w : World} {sv : Value} {zs : List Int} (h : IntSl w sv zs) (h0 : 0 < zs.length) : ∃ b off cap, sv = .slice (some ⟨b, off, none⟩) zs.length cap ∧ b < w.heap.size ∧ ∀ k : Nat, k < zs.length → w.cell? ⟨b, off + k, none⟩ = some (.int .i64 (nmOf zs k)) := by
  rcases h with ⟨_, _, _, h2⟩ | ⟨b, off, cap, hsv, h2, h3, h4⟩
  · rw [h2] at h0; simp at h0
  have hc : ∀ k : Nat, k < zs.length → w.cell? ⟨b, off + k, none⟩ = some (.int .i64 (nmOf zs k)) := by
    intro k hk
    refine h4 k _ ?_
    simp [nmOf, List.getD_eq_getElem?_getD, List.getElem?_eq_getElem hk]
  refine ⟨b, off, cap, hsv, ?_, hc⟩
  rcases Nat.lt_or_ge b w.heap.size with h' | h'
  · exact h'
  · have := hc 0 h0
    simp [World.cell?, Array.getElem?_eq_none h'] at this
end Go.Proofs.Ytaiadcfgmichpaa
