/- ApplyMatching: the plain part. -/
import Derived.Test.YtpaiiaajbojmnaaGreatBldg
import Derived.Test.YtpaiiaajbojmnaaGreatOrdB
import Derived.Test.YtpaiiaajbojmnaaGreatMarks
import Derived.Test.YtpaiiaajbojmnaaGreatValid0
import Derived.Test.YtpaiiaajbojmnaaGreatCmps
namespace Go.Proofs.YtpaiiaajbojmnaaGreat
open Go.RowKit
set_option linter.unusedVariables false
set_option linter.unusedSimpArgs false

def noDv : Dv := ⟨0, [], 0, 0⟩
/-- The devices in the order to which zs leads. -/
def ordD (zs : List Int) (ds : List Dv) : List Dv := (invS zs).map fun k => ds.getD k.toNat noDv
theorem length_ordD (zs : List Int) (ds : List Dv) : (ordD zs ds).length = zs.length := by simp [ordD, length_invS]
/-- Place zs[i] holds device i. -/
theorem ordD_get {zs : List Int} {ds : List Dv} (hp : permB zs ds.length = true) (i : Nat) (z : Int) (d : Dv) (hz : zs[i]? = some z) (hd : ds[i]? = some d) : (ordD zs ds)[z.toNat]? = some d := by
  have := invS_get hp i z hz
  simp [ordD, this, List.getD_eq_getElem?_getD, hd]
theorem ordD_inv {zs : List Int} {ds : List Dv} (hp : permB zs ds.length = true) (k : Nat) (d : Dv) (h : (ordD zs ds)[k]? = some d) : ∃ i : Nat, (invS zs)[k]? = some (i : Int) ∧ zs[i]? = some (k : Int) ∧ ds[i]? = some d := by
  have hk := (List.getElem?_eq_some_iff.1 h).1
  rw [length_ordD] at hk
  have hl := (permB_iff.1 hp).1
  obtain ⟨i, e1, e2⟩ := invS_inv hp k (by omega)
  have hi := (List.getElem?_eq_some_iff.1 e2).1
  refine ⟨i, e1, e2, ?_⟩
  have hd : ds[i]? = some (ds[i]'(by omega)) := List.getElem?_eq_getElem (by omega)
  have := ordD_get hp i k _ e2 hd
  rw [Int.toNat_natCast, h] at this
  rw [hd, ← Option.some.inj this]
theorem invS_inj {zs : List Int} {n : Int} (hp : permB zs n = true) (a b : Nat) (z : Int) (ha : (invS zs)[a]? = some z) (hb : (invS zs)[b]? = some z) : a = b := by
  rcases Nat.lt_trichotomy a b with h | h | h
  · have := permB_dup (n := n) h ha hb; rw [permB_invS hp] at this; cases this
  · exact h
  · have := permB_dup (n := n) h hb ha; rw [permB_invS hp] at this; cases this
theorem invS_range {zs : List Int} {n : Int} (hp : permB zs n = true) (k : Nat) (z : Int) (h : (invS zs)[k]? = some z) : 0 ≤ z ∧ z < n := (permB_iff.1 (permB_invS hp)).2.2 z (List.mem_of_getElem? h)
theorem dsum_append (a b : List Dv) : dsum (a ++ b) = dsum a + dsum b := by
  induction a with
  | nil => simp [dsum]
  | cons x xs ih => simp only [List.cons_append, dsum, ih]; omega
end Go.Proofs.YtpaiiaajbojmnaaGreat

/- ApplyMatching: what it answers; devices of the call's own, at fixed blocks. -/
namespace Go.Proofs.YtpaiiaajbojmnaaGreat
open Go.RowKit
set_option linter.unusedVariables false
set_option linter.unusedSimpArgs false

def apC (x : Nl) (y : List Int × List Int) : Int := if nlB x = true then (if permB y.1 x.nets = true ∧ permB y.2 (x.ds.length : Int) = true then 0 else 2) else 1
def apR (x : Nl) (y : List Int × List Int) : Nl := if nlB x = true then (if permB y.1 x.nets = true ∧ permB y.2 (x.ds.length : Int) = true then ⟨x.nets, ordD y.2 (x.ds.map (renD y.1)), x.ps.map (renP y.1)⟩ else ⟨0, [], []⟩) else ⟨0, [], []⟩
theorem dsum_small (ds : List Dv) (h : ∀ d ∈ ds, d.pins.length ≤ 3) : dsum ds ≤ 6 * ds.length := by
  induction ds with
  | nil => simp [dsum]
  | cons d ds ih =>
    have := ih (fun e he => h e (by simp [he]))
    have := h d (by simp)
    simp only [dsum, List.length_cons]; omega
theorem ordD_all {p : Dv → Prop} (zs : List Int) (ds : List Dv) (h : ∀ d ∈ ds, p d) (h0 : p noDv) : ∀ d ∈ ordD zs ds, p d := by
  intro d hd
  simp only [ordD, List.mem_map] at hd
  obtain ⟨k, _, rfl⟩ := hd
  rw [List.getD_eq_getElem?_getD]
  cases e : ds[k.toNat]? with
  | none => exact h0
  | some d => exact h d (List.mem_of_getElem? e)
theorem apR_bounds (x : Nl) (y : List Int × List Int) : (∀ d ∈ (apR x y).ds, d.pins.length ≤ 1048576) ∧ nsum (apR x y) ≤ 4000000 := by
  unfold apR
  split
  · rename_i hb
    split
    · rename_i hp
      obtain ⟨_, hd24, hp8, hdv, _⟩ := nlB_facts hb
      have h3 : ∀ d ∈ ordD y.2 (x.ds.map (renD y.1)), d.pins.length ≤ 3 := by
        refine ordD_all (p := fun d => d.pins.length ≤ 3) _ _ (fun d hd => ?_) (by simp [noDv])
        obtain ⟨e, he, rfl⟩ := List.mem_map.1 hd
        have := (dvB_pins (hdv e he)).1
        simpa [renD] using this
      refine ⟨fun d hd => by have := h3 d hd; omega, ?_⟩
      have hs := dsum_small _ h3
      have hl := (permB_iff.1 hp.2).1
      rw [length_ordD] at hs
      simp only [nsum, List.length_map]
      omega
    · simp [nsum, dsum]
  · simp [nsum, dsum]

theorem nl_netsX {x : Nl} (h : nlB x = true) : ∀ p ∈ x.ps, 0 ≤ p.net ∧ p.net < x.nets := by
  intro p hp
  obtain ⟨i, hi, e⟩ := List.mem_iff_getElem.1 hp
  have := (nlB_facts h).2.2.2.2 i hi
  have hg : x.ps[i]? = some p := by rw [List.getElem?_eq_getElem hi, e]
  simp only [ptOk, hg, Bool.and_eq_true] at this
  have h2 := inB_iff.1 this.2.1
  omega

/-- Devices of the call's own: device i's pins' slice is pv i, in block f i. -/
def DsAt (w : World) (lo hi : Nat) (sv : Value) (ds : List Dv) (f : Nat → Nat) (pv : Nat → Value) : Prop := ∀ (i : Nat) (x : Dv), ds[i]? = some x →
  (∃ g cap cs, sv = .slice (some ⟨g, 0, none⟩) ds.length cap ∧ (lo ≤ g ∧ g < hi) ∧ Blk w g cs 62 ∧ Cs4 cs i (.int .i64 x.kind) (pv i) (.int .i64 x.wd) (.int .i64 x.len)) ∧ OwnR w (f i) (f i + 1) (pv i) x.pins ∧ lo ≤ f i ∧ f i < hi
theorem DsAt.by {w w' : World} {lo hi : Nat} {sv : Value} {ds : List Dv} {f : Nat → Nat} {pv : Nat → Value} (hb : Below w.heap.size w w') (h : DsAt w lo hi sv ds f pv) : DsAt w' lo hi sv ds f pv := by
  intro i x hx
  obtain ⟨⟨g, cap, cs, h1, h2, h3, h4⟩, h5, h6⟩ := h i x hx
  exact ⟨⟨g, cap, cs, h1, h2, Blk.by hb h3, h4⟩, OwnR.by hb h5, h6⟩
theorem DsAt.past {w w' : World} {lo hi lo' hi' : Nat} {sv : Value} {ds : List Dv} {f : Nat → Nat} {pv : Nat → Value} (hb : Within lo' hi' w w') (h : DsAt w lo hi sv ds f pv) (hd : hi ≤ lo' ∨ hi' ≤ lo) : DsAt w' lo hi sv ds f pv := by
  intro i x hx
  obtain ⟨⟨g, cap, cs, h1, h2, h3, h4⟩, h5, h6⟩ := h i x hx
  exact ⟨⟨g, cap, cs, h1, h2, hb.blk h3 (by omega), h4⟩, OwnR.past hb h5 (by omega), h6⟩
theorem OwnDs.at {w : World} {lo hi : Nat} {sv : Value} {ds : List Dv} (h : OwnDs w lo hi sv ds) : ∃ f pv, DsAt w lo hi sv ds f pv ∧ ∀ i j, i < ds.length → j < ds.length → i ≠ j → f i ≠ f j := by
  rcases h with ⟨a, c, h1, h2⟩ | ⟨g, cap, cs, f, h1, h2, h3, h4, h5, h6, h7⟩
  · refine ⟨fun _ => 0, fun _ => .int .i64 0, fun i x hx => ?_, fun i j hi => ?_⟩
    · rw [h2] at hx; simp at hx
    · rw [h2] at hi; simp at hi
  · refine ⟨f, fun i => cs.getD (i * 4 + 1) (.int .i64 0), fun i x hx => ?_, h7⟩
    obtain ⟨⟨pv, hC, hR⟩, hf⟩ := h6 i x hx
    have e : cs.getD (i * 4 + 1) (.int .i64 0) = pv := by rw [Array.getD_eq_getD_getElem?, hC.2.1]; rfl
    dsimp only
    rw [e]
    exact ⟨⟨g, cap, cs, h1, h2, h5, hC⟩, hR, hf.1, hf.2.1⟩
theorem OwnPs.pick {w : World} {lo hi : Nat} {sv : Value} {ps : List Pt} (h : OwnPs w lo hi sv ps) (r : Nat) : ∃ P, OwnPs w P (P + 1) sv ps ∧ (P = r ∨ lo ≤ P ∧ P < hi) := by
  rcases h with h | ⟨g, cap, cs, h1, h2, h3, h4, h5, h6⟩
  · exact ⟨r, .inl h, .inl rfl⟩
  · exact ⟨g, .inr ⟨g, cap, cs, h1, by omega, h3, h4, h5, h6⟩, .inr h2⟩
theorem OwnR.one {w : World} {lo hi : Nat} {sv : Value} {zs : List Int} (h : OwnR w lo hi sv zs) : sv.oneCell' = true := by
  rcases h with ⟨_, _, rfl, _⟩ | ⟨_, _, _, rfl, _⟩ <;> rfl
def putA4 (cs : Array Value) (k : Nat) (a b c d : Value) : Array Value := (((cs.setIfInBounds (k * 4) a).setIfInBounds (k * 4 + 1) b).setIfInBounds (k * 4 + 2) c).setIfInBounds (k * 4 + 3) d
theorem size_putA4 (cs : Array Value) (k : Nat) (a b c d : Value) : (putA4 cs k a b c d).size = cs.size := by simp [putA4]
theorem putA4_other {cs : Array Value} {j k : Nat} {a b c d : Value} (x y z u : Value) (hne : j ≠ k) (h : Cs4 cs j a b c d) : Cs4 (putA4 cs k x y z u) j a b c d := by
  obtain ⟨h1, h2, h3, h4⟩ := h
  refine ⟨?_, ?_, ?_, ?_⟩ <;> simp only [putA4, Array.getElem?_setIfInBounds, Array.size_setIfInBounds] <;> (repeat rw [if_neg (by omega)]) <;> assumption
theorem putA4_same {cs : Array Value} {k : Nat} (x y z u : Value) (hs : k * 4 + 3 < cs.size) : Cs4 (putA4 cs k x y z u) k x y z u := by
  refine ⟨?_, ?_, ?_, ?_⟩ <;> simp only [putA4, Array.getElem?_setIfInBounds, Array.size_setIfInBounds] <;> repeat (first | rw [if_pos trivial] | rw [if_pos (by omega)] | rw [if_neg (by omega)])
end Go.Proofs.YtpaiiaajbojmnaaGreat
