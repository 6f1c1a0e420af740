/- Both DeviceSignature. -/
import Derived.Test.YtaiadcfgmichpaaSpecDsg
import Derived.Test.YtaiadcfgmichpaaImplDsg
import Derived.Test.YtaiadcfgmichpaaImplDsm
namespace Go.Proofs.Ytaiadcfgmichpaa
open Go.RowKit
set_option linter.unusedVariables false
set_option linter.unusedSimpArgs false

theorem dsgDevice_any (x : Nl) (c : List Int × List Int) (k : Nat) (d : Dv) (v u : Value) (w : World) (h : NlV w v x) (hc : CoV w u c) (hx : x.ds[k]? = some d) (hk : k < c.2.length) (hs : Shp d) (hp : ∀ p ∈ d.pins, 0 ≤ p ∧ p < c.1.length) (hl : x.ds.length ≤ 24) (hcn : c.1.length ≤ 24) :
    Calls Try.prog 58 #[v, u, .int .i64 k] w fun e w' => ∃ v', e = .returned v' ∧ OwnR w' w.heap.size w'.heap.size v' (dsgL d (nmOf c.2 k) c.1) ∧ Below w.heap.size w w' := by
  obtain ⟨s1, s2, rfl, hc1, hc2⟩ := hc
  rcases hs with ⟨k2, p, q, e⟩ | ⟨k2, g, p, q, e⟩
  · rw [dsgL_r k2 e]
    have h1 := hp p (by rw [e]; simp)
    have h2 := hp q (by rw [e]; simp)
    obtain ⟨p', rfl⟩ : ∃ p' : Nat, p = p' := ⟨p.toNat, by omega⟩
    obtain ⟨q', rfl⟩ : ∃ q' : Nat, q = q' := ⟨q.toNat, by omega⟩
    exact dsgDev_r x c.1 c.2 k d p' q' v s1 s2 w h hc1 hc2 hx hk k2 e (by omega) (by omega) hl hcn
  · have hk2 : ¬ d.kind = 2 := by omega
    rw [dsgL_m hk2 e]
    have h0 := hp g (by rw [e]; simp)
    have h1 := hp p (by rw [e]; simp)
    have h2 := hp q (by rw [e]; simp)
    obtain ⟨g', rfl⟩ : ∃ g' : Nat, g = g' := ⟨g.toNat, by omega⟩
    obtain ⟨p', rfl⟩ : ∃ p' : Nat, p = p' := ⟨p.toNat, by omega⟩
    obtain ⟨q', rfl⟩ : ∃ q' : Nat, q = q' := ⟨q.toNat, by omega⟩
    exact dsgDev_m x c.1 c.2 k d g' p' q' v s1 s2 w h hc1 hc2 hx hk hk2 k2 e (by omega) (by omega) (by omega) hl hcn

/-- What a coloring of a valid netlist gives. -/
theorem coB_facts {x : Nl} {c : List Int × List Int} (h : coB x c = true) : x.ds.length ≤ 24 ∧ c.1.length ≤ 24 ∧ c.2.length = x.ds.length ∧ (∀ d ∈ x.ds, Shp d ∧ ∀ p ∈ d.pins, 0 ≤ p ∧ p < c.1.length) := by
  simp only [coB, colsB, Bool.and_eq_true, decide_eq_true_eq] at h
  obtain ⟨hb, ⟨_, h1⟩, _, h2⟩ := h
  obtain ⟨⟨_, hn1⟩, hd24, _, hdv, _⟩ := nlB_facts hb
  exact ⟨hd24, by omega, by omega, fun d hd => ⟨shp_of (hdv d hd), fun p hp => by have := (dvB_pins (hdv d hd)).2.2 p hp; omega⟩⟩
end Go.Proofs.Ytaiadcfgmichpaa
