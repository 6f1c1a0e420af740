/- What the three statements over networks come to: plain. -/
import Derived.Test.YtjolkdckhmmenaaSumsN
import Derived.Test.YtjolkdckhmmenaaCurM
namespace Go.Proofs.Ytjolkdckhmmenaa
open Go.RowKit
set_option linter.unusedVariables false
set_option linter.unusedSimpArgs false

/-- The code of a request for two nodes of a network. -/
def nkC (x : Nw) (a b : Int) : Int := if nwB x.nodes x.rs = true then (if inB a 0 (x.nodes - 1) = true ∧ inB b 0 (x.nodes - 1) = true then (if allL x.rs a.toNat = allL x.rs b.toNat then 0 else 5) else 2) else 1
def nkP (x : Nw) (a : Int) : Pn := parP x.nodes.toNat x.rs a.toNat
def nkT (x : Nw) (a b v : Int) : Int := (nkP x a).top a.toNat b.toNat v.toNat
def rtOf (n d : Int) : Rt := ⟨redN n d, redD n d⟩
def potS (x : Nw) (a b : Int) : List Rt := if nkC x a b = 0 then (List.range x.nodes.toNat).map fun (v : Nat) => rtOf (nkT x a b v) (nkP x a).tot else []
def erS (x : Nw) (a b : Int) : Rt := if nkC x a b = 0 then rtOf (nkT x a b a) (nkP x a).tot else ⟨0, 0⟩
def curQ (x : Nw) (a b : Int) (r : Res) : Int := (nkT x a b r.a - nkT x a b r.b) / r.num
def curS (x : Nw) (a b : Int) : List Rt := if nkC x a b = 0 then x.rs.map fun r => rtOf (curQ x a b r * r.den) (nkP x a).tot else []
theorem nkC_1 {x : Nw} {a b : Int} (h : nwB x.nodes x.rs = false) : nkC x a b = 1 := by unfold nkC; rw [h]; simp
theorem nkC_2 {x : Nw} {a b : Int} (h : nwB x.nodes x.rs = true) (h2 : ¬ (inB a 0 (x.nodes - 1) = true ∧ inB b 0 (x.nodes - 1) = true)) : nkC x a b = 2 := by unfold nkC; rw [if_pos h, if_neg h2]
theorem nkC_5 {x : Nw} {a b : Int} (h : nwB x.nodes x.rs = true) (h1 : inB a 0 (x.nodes - 1) = true) (h2 : inB b 0 (x.nodes - 1) = true) (h3 : allL x.rs a.toNat ≠ allL x.rs b.toNat) : nkC x a b = 5 := by unfold nkC; rw [if_pos h, if_pos ⟨h1, h2⟩, if_neg h3]
theorem nkC_0 {x : Nw} {a b : Int} (h : nwB x.nodes x.rs = true) (h1 : inB a 0 (x.nodes - 1) = true) (h2 : inB b 0 (x.nodes - 1) = true) (h3 : allL x.rs a.toNat = allL x.rs b.toNat) : nkC x a b = 0 := by unfold nkC; rw [if_pos h, if_pos ⟨h1, h2⟩, if_pos h3]
theorem nk_yes {x : Nw} {a b : Int} (h : nkC x a b = 0) : nwB x.nodes x.rs = true ∧ (0 ≤ a ∧ a < x.nodes) ∧ (0 ≤ b ∧ b < x.nodes) ∧ allL x.rs a.toNat = allL x.rs b.toNat := by
  unfold nkC at h
  split at h
  · rename_i h1
    split at h
    · rename_i h2
      split at h
      · rename_i h3
        have a1 := inB_iff.1 h2.1
        have a2 := inB_iff.1 h2.2
        exact ⟨h1, by omega, by omega, h3⟩
      · omega
    · omega
  · omega
/-- The same as a network and two connected nodes. -/
def nkX {x : Nw} {a b : Int} (h : nkC x a b = 0) : NetAB :=
  ⟨x.nodes.toNat, x.rs, a.toNat, b.toNat, by
    obtain ⟨h1, h2, _⟩ := nk_yes h
    rw [Int.toNat_of_nonneg (by omega)]; exact h1, by have := (nk_yes h).2.1; omega, by have := (nk_yes h).2.2.1; omega, (nk_yes h).2.2.2⟩
theorem nk_T {x : Nw} {a b : Int} (h : nkC x a b = 0) (v : Int) : nkT x a b v = (nkX h).S v := rfl
theorem nk_P {x : Nw} {a b : Int} (h : nkC x a b = 0) : (nkP x a).tot = (nkX h).T := rfl
theorem nw_ok {x : Nw} (h : nwB x.nodes x.rs = true) {n : Nat} (hn : x.nodes = n) : NwOk n x.rs := by
  obtain ⟨h1, h2, h3, _⟩ := nw_facts h
  exact ⟨by omega, h2, fun r hr => by have q := h3 r hr; exact ⟨by omega, by omega⟩⟩
theorem part_ok {x : Nw} (h : nwB x.nodes x.rs = true) {n : Nat} (hn : x.nodes = n) (a : Nat) : PtOk n (partR x.rs a) := by
  obtain ⟨h1, h2, h3⟩ := nw_ok h hn
  exact ⟨⟨h1, Nat.le_trans (part_len _ _) h2, fun r hr => h3 r (mem_part.1 hr).1⟩, par_ok h hn a, par_mx n h a⟩
theorem length_potS (x : Nw) (a b : Int) : (potS x a b).length ≤ 1000000 ∨ nkC x a b = 0 := by
  by_cases h : nkC x a b = 0
  · exact .inr h
  · left; unfold potS; rw [if_neg h]; simp
theorem potS_bd (x : Nw) (a b : Int) : (potS x a b).length ≤ 8 := by
  unfold potS
  split
  · rename_i h
    obtain ⟨h1, _⟩ := nk_yes h
    obtain ⟨⟨_, h2⟩, _⟩ := nw_facts h1
    simp; omega
  · simp
theorem curS_bd (x : Nw) (a b : Int) : (curS x a b).length ≤ 8 := by
  unfold curS
  split
  · rename_i h
    obtain ⟨h1, _⟩ := nk_yes h
    obtain ⟨_, h2, _⟩ := nw_facts h1
    simp; omega
  · simp
end Go.Proofs.Ytjolkdckhmmenaa
