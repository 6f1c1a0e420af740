/- What a coloring of a valid netlist gives. -/
import Derived.Test.YtpaiiaajbojmnaaGreatIsCol
import Derived.Test.YtpaiiaajbojmnaaGreatCmps
import Derived.Test.YtpaiiaajbojmnaaGreatValid0
import Derived.Test.YtpaiiaajbojmnaaGreatNls
import Derived.Test.YtpaiiaajbojmnaaGreatNetMs
import Derived.Test.YtpaiiaajbojmnaaGreatRank0
namespace Go.Proofs.YtpaiiaajbojmnaaGreat
open Go.RowKit
set_option linter.unusedVariables false

/-- What a coloring of a valid netlist gives. -/
theorem coB_facts {x : Nl} {c : List Int × List Int} (h : coB x c = true) : x.ds.length ≤ 24 ∧ c.1.length ≤ 24 ∧ c.2.length = x.ds.length ∧ (∀ d ∈ x.ds, Shp d ∧ ∀ p ∈ d.pins, 0 ≤ p ∧ p < c.1.length) := by
  simp only [coB, colsB, Bool.and_eq_true, decide_eq_true_eq] at h
  obtain ⟨hb, ⟨_, h1⟩, _, h2⟩ := h
  obtain ⟨⟨_, hn1⟩, hd24, _, hdv, _⟩ := nlB_facts hb
  exact ⟨hd24, by omega, by omega, fun d hd => ⟨shp_of (hdv d hd), fun p hp => by have := (dvB_pins (hdv d hd)).2.2 p hp; omega⟩⟩
end Go.Proofs.YtpaiiaajbojmnaaGreat

/- The reference's NetSignature, and the program's closure that compares pairs. -/
namespace Go.Proofs.YtpaiiaajbojmnaaGreat
open Go.RowKit
set_option linter.unusedVariables false
set_option linter.unusedSimpArgs false

/-- What NetSignature answers. -/
def netS (x : Nl) (c : List Int × List Int) (k : Int) : List Int := if coB x c = true ∧ 0 ≤ k ∧ k < x.nets then netL' x c k else []
theorem netS_no {x : Nl} {c : List Int × List Int} (k : Int) (h : coB x c = false) : netS x c k = [] := by simp [netS, h]
theorem netS_out {x : Nl} {c : List Int × List Int} {k : Int} (h : inB k 0 (x.nets - 1) = false) : netS x c k = [] := by
  unfold netS
  rw [if_neg]
  rintro ⟨_, h1, h2⟩
  have := inB_iff.2 (show 0 ≤ k ∧ k ≤ x.nets - 1 by omega)
  rw [h] at this; cases this
theorem netS_in {x : Nl} {c : List Int × List Int} {k : Int} (h : coB x c = true) (hi : inB k 0 (x.nets - 1) = true) : netS x c k = netL' x c k := by
  have := inB_iff.1 hi
  unfold netS
  rw [if_pos ⟨h, by omega, by omega⟩]
theorem coB_nets {x : Nl} {c : List Int × List Int} (h : coB x c = true) : (c.1.length : Int) = x.nets ∧ (0 ≤ x.nets ∧ x.nets ≤ 24) ∧ (∀ d ∈ x.ds, d.pins.length ≤ 3) ∧ (∀ z ∈ c.2, 0 ≤ z ∧ z < 24) := by
  simp only [coB, colsB, Bool.and_eq_true, decide_eq_true_eq, List.all_eq_true] at h
  obtain ⟨hb, ⟨_, h1⟩, h3, h2⟩ := h
  obtain ⟨hn, hd24, _, hdv, _⟩ := nlB_facts hb
  exact ⟨h1, hn, fun d hd => (dvB_pins (hdv d hd)).1, fun z hz => by have := inB_iff.1 (h3 z hz); omega⟩
/-- Every pair of a valid netlist is a colour and a role. -/
theorem occs_ok {x : Nl} {c : List Int × List Int} (h : coB x c = true) (net : Int) : ∀ o ∈ occs x.ds c.2 net x.ds.length, ∃ q r : Nat, q < 24 ∧ r < 3 ∧ o = [(q : Int), (r : Int)] := by
  obtain ⟨_, _, _, h4⟩ := coB_nets h
  obtain ⟨_, _, h5, _⟩ := coB_facts h
  intro o ho
  simp only [occs, occD, List.mem_flatMap, List.mem_range] at ho
  obtain ⟨j, hj, k, hk, hm⟩ := ho
  split at hm
  · simp only [List.mem_singleton] at hm
    have hz : nmOf c.2 (j : Int) ∈ c.2 := by
      have hj' : j < c.2.length := by omega
      have : nmOf c.2 (j : Int) = c.2[j] := by simp [nmOf, List.getD_eq_getElem?_getD, List.getElem?_eq_getElem hj']
      rw [this]
      exact List.getElem_mem hj'
    have := h4 _ hz
    have hr : 0 ≤ roleOf (dAt x.ds j).kind k ∧ roleOf (dAt x.ds j).kind k < 3 := by unfold roleOf; split <;> omega
    refine ⟨(nmOf c.2 (j : Int)).toNat, (roleOf (dAt x.ds j).kind k).toNat, by omega, by omega, ?_⟩
    rw [hm, Int.toNat_of_nonneg this.1, Int.toNat_of_nonneg hr.1]
  · simp at hm

set_option maxRecDepth 100000 in
theorem nsig1_any (s1 s2 : Value) (xs ys : List Int) (w : World) (h : IntSl w s1 xs) (h' : IntSl w s2 ys) :
    Calls Tryz.prog 62 #[s1, s2] w fun e w' => e = .returned (.int .i64 (lcmp xs ys)) ∧ ∃ n, w' = w.drewN n := by
  have HC := Lib.hid (slicesCompare_any s1 s2 xs ys w h h')
  obtain ⟨a, c, rfl⟩ := h.len
  obtain ⟨a', c', rfl⟩ := h'.len
  generalize lcmp xs ys = r at *
  clear h h'
  go_enter Tryz.func62, Tryz.ntmps62
  go_wp2_with fail
  refine HC.out.mono ?_
  rintro e w1 ⟨rfl, n, rfl⟩
  go_wp2
  go_ret
  exact ⟨rfl, n, rfl⟩

end Go.Proofs.YtpaiiaajbojmnaaGreat
