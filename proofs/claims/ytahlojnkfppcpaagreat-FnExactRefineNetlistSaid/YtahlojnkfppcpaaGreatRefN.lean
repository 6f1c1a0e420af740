/- The refinement of a netlist: the plain part. -/
import Derived.Test.YtahlojnkfppcpaaGreatRefs
import Derived.Test.YtahlojnkfppcpaaGreatBldL
import Derived.Test.YtahlojnkfppcpaaGreatDifs
namespace Go.Proofs.YtahlojnkfppcpaaGreat
open Go.RowKit
set_option linter.unusedVariables false
set_option linter.unusedSimpArgs false

theorem rankS_lt {ls : List (List Int)} {z : Int} (h : z ∈ rankS ls) : 0 ≤ z ∧ z < (ls.length : Int) := by
  obtain ⟨x, hx, rfl⟩ := List.mem_map.1 h
  have hf : x ∈ fsts ls := mem_fsts.2 hx
  have hfl : (fsts ls).length ≤ ls.length := by
    unfold fsts
    rw [List.length_map]
    have := List.length_filter_le (firstAt ls) (List.range ls.length)
    simpa using this
  have hle := List.countP_le_length (p := fun y => decide (lcmp y x < 0)) (l := fsts ls)
  have hne : (fsts ls).countP (fun y => decide (lcmp y x < 0)) ≠ (fsts ls).length := fun e => by
    have := (List.countP_eq_length.1 e) x hf
    simp [lcmp_self] at this
  rw [rankOf_fsts]
  omega
theorem colsB_rank {ls : List (List Int)} {n : Int} (h1 : (ls.length : Int) = n) (h2 : ls.length ≤ 24) : colsB (rankS ls) n = true := by
  simp only [colsB, Bool.and_eq_true, decide_eq_true_eq, List.all_eq_true, length_rankS]
  refine ⟨fun z hz => ?_, h1⟩
  have := rankS_lt hz
  exact inB_iff.2 (by omega)
theorem coB_ref {x : Nl} {c : List Int × List Int} (h : coB x c = true) : coB x (refS x c) = true := by
  obtain ⟨f1, f2, f3, f4⟩ := coB_facts h
  obtain ⟨g1, g2, g3, g4⟩ := coB_nets h
  have hb : nlB x = true := by
    simp only [coB, Bool.and_eq_true] at h
    exact h.1
  simp only [coB, Bool.and_eq_true]
  refine ⟨hb, colsB_rank (by simp; omega) (by simp; omega), colsB_rank (by simp [dsgLs]) (by simp [dsgLs]; omega)⟩
theorem coB_ini {x : Nl} (hb : nlB x = true) : coB x (iniS x) = true := by
  obtain ⟨⟨h0, h1⟩, hd, _⟩ := nlB_facts hb
  simp only [coB, Bool.and_eq_true]
  refine ⟨hb, colsB_rank (by rw [length_netL]; omega) (by rw [length_netL]; omega), colsB_rank (by rw [length_devL]) (by rw [length_devL]; omega)⟩
theorem coB_cnt {x : Nl} {c : List Int × List Int} (h : coB x c = true) : 0 ≤ cntC c ∧ cntC c ≤ 48 := by
  obtain ⟨f1, f2, f3, f4⟩ := coB_facts h
  have h1 := difI_le c.1
  have h2 := difI_le c.2
  unfold cntC
  omega
/-- The last coloring and the number of steps. -/
def refN (x : Nl) : Nat → List Int × List Int → Int → (List Int × List Int) × Int
  | 0, c, s => (c, s)
  | f + 1, c, s => if cntC (refS x c) ≤ cntC c then (c, s) else refN x f (refS x c) (s + 1)
theorem refN_stop {x : Nl} {f : Nat} {c : List Int × List Int} {s : Int} (h : cntC (refS x c) ≤ cntC c) : refN x (f + 1) c s = (c, s) := by
  show (if _ then _ else _) = _
  rw [if_pos h]
theorem refN_go {x : Nl} {f : Nat} {c : List Int × List Int} {s : Int} (h : ¬ cntC (refS x c) ≤ cntC c) : refN x (f + 1) c s = refN x f (refS x c) (s + 1) := by
  show (if _ then _ else _) = _
  rw [if_neg h]
theorem coB_refN {x : Nl} : ∀ (f : Nat) (c : List Int × List Int) (s : Int), coB x c = true → coB x (refN x f c s).1 = true
  | 0, c, s, h => h
  | f + 1, c, s, h => by
    by_cases e : cntC (refS x c) ≤ cntC c
    · rw [refN_stop e]; exact h
    · rw [refN_go e]; exact coB_refN f _ _ (coB_ref h)
/-- What RefineNetlist answers. -/
def refNet (x : Nl) : (List Int × List Int) × Int := if nlB x = true then refN x 64 (iniS x) 0 else (([], []), -1)
theorem refNet_bounds (x : Nl) : (refNet x).1.1.length ≤ 1048576 ∧ (refNet x).1.2.length ≤ 1048576 := by
  unfold refNet
  split
  · rename_i hb
    obtain ⟨f1, f2, f3, f4⟩ := coB_facts (coB_refN 64 (iniS x) 0 (coB_ini hb))
    omega
  · simp
end Go.Proofs.YtahlojnkfppcpaaGreat
