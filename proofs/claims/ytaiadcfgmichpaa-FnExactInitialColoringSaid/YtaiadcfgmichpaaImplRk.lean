/- The program's ranks. -/
import Derived.Test.YtaiadcfgmichpaaCompL
import Derived.Test.YtaiadcfgmichpaaBldI
import Derived.Deep.DeepCutAuto
namespace Go.Proofs.Ytaiadcfgmichpaa
open Go.RowKit
set_option linter.unusedVariables false
set_option linter.unusedSimpArgs false

theorem infoL : (Try.prog.info? 26).map (fun i => (i.zero, i.size, i.bytes)) = some (some (.slice none 0 0), 1, 24) := by kernel_rfl
/-- What a walk reads of a slice lies in its world's blocks. -/
theorem IntSl.old {w w' : World} {s : Value} {xs : List Int} (h : IntSl w s xs) (hb : ∀ k, k < w.heap.size → w'.heap[k]? = w.heap[k]?) : IntSl w' s xs := by
  rcases h with h | ⟨b, off, cap, h1, h2, h3, h4⟩
  · exact .inl h
  · refine .inr ⟨b, off, cap, h1, h2, h3, fun i x hx => ?_⟩
    have hc := h4 i x hx
    have hl := lt_of_cell hc
    dsimp only at hl
    rw [← hc]
    simp only [World.cell?, hb b hl]
theorem IntSl.one {w : World} {s : Value} {xs : List Int} (h : IntSl w s xs) : s.oneCell' = true := by
  rcases h with ⟨_, _, rfl, _⟩ | ⟨_, _, _, rfl, _⟩ <;> rfl

/-- A slice of slices of the call's own: its cells, with what they hold. -/
def LlBlk (w : World) (g : Nat) (ps : List (Value × List Int)) : Prop := ∃ cs : Array Value, Blk w g cs 26 ∧ ∀ (i : Nat) p, ps[i]? = some p → cs[i]? = some p.1

set_option maxRecDepth 100000 in
theorem cloneL_any (ls : List (List Int)) (b off n c : Nat) (w : World) (h : LlSl w (.slice (some ⟨b, off, none⟩) n c) ls) (hn : ls.length ≤ 1000000) :
    Calls Try.prog 168 #[.slice (some ⟨b, off, none⟩) n c] w fun e w' => ∃ (g cap : Nat) (ps : List (Value × List Int)), e = .returned (.slice (some ⟨g, 0, none⟩) ls.length cap) ∧ ps.map (·.2) = ls ∧ (∀ p ∈ ps, IntSl w p.1 p.2) ∧ w.heap.size ≤ g ∧ LlBlk w' g ps ∧ ls.length ≤ cap ∧ cap ≤ maxLen ∧ Below w.heap.size w w' := by
  obtain ⟨i0, hi0, hz0, hz1, hz2⟩ := info_parts infoL
  have key : ∃ vs : List Value, vs.length = ls.length ∧ (∀ (j : Nat) u, vs[j]? = some u → w.cell? ⟨b, off + j, none⟩ = some u) ∧ ∀ (i : Nat) s xs, vs[i]? = some s → ls[i]? = some xs → IntSl w s xs := by
    rcases h with ⟨a, c', e, rfl⟩ | ⟨b', off', cap', e, h1, h2, h3⟩
    · exact ⟨[], rfl, by simp, by simp⟩
    · simp only [Value.slice.injEq, Option.some.injEq, Addr.mk.injEq, and_true] at e
      obtain ⟨⟨rfl, rfl⟩, e2, rfl⟩ := e
      have hch : ∀ i : Fin ls.length, ∃ s, w.cell? ⟨b, off + i, none⟩ = some s ∧ IntSl w s ls[i] := fun i => h3 i ls[i] (List.getElem?_eq_getElem i.2)
      refine ⟨List.ofFn fun i => Classical.choose (hch i), by simp, fun j u hu => ?_, fun i s xs hs hx => ?_⟩
      · rw [List.getElem?_ofFn] at hu
        split at hu
        · rename_i hj
          cases hu
          exact (Classical.choose_spec (hch ⟨j, hj⟩)).1
        · cases hu
      · rw [List.getElem?_ofFn] at hs
        split at hs
        · rename_i hj
          cases hs
          have h5 := (Classical.choose_spec (hch ⟨i, hj⟩)).2
          rw [List.getElem?_eq_getElem hj] at hx
          cases hx
          exact h5
        · cases hs
  have hnl : n = ls.length := by
    obtain ⟨a, c', e⟩ := h.sized
    simp at e; exact e.2.1
  subst hnl
  obtain ⟨vs, k1, k2, k3⟩ := key
  have hone : ∀ u ∈ vs, u.oneCell' = true := fun u hu => by
    obtain ⟨i, hi, e⟩ := List.mem_iff_getElem.1 hu
    exact (k3 i u (ls[i]'(by omega)) (by rw [List.getElem?_eq_getElem hi, e]) (List.getElem?_eq_getElem _)).one
  have hcon := Try.slices_Clone_f168 i0 _ 1 24 hi0 hz0 hz1 hz2 rfl (by decide) (fun w => by kernel_rfl) b off ls.length c vs w (by omega) (by unfold maxLen; omega) (by omega) k2 hone
  refine hcon.mono ?_
  rintro e w' ⟨v', rfl, ⟨hl, hrow⟩, hne, hb⟩
  rcases hrow with ⟨rfl, _⟩ | ⟨g, cap, cur, rfl, hg, hblk, hc1, hc2, hc3, hc4⟩
  · exact absurd rfl hne
  refine ⟨g, cap, vs.zip ls, rfl, by rw [List.map_snd_zip (by omega)], fun p hp => ?_, hg, ⟨cur, hblk, fun i p hp => ?_⟩, hc1, hc2, hb⟩
  · obtain ⟨i, hi, e⟩ := List.mem_iff_getElem.1 hp
    have hi' : i < vs.length ∧ i < ls.length := by simp at hi; omega
    rw [List.getElem_zip] at e
    rw [← e]
    exact k3 i _ _ (List.getElem?_eq_getElem hi'.1) (List.getElem?_eq_getElem hi'.2)
  · have hi : i < (vs.zip ls).length := (List.getElem?_eq_some_iff.1 hp).1
    have hi' : i < vs.length ∧ i < ls.length := by simp at hi; omega
    rw [List.getElem?_eq_getElem hi, List.getElem_zip] at hp
    cases hp
    have h6 : (cur.toList.take (ls.length * 1))[i]? = some vs[i] := by rw [hc4, List.getElem?_eq_getElem hi'.1]
    rw [List.getElem?_take_of_lt (by omega)] at h6
    simpa using h6
end Go.Proofs.Ytaiadcfgmichpaa
