/- slices.SortFunc at a row of slices in memory of its own. -/
import Derived.Test.YtjldkejegdljiaaNetB
import Derived.Test.YtjldkejegdljiaaNSigX
import Derived.Test.YtjldkejegdljiaaSortL
namespace Go.Proofs.Ytjldkejegdljiaa
open Go.RowKit
set_option linter.unusedVariables false
set_option linter.unusedSimpArgs false

set_option maxRecDepth 100000 in
theorem sortRow_any (L : Nat) (P : Nat → Prop) (v : Value) (ls : List (List Int)) (w : World) (h : RowE w L P v ls) (hn : ls.length ≤ 1000000) :
    Calls Try.prog 110 #[v, .func (.func 111) #[] #[]] w fun e w' => e = .returned (.tuple #[]) ∧
      ∃ S : List (List Int), S.Perm ls ∧ S.Pairwise (fun a b => lcmp a b ≤ 0) ∧ RowE w' L P v S ∧ (∀ k, k < w.heap.size → v.ownBlock ≠ some k → w'.heap[k]? = w.heap[k]?) ∧ Within L w.heap.size w w' := by
  obtain ⟨vs, ⟨hvl, hrow⟩, h2, h3, h4⟩ := h
  rcases hrow with ⟨rfl, hz⟩ | ⟨g, cap, cur, rfl, c1, c2, c3, c4, c5, c6⟩
  · have hls : ls = [] := List.eq_nil_of_length_eq_zero hz
    subst hls
    refine (Try.slices_SortFunc_none (α := Nat) none 0 _ w).mono ?_
    rintro e w' ⟨rfl, rfl⟩
    exact ⟨rfl, [], List.Perm.refl _, List.Pairwise.nil, RowE.nil _ _ _, fun _ _ _ => rfl, Within.refl _ _ _⟩
  · obtain ⟨hg1, hg2, hg3⟩ := h3 g rfl
    simp only [Nat.mul_one] at c5 c6
    have hpl : (vs.zip ls).length = ls.length := by rw [List.length_zip, h2]; simp
    have hz : ∀ (i : Nat) p, (vs.zip ls)[i]? = some p → vs[i]? = some p.1 ∧ ls[i]? = some p.2 := fun i p hp => by
      rw [List.getElem?_zip_eq_some] at hp; exact hp
    have hmem : ∀ p ∈ vs.zip ls, ∃ f, P f ∧ f < w.heap.size ∧ OwnR w f (f + 1) p.1 p.2 := fun p hp => by
      obtain ⟨i, hi, e⟩ := List.mem_iff_getElem.1 hp
      obtain ⟨a, b⟩ := hz i p (by rw [List.getElem?_eq_getElem hi, e])
      exact h4 i _ _ b a
    have hs := sortFuncL_any 111 (fun args w => rfl) (fun W s1 s2 xs ys a b => nsig1_any s1 s2 xs ys W a b) g cap (vs.zip ls) w cur c2 (fun i p hp => by
      have := (hz i p hp).1
      rw [← c6, List.getElem?_take] at this
      split at this
      · simpa using this
      · cases this) (fun p hp => by
      obtain ⟨f, f1, f2, f3⟩ := hmem p hp
      refine ⟨f3.sl.one, fun w' ho => (f3.same fun k k1 k2 => ?_).sl⟩
      obtain rfl : k = f := by omega
      exact ho k f2 (fun e => hg3 (e ▸ f1))) (by rw [hpl]; exact hn)
    rw [hpl] at hs
    refine hs.mono ?_
    rintro e w' ⟨rfl, qs, ds, q1, q2, q3, q4, q5, q6⟩
    have hql : qs.length = ls.length := by rw [q1.length_eq, hpl]
    have hSp : (qs.map (·.2)).Perm ls := by
      have := q1.map (·.2)
      rwa [List.map_snd_zip (by rw [h2]; exact Nat.le_refl _)] at this
    refine ⟨rfl, qs.map (·.2), hSp, List.pairwise_map.2 q2, ⟨qs.map (·.1), ⟨by simp, ?_⟩, by simp, fun g' hg' => ?_, fun i x s hx hp => ?_⟩, fun k hk hne => q6.block k hk ?_, ⟨q6.os, q6.tape, q6.output, q6.size, fun k hk hne => q6.block k hk (by omega)⟩⟩
    · refine .inr ⟨g, cap, ds, by simp [hql], c1, q3, by simp [hql]; exact c3, c4, by rw [q4, c5, Nat.mul_one], ?_⟩
      rw [Nat.mul_one, List.length_map, hql]
      refine List.ext_getElem? fun i => ?_
      rw [List.getElem?_take, List.getElem?_map]
      split
      · obtain ⟨q, hq⟩ : ∃ q, qs[i]? = some q := ⟨qs[i]'(by omega), List.getElem?_eq_getElem _⟩
        rw [hq, Array.getElem?_toList, q5 i q hq]
        rfl
      · rw [List.getElem?_eq_none (by omega)]
        rfl
    · have : g = g' := by injection hg'
      subst this
      exact ⟨hg1, Nat.lt_of_lt_of_le hg2 q6.size, hg3⟩
    · rw [List.getElem?_map, Option.map_eq_some_iff] at hx hp
      obtain ⟨q, e1, rfl⟩ := hx
      obtain ⟨q', e2, rfl⟩ := hp
      rw [e1] at e2
      cases e2
      obtain ⟨f, f1, f2, f3⟩ := hmem q (q1.mem_iff.1 (List.mem_of_getElem? e1))
      refine ⟨f, f1, Nat.lt_of_lt_of_le f2 q6.size, f3.same fun k k1 k2 => ?_⟩
      obtain rfl : k = f := by omega
      refine q6.block k f2 ?_
      have : k ≠ g := fun e => hg3 (e ▸ f1)
      omega
    · have : g ≠ k := fun e => hne (by rw [← e]; rfl)
      omega
end Go.Proofs.Ytjldkejegdljiaa
