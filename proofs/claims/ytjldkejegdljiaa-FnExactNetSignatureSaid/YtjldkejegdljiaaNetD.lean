/- append(row, rows...): a row of slices behind another. -/
import Derived.Test.YtjldkejegdljiaaNetB
namespace Go.Proofs.Ytjldkejegdljiaa
open Go.RowKit
set_option linter.unusedVariables false
set_option linter.unusedSimpArgs false

theorem step_appendB {ops : Array Oper} {o : Oper} {a : Act} {w : World} {K : Act → World → Prop} {Q : Exit → Act → World → Prop} {E : Prop} (hgd : o.guard = none) (s x : Operand)
    (ho : o.op = .call { callee := .builtin .append, args := #[s, x], argTypes := #[40, 40] })
    (L L2 : Nat) (P : Nat → Prop) (v v2 : Value) (ls l2 : List (List Int)) (hs : a.eval s = v) (hB : RowE w L P v ls) (hx : a.eval x = v2) (hB2 : RowE w L2 P v2 l2) (h0 : 0 < l2.length) (hL : L ≤ w.heap.size) (hPb : ∀ k, P k → k < w.heap.size) (hn : ls.length + l2.length ≤ 1000)
    (hK : ∀ g c' w', RowE w' L P (.slice (some ⟨g, 0, none⟩) (ls.length + l2.length) c') (ls ++ l2) → (∀ k, k < w.heap.size → v.ownBlock ≠ some k → w'.heap[k]? = w.heap[k]?) → (v.ownBlock = some g ∨ w.heap.size ≤ g) → Within L w.heap.size w w' → K (a.put o.dst (.slice (some ⟨g, 0, none⟩) (ls.length + l2.length) c')) w') :
    if Region.wanted o (yielded ops a.tmps) = true then Oper.wp Try.prog o a w K Q else E := by
  obtain ⟨i0, hi0, hz0, hz1, hz2⟩ := info_parts infoL
  obtain ⟨vs, h1, h2, h3, h4⟩ := hB
  obtain ⟨v2s, ⟨_, r1⟩, r2, r3, r4⟩ := hB2
  rcases r1 with ⟨_, r5⟩ | ⟨b, cap2, cur, rfl, r5, r6, r7, r8, r9, r10⟩
  · omega
  simp only [Nat.mul_one] at r10
  refine step_append_lies w hgd s x 40 ho L 39 i0 _ 1 24 Try.underlying40 hi0 hz0 hz1 hz2 rfl (by decide) v ls.length _ hs h1 ⟨b, 0, none⟩ l2.length cap2 v2s hx (by rw [r2, Nat.mul_one]) ?_ ?_ h0 (by unfold maxLen; omega) (by omega) (by omega) w.heap.size rfl ?_
  · intro j u hu
    refine World.news_of_block r6 j u ?_
    rw [← r10, List.getElem?_take] at hu
    split at hu
    · exact hu
    · cases hu
  · intro u hu
    obtain ⟨i, hi, e⟩ := List.mem_iff_getElem.1 hu
    obtain ⟨f, _, _, f3⟩ := r4 i (l2[i]'(by omega)) u (List.getElem?_eq_getElem _) (by rw [List.getElem?_eq_getElem hi, e])
    exact f3.sl.one
  · intro g cap w' hrow hgrow hg hgl
    have hW : Within L w.heap.size w w' := grown_within hgrow (fun g hg => ⟨(h3 g hg).1, (h3 g hg).2.1⟩)
    have hold : ∀ k, k < w.heap.size → v.ownBlock ≠ some k → w'.heap[k]? = w.heap[k]? := fun k hk hne => hgrow.block k hk (fun e => hne e.symm)
    have hPo : ∀ f, P f → f < w.heap.size → w'.heap[f]? = w.heap[f]? := fun f hf hlt => hold f hlt (fun e => (h3 f e).2.2 hf)
    have hsz := hgrow.size
    refine hK g cap w' ⟨vs ++ v2s, ?_, by simp [h2, r2], ?_, ?_⟩ hold (hg.imp id (fun e => by omega)) hW
    · rw [List.length_append]; exact hrow
    · intro g' hg'
      have : g = g' := by injection hg'
      subst this
      rcases hg with h | h
      · exact ⟨(h3 g h).1, hgl, (h3 g h).2.2⟩
      · exact ⟨by omega, hgl, fun hp => by have := hPb g hp; omega⟩
    · intro i y pv' hy hp'
      have hof : ∃ f, P f ∧ f < w.heap.size ∧ OwnR w f (f + 1) pv' y := by
        by_cases hi' : i < ls.length
        · rw [List.getElem?_append_left hi'] at hy
          rw [List.getElem?_append_left (by omega)] at hp'
          exact h4 i y pv' hy hp'
        · rw [List.getElem?_append_right (by omega)] at hy
          rw [List.getElem?_append_right (by omega), h2] at hp'
          exact r4 _ y pv' hy hp'
      obtain ⟨f, f1, f2, f3⟩ := hof
      refine ⟨f, f1, by omega, f3.same fun k k1 k2 => ?_⟩
      obtain rfl : k = f := by omega
      exact hPo k f1 f2
theorem RowE.ll {w : World} {L : Nat} {P : Nat → Prop} {v : Value} {ls : List (List Int)} (h : RowE w L P v ls) : LlSl w v ls := by
  obtain ⟨vs, ⟨_, r1⟩, r2, r3, r4⟩ := h
  rcases r1 with ⟨r1, r5⟩ | ⟨b, cap2, cur, rfl, r5, r6, r7, r8, r9, r10⟩
  · exact .inl ⟨_, _, r1, List.eq_nil_of_length_eq_zero r5⟩
  · simp only [Nat.mul_one] at r10
    refine .inr ⟨b, 0, cap2, rfl, r7, r8, fun i xs hi => ?_⟩
    have hil : i < ls.length := (List.getElem?_eq_some_iff.1 hi).1
    obtain ⟨sv, hv⟩ : ∃ sv, vs[i]? = some sv := ⟨vs[i]'(by omega), List.getElem?_eq_getElem _⟩
    obtain ⟨f, _, _, f3⟩ := r4 i xs _ hi hv
    refine ⟨_, ?_, f3.sl⟩
    rw [Nat.zero_add, Blk.cell (w := w) (cs := cur) (T := 39) r6]
    have := hv
    rw [← r10, List.getElem?_take, if_pos hil] at this
    simpa using this
end Go.Proofs.Ytjldkejegdljiaa
