/- The program's initialColoring. -/
import Derived.Test.YtjldkejegdljiaaBldL
import Derived.Test.YtjldkejegdljiaaLastOp
namespace Go.Proofs.Ytjldkejegdljiaa
open Go.RowKit
set_option linter.unusedVariables false
set_option linter.unusedSimpArgs false

theorem make_lists (n : Nat) (hn : n ≤ 1048576) (w : World) : ∃ cs : Array Value, cs.size = n ∧ (∀ i, i < n → cs[i]? = some (Value.slice none 0 0)) ∧ (Instr.makeSlice 40 (.int .i64 n) (.int .i64 n)).run Try.prog w = .ok (.slice (some ⟨w.heap.size, 0, none⟩) n n) (w.alloc (.cells cs 39)) := by
  obtain ⟨i0, hi, hz0, hz1, hz2⟩ := info_parts infoL
  have h := run_make (P := Try.prog) w 40 39 i0 _ Try.underlying40 hi hz0 .i64 .i64 (n : Int) (n : Int) (by omega) (by omega) (by rw [hz2]; omega) (by omega)
  simp only [Int.toNat_natCast, hz1, Nat.mul_one] at h
  refine ⟨_, size_madeCells _ _, fun i hi => ?_, h⟩
  simp [madeCells, hi, Value.cells, Nat.mod_one]

/-- append(out, y0, ..), telling what else has turned. -/
theorem step_pushG {ops : Array Oper} {o : Oper} {a : Act} {w : World} {K : Act → World → Prop} {Q : Exit → Act → World → Prop} {E : Prop} (hgd : o.guard = none) (s x : Operand)
    (ho : o.op = .call { callee := .builtin .append, args := #[s, x], argTypes := #[39, 39] })
    (lo hi : Nat) (v : Value) (zs ys : List Int) (hs : a.eval s = v) (hB : BldI w lo hi v zs) (nb m : Nat) (cs : Array Value) (hx : a.eval x = .slice (some ⟨nb, 0, none⟩) m m) (hys : ys.length = m) (hm : 0 < m)
    (hnb : Blk w nb cs 2) (hcs : cs.toList = icells ys) (hlo : lo ≤ hi) (hn : zs.length + m ≤ 8000000)
    (hK : ∀ g c' w', BldI w' lo w'.heap.size (.slice (some ⟨g, 0, none⟩) (zs.length + m) c') (zs ++ ys) → (∀ k, k < w.heap.size → v.ownBlock ≠ some k → w'.heap[k]? = w.heap[k]?) → (v.ownBlock = some g ∨ w.heap.size ≤ g) → Within lo hi w w' → K (a.put o.dst (.slice (some ⟨g, 0, none⟩) (zs.length + m) c')) w') :
    if Region.wanted o (yielded ops a.tmps) = true then Oper.wp Try.prog o a w K Q else E := by
  obtain ⟨i0, hi0, hz0, hz1, hz2⟩ := info_parts infoI
  obtain ⟨hsz, h1, h3⟩ := hB
  refine step_append_lies w hgd s x 39 ho lo 2 i0 _ 1 8 Try.underlying39 hi0 hz0 hz1 hz2 rfl (by decide) v zs.length _ hs h1 ⟨nb, 0, none⟩ m m (icells ys) hx (by simp [icells, hys]) (by rw [← hcs]; exact World.news_of_block (cs := cs) hnb) ?_ hm (by unfold maxLen; omega) (by omega) (by omega) w.heap.size rfl ?_
  · intro u hu
    simp only [icells, List.mem_map] at hu
    obtain ⟨_, _, rfl⟩ := hu
    rfl
  · intro g cap w' hrow hgrow hg hgl
    have hW : Within lo hi w w' := grown_within hgrow h3
    refine hK g cap w' ⟨Nat.le_refl _, ?_, ?_⟩ (fun k hk hne => hgrow.block k hk (fun e => hne e.symm)) (hg.imp id (fun e => by omega)) hW
    · rw [List.length_append, hys, icells_push]; exact hrow
    · intro g' hg'
      have : g = g' := by injection hg'
      subst this
      rcases hg with h | h
      · have := h3 g h; omega
      · omega

/-- Block N holds m slices, each growing in memory of its own from L on. -/
def NetsI (w : World) (N L m : Nat) (lst : Nat → List Int) : Prop := ∃ (cs : Array Value) (vs : Nat → Value), Blk w N cs 39 ∧ cs.size = m ∧ (∀ j, j < m → cs[j]? = some (vs j) ∧ BldI w L w.heap.size (vs j) (lst j)) ∧
  (∀ i j, i < m → j < m → i ≠ j → ∀ g, (vs i).ownBlock = some g → (vs j).ownBlock ≠ some g)
theorem BldI.wideN {w : World} {lo hi hi' : Nat} {v : Value} {zs : List Int} (h : BldI w lo hi v zs) (h1 : hi ≤ hi') (h2 : hi' ≤ w.heap.size) : BldI w lo hi' v zs :=
  ⟨h2, h.2.1, fun g hg => by have := h.2.2 g hg; omega⟩
theorem NetsI.by {w w' : World} {N L m : Nat} {lst : Nat → List Int} (hb : Below w.heap.size w w') (h : NetsI w N L m lst) : NetsI w' N L m lst := by
  obtain ⟨cs, vs, h1, h2, h3, h4⟩ := h
  exact ⟨cs, vs, Blk.by hb h1, h2, fun j hj => ⟨(h3 j hj).1, ((h3 j hj).2.by hb).wideN hb.size (Nat.le_refl _)⟩, h4⟩
theorem NetsI.ll {w : World} {N L m : Nat} {lst : Nat → List Int} (h : NetsI w N L m lst) (hm : m ≤ 1000) : LlSl w (.slice (some ⟨N, 0, none⟩) m m) ((List.range m).map lst) := by
  obtain ⟨cs, vs, h1, h2, h3, h4⟩ := h
  refine .inr ⟨N, 0, m, by simp, by simp, by unfold maxLen; omega, fun i x hx => ?_⟩
  have hi : i < m := by have := (List.getElem?_eq_some_iff.1 hx).1; simpa using this
  rw [List.getElem?_map, List.getElem?_range hi] at hx
  simp only [Option.map_some, Option.some.injEq] at hx
  subst hx
  exact ⟨vs i, by rw [Nat.zero_add, h1.cell]; exact (h3 i hi).1, (h3 i hi).2.own.sl⟩
/-- One of the slices has grown and has been stored. -/
theorem NetsI.grow {w w' : World} {N L m j g cap : Nat} {lst lst' : Nat → List Int} {cs : Array Value} {vs : Nat → Value} (h1 : Blk w N cs 39) (h2 : cs.size = m) (h3 : ∀ j, j < m → cs[j]? = some (vs j) ∧ BldI w L w.heap.size (vs j) (lst j))
    (h4 : ∀ i j, i < m → j < m → i ≠ j → ∀ g, (vs i).ownBlock = some g → (vs j).ownBlock ≠ some g) (hj : j < m) (hN : N < L)
    (hg : BldI w' L w'.heap.size (.slice (some ⟨g, 0, none⟩) (lst' j).length cap) (lst' j)) (hk : ∀ k, k < w.heap.size → (vs j).ownBlock ≠ some k → w'.heap[k]? = w.heap[k]?) (ho : (vs j).ownBlock = some g ∨ w.heap.size ≤ g) (hs : w.heap.size ≤ w'.heap.size)
    (hl : ∀ i, i ≠ j → lst' i = lst i) : NetsI (w'.setCell ⟨N, j, none⟩ (.slice (some ⟨g, 0, none⟩) (lst' j).length cap)) N L m lst' := by
  have hNb : (vs j).ownBlock ≠ some N := fun e => by have := (h3 j hj).2.2.2 N e; omega
  have hB' : Blk w' N cs 39 := (hk N h1.lt hNb).trans h1
  have hW : Within N (N + 1) w' (w'.setCell ⟨N, j, none⟩ (.slice (some ⟨g, 0, none⟩) (lst' j).length cap)) := Within.off _
  refine ⟨cs.setIfInBounds j (.slice (some ⟨g, 0, none⟩) (lst' j).length cap), fun i => if i = j then .slice (some ⟨g, 0, none⟩) (lst' j).length cap else vs i, hB'.set j _, by simp [h2], fun i hi => ?_, fun a b ha hb hab g' hg' => ?_⟩
  · by_cases e : i = j
    · subst e
      simp only [if_true]
      refine ⟨by rw [Array.getElem?_setIfInBounds, if_pos rfl, if_pos (by omega)], ?_⟩
      have := BldI.past hW hg (.inl (by omega))
      simpa using this
    · simp only [if_neg e]
      refine ⟨by rw [Array.getElem?_setIfInBounds, if_neg (fun h => e h.symm)]; exact (h3 i hi).1, ?_⟩
      rw [hl i e]
      obtain ⟨c1, c2, c3⟩ := (h3 i hi).2
      have hB1 : BldI w' L w'.heap.size (vs i) (lst i) := ⟨Nat.le_refl _, row_same c2 (fun g0 e0 => hk g0 (by have := c3 g0 e0; omega) (fun e1 => h4 i j hi hj e g0 e0 e1)), fun g0 e0 => by have := c3 g0 e0; omega⟩
      have := BldI.past hW hB1 (.inl (by omega))
      simpa using this
  · by_cases e1 : a = j
    · subst e1
      have e2 : b ≠ a := fun h => hab h.symm
      simp only [if_true, if_neg e2] at hg' ⊢
      have hgg : g = g' := by injection hg'
      subst hgg
      intro e3
      rcases ho with h | h
      · exact h4 a b ha hb hab g h e3
      · have := (h3 b hb).2.2.2 g e3; omega
    · simp only [if_neg e1] at hg'
      by_cases e2 : b = j
      · subst e2
        simp only [if_true]
        intro e3
        have hgg : g = g' := by injection e3
        subst hgg
        rcases ho with h | h
        · exact h4 a b ha hb hab g hg' h
        · have := (h3 a ha).2.2.2 g hg'; omega
      · simp only [if_neg e2]
        exact h4 a b ha hb hab g' hg'
/-- append(out, list), at a step of a region that draws its order. -/
theorem step_pushLG {ops : Array Oper} {o : Oper} {a : Act} {w : World} {K : Act → World → Prop} {Q : Exit → Act → World → Prop} {E : Prop} (hgd : o.guard = none) (s x : Operand)
    (ho : o.op = .call { callee := .builtin .append, args := #[s, x], argTypes := #[40, 40] })
    (lo hi : Nat) (v : Value) (ls : List (List Int)) (hs : a.eval s = v) (hB : BldL w lo hi v ls) (nb : Nat) (d : List Int) (pv : Value) (fb : Nat) (hx : a.eval x = .slice (some ⟨nb, 0, none⟩) 1 1)
    (hnb : Blk w nb #[pv] 39) (hpv : OwnR w fb (fb + 1) pv d) (hlo : lo ≤ hi) (hhi : hi ≤ fb) (hfb : fb < w.heap.size) (hn : ls.length ≤ 1000)
    (hK : ∀ g c' w', BldL w' lo w'.heap.size (.slice (some ⟨g, 0, none⟩) (ls.length + 1) c') (ls ++ [d]) → (∀ k, k < w.heap.size → v.ownBlock ≠ some k → w'.heap[k]? = w.heap[k]?) → (v.ownBlock = some g ∨ w.heap.size ≤ g) → Within lo hi w w' → K (a.put o.dst (.slice (some ⟨g, 0, none⟩) (ls.length + 1) c')) w') :
    if Region.wanted o (yielded ops a.tmps) = true then Oper.wp Try.prog o a w K Q else E := by
  obtain ⟨i0, hi0, hz0, hz1, hz2⟩ := info_parts infoL
  obtain ⟨hsz, vs, f, h1, h2, h3, h4⟩ := hB
  have hone : pv.oneCell' = true := hpv.sl.one
  refine step_append_lies w hgd s x 40 ho lo 39 i0 _ 1 24 Try.underlying40 hi0 hz0 hz1 hz2 rfl (by decide) v ls.length _ hs h1 ⟨nb, 0, none⟩ 1 1 [pv] hx rfl (World.news_of_block (cs := #[pv]) hnb) ?_ (by decide) (by unfold maxLen; omega) (by omega) (by omega) w.heap.size rfl ?_
  · intro u hu
    simp at hu
    subst hu
    exact hone
  · intro g cap w' hrow hgrow hg hgl
    have hW : Within lo hi w w' := grown_within hgrow h3
    refine hK g cap w' ⟨Nat.le_refl _, vs ++ [pv], fun i => if i = ls.length then fb else f i, ?_, by simp [h2], ?_, ?_⟩ (fun k hk hne => hgrow.block k hk (fun e => hne e.symm)) (hg.imp id (fun e => by omega)) hW
    · rw [List.length_append, List.length_singleton]; exact hrow
    · intro g' hg'
      have : g = g' := by injection hg'
      subst this
      rcases hg with h | h
      · have := h3 g h; omega
      · omega
    · intro i y pv' hy hp'
      by_cases hi' : i < ls.length
      · rw [List.getElem?_append_left hi'] at hy
        rw [List.getElem?_append_left (by omega)] at hp'
        obtain ⟨a1, b1, c1⟩ := h4 i y pv' hy hp'
        simp only [if_neg (show i ≠ ls.length by omega)]
        have hsep : ∀ g0, v.ownBlock = some g0 → g0 ≠ f i := fun g0 e1 e2 => c1 (by rw [e1, e2])
        refine ⟨?_, by have := hgrow.size; omega, ?_⟩
        · cases hv : v.ownBlock with
          | none => exact OwnR.by ⟨hgrow.os, hgrow.tape, hgrow.output, hgrow.size, fun k hk => hgrow.block k hk (by rw [hv]; simp)⟩ a1
          | some g0 => exact OwnR.past (grown_within (lo := g0) (hi := g0 + 1) hgrow (fun g1 e => by rw [hv] at e; cases e; omega)) a1 (by have := hsep g0 hv; omega)
        · intro e
          have : g = f i := by injection e
          rcases hg with h | h
          · exact hsep g h this
          · omega
      · have hil : i < (ls ++ [d]).length := (List.getElem?_eq_some_iff.1 hy).1
        simp at hil
        obtain rfl : i = ls.length := by omega
        rw [List.getElem?_append_right (Nat.le_refl _)] at hy
        rw [List.getElem?_append_right (by omega)] at hp'
        simp [h2] at hy hp'
        subst hy hp'
        simp only [if_true]
        refine ⟨OwnR.past hW hpv (by omega), by have := hgrow.size; omega, ?_⟩
        intro e
        have : g = fb := by injection e
        rcases hg with h | h
        · have := h3 g h; omega
        · omega
theorem list_pushLG {ops : Array Oper} {rest : List Oper} {o : Oper} {a : Act} {w : World} {Q : Exit → Act → World → Prop} (hgd : o.guard = none) (s x : Operand)
    (ho : o.op = .call { callee := .builtin .append, args := #[s, x], argTypes := #[40, 40] })
    (lo hi : Nat) (v : Value) (ls : List (List Int)) (hs : a.eval s = v) (hB : BldL w lo hi v ls) (nb : Nat) (d : List Int) (pv : Value) (fb : Nat) (hx : a.eval x = .slice (some ⟨nb, 0, none⟩) 1 1)
    (hnb : Blk w nb #[pv] 39) (hpv : OwnR w fb (fb + 1) pv d) (hlo : lo ≤ hi) (hhi : hi ≤ fb) (hfb : fb < w.heap.size) (hn : ls.length ≤ 1000)
    (hK : ∀ g c' w', BldL w' lo w'.heap.size (.slice (some ⟨g, 0, none⟩) (ls.length + 1) c') (ls ++ [d]) → (∀ k, k < w.heap.size → v.ownBlock ≠ some k → w'.heap[k]? = w.heap[k]?) → (v.ownBlock = some g ∨ w.heap.size ≤ g) → Within lo hi w w' → wpList Try.prog ops Q rest (a.put o.dst (.slice (some ⟨g, 0, none⟩) (ls.length + 1) c')) w') : wpList Try.prog ops Q (o :: rest) a w :=
  wpList_plain hgd fun K hk => by
    have h := step_pushLG (ops := ops) (K := K) (Q := Q) (E := False) hgd s x ho lo hi v ls hs hB nb d pv fb hx hnb hpv hlo hhi hfb hn (fun a' c' w' h1 h2 h3 h4 => hk _ _ (hK a' c' w' h1 h2 h3 h4))
    rwa [if_pos (by simp [Region.wanted, hgd])] at h


theorem NetsI.off {w w' : World} {N m : Nat} {lst : Nat → List Int} (h : NetsI w N (N + 2) m lst) (ho : Off (N + 1) w w') (hs : w.heap.size ≤ w'.heap.size) : NetsI w' N (N + 2) m lst := by
  obtain ⟨cs, vs, h1, h2, h3, h4⟩ := h
  refine ⟨cs, vs, (ho N h1.lt (by omega)).trans h1, h2, fun j hj => ⟨(h3 j hj).1, ?_⟩, h4⟩
  obtain ⟨c1, c2, c3⟩ := (h3 j hj).2
  exact ⟨Nat.le_refl _, row_same c2 (fun g0 e0 => ho g0 (by have := c3 g0 e0; omega) (by have := c3 g0 e0; omega)), fun g0 e0 => by have := c3 g0 e0; omega⟩
theorem Off.blk {w w' : World} {b g : Nat} {cs : Array Value} {T : TypeId} (ho : Off b w w') (h : Blk w g cs T) (hne : g ≠ b) : Blk w' g cs T := (ho g h.lt hne).trans h
end Go.Proofs.Ytjldkejegdljiaa
