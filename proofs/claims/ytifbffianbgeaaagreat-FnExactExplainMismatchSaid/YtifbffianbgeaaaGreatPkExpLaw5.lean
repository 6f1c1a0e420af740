/- Contracts and plain laws, part 5, for the statement's proof. -/
import Derived.Test.YtifbffianbgeaaaGreatPkExpLaw4
import Derived.Lib.AppendZeros
import Derived.Deep.AppendSrc
namespace Go.Proofs.YtifbffianbgeaaaGreat
open Go.RowKit
set_option linter.unusedVariables false
set_option linter.unusedSimpArgs false
theorem make_lists (n : Nat) (hn : n ≤ 1048576) (w : World) : ∃ cs : Array Value, cs.size = n ∧ (∀ i, i < n → cs[i]? = some (Value.slice none 0 0)) ∧ (Instr.makeSlice 87 (.int .i64 n) (.int .i64 n)).run Tryz.prog w = .ok (.slice (some ⟨w.heap.size, 0, none⟩) n n) (w.alloc (.cells cs 27)) := by
  obtain ⟨i0, hi, hz0, hz1, hz2⟩ := info_parts infoL
  have h := run_make (P := Tryz.prog) w 87 27 i0 _ Tryz.underlying87 hi hz0 .i64 .i64 (n : Int) (n : Int) (by omega) (by omega) (by rw [hz2]; omega) (by omega)
  simp only [Int.toNat_natCast, hz1, Nat.mul_one] at h
  refine ⟨_, size_madeCells _ _, fun i hi => ?_, h⟩
  simp [madeCells, hi, Value.cells, Nat.mod_one]
theorem step_pushG {ops : Array Oper} {o : Oper} {a : Act} {w : World} {K : Act → World → Prop} {Q : Exit → Act → World → Prop} {E : Prop} (hgd : o.guard = none) (s x : Operand)
    (ho : o.op = .call { callee := .builtin .append, args := #[s, x], argTypes := #[27, 27] })
    (lo hi : Nat) (v : Value) (zs ys : List Int) (hs : a.eval s = v) (hB : BldI w lo hi v zs) (nb m : Nat) (cs : Array Value) (hx : a.eval x = .slice (some ⟨nb, 0, none⟩) m m) (hys : ys.length = m) (hm : 0 < m)
    (hnb : Blk w nb cs 2) (hcs : cs.toList = icells ys) (hlo : lo ≤ hi) (hn : zs.length + m ≤ 8000000)
    (hK : ∀ g c' w', BldI w' lo w'.heap.size (.slice (some ⟨g, 0, none⟩) (zs.length + m) c') (zs ++ ys) → (∀ k, k < w.heap.size → v.ownBlock ≠ some k → w'.heap[k]? = w.heap[k]?) → (v.ownBlock = some g ∨ w.heap.size ≤ g) → Within lo hi w w' → K (a.put o.dst (.slice (some ⟨g, 0, none⟩) (zs.length + m) c')) w') :
    if Region.wanted o (yielded ops a.tmps) = true then Oper.wp Tryz.prog o a w K Q else E := by
  obtain ⟨i0, hi0, hz0, hz1, hz2⟩ := info_parts infoI
  obtain ⟨hsz, h1, h3⟩ := hB
  refine step_append_lies w hgd s x 27 ho lo 2 i0 _ 1 8 Tryz.underlying27 hi0 hz0 hz1 hz2 rfl (by decide) v zs.length _ hs h1 ⟨nb, 0, none⟩ m m (icells ys) hx (by simp [icells, hys]) (by rw [← hcs]; exact World.news_of_block (cs := cs) hnb) ?_ hm (by unfold maxLen; omega) (by omega) (by omega) w.heap.size rfl ?_
  · intro u hu
    simp only [icells, List.mem_map] at hu
    obtain ⟨_, _, rfl⟩ := hu
    rfl
  · intro g cap w' hrow hgrow hg hgl
    have hW : Within lo hi w w' := grown_within hgrow h3
    refine hK g cap w' ⟨Nat.le_refl _, ?_, ?_⟩ (fun k hk hne => hgrow.block k hk (fun e => hne e.symm)) (hg.imp id (fun e => by omega)) hW
    · rw [List.length_append, hys, icells_push]; exact hrow
    · intro g' hg'
      have : g = g' := by injection hg'
      subst this
      rcases hg with h | h
      · have := h3 g h; omega
      · omega
def NetsI (w : World) (N L m : Nat) (lst : Nat → List Int) : Prop := ∃ (cs : Array Value) (vs : Nat → Value), Blk w N cs 27 ∧ cs.size = m ∧ (∀ j, j < m → cs[j]? = some (vs j) ∧ BldI w L w.heap.size (vs j) (lst j)) ∧
  (∀ i j, i < m → j < m → i ≠ j → ∀ g, (vs i).ownBlock = some g → (vs j).ownBlock ≠ some g)
theorem BldI.wideN {w : World} {lo hi hi' : Nat} {v : Value} {zs : List Int} (h : BldI w lo hi v zs) (h1 : hi ≤ hi') (h2 : hi' ≤ w.heap.size) : BldI w lo hi' v zs :=
  ⟨h2, h.2.1, fun g hg => by have := h.2.2 g hg; omega⟩
theorem NetsI.by {w w' : World} {N L m : Nat} {lst : Nat → List Int} (hb : Below w.heap.size w w') (h : NetsI w N L m lst) : NetsI w' N L m lst := by
  obtain ⟨cs, vs, h1, h2, h3, h4⟩ := h
  exact ⟨cs, vs, Blk.by hb h1, h2, fun j hj => ⟨(h3 j hj).1, ((h3 j hj).2.by hb).wideN hb.size (Nat.le_refl _)⟩, h4⟩
theorem NetsI.ll {w : World} {N L m : Nat} {lst : Nat → List Int} (h : NetsI w N L m lst) (hm : m ≤ 1000) : LlSl w (.slice (some ⟨N, 0, none⟩) m m) ((List.range m).map lst) := by
  obtain ⟨cs, vs, h1, h2, h3, h4⟩ := h
  refine .inr ⟨N, 0, m, by simp, by simp, by unfold maxLen; omega, fun i x hx => ?_⟩
  have hi : i < m := by have := (List.getElem?_eq_some_iff.1 hx).1; simpa using this
  rw [List.getElem?_map, List.getElem?_range hi] at hx
  simp only [Option.map_some, Option.some.injEq] at hx
  subst hx
  exact ⟨vs i, by rw [Nat.zero_add, h1.cell]; exact (h3 i hi).1, (h3 i hi).2.own.sl⟩
theorem NetsI.grow {w w' : World} {N L m j g cap : Nat} {lst lst' : Nat → List Int} {cs : Array Value} {vs : Nat → Value} (h1 : Blk w N cs 27) (h2 : cs.size = m) (h3 : ∀ j, j < m → cs[j]? = some (vs j) ∧ BldI w L w.heap.size (vs j) (lst j))
    (h4 : ∀ i j, i < m → j < m → i ≠ j → ∀ g, (vs i).ownBlock = some g → (vs j).ownBlock ≠ some g) (hj : j < m) (hN : N < L)
    (hg : BldI w' L w'.heap.size (.slice (some ⟨g, 0, none⟩) (lst' j).length cap) (lst' j)) (hk : ∀ k, k < w.heap.size → (vs j).ownBlock ≠ some k → w'.heap[k]? = w.heap[k]?) (ho : (vs j).ownBlock = some g ∨ w.heap.size ≤ g) (hs : w.heap.size ≤ w'.heap.size)
    (hl : ∀ i, i ≠ j → lst' i = lst i) : NetsI (w'.setCell ⟨N, j, none⟩ (.slice (some ⟨g, 0, none⟩) (lst' j).length cap)) N L m lst' := by
  have hNb : (vs j).ownBlock ≠ some N := fun e => by have := (h3 j hj).2.2.2 N e; omega
  have hB' : Blk w' N cs 27 := (hk N h1.lt hNb).trans h1
  have hW : Within N (N + 1) w' (w'.setCell ⟨N, j, none⟩ (.slice (some ⟨g, 0, none⟩) (lst' j).length cap)) := Within.off _
  refine ⟨cs.setIfInBounds j (.slice (some ⟨g, 0, none⟩) (lst' j).length cap), fun i => if i = j then .slice (some ⟨g, 0, none⟩) (lst' j).length cap else vs i, hB'.set j _, by simp [h2], fun i hi => ?_, fun a b ha hb hab g' hg' => ?_⟩
  · by_cases e : i = j
    · subst e
      simp only [if_true]
      refine ⟨by rw [Array.getElem?_setIfInBounds, if_pos rfl, if_pos (by omega)], ?_⟩
      have := BldI.past hW hg (.inl (by omega))
      simpa using this
    · simp only [if_neg e]
      refine ⟨by rw [Array.getElem?_setIfInBounds, if_neg (fun h => e h.symm)]; exact (h3 i hi).1, ?_⟩
      rw [hl i e]
      obtain ⟨c1, c2, c3⟩ := (h3 i hi).2
      have hB1 : BldI w' L w'.heap.size (vs i) (lst i) := ⟨Nat.le_refl _, row_same c2 (fun g0 e0 => hk g0 (by have := c3 g0 e0; omega) (fun e1 => h4 i j hi hj e g0 e0 e1)), fun g0 e0 => by have := c3 g0 e0; omega⟩
      have := BldI.past hW hB1 (.inl (by omega))
      simpa using this
  · by_cases e1 : a = j
    · subst e1
      have e2 : b ≠ a := fun h => hab h.symm
      simp only [if_true, if_neg e2] at hg' ⊢
      have hgg : g = g' := by injection hg'
      subst hgg
      intro e3
      rcases ho with h | h
      · exact h4 a b ha hb hab g h e3
      · have := (h3 b hb).2.2.2 g e3; omega
    · simp only [if_neg e1] at hg'
      by_cases e2 : b = j
      · subst e2
        simp only [if_true]
        intro e3
        have hgg : g = g' := by injection e3
        subst hgg
        rcases ho with h | h
        · exact h4 a b ha hb hab g hg' h
        · have := (h3 a ha).2.2.2 g hg'; omega
      · simp only [if_neg e2]
        exact h4 a b ha hb hab g' hg'
theorem step_pushLG {ops : Array Oper} {o : Oper} {a : Act} {w : World} {K : Act → World → Prop} {Q : Exit → Act → World → Prop} {E : Prop} (hgd : o.guard = none) (s x : Operand)
    (ho : o.op = .call { callee := .builtin .append, args := #[s, x], argTypes := #[87, 87] })
    (lo hi : Nat) (v : Value) (ls : List (List Int)) (hs : a.eval s = v) (hB : BldL w lo hi v ls) (nb : Nat) (d : List Int) (pv : Value) (fb : Nat) (hx : a.eval x = .slice (some ⟨nb, 0, none⟩) 1 1)
    (hnb : Blk w nb #[pv] 27) (hpv : OwnR w fb (fb + 1) pv d) (hlo : lo ≤ hi) (hhi : hi ≤ fb) (hfb : fb < w.heap.size) (hn : ls.length ≤ 1000)
    (hK : ∀ g c' w', BldL w' lo w'.heap.size (.slice (some ⟨g, 0, none⟩) (ls.length + 1) c') (ls ++ [d]) → (∀ k, k < w.heap.size → v.ownBlock ≠ some k → w'.heap[k]? = w.heap[k]?) → (v.ownBlock = some g ∨ w.heap.size ≤ g) → Within lo hi w w' → K (a.put o.dst (.slice (some ⟨g, 0, none⟩) (ls.length + 1) c')) w') :
    if Region.wanted o (yielded ops a.tmps) = true then Oper.wp Tryz.prog o a w K Q else E := by
  obtain ⟨i0, hi0, hz0, hz1, hz2⟩ := info_parts infoL
  obtain ⟨hsz, vs, f, h1, h2, h3, h4⟩ := hB
  have hone : pv.oneCell' = true := hpv.sl.one
  refine step_append_lies w hgd s x 87 ho lo 27 i0 _ 1 24 Tryz.underlying87 hi0 hz0 hz1 hz2 rfl (by decide) v ls.length _ hs h1 ⟨nb, 0, none⟩ 1 1 [pv] hx rfl (World.news_of_block (cs := #[pv]) hnb) ?_ (by decide) (by unfold maxLen; omega) (by omega) (by omega) w.heap.size rfl ?_
  · intro u hu
    simp at hu
    subst hu
    exact hone
  · intro g cap w' hrow hgrow hg hgl
    have hW : Within lo hi w w' := grown_within hgrow h3
    refine hK g cap w' ⟨Nat.le_refl _, vs ++ [pv], fun i => if i = ls.length then fb else f i, ?_, by simp [h2], ?_, ?_⟩ (fun k hk hne => hgrow.block k hk (fun e => hne e.symm)) (hg.imp id (fun e => by omega)) hW
    · rw [List.length_append, List.length_singleton]; exact hrow
    · intro g' hg'
      have : g = g' := by injection hg'
      subst this
      rcases hg with h | h
      · have := h3 g h; omega
      · omega
    · intro i y pv' hy hp'
      by_cases hi' : i < ls.length
      · rw [List.getElem?_append_left hi'] at hy
        rw [List.getElem?_append_left (by omega)] at hp'
        obtain ⟨a1, b1, c1⟩ := h4 i y pv' hy hp'
        simp only [if_neg (show i ≠ ls.length by omega)]
        have hsep : ∀ g0, v.ownBlock = some g0 → g0 ≠ f i := fun g0 e1 e2 => c1 (by rw [e1, e2])
        refine ⟨?_, by have := hgrow.size; omega, ?_⟩
        · cases hv : v.ownBlock with
          | none => exact OwnR.by ⟨hgrow.os, hgrow.tape, hgrow.output, hgrow.size, fun k hk => hgrow.block k hk (by rw [hv]; simp)⟩ a1
          | some g0 => exact OwnR.past (grown_within (lo := g0) (hi := g0 + 1) hgrow (fun g1 e => by rw [hv] at e; cases e; omega)) a1 (by have := hsep g0 hv; omega)
        · intro e
          have : g = f i := by injection e
          rcases hg with h | h
          · exact hsep g h this
          · omega
      · have hil : i < (ls ++ [d]).length := (List.getElem?_eq_some_iff.1 hy).1
        simp at hil
        obtain rfl : i = ls.length := by omega
        rw [List.getElem?_append_right (Nat.le_refl _)] at hy
        rw [List.getElem?_append_right (by omega)] at hp'
        simp [h2] at hy hp'
        subst hy hp'
        simp only [if_true]
        refine ⟨OwnR.past hW hpv (by omega), by have := hgrow.size; omega, ?_⟩
        intro e
        have : g = fb := by injection e
        rcases hg with h | h
        · have := h3 g h; omega
        · omega
theorem list_pushLG {ops : Array Oper} {rest : List Oper} {o : Oper} {a : Act} {w : World} {Q : Exit → Act → World → Prop} (hgd : o.guard = none) (s x : Operand)
    (ho : o.op = .call { callee := .builtin .append, args := #[s, x], argTypes := #[87, 87] })
    (lo hi : Nat) (v : Value) (ls : List (List Int)) (hs : a.eval s = v) (hB : BldL w lo hi v ls) (nb : Nat) (d : List Int) (pv : Value) (fb : Nat) (hx : a.eval x = .slice (some ⟨nb, 0, none⟩) 1 1)
    (hnb : Blk w nb #[pv] 27) (hpv : OwnR w fb (fb + 1) pv d) (hlo : lo ≤ hi) (hhi : hi ≤ fb) (hfb : fb < w.heap.size) (hn : ls.length ≤ 1000)
    (hK : ∀ g c' w', BldL w' lo w'.heap.size (.slice (some ⟨g, 0, none⟩) (ls.length + 1) c') (ls ++ [d]) → (∀ k, k < w.heap.size → v.ownBlock ≠ some k → w'.heap[k]? = w.heap[k]?) → (v.ownBlock = some g ∨ w.heap.size ≤ g) → Within lo hi w w' → wpList Tryz.prog ops Q rest (a.put o.dst (.slice (some ⟨g, 0, none⟩) (ls.length + 1) c')) w') : wpList Tryz.prog ops Q (o :: rest) a w :=
  wpList_plain hgd fun K hk => by
    have h := step_pushLG (ops := ops) (K := K) (Q := Q) (E := False) hgd s x ho lo hi v ls hs hB nb d pv fb hx hnb hpv hlo hhi hfb hn (fun a' c' w' h1 h2 h3 h4 => hk _ _ (hK a' c' w' h1 h2 h3 h4))
    rwa [if_pos (by simp [Region.wanted, hgd])] at h
theorem NetsI.off {w w' : World} {N m : Nat} {lst : Nat → List Int} (h : NetsI w N (N + 2) m lst) (ho : Off (N + 1) w w') (hs : w.heap.size ≤ w'.heap.size) : NetsI w' N (N + 2) m lst := by
  obtain ⟨cs, vs, h1, h2, h3, h4⟩ := h
  refine ⟨cs, vs, (ho N h1.lt (by omega)).trans h1, h2, fun j hj => ⟨(h3 j hj).1, ?_⟩, h4⟩
  obtain ⟨c1, c2, c3⟩ := (h3 j hj).2
  exact ⟨Nat.le_refl _, row_same c2 (fun g0 e0 => ho g0 (by have := c3 g0 e0; omega) (by have := c3 g0 e0; omega)), fun g0 e0 => by have := c3 g0 e0; omega⟩
theorem Off.blk {w w' : World} {b g : Nat} {cs : Array Value} {T : TypeId} (ho : Off b w w') (h : Blk w g cs T) (hne : g ≠ b) : Blk w' g cs T := (ho g h.lt hne).trans h
/- A block of rows of slices, each growing in memory of its own; the rows' elements lie in blocks of P, which are never written again. -/
theorem OwnR.same {w w' : World} {lo hi : Nat} {sv : Value} {zs : List Int} (h : OwnR w lo hi sv zs) (hb : ∀ g, lo ≤ g → g < hi → w'.heap[g]? = w.heap[g]?) : OwnR w' lo hi sv zs := by
  rcases h with h | ⟨g, cap, cs, e1, e2, e3, e4, e5, e6, e7⟩
  · exact .inl h
  · exact .inr ⟨g, cap, cs, e1, e2, e3, e4, e5, (hb g e2 e3).trans e6, e7⟩
def RowE (w : World) (L : Nat) (P : Nat → Prop) (v : Value) (ls : List (List Int)) : Prop := ∃ vs : List Value, w.ownsRow L 27 1 v ls.length vs ∧ vs.length = ls.length ∧ (∀ g, v.ownBlock = some g → L ≤ g ∧ g < w.heap.size ∧ ¬ P g) ∧
  ∀ (i : Nat) x s, ls[i]? = some x → vs[i]? = some s → ∃ f, P f ∧ f < w.heap.size ∧ OwnR w f (f + 1) s x
section
variable {w w' : World} {L : Nat} {P P' : Nat → Prop} {v : Value} {ls : List (List Int)}
theorem RowE.nil (w : World) (L : Nat) (P : Nat → Prop) : RowE w L P (.slice none 0 0) [] :=
  ⟨[], World.ownsRow_nil w L _ 1, rfl, fun g h => (by cases h), fun i x s hx _ => (by simp at hx)⟩
theorem RowE.off (h : RowE w L P v ls) (hs : w.heap.size ≤ w'.heap.size) (hb : ∀ k, k < w.heap.size → (P k ∨ v.ownBlock = some k) → w'.heap[k]? = w.heap[k]?) : RowE w' L P v ls := by
  obtain ⟨vs, h1, h2, h3, h4⟩ := h
  refine ⟨vs, row_same h1 (fun g hg => hb g (h3 g hg).2.1 (.inr hg)), h2, fun g hg => ⟨(h3 g hg).1, by have := (h3 g hg).2.1; omega, (h3 g hg).2.2⟩, fun i x s hx hp => ?_⟩
  obtain ⟨f, f1, f2, f3⟩ := h4 i x s hx hp
  refine ⟨f, f1, by omega, f3.same fun g g1 g2 => ?_⟩
  obtain rfl : g = f := by omega
  exact hb g f2 (.inl f1)
theorem RowE.more (h : RowE w L P v ls) (h1 : ∀ k, P k → P' k) (h2 : ∀ k, k < w.heap.size → P' k → P k) : RowE w L P' v ls := by
  obtain ⟨vs, a1, a2, a3, a4⟩ := h
  refine ⟨vs, a1, a2, fun g hg => ⟨(a3 g hg).1, (a3 g hg).2.1, fun hp => (a3 g hg).2.2 (h2 g (a3 g hg).2.1 hp)⟩, fun i x s hx hp => ?_⟩
  obtain ⟨f, f1, f2, f3⟩ := a4 i x s hx hp
  exact ⟨f, h1 f f1, f2, f3⟩
theorem RowE.sized (h : RowE w L P v ls) : ∃ a c, v = .slice a ls.length c := by
  obtain ⟨_, ⟨_, h1⟩, _⟩ := h
  rcases h1 with ⟨h1, h2⟩ | ⟨g, cap, cur, e1, _⟩
  · exact ⟨none, 0, by rw [h1, h2]⟩
  · exact ⟨_, _, e1⟩
end
theorem step_pushB {ops : Array Oper} {o : Oper} {a : Act} {w : World} {K : Act → World → Prop} {Q : Exit → Act → World → Prop} {E : Prop} (hgd : o.guard = none) (s x : Operand)
    (ho : o.op = .call { callee := .builtin .append, args := #[s, x], argTypes := #[87, 87] })
    (L : Nat) (P : Nat → Prop) (v : Value) (ls : List (List Int)) (hs : a.eval s = v) (hB : RowE w L P v ls) (nb : Nat) (d : List Int) (pv : Value) (fb : Nat) (hx : a.eval x = .slice (some ⟨nb, 0, none⟩) 1 1)
    (hnb : Blk w nb #[pv] 27) (hpv : OwnR w fb (fb + 1) pv d) (hfb : P fb) (hfs : fb < w.heap.size) (hL : L ≤ w.heap.size) (hPb : ∀ k, P k → k < w.heap.size) (hn : ls.length ≤ 1000)
    (hK : ∀ g c' w', RowE w' L P (.slice (some ⟨g, 0, none⟩) (ls.length + 1) c') (ls ++ [d]) → (∀ k, k < w.heap.size → v.ownBlock ≠ some k → w'.heap[k]? = w.heap[k]?) → (v.ownBlock = some g ∨ w.heap.size ≤ g) → Within L w.heap.size w w' → K (a.put o.dst (.slice (some ⟨g, 0, none⟩) (ls.length + 1) c')) w') :
    if Region.wanted o (yielded ops a.tmps) = true then Oper.wp Tryz.prog o a w K Q else E := by
  obtain ⟨i0, hi0, hz0, hz1, hz2⟩ := info_parts infoL
  obtain ⟨vs, h1, h2, h3, h4⟩ := hB
  have hone : pv.oneCell' = true := hpv.sl.one
  refine step_append_lies w hgd s x 87 ho L 27 i0 _ 1 24 Tryz.underlying87 hi0 hz0 hz1 hz2 rfl (by decide) v ls.length _ hs h1 ⟨nb, 0, none⟩ 1 1 [pv] hx rfl (World.news_of_block (cs := #[pv]) hnb) ?_ (by decide) (by unfold maxLen; omega) (by omega) (by omega) w.heap.size rfl ?_
  · intro u hu
    simp at hu
    subst hu
    exact hone
  · intro g cap w' hrow hgrow hg hgl
    have hW : Within L w.heap.size w w' := grown_within hgrow (fun g hg => ⟨(h3 g hg).1, (h3 g hg).2.1⟩)
    have hold : ∀ k, k < w.heap.size → v.ownBlock ≠ some k → w'.heap[k]? = w.heap[k]? := fun k hk hne => hgrow.block k hk (fun e => hne e.symm)
    have hPo : ∀ f, P f → f < w.heap.size → w'.heap[f]? = w.heap[f]? := fun f hf hlt => hold f hlt (fun e => (h3 f e).2.2 hf)
    refine hK g cap w' ⟨vs ++ [pv], ?_, by simp [h2], ?_, ?_⟩ hold (hg.imp id (fun e => by omega)) hW
    · rw [List.length_append, List.length_singleton]; exact hrow
    · intro g' hg'
      have : g = g' := by injection hg'
      subst this
      rcases hg with h | h
      · exact ⟨(h3 g h).1, hgl, (h3 g h).2.2⟩
      · exact ⟨by omega, hgl, fun hp => by have := hPb g hp; omega⟩
    · intro i y pv' hy hp'
      have hsz := hgrow.size
      by_cases hi' : i < ls.length
      · rw [List.getElem?_append_left hi'] at hy
        rw [List.getElem?_append_left (by omega)] at hp'
        obtain ⟨f, f1, f2, f3⟩ := h4 i y pv' hy hp'
        exact ⟨f, f1, by omega, f3.same fun k k1 k2 => by
          obtain rfl : k = f := by omega
          exact hPo k f1 f2⟩
      · have hil : i < (ls ++ [d]).length := (List.getElem?_eq_some_iff.1 hy).1
        simp at hil
        obtain rfl : i = ls.length := by omega
        rw [List.getElem?_append_right (Nat.le_refl _)] at hy
        rw [List.getElem?_append_right (by omega)] at hp'
        simp [h2] at hy hp'
        subst hy hp'
        exact ⟨fb, hfb, by omega, hpv.same fun k k1 k2 => by
          obtain rfl : k = fb := by omega
          exact hPo k hfb hfs⟩
def NetsQ (w : World) (N L m : Nat) (P : Nat → Prop) (lst : Nat → List (List Int)) : Prop := ∃ (cs : Array Value) (vs : Nat → Value), (∀ k, P k → L ≤ k ∧ k < w.heap.size) ∧ Blk w N cs 87 ∧ cs.size = m ∧ (∀ j, j < m → cs[j]? = some (vs j) ∧ RowE w L P (vs j) (lst j)) ∧
  (∀ i j, i < m → j < m → i ≠ j → ∀ g, (vs i).ownBlock = some g → (vs j).ownBlock ≠ some g)
def NetsB (w : World) (N L m : Nat) (lst : Nat → List (List Int)) : Prop := ∃ P, NetsQ w N L m P lst
theorem NetsQ.by {w w' : World} {N L m : Nat} {P : Nat → Prop} {lst : Nat → List (List Int)} (hb : Below w.heap.size w w') (h : NetsQ w N L m P lst) : NetsQ w' N L m P lst := by
  obtain ⟨cs, vs, hP, h1, h2, h3, h4⟩ := h
  exact ⟨cs, vs, fun k hk => ⟨(hP k hk).1, Nat.lt_of_lt_of_le (hP k hk).2 hb.size⟩, Blk.by hb h1, h2, fun j hj => ⟨(h3 j hj).1, (h3 j hj).2.off hb.size (fun k hk _ => hb.block k hk)⟩, h4⟩
theorem NetsB.by {w w' : World} {N L m : Nat} {lst : Nat → List (List Int)} (hb : Below w.heap.size w w') (h : NetsB w N L m lst) : NetsB w' N L m lst := by
  obtain ⟨P, h⟩ := h
  exact ⟨P, h.by hb⟩
theorem NetsQ.mark {w w' : World} {N L m D : Nat} {P : Nat → Prop} {lst : Nat → List (List Int)} (hb : Below w.heap.size w w') (h : NetsQ w N L m P lst) (hD : w.heap.size ≤ D) (hD' : D < w'.heap.size) (hL : L ≤ w.heap.size) : NetsQ w' N L m (fun k => P k ∨ k = D) lst := by
  obtain ⟨cs, vs, hP, h1, h2, h3, h4⟩ := h
  have hs := hb.size
  refine ⟨cs, vs, fun k hk => ?_, Blk.by hb h1, h2, fun j hj => ⟨(h3 j hj).1, ?_⟩, h4⟩
  · rcases hk with hk | rfl
    · exact ⟨(hP k hk).1, by have := (hP k hk).2; omega⟩
    · omega
  · refine RowE.off ((h3 j hj).2.more (fun k hk => .inl hk) (fun k hk hor => ?_)) hs (fun k hk _ => hb.block k hk)
    rcases hor with h | h
    · exact h
    · omega
theorem NetsQ.grow {w w' : World} {N L m j g cap : Nat} {P : Nat → Prop} {lst lst' : Nat → List (List Int)} {cs : Array Value} {vs : Nat → Value} (hP : ∀ k, P k → L ≤ k ∧ k < w.heap.size) (h1 : Blk w N cs 87) (h2 : cs.size = m) (h3 : ∀ j, j < m → cs[j]? = some (vs j) ∧ RowE w L P (vs j) (lst j))
    (h4 : ∀ i j, i < m → j < m → i ≠ j → ∀ g, (vs i).ownBlock = some g → (vs j).ownBlock ≠ some g) (hj : j < m) (hN : N < L)
    (hg : RowE w' L P (.slice (some ⟨g, 0, none⟩) (lst' j).length cap) (lst' j)) (hk : ∀ k, k < w.heap.size → (vs j).ownBlock ≠ some k → w'.heap[k]? = w.heap[k]?) (ho : (vs j).ownBlock = some g ∨ w.heap.size ≤ g) (hs : w.heap.size ≤ w'.heap.size)
    (hl : ∀ i, i ≠ j → lst' i = lst i) : NetsQ (w'.setCell ⟨N, j, none⟩ (.slice (some ⟨g, 0, none⟩) (lst' j).length cap)) N L m P lst' := by
  have hown : ∀ i, i < m → ∀ g, (vs i).ownBlock = some g → L ≤ g ∧ g < w.heap.size ∧ ¬ P g := fun i hi g e => by
    obtain ⟨_, _, _, c, _⟩ := (h3 i hi).2
    exact c g e
  have hNb : (vs j).ownBlock ≠ some N := fun e => by have := hown j hj N e; omega
  have hB' : Blk w' N cs 87 := (hk N h1.lt hNb).trans h1
  have hW : Within N (N + 1) w' (w'.setCell ⟨N, j, none⟩ (.slice (some ⟨g, 0, none⟩) (lst' j).length cap)) := Within.off _
  have hS : w'.heap.size ≤ (w'.setCell ⟨N, j, none⟩ (.slice (some ⟨g, 0, none⟩) (lst' j).length cap)).heap.size := hW.size
  have hPj : ∀ k, P k → (vs j).ownBlock ≠ some k := fun k hp e => (hown j hj k e).2.2 hp
  refine ⟨cs.setIfInBounds j (.slice (some ⟨g, 0, none⟩) (lst' j).length cap), fun i => if i = j then .slice (some ⟨g, 0, none⟩) (lst' j).length cap else vs i, fun k hk => ⟨(hP k hk).1, by have := (hP k hk).2; omega⟩, hB'.set j _, by simp [h2], fun i hi => ?_, fun a b ha hb hab g' hg' => ?_⟩
  · by_cases e : i = j
    · subst e
      simp only [if_true]
      refine ⟨by rw [Array.getElem?_setIfInBounds, if_pos rfl, if_pos (by omega)], ?_⟩
      refine hg.off hS fun k hk' hor => ?_
      refine hW.block k hk' ?_
      rcases hor with hp | he
      · have := hP k hp; omega
      · obtain ⟨_, _, _, c, _⟩ := hg
        have := c k he; omega
    · simp only [if_neg e]
      refine ⟨by rw [Array.getElem?_setIfInBounds, if_neg (fun h => e h.symm)]; exact (h3 i hi).1, ?_⟩
      rw [hl i e]
      refine (h3 i hi).2.off (by omega) fun k hk' hor => ?_
      have hLk : L ≤ k := by
        rcases hor with hp | he
        · exact (hP k hp).1
        · exact (hown i hi k he).1
      refine (hW.block k (by omega) (by omega)).trans (hk k hk' ?_)
      rcases hor with hp | he
      · exact hPj k hp
      · exact h4 i j hi hj e k he
  · by_cases e1 : a = j
    · subst e1
      have e2 : b ≠ a := fun h => hab h.symm
      simp only [if_true, if_neg e2] at hg' ⊢
      have hgg : g = g' := by injection hg'
      subst hgg
      intro e3
      rcases ho with h | h
      · exact h4 a b ha hb hab g h e3
      · have := hown b hb g e3; omega
    · simp only [if_neg e1] at hg'
      by_cases e2 : b = j
      · subst e2
        simp only [if_true]
        intro e3
        have hgg : g = g' := by injection e3
        subst hgg
        rcases ho with h | h
        · exact h4 a b ha hb hab g hg' h
        · have := hown a ha g hg'; omega
      · simp only [if_neg e2]
        exact h4 a b ha hb hab g' hg'
theorem make_lists3 (n : Nat) (hn : n ≤ 1000000) (w : World) : ∃ cs : Array Value, cs.size = n ∧ (∀ i, i < n → cs[i]? = some (Value.slice none 0 0)) ∧ (Instr.makeSlice 189 (.int .i64 n) (.int .i64 n)).run Tryz.prog w = .ok (.slice (some ⟨w.heap.size, 0, none⟩) n n) (w.alloc (.cells cs 87)) := by
  obtain ⟨i0, hi, hz0, hz1, hz2⟩ := info_parts (show (Tryz.prog.info? 87).map (fun i => (i.zero, i.size, i.bytes)) = some (some (.slice none 0 0), 1, 24) by kernel_rfl)
  have h := run_make (P := Tryz.prog) w 189 87 i0 _ Tryz.underlying189 hi hz0 .i64 .i64 (n : Int) (n : Int) (by omega) (by omega) (by rw [hz2]; omega) (by omega)
  simp only [Int.toNat_natCast, hz1, Nat.mul_one] at h
  refine ⟨_, size_madeCells _ _, fun i hi => ?_, h⟩
  simp [madeCells, hi, Value.cells, Nat.mod_one]
/- append(row, rows...): a row of slices behind another. -/
theorem step_appendB {ops : Array Oper} {o : Oper} {a : Act} {w : World} {K : Act → World → Prop} {Q : Exit → Act → World → Prop} {E : Prop} (hgd : o.guard = none) (s x : Operand)
    (ho : o.op = .call { callee := .builtin .append, args := #[s, x], argTypes := #[87, 87] })
    (L L2 : Nat) (P : Nat → Prop) (v v2 : Value) (ls l2 : List (List Int)) (hs : a.eval s = v) (hB : RowE w L P v ls) (hx : a.eval x = v2) (hB2 : RowE w L2 P v2 l2) (h0 : 0 < l2.length) (hL : L ≤ w.heap.size) (hPb : ∀ k, P k → k < w.heap.size) (hn : ls.length + l2.length ≤ 1000)
    (hK : ∀ g c' w', RowE w' L P (.slice (some ⟨g, 0, none⟩) (ls.length + l2.length) c') (ls ++ l2) → (∀ k, k < w.heap.size → v.ownBlock ≠ some k → w'.heap[k]? = w.heap[k]?) → (v.ownBlock = some g ∨ w.heap.size ≤ g) → Within L w.heap.size w w' → K (a.put o.dst (.slice (some ⟨g, 0, none⟩) (ls.length + l2.length) c')) w') :
    if Region.wanted o (yielded ops a.tmps) = true then Oper.wp Tryz.prog o a w K Q else E := by
  obtain ⟨i0, hi0, hz0, hz1, hz2⟩ := info_parts infoL
  obtain ⟨vs, h1, h2, h3, h4⟩ := hB
  obtain ⟨v2s, ⟨_, r1⟩, r2, r3, r4⟩ := hB2
  rcases r1 with ⟨_, r5⟩ | ⟨b, cap2, cur, rfl, r5, r6, r7, r8, r9, r10⟩
  · omega
  simp only [Nat.mul_one] at r10
  refine step_append_lies w hgd s x 87 ho L 27 i0 _ 1 24 Tryz.underlying87 hi0 hz0 hz1 hz2 rfl (by decide) v ls.length _ hs h1 ⟨b, 0, none⟩ l2.length cap2 v2s hx (by rw [r2, Nat.mul_one]) ?_ ?_ h0 (by unfold maxLen; omega) (by omega) (by omega) w.heap.size rfl ?_
  · intro j u hu
    refine World.news_of_block r6 j u ?_
    rw [← r10, List.getElem?_take] at hu
    split at hu
    · exact hu
    · cases hu
  · intro u hu
    obtain ⟨i, hi, e⟩ := List.mem_iff_getElem.1 hu
    obtain ⟨f, _, _, f3⟩ := r4 i (l2[i]'(by omega)) u (List.getElem?_eq_getElem _) (by rw [List.getElem?_eq_getElem hi, e])
    exact f3.sl.one
  · intro g cap w' hrow hgrow hg hgl
    have hW : Within L w.heap.size w w' := grown_within hgrow (fun g hg => ⟨(h3 g hg).1, (h3 g hg).2.1⟩)
    have hold : ∀ k, k < w.heap.size → v.ownBlock ≠ some k → w'.heap[k]? = w.heap[k]? := fun k hk hne => hgrow.block k hk (fun e => hne e.symm)
    have hPo : ∀ f, P f → f < w.heap.size → w'.heap[f]? = w.heap[f]? := fun f hf hlt => hold f hlt (fun e => (h3 f e).2.2 hf)
    have hsz := hgrow.size
    refine hK g cap w' ⟨vs ++ v2s, ?_, by simp [h2, r2], ?_, ?_⟩ hold (hg.imp id (fun e => by omega)) hW
    · rw [List.length_append]; exact hrow
    · intro g' hg'
      have : g = g' := by injection hg'
      subst this
      rcases hg with h | h
      · exact ⟨(h3 g h).1, hgl, (h3 g h).2.2⟩
      · exact ⟨by omega, hgl, fun hp => by have := hPb g hp; omega⟩
    · intro i y pv' hy hp'
      have hof : ∃ f, P f ∧ f < w.heap.size ∧ OwnR w f (f + 1) pv' y := by
        by_cases hi' : i < ls.length
        · rw [List.getElem?_append_left hi'] at hy
          rw [List.getElem?_append_left (by omega)] at hp'
          exact h4 i y pv' hy hp'
        · rw [List.getElem?_append_right (by omega)] at hy
          rw [List.getElem?_append_right (by omega), h2] at hp'
          exact r4 _ y pv' hy hp'
      obtain ⟨f, f1, f2, f3⟩ := hof
      refine ⟨f, f1, by omega, f3.same fun k k1 k2 => ?_⟩
      obtain rfl : k = f := by omega
      exact hPo k f1 f2
theorem RowE.ll {w : World} {L : Nat} {P : Nat → Prop} {v : Value} {ls : List (List Int)} (h : RowE w L P v ls) : LlSl w v ls := by
  obtain ⟨vs, ⟨_, r1⟩, r2, r3, r4⟩ := h
  rcases r1 with ⟨r1, r5⟩ | ⟨b, cap2, cur, rfl, r5, r6, r7, r8, r9, r10⟩
  · exact .inl ⟨_, _, r1, List.eq_nil_of_length_eq_zero r5⟩
  · simp only [Nat.mul_one] at r10
    refine .inr ⟨b, 0, cap2, rfl, r7, r8, fun i xs hi => ?_⟩
    have hil : i < ls.length := (List.getElem?_eq_some_iff.1 hi).1
    obtain ⟨sv, hv⟩ : ∃ sv, vs[i]? = some sv := ⟨vs[i]'(by omega), List.getElem?_eq_getElem _⟩
    obtain ⟨f, _, _, f3⟩ := r4 i xs _ hi hv
    refine ⟨_, ?_, f3.sl⟩
    rw [Nat.zero_add, Blk.cell (w := w) (cs := cur) (T := 27) r6]
    have := hv
    rw [← r10, List.getElem?_take, if_pos hil] at this
    simpa using this
/- append(literal, rows...): a row of slices, empty or not, behind a literal of one slice. -/
theorem run_append_zero (b n c : Nat) (a2 : Option Addr) (c2 : Nat) (ty : TypeId) (hn : n ≤ c) (w : World) :
    (Builtin.append_ #[87, 87] ty #[.slice (some ⟨b, 0, none⟩) n c, .slice a2 0 c2]).run Tryz.prog w = .ok (.slice (some ⟨b, 0, none⟩) n c) w := by
  obtain ⟨i0, hi0, hz0, hz1, hz2⟩ := info_parts infoL
  have hs : Src Tryz.prog i0.size 87 (.slice a2 0 c2) 0 [] w := by
    cases a2 with
    | none => exact Src.ofNil w Tryz.underlying87 c2
    | some ad => exact Src.ofSlice w Tryz.underlying87 ad 0 c2 [] (by simp) (fun j u h => by simp at h) (fun u h => by simp at h)
  have h := run_append_room_src w 87 87 ty _ i0 Tryz.underlying87 hi0 b 0 n c (.slice a2 0 c2) 0 [] hs (by omega) (fun j hj => by simp at hj) (fun j hj => by simp at hj)
  simpa [World.setCells] using h
theorem list_append0 {ops : Array Oper} {rest : List Oper} {o : Oper} {a : Act} {w : World} {Q : Exit → Act → World → Prop} (hgd : o.guard = none) (s x : Operand)
    (ho : o.op = .call { callee := .builtin .append, args := #[s, x], argTypes := #[87, 87] })
    (b n c : Nat) (a2 : Option Addr) (c2 : Nat) (hs : a.eval s = .slice (some ⟨b, 0, none⟩) n c) (hx : a.eval x = .slice a2 0 c2) (hn : n ≤ c)
    (hK : wpList Tryz.prog ops Q rest (a.put o.dst (.slice (some ⟨b, 0, none⟩) n c)) w) : wpList Tryz.prog ops Q (o :: rest) a w :=
  Go.Lib.wpList_append_run w hgd s x _ _ ho _ _ hs hx _ _ (run_append_zero b n c a2 c2 o.type hn w) hK
theorem RowE.also {w : World} {L : Nat} {P : Nat → Prop} {v : Value} {ls : List (List Int)} (h : RowE w L P v ls) (fb : Nat) (hne : v.ownBlock ≠ some fb) : RowE w L (fun k => P k ∨ k = fb) v ls := by
  obtain ⟨vs, a1, a2, a3, a4⟩ := h
  refine ⟨vs, a1, a2, fun g hg => ⟨(a3 g hg).1, (a3 g hg).2.1, fun hp => ?_⟩, fun i x s hx hp => ?_⟩
  · rcases hp with hp | rfl
    · exact (a3 g hg).2.2 hp
    · exact hne hg
  · obtain ⟨f, f1, f2, f3⟩ := a4 i x s hx hp
    exact ⟨f, .inl f1, f2, f3⟩
theorem list_append1 {ops : Array Oper} {rest : List Oper} {o : Oper} {a : Act} {w : World} {Q : Exit → Act → World → Prop} (hgd : o.guard = none) (s x : Operand)
    (ho : o.op = .call { callee := .builtin .append, args := #[s, x], argTypes := #[87, 87] })
    (B fb gb : Nat) (d : List Int) (pv : Value) (hs : a.eval s = .slice (some ⟨gb, 0, none⟩) 1 1) (hgb : Blk w gb #[pv] 27) (hpv : OwnR w fb (fb + 1) pv d) (hfs : fb < w.heap.size) (h1 : B ≤ fb) (h2 : B ≤ gb) (h3 : fb ≠ gb)
    (L2 : Nat) (P : Nat → Prop) (v2 : Value) (l2 : List (List Int)) (hx : a.eval x = v2) (hB2 : RowE w L2 P v2 l2) (hv2 : ∀ g, v2.ownBlock = some g → g < B) (hPb : ∀ k, P k → k < B) (hn : l2.length ≤ 900)
    (hK : ∀ a' c' w', LlSl w' (.slice a' (1 + l2.length) c') ([d] ++ l2) → Below B w w' → wpList Tryz.prog ops Q rest (a.put o.dst (.slice a' (1 + l2.length) c')) w') : wpList Tryz.prog ops Q (o :: rest) a w := by
  have hgl := hgb.lt
  have hlit : RowE w B (fun k => P k ∨ k = fb) (.slice (some ⟨gb, 0, none⟩) 1 1) [d] := by
    refine ⟨[pv], ⟨rfl, .inr ⟨gb, 1, #[pv], rfl, h2, hgb, Nat.le_refl _, by unfold maxLen; omega, rfl, rfl⟩⟩, rfl, fun g hg => ?_, fun i y sv hy hp => ?_⟩
    · have : gb = g := by injection hg
      subst this
      refine ⟨h2, hgl, fun hp => ?_⟩
      rcases hp with hp | rfl
      · have := hPb _ hp; omega
      · exact h3 rfl
    · have hi : i < 1 := (List.getElem?_eq_some_iff.1 hy).1
      obtain rfl : i = 0 := by omega
      simp at hy hp
      subst hy hp
      exact ⟨fb, .inr rfl, hfs, hpv⟩
  rcases Nat.eq_zero_or_pos l2.length with h0 | h0
  · obtain ⟨a2, c2, rfl⟩ := hB2.sized
    have hl2 : l2 = [] := List.eq_nil_of_length_eq_zero h0
    subst hl2
    exact list_append0 hgd s x ho gb 1 1 a2 c2 hs hx (Nat.le_refl _) (hK _ _ _ hlit.ll (Below.refl _ w))
  · have hB3 := hB2.also fb (fun e => by have := hv2 _ e; omega)
    exact wpList_plain hgd fun K hk => by
      have h := step_appendB (ops := ops) (K := K) (Q := Q) (E := False) hgd s x ho B L2 _ _ v2 [d] l2 hs hlit hx hB3 h0 (by omega) (fun k hp => by
        rcases hp with hp | rfl
        · have := hPb k hp; omega
        · exact hfs) (by simp; omega) (fun g c' w' hR _ _ hW => hk _ _ (hK (some ⟨g, 0, none⟩) c' w' hR.ll ⟨hW.os, hW.tape, hW.output, hW.size, fun k hk => hW.block k (by omega) (.inl hk)⟩))
      rwa [if_pos (by simp [Region.wanted, hgd])] at h
theorem BldL.same {w w' : World} {lo hi : Nat} {v : Value} {ls : List (List Int)} (h : BldL w lo hi v ls) (hs : w.heap.size ≤ w'.heap.size) (hb : ∀ k, lo ≤ k → k < hi → w'.heap[k]? = w.heap[k]?) : BldL w' lo hi v ls := by
  obtain ⟨hz, vs, f, h1, h2, h3, h4⟩ := h
  refine ⟨Nat.le_trans hz hs, vs, f, row_same h1 (fun g hg => hb g (h3 g hg).1 (h3 g hg).2), h2, h3, fun i x s hx hp => ?_⟩
  obtain ⟨a, b, c⟩ := h4 i x s hx hp
  exact ⟨a.same (fun g g1 g2 => by
    obtain rfl : g = f i := by omega
    exact hb _ b.1 b.2), b, c⟩
theorem BldL.wide {w : World} {lo hi lo' hi' : Nat} {v : Value} {ls : List (List Int)} (h : BldL w lo hi v ls) (h1 : lo' ≤ lo) (h2 : hi ≤ hi') (h3 : hi' ≤ w.heap.size) : BldL w lo' hi' v ls := by
  obtain ⟨hz, vs, f, ⟨r0, r1⟩, a2, a3, a4⟩ := h
  refine ⟨h3, vs, f, ⟨r0, ?_⟩, a2, fun g hg => by have := a3 g hg; omega, fun i x s hx hp => ?_⟩
  · rcases r1 with r1 | ⟨g, cap, cur, e1, e2, e3⟩
    · exact .inl r1
    · exact .inr ⟨g, cap, cur, e1, by omega, e3⟩
  · obtain ⟨a, b, c⟩ := a4 i x s hx hp
    exact ⟨a, by omega, c⟩
end Go.Proofs.YtifbffianbgeaaaGreat
