/- A block of rows of slices, each growing in memory of its own; the rows' elements lie in blocks of P, which are never written again. -/
import Derived.Test.YtjldkejegdljiaaNetsI
namespace Go.Proofs.Ytjldkejegdljiaa
open Go.RowKit
set_option linter.unusedVariables false
set_option linter.unusedSimpArgs false

theorem OwnR.same {w w' : World} {lo hi : Nat} {sv : Value} {zs : List Int} (h : OwnR w lo hi sv zs) (hb : ∀ g, lo ≤ g → g < hi → w'.heap[g]? = w.heap[g]?) : OwnR w' lo hi sv zs := by
  rcases h with h | ⟨g, cap, cs, e1, e2, e3, e4, e5, e6, e7⟩
  · exact .inl h
  · exact .inr ⟨g, cap, cs, e1, e2, e3, e4, e5, (hb g e2 e3).trans e6, e7⟩
/-- A row of slices in memory of its own from L on; its elements lie in blocks of P. -/
def RowE (w : World) (L : Nat) (P : Nat → Prop) (v : Value) (ls : List (List Int)) : Prop := ∃ vs : List Value, w.ownsRow L 39 1 v ls.length vs ∧ vs.length = ls.length ∧ (∀ g, v.ownBlock = some g → L ≤ g ∧ g < w.heap.size ∧ ¬ P g) ∧
  ∀ (i : Nat) x s, ls[i]? = some x → vs[i]? = some s → ∃ f, P f ∧ f < w.heap.size ∧ OwnR w f (f + 1) s x
section
variable {w w' : World} {L : Nat} {P P' : Nat → Prop} {v : Value} {ls : List (List Int)}
theorem RowE.nil (w : World) (L : Nat) (P : Nat → Prop) : RowE w L P (.slice none 0 0) [] :=
  ⟨[], World.ownsRow_nil w L _ 1, rfl, fun g h => (by cases h), fun i x s hx _ => (by simp at hx)⟩
theorem RowE.off (h : RowE w L P v ls) (hs : w.heap.size ≤ w'.heap.size) (hb : ∀ k, k < w.heap.size → (P k ∨ v.ownBlock = some k) → w'.heap[k]? = w.heap[k]?) : RowE w' L P v ls := by
  obtain ⟨vs, h1, h2, h3, h4⟩ := h
  refine ⟨vs, row_same h1 (fun g hg => hb g (h3 g hg).2.1 (.inr hg)), h2, fun g hg => ⟨(h3 g hg).1, by have := (h3 g hg).2.1; omega, (h3 g hg).2.2⟩, fun i x s hx hp => ?_⟩
  obtain ⟨f, f1, f2, f3⟩ := h4 i x s hx hp
  refine ⟨f, f1, by omega, f3.same fun g g1 g2 => ?_⟩
  obtain rfl : g = f := by omega
  exact hb g f2 (.inl f1)
theorem RowE.more (h : RowE w L P v ls) (h1 : ∀ k, P k → P' k) (h2 : ∀ k, k < w.heap.size → P' k → P k) : RowE w L P' v ls := by
  obtain ⟨vs, a1, a2, a3, a4⟩ := h
  refine ⟨vs, a1, a2, fun g hg => ⟨(a3 g hg).1, (a3 g hg).2.1, fun hp => (a3 g hg).2.2 (h2 g (a3 g hg).2.1 hp)⟩, fun i x s hx hp => ?_⟩
  obtain ⟨f, f1, f2, f3⟩ := a4 i x s hx hp
  exact ⟨f, h1 f f1, f2, f3⟩
theorem RowE.sized (h : RowE w L P v ls) : ∃ a c, v = .slice a ls.length c := by
  obtain ⟨_, ⟨_, h1⟩, _⟩ := h
  rcases h1 with ⟨h1, h2⟩ | ⟨g, cap, cur, e1, _⟩
  · exact ⟨none, 0, by rw [h1, h2]⟩
  · exact ⟨_, _, e1⟩
end
/-- append(out, list), at a step of a region that draws its order. -/
theorem step_pushB {ops : Array Oper} {o : Oper} {a : Act} {w : World} {K : Act → World → Prop} {Q : Exit → Act → World → Prop} {E : Prop} (hgd : o.guard = none) (s x : Operand)
    (ho : o.op = .call { callee := .builtin .append, args := #[s, x], argTypes := #[40, 40] })
    (L : Nat) (P : Nat → Prop) (v : Value) (ls : List (List Int)) (hs : a.eval s = v) (hB : RowE w L P v ls) (nb : Nat) (d : List Int) (pv : Value) (fb : Nat) (hx : a.eval x = .slice (some ⟨nb, 0, none⟩) 1 1)
    (hnb : Blk w nb #[pv] 39) (hpv : OwnR w fb (fb + 1) pv d) (hfb : P fb) (hfs : fb < w.heap.size) (hL : L ≤ w.heap.size) (hPb : ∀ k, P k → k < w.heap.size) (hn : ls.length ≤ 1000)
    (hK : ∀ g c' w', RowE w' L P (.slice (some ⟨g, 0, none⟩) (ls.length + 1) c') (ls ++ [d]) → (∀ k, k < w.heap.size → v.ownBlock ≠ some k → w'.heap[k]? = w.heap[k]?) → (v.ownBlock = some g ∨ w.heap.size ≤ g) → Within L w.heap.size w w' → K (a.put o.dst (.slice (some ⟨g, 0, none⟩) (ls.length + 1) c')) w') :
    if Region.wanted o (yielded ops a.tmps) = true then Oper.wp Try.prog o a w K Q else E := by
  obtain ⟨i0, hi0, hz0, hz1, hz2⟩ := info_parts infoL
  obtain ⟨vs, h1, h2, h3, h4⟩ := hB
  have hone : pv.oneCell' = true := hpv.sl.one
  refine step_append_lies w hgd s x 40 ho L 39 i0 _ 1 24 Try.underlying40 hi0 hz0 hz1 hz2 rfl (by decide) v ls.length _ hs h1 ⟨nb, 0, none⟩ 1 1 [pv] hx rfl (World.news_of_block (cs := #[pv]) hnb) ?_ (by decide) (by unfold maxLen; omega) (by omega) (by omega) w.heap.size rfl ?_
  · intro u hu
    simp at hu
    subst hu
    exact hone
  · intro g cap w' hrow hgrow hg hgl
    have hW : Within L w.heap.size w w' := grown_within hgrow (fun g hg => ⟨(h3 g hg).1, (h3 g hg).2.1⟩)
    have hold : ∀ k, k < w.heap.size → v.ownBlock ≠ some k → w'.heap[k]? = w.heap[k]? := fun k hk hne => hgrow.block k hk (fun e => hne e.symm)
    have hPo : ∀ f, P f → f < w.heap.size → w'.heap[f]? = w.heap[f]? := fun f hf hlt => hold f hlt (fun e => (h3 f e).2.2 hf)
    refine hK g cap w' ⟨vs ++ [pv], ?_, by simp [h2], ?_, ?_⟩ hold (hg.imp id (fun e => by omega)) hW
    · rw [List.length_append, List.length_singleton]; exact hrow
    · intro g' hg'
      have : g = g' := by injection hg'
      subst this
      rcases hg with h | h
      · exact ⟨(h3 g h).1, hgl, (h3 g h).2.2⟩
      · exact ⟨by omega, hgl, fun hp => by have := hPb g hp; omega⟩
    · intro i y pv' hy hp'
      have hsz := hgrow.size
      by_cases hi' : i < ls.length
      · rw [List.getElem?_append_left hi'] at hy
        rw [List.getElem?_append_left (by omega)] at hp'
        obtain ⟨f, f1, f2, f3⟩ := h4 i y pv' hy hp'
        exact ⟨f, f1, by omega, f3.same fun k k1 k2 => by
          obtain rfl : k = f := by omega
          exact hPo k f1 f2⟩
      · have hil : i < (ls ++ [d]).length := (List.getElem?_eq_some_iff.1 hy).1
        simp at hil
        obtain rfl : i = ls.length := by omega
        rw [List.getElem?_append_right (Nat.le_refl _)] at hy
        rw [List.getElem?_append_right (by omega)] at hp'
        simp [h2] at hy hp'
        subst hy hp'
        exact ⟨fb, hfb, by omega, hpv.same fun k k1 k2 => by
          obtain rfl : k = fb := by omega
          exact hPo k hfb hfs⟩

/-- Block N holds m rows of slices, each growing in memory of its own from L on; the rows never write in blocks of P. -/
def NetsQ (w : World) (N L m : Nat) (P : Nat → Prop) (lst : Nat → List (List Int)) : Prop := ∃ (cs : Array Value) (vs : Nat → Value), (∀ k, P k → L ≤ k ∧ k < w.heap.size) ∧ Blk w N cs 40 ∧ cs.size = m ∧ (∀ j, j < m → cs[j]? = some (vs j) ∧ RowE w L P (vs j) (lst j)) ∧
  (∀ i j, i < m → j < m → i ≠ j → ∀ g, (vs i).ownBlock = some g → (vs j).ownBlock ≠ some g)
def NetsB (w : World) (N L m : Nat) (lst : Nat → List (List Int)) : Prop := ∃ P, NetsQ w N L m P lst
theorem NetsQ.by {w w' : World} {N L m : Nat} {P : Nat → Prop} {lst : Nat → List (List Int)} (hb : Below w.heap.size w w') (h : NetsQ w N L m P lst) : NetsQ w' N L m P lst := by
  obtain ⟨cs, vs, hP, h1, h2, h3, h4⟩ := h
  exact ⟨cs, vs, fun k hk => ⟨(hP k hk).1, Nat.lt_of_lt_of_le (hP k hk).2 hb.size⟩, Blk.by hb h1, h2, fun j hj => ⟨(h3 j hj).1, (h3 j hj).2.off hb.size (fun k hk _ => hb.block k hk)⟩, h4⟩
theorem NetsB.by {w w' : World} {N L m : Nat} {lst : Nat → List (List Int)} (hb : Below w.heap.size w w') (h : NetsB w N L m lst) : NetsB w' N L m lst := by
  obtain ⟨P, h⟩ := h
  exact ⟨P, h.by hb⟩
/-- A block that lies behind a world's blocks may be set apart. -/
theorem NetsQ.mark {w w' : World} {N L m D : Nat} {P : Nat → Prop} {lst : Nat → List (List Int)} (hb : Below w.heap.size w w') (h : NetsQ w N L m P lst) (hD : w.heap.size ≤ D) (hD' : D < w'.heap.size) (hL : L ≤ w.heap.size) : NetsQ w' N L m (fun k => P k ∨ k = D) lst := by
  obtain ⟨cs, vs, hP, h1, h2, h3, h4⟩ := h
  have hs := hb.size
  refine ⟨cs, vs, fun k hk => ?_, Blk.by hb h1, h2, fun j hj => ⟨(h3 j hj).1, ?_⟩, h4⟩
  · rcases hk with hk | rfl
    · exact ⟨(hP k hk).1, by have := (hP k hk).2; omega⟩
    · omega
  · refine RowE.off ((h3 j hj).2.more (fun k hk => .inl hk) (fun k hk hor => ?_)) hs (fun k hk _ => hb.block k hk)
    rcases hor with h | h
    · exact h
    · omega
/-- One of the rows has turned (grown, or been put in order), and has been stored. -/
theorem NetsQ.grow {w w' : World} {N L m j g cap : Nat} {P : Nat → Prop} {lst lst' : Nat → List (List Int)} {cs : Array Value} {vs : Nat → Value} (hP : ∀ k, P k → L ≤ k ∧ k < w.heap.size) (h1 : Blk w N cs 40) (h2 : cs.size = m) (h3 : ∀ j, j < m → cs[j]? = some (vs j) ∧ RowE w L P (vs j) (lst j))
    (h4 : ∀ i j, i < m → j < m → i ≠ j → ∀ g, (vs i).ownBlock = some g → (vs j).ownBlock ≠ some g) (hj : j < m) (hN : N < L)
    (hg : RowE w' L P (.slice (some ⟨g, 0, none⟩) (lst' j).length cap) (lst' j)) (hk : ∀ k, k < w.heap.size → (vs j).ownBlock ≠ some k → w'.heap[k]? = w.heap[k]?) (ho : (vs j).ownBlock = some g ∨ w.heap.size ≤ g) (hs : w.heap.size ≤ w'.heap.size)
    (hl : ∀ i, i ≠ j → lst' i = lst i) : NetsQ (w'.setCell ⟨N, j, none⟩ (.slice (some ⟨g, 0, none⟩) (lst' j).length cap)) N L m P lst' := by
  have hown : ∀ i, i < m → ∀ g, (vs i).ownBlock = some g → L ≤ g ∧ g < w.heap.size ∧ ¬ P g := fun i hi g e => by
    obtain ⟨_, _, _, c, _⟩ := (h3 i hi).2
    exact c g e
  have hNb : (vs j).ownBlock ≠ some N := fun e => by have := hown j hj N e; omega
  have hB' : Blk w' N cs 40 := (hk N h1.lt hNb).trans h1
  have hW : Within N (N + 1) w' (w'.setCell ⟨N, j, none⟩ (.slice (some ⟨g, 0, none⟩) (lst' j).length cap)) := Within.off _
  have hS : w'.heap.size ≤ (w'.setCell ⟨N, j, none⟩ (.slice (some ⟨g, 0, none⟩) (lst' j).length cap)).heap.size := hW.size
  have hPj : ∀ k, P k → (vs j).ownBlock ≠ some k := fun k hp e => (hown j hj k e).2.2 hp
  refine ⟨cs.setIfInBounds j (.slice (some ⟨g, 0, none⟩) (lst' j).length cap), fun i => if i = j then .slice (some ⟨g, 0, none⟩) (lst' j).length cap else vs i, fun k hk => ⟨(hP k hk).1, by have := (hP k hk).2; omega⟩, hB'.set j _, by simp [h2], fun i hi => ?_, fun a b ha hb hab g' hg' => ?_⟩
  · by_cases e : i = j
    · subst e
      simp only [if_true]
      refine ⟨by rw [Array.getElem?_setIfInBounds, if_pos rfl, if_pos (by omega)], ?_⟩
      refine hg.off hS fun k hk' hor => ?_
      refine hW.block k hk' ?_
      rcases hor with hp | he
      · have := hP k hp; omega
      · obtain ⟨_, _, _, c, _⟩ := hg
        have := c k he; omega
    · simp only [if_neg e]
      refine ⟨by rw [Array.getElem?_setIfInBounds, if_neg (fun h => e h.symm)]; exact (h3 i hi).1, ?_⟩
      rw [hl i e]
      refine (h3 i hi).2.off (by omega) fun k hk' hor => ?_
      have hLk : L ≤ k := by
        rcases hor with hp | he
        · exact (hP k hp).1
        · exact (hown i hi k he).1
      refine (hW.block k (by omega) (by omega)).trans (hk k hk' ?_)
      rcases hor with hp | he
      · exact hPj k hp
      · exact h4 i j hi hj e k he
  · by_cases e1 : a = j
    · subst e1
      have e2 : b ≠ a := fun h => hab h.symm
      simp only [if_true, if_neg e2] at hg' ⊢
      have hgg : g = g' := by injection hg'
      subst hgg
      intro e3
      rcases ho with h | h
      · exact h4 a b ha hb hab g h e3
      · have := hown b hb g e3; omega
    · simp only [if_neg e1] at hg'
      by_cases e2 : b = j
      · subst e2
        simp only [if_true]
        intro e3
        have hgg : g = g' := by injection e3
        subst hgg
        rcases ho with h | h
        · exact h4 a b ha hb hab g hg' h
        · have := hown a ha g hg'; omega
      · simp only [if_neg e2]
        exact h4 a b ha hb hab g' hg'
theorem make_lists3 (n : Nat) (hn : n ≤ 1000000) (w : World) : ∃ cs : Array Value, cs.size = n ∧ (∀ i, i < n → cs[i]? = some (Value.slice none 0 0)) ∧ (Instr.makeSlice 128 (.int .i64 n) (.int .i64 n)).run Try.prog w = .ok (.slice (some ⟨w.heap.size, 0, none⟩) n n) (w.alloc (.cells cs 40)) := by
  obtain ⟨i0, hi, hz0, hz1, hz2⟩ := info_parts (show (Try.prog.info? 40).map (fun i => (i.zero, i.size, i.bytes)) = some (some (.slice none 0 0), 1, 24) by kernel_rfl)
  have h := run_make (P := Try.prog) w 128 40 i0 _ Try.underlying128 hi hz0 .i64 .i64 (n : Int) (n : Int) (by omega) (by omega) (by rw [hz2]; omega) (by omega)
  simp only [Int.toNat_natCast, hz1, Nat.mul_one] at h
  refine ⟨_, size_madeCells _ _, fun i hi => ?_, h⟩
  simp [madeCells, hi, Value.cells, Nat.mod_one]
end Go.Proofs.Ytjldkejegdljiaa
