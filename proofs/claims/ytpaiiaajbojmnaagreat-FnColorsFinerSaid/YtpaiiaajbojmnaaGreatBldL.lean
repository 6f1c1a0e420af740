/- A slice of slices of int64 that grows in memory of the call's own. -/
import Derived.Test.YtpaiiaajbojmnaaGreatRank0
import Derived.Test.YtpaiiaajbojmnaaGreatOrdB
namespace Go.Proofs.YtpaiiaajbojmnaaGreat
open Go.RowKit
set_option linter.unusedVariables false
set_option linter.unusedSimpArgs false

/-- The slice v holds slices of these numbers, each in a block of its own, all in blocks from lo on and below hi; it may grow. -/
def BldL (w : World) (lo hi : Nat) (v : Value) (ls : List (List Int)) : Prop := hi ≤ w.heap.size ∧ ∃ (vs : List Value) (f : Nat → Nat), w.ownsRow lo 28 1 v ls.length vs ∧ vs.length = ls.length ∧ (∀ g, v.ownBlock = some g → lo ≤ g ∧ g < hi) ∧
  (∀ i x s, ls[i]? = some x → vs[i]? = some s → OwnR w (f i) (f i + 1) s x ∧ (lo ≤ f i ∧ f i < hi) ∧ v.ownBlock ≠ some (f i))
section
variable {w w' : World} {lo hi : Nat} {v : Value} {ls : List (List Int)}
theorem BldL.by (hb : Below w.heap.size w w') (h : BldL w lo hi v ls) : BldL w' lo hi v ls := by
  obtain ⟨hs, vs, f, h1, h2, h3, h4⟩ := h
  refine ⟨Nat.le_trans hs hb.size, vs, f, row_same h1 (fun g hg => hb.block g (by have := h3 g hg; omega)), h2, h3, fun i x s hx hp => ?_⟩
  obtain ⟨a, b, c⟩ := h4 i x s hx hp
  exact ⟨OwnR.by hb a, b, c⟩
theorem BldL.sized (h : BldL w lo hi v ls) : ∃ a c, v = .slice a ls.length c := by
  obtain ⟨_, vs, f, ⟨_, h1⟩, _⟩ := h
  rcases h1 with ⟨h1, h2⟩ | ⟨g, cap, cur, e1, _⟩
  · exact ⟨none, 0, by rw [h1, h2]⟩
  · exact ⟨_, _, e1⟩
theorem BldL.lit {g : Nat} (h : Blk w g #[] 28) (hlo : lo ≤ g) (hhi : g < hi) (hs : hi ≤ w.heap.size) : BldL w lo hi (.slice (some ⟨g, 0, none⟩) 0 0) [] :=
  ⟨hs, [], fun _ => 0, ⟨rfl, .inr ⟨g, 0, #[], rfl, hlo, h, Nat.le_refl _, by unfold maxLen; omega, rfl, rfl⟩⟩, rfl, (fun g' hg' => by
    have e : g = g' := by injection hg'
    omega), by intro i x s h; simp at h⟩
/-- What it holds reads as a slice of slices whose address is plain. -/
theorem BldL.ll (h : BldL w lo hi v ls) : LlSl w v ls ∧ ((∃ c, v = .slice none 0 c) ∨ ∃ b c, v = .slice (some ⟨b, 0, none⟩) ls.length c) := by
  obtain ⟨hs, vs, f, ⟨hlen, h1⟩, h2, h3, h4⟩ := h
  rcases h1 with ⟨h1, hn⟩ | ⟨g, cap, cur, e1, e2, e3, e4, e5, e6, e7⟩
  · exact ⟨.inl ⟨_, _, h1, List.eq_nil_of_length_eq_zero hn⟩, .inl ⟨_, h1⟩⟩
  · refine ⟨.inr ⟨g, 0, cap, e1, e4, e5, fun i x hx => ?_⟩, .inr ⟨g, cap, e1⟩⟩
    have hi' : i < ls.length := (List.getElem?_eq_some_iff.1 hx).1
    obtain ⟨s, hsv⟩ : ∃ s, vs[i]? = some s := ⟨vs[i]'(by omega), List.getElem?_eq_getElem (by omega)⟩
    have h6 := hsv
    rw [← e7, List.getElem?_take_of_lt (by omega)] at h6
    have hB : Blk w g cur 28 := e3
    refine ⟨s, ?_, (h4 i x s hx hsv).1.sl⟩
    rw [Nat.zero_add, hB.cell]
    simpa using h6
end
theorem OwnR.pick {w : World} {lo hi : Nat} {s : Value} {xs : List Int} (h : OwnR w lo hi s xs) (hl : lo < hi) : ∃ f, (lo ≤ f ∧ f < hi) ∧ OwnR w f (f + 1) s xs := by
  rcases h with h | ⟨g, cap, cs, h1, h2, h2', h3⟩
  · exact ⟨lo, ⟨Nat.le_refl _, hl⟩, .inl h⟩
  · exact ⟨g, ⟨h2, h2'⟩, .inr ⟨g, cap, cs, h1, Nat.le_refl _, Nat.lt_succ_self _, h3⟩⟩

/-- append(out, list), at a step of a region that draws its order. -/
theorem step_pushL {ops : Array Oper} {o : Oper} {a : Act} {w : World} {K : Act → World → Prop} {Q : Exit → Act → World → Prop} {E : Prop} (hgd : o.guard = none) (s x : Operand)
    (ho : o.op = .call { callee := .builtin .append, args := #[s, x], argTypes := #[38, 38] })
    (lo hi : Nat) (v : Value) (ls : List (List Int)) (hs : a.eval s = v) (hB : BldL w lo hi v ls) (nb : Nat) (d : List Int) (pv : Value) (fb : Nat) (hx : a.eval x = .slice (some ⟨nb, 0, none⟩) 1 1)
    (hnb : Blk w nb #[pv] 28) (hpv : OwnR w fb (fb + 1) pv d) (hlo : lo ≤ hi) (hhi : hi ≤ fb) (hfb : fb < w.heap.size) (hn : ls.length ≤ 1000)
    (hK : ∀ a' c' w', BldL w' lo w'.heap.size (.slice a' (ls.length + 1) c') (ls ++ [d]) → Within lo hi w w' → K (a.put o.dst (.slice a' (ls.length + 1) c')) w') :
    if Region.wanted o (yielded ops a.tmps) = true then Oper.wp Tryz.prog o a w K Q else E := by
  obtain ⟨i0, hi0, hz0, hz1, hz2⟩ := info_parts infoL
  obtain ⟨hsz, vs, f, h1, h2, h3, h4⟩ := hB
  have hone : pv.oneCell' = true := hpv.sl.one
  refine step_append_lies w hgd s x 38 ho lo 28 i0 _ 1 24 Tryz.underlying38 hi0 hz0 hz1 hz2 rfl (by decide) v ls.length _ hs h1 ⟨nb, 0, none⟩ 1 1 [pv] hx rfl (World.news_of_block (cs := #[pv]) hnb) ?_ (by decide) (by unfold maxLen; omega) (by omega) (by omega) w.heap.size rfl ?_
  · intro u hu
    simp at hu
    subst hu
    exact hone
  · intro g cap w' hrow hgrow hg hgl
    have hW : Within lo hi w w' := grown_within hgrow h3
    refine hK (some ⟨g, 0, none⟩) cap w' ⟨Nat.le_refl _, vs ++ [pv], fun i => if i = ls.length then fb else f i, ?_, by simp [h2], ?_, ?_⟩ hW
    · rw [List.length_append, List.length_singleton]; exact hrow
    · intro g' hg'
      have : g = g' := by injection hg'
      subst this
      rcases hg with h | h
      · have := h3 g h; omega
      · omega
    · intro i y pv' hy hp'
      by_cases hi' : i < ls.length
      · rw [List.getElem?_append_left hi'] at hy
        rw [List.getElem?_append_left (by omega)] at hp'
        obtain ⟨a1, b1, c1⟩ := h4 i y pv' hy hp'
        simp only [if_neg (show i ≠ ls.length by omega)]
        have hsep : ∀ g0, v.ownBlock = some g0 → g0 ≠ f i := fun g0 e1 e2 => c1 (by rw [e1, e2])
        refine ⟨?_, by have := hgrow.size; omega, ?_⟩
        · cases hv : v.ownBlock with
          | none => exact OwnR.by ⟨hgrow.os, hgrow.tape, hgrow.output, hgrow.size, fun k hk => hgrow.block k hk (by rw [hv]; simp)⟩ a1
          | some g0 => exact OwnR.past (grown_within (lo := g0) (hi := g0 + 1) hgrow (fun g1 e => by rw [hv] at e; cases e; omega)) a1 (by have := hsep g0 hv; omega)
        · intro e
          have : g = f i := by injection e
          rcases hg with h | h
          · exact hsep g h this
          · omega
      · have hil : i < (ls ++ [d]).length := (List.getElem?_eq_some_iff.1 hy).1
        simp at hil
        obtain rfl : i = ls.length := by omega
        rw [List.getElem?_append_right (Nat.le_refl _)] at hy
        rw [List.getElem?_append_right (by omega)] at hp'
        simp [h2] at hy hp'
        subst hy hp'
        simp only [if_true]
        refine ⟨OwnR.past hW hpv (by omega), by have := hgrow.size; omega, ?_⟩
        intro e
        have : g = fb := by injection e
        rcases hg with h | h
        · have := h3 g h; omega
        · omega
theorem list_pushL {ops : Array Oper} {rest : List Oper} {o : Oper} {a : Act} {w : World} {Q : Exit → Act → World → Prop} (hgd : o.guard = none) (s x : Operand)
    (ho : o.op = .call { callee := .builtin .append, args := #[s, x], argTypes := #[38, 38] })
    (lo hi : Nat) (v : Value) (ls : List (List Int)) (hs : a.eval s = v) (hB : BldL w lo hi v ls) (nb : Nat) (d : List Int) (pv : Value) (fb : Nat) (hx : a.eval x = .slice (some ⟨nb, 0, none⟩) 1 1)
    (hnb : Blk w nb #[pv] 28) (hpv : OwnR w fb (fb + 1) pv d) (hlo : lo ≤ hi) (hhi : hi ≤ fb) (hfb : fb < w.heap.size) (hn : ls.length ≤ 1000)
    (hK : ∀ a' c' w', BldL w' lo w'.heap.size (.slice a' (ls.length + 1) c') (ls ++ [d]) → Within lo hi w w' → wpList Tryz.prog ops Q rest (a.put o.dst (.slice a' (ls.length + 1) c')) w') : wpList Tryz.prog ops Q (o :: rest) a w :=
  wpList_plain hgd fun K hk => by
    have h := step_pushL (ops := ops) (K := K) (Q := Q) (E := False) hgd s x ho lo hi v ls hs hB nb d pv fb hx hnb hpv hlo hhi hfb hn (fun a' c' w' h1 h2 => hk _ _ (hK a' c' w' h1 h2))
    rwa [if_pos (by simp [Region.wanted, hgd])] at h

/-- The ports on a net, among the first k. -/
def portTo (ps : List Pt) (net : Int) (k : Nat) : List Int := ((List.range k).filter fun i : Nat => match ps[i]? with | some p => decide (p.net = net) | none => false).map fun i : Nat => (i : Int)
theorem portTo_step (ps : List Pt) (net : Int) (k : Nat) (p : Pt) (h : ps[k]? = some p) : portTo ps net (k + 1) = portTo ps net k ++ (if p.net = net then [(k : Int)] else []) := by
  unfold portTo
  rw [List.range_succ, List.filter_append, List.map_append]
  congr 1
  by_cases e : p.net = net <;> simp [h, e]
theorem portTo_len (ps : List Pt) (net : Int) (k : Nat) : (portTo ps net k).length ≤ k := by
  unfold portTo
  rw [List.length_map]
  have := List.length_filter_le (fun i : Nat => match ps[i]? with | some p => decide (p.net = net) | none => false) (List.range k)
  simpa using this
def netL (x : Nl) (n : Nat) : List (List Int) := (List.range n).map fun j : Nat => portTo x.ps (j : Int) x.ps.length
def devL (ds : List Dv) : List (List Int) := ds.map fun d => [d.kind, d.wd, d.len]
/-- The initial coloring. -/
def iniS (x : Nl) : List Int × List Int := (rankS (netL x x.nets.toNat), rankS (devL x.ds))
def iniR (x : Nl) : List Int × List Int := if nlB x = true then iniS x else ([], [])
theorem netL_step (x : Nl) (n : Nat) : netL x (n + 1) = netL x n ++ [portTo x.ps (n : Int) x.ps.length] := by simp [netL, List.range_succ]
theorem length_netL (x : Nl) (n : Nat) : (netL x n).length = n := by simp [netL]
theorem length_devL (ds : List Dv) : (devL ds).length = ds.length := by simp [devL]
end Go.Proofs.YtpaiiaajbojmnaaGreat
