/- A slice of strings that grows, known by its block. -/
import Derived.Test.YtglddnkpccgchaaDoorZBld
import Derived.Test.YtglddnkpccgchaaDoorBldS
namespace Go.Proofs.YtglddnkpccgchaaDoor
open Go.RowKit
set_option linter.unusedVariables false
set_option linter.unusedSimpArgs false

def SBld (w : World) (g n c : Nat) (zs : List ByteArray) : Prop := w.ownsRow 0 9 1 (.slice (some ⟨g, 0, none⟩) n c) zs.length (scells zs) ∧ zs.length = n ∧ g < w.heap.size
section
variable {w w' : World} {g n c : Nat} {zs : List ByteArray}
theorem SBld.by (hb : Below w.heap.size w w') (h : SBld w g n c zs) : SBld w' g n c zs := by
  obtain ⟨h1, h2, h4⟩ := h
  refine ⟨row_same h1 (fun g' hg' => ?_), h2, Nat.lt_of_lt_of_le h4 hb.size⟩
  have : g = g' := by injection hg'
  subst this
  exact hb.block g h4
theorem SBld.keep {g0 : Nat} (hgr : w.grownBy w' (some g0)) (hne : g ≠ g0) (h : SBld w g n c zs) : SBld w' g n c zs := by
  obtain ⟨h1, h2, h4⟩ := h
  refine ⟨row_same h1 (fun g' hg' => ?_), h2, Nat.lt_of_lt_of_le h4 hgr.size⟩
  have : g = g' := by injection hg'
  subst this
  exact hgr.block g h4 (fun e => hne (Option.some.inj e))
/-- A slice literal. -/
theorem SBld.lit {cs : Array Value} (h : Blk w g cs 9) (hcs : cs.toList = scells zs) (hm : zs.length ≤ 1048576) : SBld w g zs.length zs.length zs := by
  have hl : cs.size = zs.length := by rw [← Array.length_toList, hcs]; simp [scells]
  refine ⟨⟨by simp [scells], .inr ⟨g, zs.length, cs, rfl, Nat.zero_le _, h, Nat.le_refl _, by unfold maxLen; omega, by omega, ?_⟩⟩, rfl, h.lt⟩
  rw [hcs, Nat.mul_one, List.take_of_length_le (by simp [scells])]
theorem SBld.cell (h : SBld w g n c zs) : n ≤ c ∧ ∀ (i : Nat) x, zs[i]? = some x → w.cell? ⟨g, i, none⟩ = some (.string x) := by
  obtain ⟨⟨hlen, h1⟩, h2, h4⟩ := h
  rcases h1 with ⟨h1, hn⟩ | ⟨g', cap, cur, e1, e2, e3, e4, e5, e6, e7⟩
  · cases h1
  · obtain ⟨rfl, rfl⟩ : g = g' ∧ c = cap := by
      simp only [Value.slice.injEq, Option.some.injEq, Addr.mk.injEq, and_true] at e1
      exact ⟨e1.1, e1.2.2⟩
    refine ⟨by omega, fun i x hx => ?_⟩
    have hi' : i < zs.length := (List.getElem?_eq_some_iff.1 hx).1
    have : (scells zs)[i]? = some (.string x) := by simp [scells, hx]
    rw [← e7, List.getElem?_take_of_lt (by omega)] at this
    rw [Blk.cell e3]
    simpa using this
theorem SBld.past {lo hi : Nat} (hW : Within lo hi w w') (h : SBld w g n c zs) (hd : g < lo ∨ hi ≤ g) : SBld w' g n c zs := by
  obtain ⟨h1, h2, h4⟩ := h
  refine ⟨row_same h1 (fun g' hg' => ?_), h2, Nat.lt_of_lt_of_le h4 hW.size⟩
  have : g = g' := by injection hg'
  subst this
  exact hW.block g h4 hd
theorem SBld.apart {b o : Nat} {v : Value} (h : SBld w g n c zs) (hne : g ≠ b) : SBld (w.setCell ⟨b, o, none⟩ v) g n c zs := by
  obtain ⟨h1, h2, h4⟩ := h
  refine ⟨row_same h1 (fun g' hg' => ?_), h2, by simpa using h4⟩
  have : g = g' := by injection hg'
  subst this
  exact Below.heap_setCell w ⟨b, o, none⟩ v g hne
theorem SBld.bld (h : SBld w g n c zs) : BldS w g (g + 1) (.slice (some ⟨g, 0, none⟩) n c) zs := by
  obtain ⟨⟨hlen, h1⟩, h2, h4⟩ := h
  rcases h1 with ⟨h1, hn⟩ | ⟨g', cap, cur, e1, e2, e3⟩
  · cases h1
  · obtain ⟨rfl, rfl⟩ : g = g' ∧ c = cap := by
      simp only [Value.slice.injEq, Option.some.injEq, Addr.mk.injEq, and_true] at e1
      exact ⟨e1.1, e1.2.2⟩
    refine ⟨h4, ⟨hlen, .inr ⟨g, c, cur, e1, Nat.le_refl _, e3⟩⟩, fun k hk => ?_⟩
    have : g = k := by injection hk
    omega
end
theorem step_pushT {ops : Array Oper} {o : Oper} {a : Act} {w : World} {K : Act → World → Prop} {Q : Exit → Act → World → Prop} {E : Prop} (hgd : o.guard = none) (s x : Operand)
    (ho : o.op = .call { callee := .builtin .append, args := #[s, x], argTypes := #[53, 53] })
    (g n c : Nat) (zs : List ByteArray) (hs : a.eval s = .slice (some ⟨g, 0, none⟩) n c) (h : SBld w g n c zs) (nb : Nat) (d : ByteArray) (hx : a.eval x = .slice (some ⟨nb, 0, none⟩) 1 1)
    (hnb : Blk w nb #[.string d] 9) (hn : n ≤ 1000000)
    (hK : ∀ g' c' w', SBld w' g' (n + 1) c' (zs ++ [d]) → w.grownBy w' (some g) → (g' = g ∨ g' = w.heap.size) → K (a.put o.dst (.slice (some ⟨g', 0, none⟩) (n + 1) c')) w') :
    if Region.wanted o (yielded ops a.tmps) = true then Oper.wp Tryd.prog o a w K Q else E := by
  obtain ⟨i0, hi0, hz0, hz1, hz2⟩ := info_parts infoStr
  obtain ⟨h1, h2, h4⟩ := h
  subst h2
  refine step_append_lies w hgd s x 53 ho 0 9 i0 _ 1 16 Tryd.underlying53 hi0 hz0 hz1 hz2 rfl (by decide) _ zs.length _ hs h1 ⟨nb, 0, none⟩ 1 1 [.string d] hx rfl (World.news_of_block (cs := #[.string d]) hnb) ?_ (by decide) (by unfold maxLen; omega) (by omega) (by omega) w.heap.size rfl ?_
  · intro u hu
    simp at hu
    subst hu; rfl
  · intro g' cap w' hrow hgrow hg hgl
    refine hK g' cap w' ⟨?_, by rw [List.length_append, List.length_singleton], hgl⟩ hgrow (hg.imp (fun e => (Option.some.inj e).symm) id)
    rw [List.length_append, List.length_singleton, scells_push]; exact hrow
theorem list_pushT {ops : Array Oper} {rest : List Oper} {o : Oper} {a : Act} {w : World} {Q : Exit → Act → World → Prop} (hgd : o.guard = none) (s x : Operand)
    (ho : o.op = .call { callee := .builtin .append, args := #[s, x], argTypes := #[53, 53] })
    (g n c : Nat) (zs : List ByteArray) (hs : a.eval s = .slice (some ⟨g, 0, none⟩) n c) (h : SBld w g n c zs) (nb : Nat) (d : ByteArray) (hx : a.eval x = .slice (some ⟨nb, 0, none⟩) 1 1)
    (hnb : Blk w nb #[.string d] 9) (hn : n ≤ 1000000)
    (hK : ∀ g' c' w', SBld w' g' (n + 1) c' (zs ++ [d]) → w.grownBy w' (some g) → (g' = g ∨ g' = w.heap.size) → wpList Tryd.prog ops Q rest (a.put o.dst (.slice (some ⟨g', 0, none⟩) (n + 1) c')) w') : wpList Tryd.prog ops Q (o :: rest) a w :=
  wpList_plain hgd fun K hk => by
    have h := step_pushT (ops := ops) (K := K) (Q := Q) (E := False) hgd s x ho g n c zs hs h nb d hx hnb hn (fun g' c' w' h1 h2 h3 => hk _ _ (hK g' c' w' h1 h2 h3))
    rwa [if_pos (by simp [Region.wanted, hgd])] at h
end Go.Proofs.YtglddnkpccgchaaDoor
