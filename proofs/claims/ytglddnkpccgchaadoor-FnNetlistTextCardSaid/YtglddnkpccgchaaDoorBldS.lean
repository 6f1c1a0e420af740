/- A slice of strings that grows in memory of the call's own. -/
import Derived.Test.YtglddnkpccgchaaDoorCopies
import Derived.Test.YtglddnkpccgchaaDoorBldg
namespace Go.Proofs.YtglddnkpccgchaaDoor
open Go.RowKit
set_option linter.unusedVariables false
set_option linter.unusedSimpArgs false

theorem infoStr : (Tryd.prog.info? 9).map (fun i => (i.zero, i.size, i.bytes)) = some (some (.string ByteArray.empty), 1, 16) := by kernel_rfl
def scells (zs : List ByteArray) : List Value := zs.map (Value.string)
theorem scells_push (zs ys : List ByteArray) : scells (zs ++ ys) = scells zs ++ scells ys := by simp [scells]
/-- The slice v holds these numbers, all its memory in blocks from lo on and below hi; it may grow. -/
def BldS (w : World) (lo hi : Nat) (v : Value) (zs : List ByteArray) : Prop := hi ≤ w.heap.size ∧ w.ownsRow lo 9 1 v zs.length (scells zs) ∧ (∀ g, v.ownBlock = some g → lo ≤ g ∧ g < hi)
section
variable {w w' : World} {lo hi : Nat} {v : Value} {zs : List ByteArray}
theorem BldS.nil (w : World) (lo : Nat) : BldS w lo w.heap.size (.slice none 0 0) [] :=
  ⟨Nat.le_refl _, World.ownsRow_nil w lo _ 1, by intro g h; cases h⟩
/-- A slice literal. -/
theorem BldS.lit {g : Nat} {cs : Array Value} (h : Blk w g cs 9) (hcs : cs.toList = scells zs) (hm : zs.length ≤ 1048576) (hlo : lo ≤ g) (hhi : g < hi) (hs : hi ≤ w.heap.size) : BldS w lo hi (.slice (some ⟨g, 0, none⟩) zs.length zs.length) zs := by
  have hl : cs.size = zs.length := by rw [← Array.length_toList, hcs]; simp [scells]
  refine ⟨hs, ⟨by simp [scells], .inr ⟨g, zs.length, cs, rfl, hlo, h, Nat.le_refl _, by unfold maxLen; omega, by omega, ?_⟩⟩, ?_⟩
  · rw [hcs, Nat.mul_one, List.take_of_length_le (by simp [scells])]
  · intro g' hg'
    have : g = g' := by injection hg'
    omega
theorem BldS.by (hb : Below w.heap.size w w') (h : BldS w lo hi v zs) : BldS w' lo hi v zs := by
  obtain ⟨hs, h1, h3⟩ := h
  exact ⟨Nat.le_trans hs hb.size, row_same h1 (fun g hg => hb.block g (by have := h3 g hg; omega)), h3⟩
theorem BldS.past {lo' hi' : Nat} (hb : Within lo' hi' w w') (h : BldS w lo hi v zs) (hd : hi' ≤ lo ∨ hi ≤ lo') : BldS w' lo hi v zs := by
  obtain ⟨hs, h1, h3⟩ := h
  exact ⟨Nat.le_trans hs hb.size, row_same h1 (fun g hg => hb.block g (by have := h3 g hg; omega) (by have := h3 g hg; omega)), h3⟩
theorem BldS.sized (h : BldS w lo hi v zs) : ∃ a c, v = .slice a zs.length c := by
  obtain ⟨_, ⟨_, h1⟩, _⟩ := h
  rcases h1 with ⟨h1, h2⟩ | ⟨g, cap, cur, e1, _⟩
  · exact ⟨none, 0, by rw [h1, h2]⟩
  · exact ⟨_, _, e1⟩
/-- What a reader sees: the strings lie one behind another. -/
def StrSl (w : World) (v : Value) (zs : List ByteArray) : Prop := (∃ a c, v = .slice a 0 c ∧ zs = []) ∨ ∃ g o c, v = .slice (some ⟨g, o, none⟩) zs.length c ∧ zs.length ≤ c ∧ g < w.heap.size ∧ ∀ (i : Nat) x, zs[i]? = some x → w.cell? ⟨g, o + i, none⟩ = some (.string x)
theorem StrSl.by (hb : Below w.heap.size w w') (h : StrSl w v zs) : StrSl w' v zs := by
  rcases h with h | ⟨g, o, c, e1, e2, e3, e4⟩
  · exact .inl h
  · exact .inr ⟨g, o, c, e1, e2, Nat.lt_of_lt_of_le e3 hb.size, fun i x hx => cell_by' hb (e4 i x hx)⟩
theorem BldS.sl (h : BldS w lo hi v zs) : StrSl w v zs := by
  obtain ⟨hs, ⟨hlen, h1⟩, h3⟩ := h
  rcases h1 with ⟨h1, hn⟩ | ⟨g, cap, cur, e1, e2, e3, e4, e5, e6, e7⟩
  · exact .inl ⟨_, _, by rw [h1], List.eq_nil_of_length_eq_zero hn⟩
  · refine .inr ⟨g, 0, cap, e1, e4, Blk.lt e3, fun i x hx => ?_⟩
    have hi' : i < zs.length := (List.getElem?_eq_some_iff.1 hx).1
    have : (scells zs)[i]? = some (.string x) := by simp [scells, hx]
    rw [← e7, List.getElem?_take_of_lt (by omega)] at this
    rw [Nat.zero_add, Blk.cell e3]
    simpa using this
end

/-- append(out, y0, y1, ..), at a step of a region that draws its order. -/
theorem step_pushS {ops : Array Oper} {o : Oper} {a : Act} {w : World} {K : Act → World → Prop} {Q : Exit → Act → World → Prop} {E : Prop} (hgd : o.guard = none) (s x : Operand)
    (ho : o.op = .call { callee := .builtin .append, args := #[s, x], argTypes := #[53, 53] })
    (lo hi : Nat) (v : Value) (zs ys : List ByteArray) (hs : a.eval s = v) (hB : BldS w lo hi v zs) (nb m : Nat) (cs : Array Value) (hx : a.eval x = .slice (some ⟨nb, 0, none⟩) m m) (hys : ys.length = m) (hm : 0 < m)
    (hnb : Blk w nb cs 9) (hcs : cs.toList = scells ys) (hlo : lo ≤ hi) (hn : zs.length + m ≤ 8000000)
    (hK : ∀ a' c' w', BldS w' lo w'.heap.size (.slice a' (zs.length + m) c') (zs ++ ys) → Within lo hi w w' → K (a.put o.dst (.slice a' (zs.length + m) c')) w') :
    if Region.wanted o (yielded ops a.tmps) = true then Oper.wp Tryd.prog o a w K Q else E := by
  obtain ⟨i0, hi0, hz0, hz1, hz2⟩ := info_parts infoStr
  obtain ⟨hsz, h1, h3⟩ := hB
  refine step_append_lies w hgd s x 53 ho lo 9 i0 _ 1 16 Tryd.underlying53 hi0 hz0 hz1 hz2 rfl (by decide) v zs.length _ hs h1 ⟨nb, 0, none⟩ m m (scells ys) hx (by simp [scells, hys]) (by rw [← hcs]; exact World.news_of_block (cs := cs) hnb) ?_ hm (by unfold maxLen; omega) (by omega) (by omega) w.heap.size rfl ?_
  · intro u hu
    simp only [scells, List.mem_map] at hu
    obtain ⟨_, _, rfl⟩ := hu
    rfl
  · intro g cap w' hrow hgrow hg hgl
    have hW : Within lo hi w w' := grown_within hgrow h3
    refine hK (some ⟨g, 0, none⟩) cap w' ⟨Nat.le_refl _, ?_, ?_⟩ hW
    · rw [List.length_append, hys, scells_push]; exact hrow
    · intro g' hg'
      have : g = g' := by injection hg'
      subst this
      rcases hg with h | h
      · have := h3 g h; omega
      · omega
/-- .. at a plain list of operations. -/
theorem list_pushS {ops : Array Oper} {rest : List Oper} {o : Oper} {a : Act} {w : World} {Q : Exit → Act → World → Prop} (hgd : o.guard = none) (s x : Operand)
    (ho : o.op = .call { callee := .builtin .append, args := #[s, x], argTypes := #[53, 53] })
    (lo hi : Nat) (v : Value) (zs ys : List ByteArray) (hs : a.eval s = v) (hB : BldS w lo hi v zs) (nb m : Nat) (cs : Array Value) (hx : a.eval x = .slice (some ⟨nb, 0, none⟩) m m) (hys : ys.length = m) (hm : 0 < m)
    (hnb : Blk w nb cs 9) (hcs : cs.toList = scells ys) (hlo : lo ≤ hi) (hn : zs.length + m ≤ 8000000)
    (hK : ∀ a' c' w', BldS w' lo w'.heap.size (.slice a' (zs.length + m) c') (zs ++ ys) → Within lo hi w w' → wpList Tryd.prog ops Q rest (a.put o.dst (.slice a' (zs.length + m) c')) w') : wpList Tryd.prog ops Q (o :: rest) a w :=
  wpList_plain hgd fun K hk => by
    have h := step_pushS (ops := ops) (K := K) (Q := Q) (E := False) hgd s x ho lo hi v zs ys hs hB nb m cs hx hys hm hnb hcs hlo hn (fun a' c' w' h1 h2 => hk _ _ (hK a' c' w' h1 h2))
    rwa [if_pos (by simp [Region.wanted, hgd])] at h
end Go.Proofs.YtglddnkpccgchaaDoor
