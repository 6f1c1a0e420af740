/- A slice of devices without pins that grows, known by its block. -/
import Derived.Test.YtglddnkpccgchaaDoorCopies
import Derived.Test.YtglddnkpccgchaaDoorBldg
import Derived.Test.YtglddnkpccgchaaDoorTakeL
namespace Go.Proofs.YtglddnkpccgchaaDoor
open Go.RowKit
set_option linter.unusedVariables false
set_option linter.unusedSimpArgs false

def ZBld (w : World) (g n c : Nat) (ds : List Dv) : Prop := w.ownsRow 0 52 4 (.slice (some ⟨g, 0, none⟩) n c) ds.length (dcells ds (ds.map fun _ => Value.slice none 0 0)) ∧ ds.length = n ∧ (∀ d ∈ ds, d.pins = []) ∧ g < w.heap.size
section
variable {w w' : World} {g n c : Nat} {ds : List Dv}
theorem ZBld.by (hb : Below w.heap.size w w') (h : ZBld w g n c ds) : ZBld w' g n c ds := by
  obtain ⟨h1, h2, h3, h4⟩ := h
  refine ⟨row_same h1 (fun g' hg' => ?_), h2, h3, Nat.lt_of_lt_of_le h4 hb.size⟩
  have : g = g' := by injection hg'
  subst this
  exact hb.block g h4
theorem ZBld.keep {g0 : Nat} (hgr : w.grownBy w' (some g0)) (hne : g ≠ g0) (h : ZBld w g n c ds) : ZBld w' g n c ds := by
  obtain ⟨h1, h2, h3, h4⟩ := h
  refine ⟨row_same h1 (fun g' hg' => ?_), h2, h3, Nat.lt_of_lt_of_le h4 hgr.size⟩
  have : g = g' := by injection hg'
  subst this
  exact hgr.block g h4 (fun e => hne (Option.some.inj e))
theorem ZBld.lit (h : Blk w g #[] 52) : ZBld w g 0 0 [] :=
  ⟨⟨rfl, .inr ⟨g, 0, #[], rfl, Nat.zero_le _, h, Nat.le_refl _, by unfold maxLen; omega, rfl, rfl⟩⟩, rfl, by simp, h.lt⟩
theorem ZBld.sl (h : ZBld w g n c ds) : DvSl w (.slice (some ⟨g, 0, none⟩) n c) ds := by
  obtain ⟨⟨hlen, h1⟩, h2, h3, h4⟩ := h
  rcases h1 with ⟨h1, hn⟩ | ⟨g', cap, cur, e1, e2, e3, e4, e5, e6, e7⟩
  · cases h1
  · obtain ⟨rfl, rfl⟩ : g = g' ∧ c = cap := by
      simp only [Value.slice.injEq, Option.some.injEq, Addr.mk.injEq, and_true] at e1
      exact ⟨e1.1, e1.2.2⟩
    refine .inr ⟨g, 0, c, by rw [h2], e4, e5, fun i x hx => ?_⟩
    have hil : i < ds.length := (List.getElem?_eq_some_iff.1 hx).1
    obtain ⟨q0, q1, q2, q3⟩ := dcells_get ds (ds.map fun _ => Value.slice none 0 0) i x (.slice none 0 0) hx (by rw [List.getElem?_map, hx]; rfl)
    have hB : Blk w g cur 52 := e3
    have at_ : ∀ j u, (dcells ds (ds.map fun _ => Value.slice none 0 0))[j]? = some u → w.cell? ⟨g, j, none⟩ = some u := fun j u hu => by
      rw [hB.cell]
      rw [← e7] at hu
      have hj : j < ds.length * 4 := by
        have := (List.getElem?_eq_some_iff.1 hu).1
        rw [List.length_take] at this; omega
      rw [List.getElem?_take_of_lt hj] at hu
      simpa using hu
    simp only [Nat.zero_add]
    exact ⟨.slice none 0 0, at_ _ _ q0, at_ _ _ q1, at_ _ _ q2, at_ _ _ q3, .inl ⟨_, _, rfl, h3 x (List.mem_of_getElem? hx)⟩⟩
end
/-- append(out, Device{..}) without pins, at a step of a region that draws its order. -/
theorem step_pushZ {ops : Array Oper} {o : Oper} {a : Act} {w : World} {K : Act → World → Prop} {Q : Exit → Act → World → Prop} {E : Prop} (hgd : o.guard = none) (s x : Operand)
    (ho : o.op = .call { callee := .builtin .append, args := #[s, x], argTypes := #[28, 28] })
    (g n c : Nat) (ds : List Dv) (hs : a.eval s = .slice (some ⟨g, 0, none⟩) n c) (h : ZBld w g n c ds) (nb : Nat) (d : Dv) (hd : d.pins = []) (hx : a.eval x = .slice (some ⟨nb, 0, none⟩) 1 1)
    (hnb : Blk w nb #[.int .i64 d.kind, .slice none 0 0, .int .i64 d.wd, .int .i64 d.len] 52) (hn : n ≤ 1000)
    (hK : ∀ g' c' w', ZBld w' g' (n + 1) c' (ds ++ [d]) → w.grownBy w' (some g) → (g' = g ∨ g' = w.heap.size) → K (a.put o.dst (.slice (some ⟨g', 0, none⟩) (n + 1) c')) w') :
    if Region.wanted o (yielded ops a.tmps) = true then Oper.wp Tryd.prog o a w K Q else E := by
  obtain ⟨i0, hi0, hz0, hz1, hz2⟩ := info_parts infoDev
  obtain ⟨h1, h2, h3, h4⟩ := h
  subst h2
  refine step_append_lies w hgd s x 28 ho 0 52 i0 _ 4 48 Tryd.underlying28 hi0 hz0 hz1 hz2 rfl (by decide) _ ds.length _ hs h1 ⟨nb, 0, none⟩ 1 1 [.int .i64 d.kind, .slice none 0 0, .int .i64 d.wd, .int .i64 d.len] hx rfl (World.news_of_block (cs := #[.int .i64 d.kind, .slice none 0 0, .int .i64 d.wd, .int .i64 d.len]) hnb) ?_ (by decide) (by unfold maxLen; omega) (by omega) (by omega) w.heap.size rfl ?_
  · intro u hu
    simp at hu
    rcases hu with rfl | rfl | rfl | rfl <;> rfl
  · intro g' cap w' hrow hgrow hg hgl
    refine hK g' cap w' ⟨?_, by rw [List.length_append, List.length_singleton], fun e he => ?_, hgl⟩ hgrow (hg.imp (fun e => (Option.some.inj e).symm) id)
    · rw [List.length_append, List.length_singleton, List.map_append, List.map_singleton, dcells_push ds _ d _ (by simp)]; exact hrow
    · rcases List.mem_append.1 he with he | he
      · exact h3 e he
      · rw [List.mem_singleton] at he; rw [he]; exact hd
theorem keep_blk {w w' : World} {b g : Nat} {cs : Array Value} {T : TypeId} (hgr : w.grownBy w' (some g)) (h : Blk w b cs T) (hne : b ≠ g) : Blk w' b cs T :=
  (hgr.block b h.lt (fun e => hne (Option.some.inj e))).trans h
theorem keep_below {a w w' : World} {g : Nat} (hgr : w.grownBy w' (some g)) (h : Below a.heap.size a w) (hg : a.heap.size ≤ g) : Below a.heap.size a w' :=
  (grown_within (lo := g) (hi := g + 1) hgr (fun k e => by injection e with e; omega)).below h hg
end Go.Proofs.YtglddnkpccgchaaDoor
