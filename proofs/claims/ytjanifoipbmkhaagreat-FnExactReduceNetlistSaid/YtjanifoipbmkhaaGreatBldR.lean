/- A slice of devices that grows; the pins lie elsewhere. -/
import Derived.Test.YtjanifoipbmkhaaGreatMarkX
import Derived.Test.YtjanifoipbmkhaaGreatOrdB
namespace Go.Proofs.YtjanifoipbmkhaaGreat
open Go.RowKit
set_option linter.unusedVariables false
set_option linter.unusedSimpArgs false

/-- The slice v holds these devices, whose pins' slices are pvs; its own block lies from lo on and below hi; it may grow. -/
def BldR (w : World) (lo hi : Nat) (v : Value) (ds : List Dv) (pvs : List Value) : Prop := hi ≤ w.heap.size ∧ w.ownsRow lo 46 4 v ds.length (dcells ds pvs) ∧ pvs.length = ds.length ∧ (∀ g, v.ownBlock = some g → lo ≤ g ∧ g < hi)
section
variable {w w' : World} {lo hi : Nat} {v : Value} {ds : List Dv} {pvs : List Value}
theorem BldR.nil (w : World) (lo : Nat) : BldR w lo w.heap.size (.slice none 0 0) [] [] :=
  ⟨Nat.le_refl _, World.ownsRow_nil w lo _ 4, rfl, (by intro g h; cases h)⟩
theorem BldR.by (hb : Below w.heap.size w w') (h : BldR w lo hi v ds pvs) : BldR w' lo hi v ds pvs := by
  obtain ⟨hs, h1, h2, h3⟩ := h
  exact ⟨Nat.le_trans hs hb.size, row_same h1 (fun g hg => hb.block g (by have := h3 g hg; omega)), h2, h3⟩
theorem BldR.past {lo' hi' : Nat} (hb : Within lo' hi' w w') (h : BldR w lo hi v ds pvs) (hd : hi' ≤ lo ∨ hi ≤ lo') : BldR w' lo hi v ds pvs := by
  obtain ⟨hs, h1, h2, h3⟩ := h
  exact ⟨Nat.le_trans hs hb.size, row_same h1 (fun g hg => hb.block g (by have := h3 g hg; omega) (by have := h3 g hg; omega)), h2, h3⟩
theorem BldR.sized (h : BldR w lo hi v ds pvs) : ∃ a c, v = .slice a ds.length c := by
  obtain ⟨_, ⟨_, h1⟩, _⟩ := h
  rcases h1 with ⟨h1, h2⟩ | ⟨g, cap, cur, e1, _⟩
  · exact ⟨none, 0, by rw [h1, h2]⟩
  · exact ⟨_, _, e1⟩
theorem BldR.ownX {lo' hi' P : Nat} {f : Nat → Nat} (h : BldR w lo hi v ds pvs) (hlo : lo' ≤ lo) (hhi : hi ≤ hi') (hP : P < lo ∨ hi ≤ P)
    (hf : ∀ (i : Nat) (x : Dv) (pv : Value), ds[i]? = some x → pvs[i]? = some pv → OwnR w (f i) (f i + 1) pv x.pins ∧ lo' ≤ f i ∧ f i < lo ∧ f i ≠ P)
    (hi : ∀ i j, i < ds.length → j < ds.length → i ≠ j → f i ≠ f j) : OwnDsX w lo' hi' P v ds := by
  obtain ⟨hs, ⟨hlen, h1⟩, h2, h3⟩ := h
  rcases h1 with ⟨h1, hn⟩ | ⟨g, cap, cur, e1, e2, e3, e4, e5, e6, e7⟩
  · exact .inl ⟨_, _, h1, List.eq_nil_of_length_eq_zero hn⟩
  · have hcur : ∀ (j : Nat) u, (dcells ds pvs)[j]? = some u → cur[j]? = some u := by
      intro j u hu
      rw [← e7] at hu
      have hj : j < ds.length * 4 := by
        have := (List.getElem?_eq_some_iff.1 hu).1
        rw [List.length_take] at this; omega
      rw [List.getElem?_take_of_lt hj] at hu
      simpa using hu
    have hg := h3 g (by rw [e1]; rfl)
    refine .inr ⟨g, cap, cur, f, e1, by omega, e4, e5, e3, fun i x hx => ?_, hi⟩
    have hil : i < ds.length := (List.getElem?_eq_some_iff.1 hx).1
    obtain ⟨pv, hp⟩ : ∃ pv, pvs[i]? = some pv := ⟨pvs[i]'(by omega), List.getElem?_eq_getElem (by omega)⟩
    obtain ⟨a, b, c, d⟩ := hf i x pv hx hp
    obtain ⟨q0, q1, q2, q3⟩ := dcells_get ds pvs i x pv hx hp
    exact ⟨⟨pv, ⟨hcur _ _ q0, hcur _ _ q1, hcur _ _ q2, hcur _ _ q3⟩, a⟩, b, by omega, by omega, d⟩
end

/-- append(out, d), at a step of a region that draws its order. -/
theorem step_pushR {ops : Array Oper} {o : Oper} {a : Act} {w : World} {K : Act → World → Prop} {Q : Exit → Act → World → Prop} {E : Prop} (hgd : o.guard = none) (s x : Operand)
    (ho : o.op = .call { callee := .builtin .append, args := #[s, x], argTypes := #[27, 27] })
    (lo hi : Nat) (v : Value) (ds : List Dv) (pvs : List Value) (hs : a.eval s = v) (hB : BldR w lo hi v ds pvs) (nb : Nat) (d : Dv) (pv : Value) (hx : a.eval x = .slice (some ⟨nb, 0, none⟩) 1 1)
    (hnb : Blk w nb #[.int .i64 d.kind, pv, .int .i64 d.wd, .int .i64 d.len] 46) (hone : pv.oneCell' = true) (hlo : lo ≤ hi) (hn : ds.length ≤ 1000)
    (hK : ∀ a' c' w', BldR w' lo w'.heap.size (.slice a' (ds.length + 1) c') (ds ++ [d]) (pvs ++ [pv]) → Within lo hi w w' → K (a.put o.dst (.slice a' (ds.length + 1) c')) w') :
    if Region.wanted o (yielded ops a.tmps) = true then Oper.wp Tryz.prog o a w K Q else E := by
  obtain ⟨i0, hi0, hz0, hz1, hz2⟩ := info_parts infoDev
  obtain ⟨hsz, h1, h2, h3⟩ := hB
  refine step_append_lies w hgd s x 27 ho lo 46 i0 _ 4 48 Tryz.underlying27 hi0 hz0 hz1 hz2 rfl (by decide) v ds.length _ hs h1 ⟨nb, 0, none⟩ 1 1 [.int .i64 d.kind, pv, .int .i64 d.wd, .int .i64 d.len] hx rfl (World.news_of_block (cs := #[.int .i64 d.kind, pv, .int .i64 d.wd, .int .i64 d.len]) hnb) ?_ (by decide) (by unfold maxLen; omega) (by omega) (by omega) w.heap.size rfl ?_
  · intro u hu
    simp at hu
    rcases hu with rfl | rfl | rfl | rfl
    · rfl
    · exact hone
    · rfl
    · rfl
  · intro g cap w' hrow hgrow hg hgl
    have hW : Within lo hi w w' := grown_within hgrow h3
    refine hK (some ⟨g, 0, none⟩) cap w' ⟨Nat.le_refl _, ?_, by simp [h2], ?_⟩ hW
    · rw [List.length_append, List.length_singleton, dcells_push ds pvs d pv h2]; exact hrow
    · intro g' hg'
      have : g = g' := by injection hg'
      subst this
      rcases hg with h | h
      · have := h3 g h; omega
      · omega
theorem list_pushR {ops : Array Oper} {rest : List Oper} {o : Oper} {a : Act} {w : World} {Q : Exit → Act → World → Prop} (hgd : o.guard = none) (s x : Operand)
    (ho : o.op = .call { callee := .builtin .append, args := #[s, x], argTypes := #[27, 27] })
    (lo hi : Nat) (v : Value) (ds : List Dv) (pvs : List Value) (hs : a.eval s = v) (hB : BldR w lo hi v ds pvs) (nb : Nat) (d : Dv) (pv : Value) (hx : a.eval x = .slice (some ⟨nb, 0, none⟩) 1 1)
    (hnb : Blk w nb #[.int .i64 d.kind, pv, .int .i64 d.wd, .int .i64 d.len] 46) (hone : pv.oneCell' = true) (hlo : lo ≤ hi) (hn : ds.length ≤ 1000)
    (hK : ∀ a' c' w', BldR w' lo w'.heap.size (.slice a' (ds.length + 1) c') (ds ++ [d]) (pvs ++ [pv]) → Within lo hi w w' → wpList Tryz.prog ops Q rest (a.put o.dst (.slice a' (ds.length + 1) c')) w') : wpList Tryz.prog ops Q (o :: rest) a w :=
  wpList_plain hgd fun K hk => by
    have h := step_pushR (ops := ops) (K := K) (Q := Q) (E := False) hgd s x ho lo hi v ds pvs hs hB nb d pv hx hnb hone hlo hn (fun a' c' w' h1 h2 => hk _ _ (hK a' c' w' h1 h2))
    rwa [if_pos (by simp [Region.wanted, hgd])] at h

/-- What a slice of devices of the call's own is made of: its cells, the pins' slices, their blocks. -/
theorem OwnDs.parts {sv : Value} {w : World} {lo hi : Nat} {ds : List Dv} (h : OwnDs w lo hi sv ds) (hne : ds ≠ []) : ∃ (g cap : Nat) (cs : Array Value) (f : Nat → Nat) (pv : Nat → Value), sv = .slice (some ⟨g, 0, none⟩) ds.length cap ∧ (lo ≤ g ∧ g < hi) ∧ ds.length ≤ cap ∧ cap ≤ maxLen ∧ Blk w g cs 46 ∧
    (∀ (i : Nat) (x : Dv), ds[i]? = some x → Cs4 cs i (.int .i64 x.kind) (pv i) (.int .i64 x.wd) (.int .i64 x.len) ∧ OwnR w (f i) (f i + 1) (pv i) x.pins ∧ (lo ≤ f i ∧ f i < hi ∧ f i ≠ g)) ∧ (∀ i j, i < ds.length → j < ds.length → i ≠ j → f i ≠ f j) := by
  rcases h with ⟨_, _, _, h⟩ | ⟨g, cap, cs, f, h1, h2, h3, h4, h5, h6, h7⟩
  · exact absurd h hne
  · refine ⟨g, cap, cs, f, fun i => cs.getD (i * 4 + 1) (.int .i64 0), h1, h2, h3, h4, h5, fun i x hx => ?_, h7⟩
    obtain ⟨⟨pv, hC, hR⟩, hf⟩ := h6 i x hx
    have e : cs.getD (i * 4 + 1) (.int .i64 0) = pv := by rw [Array.getD_eq_getD_getElem?, hC.2.1]; rfl
    dsimp only
    rw [e]
    exact ⟨hC, hR, hf⟩
end Go.Proofs.YtjanifoipbmkhaaGreat
