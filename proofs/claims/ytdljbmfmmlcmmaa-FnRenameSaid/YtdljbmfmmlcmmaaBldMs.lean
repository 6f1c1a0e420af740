/- A slice of devices that grows; the pins lie elsewhere. -/
import Derived.Test.YtdljbmfmmlcmmaaMarks
import Derived.Test.YtdljbmfmmlcmmaaOrdB
namespace Go.Proofs.Ytdljbmfmmlcmmaa
open Go.RowKit
set_option linter.unusedVariables false
set_option linter.unusedSimpArgs false

/-- The slice v holds these devices, whose pins' slices are pvs; its own block lies from lo on and below hi; it may grow. -/
def BldR (w : World) (lo hi : Nat) (v : Value) (ds : List Dv) (pvs : List Value) : Prop := hi ≤ w.heap.size ∧ w.ownsRow lo 35 4 v ds.length (dcells ds pvs) ∧ pvs.length = ds.length ∧ (∀ g, v.ownBlock = some g → lo ≤ g ∧ g < hi)
section
variable {w w' : World} {lo hi : Nat} {v : Value} {ds : List Dv} {pvs : List Value}
theorem BldR.nil (w : World) (lo : Nat) : BldR w lo w.heap.size (.slice none 0 0) [] [] :=
  ⟨Nat.le_refl _, World.ownsRow_nil w lo _ 4, rfl, (by intro g h; cases h)⟩
theorem BldR.by (hb : Below w.heap.size w w') (h : BldR w lo hi v ds pvs) : BldR w' lo hi v ds pvs := by
  obtain ⟨hs, h1, h2, h3⟩ := h
  exact ⟨Nat.le_trans hs hb.size, row_same h1 (fun g hg => hb.block g (by have := h3 g hg; omega)), h2, h3⟩
theorem BldR.past {lo' hi' : Nat} (hb : Within lo' hi' w w') (h : BldR w lo hi v ds pvs) (hd : hi' ≤ lo ∨ hi ≤ lo') : BldR w' lo hi v ds pvs := by
  obtain ⟨hs, h1, h2, h3⟩ := h
  exact ⟨Nat.le_trans hs hb.size, row_same h1 (fun g hg => hb.block g (by have := h3 g hg; omega) (by have := h3 g hg; omega)), h2, h3⟩
theorem BldR.sized (h : BldR w lo hi v ds pvs) : ∃ a c, v = .slice a ds.length c := by
  obtain ⟨_, ⟨_, h1⟩, _⟩ := h
  rcases h1 with ⟨h1, h2⟩ | ⟨g, cap, cur, e1, _⟩
  · exact ⟨none, 0, by rw [h1, h2]⟩
  · exact ⟨_, _, e1⟩
theorem BldR.ownX {lo' hi' P : Nat} {f : Nat → Nat} (h : BldR w lo hi v ds pvs) (hlo : lo' ≤ lo) (hhi : hi ≤ hi') (hP : P < lo ∨ hi ≤ P)
    (hf : ∀ (i : Nat) (x : Dv) (pv : Value), ds[i]? = some x → pvs[i]? = some pv → OwnR w (f i) (f i + 1) pv x.pins ∧ lo' ≤ f i ∧ f i < lo ∧ f i ≠ P)
    (hi : ∀ i j, i < ds.length → j < ds.length → i ≠ j → f i ≠ f j) : OwnDsX w lo' hi' P v ds := by
  obtain ⟨hs, ⟨hlen, h1⟩, h2, h3⟩ := h
  rcases h1 with ⟨h1, hn⟩ | ⟨g, cap, cur, e1, e2, e3, e4, e5, e6, e7⟩
  · exact .inl ⟨_, _, h1, List.eq_nil_of_length_eq_zero hn⟩
  · have hcur : ∀ (j : Nat) u, (dcells ds pvs)[j]? = some u → cur[j]? = some u := by
      intro j u hu
      rw [← e7] at hu
      have hj : j < ds.length * 4 := by
        have := (List.getElem?_eq_some_iff.1 hu).1
        rw [List.length_take] at this; omega
      rw [List.getElem?_take_of_lt hj] at hu
      simpa using hu
    have hg := h3 g (by rw [e1]; rfl)
    refine .inr ⟨g, cap, cur, f, e1, by omega, e4, e5, e3, fun i x hx => ?_, hi⟩
    have hil : i < ds.length := (List.getElem?_eq_some_iff.1 hx).1
    obtain ⟨pv, hp⟩ : ∃ pv, pvs[i]? = some pv := ⟨pvs[i]'(by omega), List.getElem?_eq_getElem (by omega)⟩
    obtain ⟨a, b, c, d⟩ := hf i x pv hx hp
    obtain ⟨q0, q1, q2, q3⟩ := dcells_get ds pvs i x pv hx hp
    exact ⟨⟨pv, ⟨hcur _ _ q0, hcur _ _ q1, hcur _ _ q2, hcur _ _ q3⟩, a⟩, b, by omega, by omega, d⟩
end

/-- append(out, d), at a step of a region that draws its order. -/
theorem step_pushR {ops : Array Oper} {o : Oper} {a : Act} {w : World} {K : Act → World → Prop} {Q : Exit → Act → World → Prop} {E : Prop} (hgd : o.guard = none) (s x : Operand)
    (ho : o.op = .call { callee := .builtin .append, args := #[s, x], argTypes := #[24, 24] })
    (lo hi : Nat) (v : Value) (ds : List Dv) (pvs : List Value) (hs : a.eval s = v) (hB : BldR w lo hi v ds pvs) (nb : Nat) (d : Dv) (pv : Value) (hx : a.eval x = .slice (some ⟨nb, 0, none⟩) 1 1)
    (hnb : Blk w nb #[.int .i64 d.kind, pv, .int .i64 d.wd, .int .i64 d.len] 35) (hone : pv.oneCell' = true) (hlo : lo ≤ hi) (hn : ds.length ≤ 1000)
    (hK : ∀ a' c' w', BldR w' lo w'.heap.size (.slice a' (ds.length + 1) c') (ds ++ [d]) (pvs ++ [pv]) → Within lo hi w w' → K (a.put o.dst (.slice a' (ds.length + 1) c')) w') :
    if Region.wanted o (yielded ops a.tmps) = true then Oper.wp Try.prog o a w K Q else E := by
  obtain ⟨i0, hi0, hz0, hz1, hz2⟩ := info_parts infoDev
  obtain ⟨hsz, h1, h2, h3⟩ := hB
  refine step_append_lies w hgd s x 24 ho lo 35 i0 _ 4 48 Try.underlying24 hi0 hz0 hz1 hz2 rfl (by decide) v ds.length _ hs h1 ⟨nb, 0, none⟩ 1 1 [.int .i64 d.kind, pv, .int .i64 d.wd, .int .i64 d.len] hx rfl (World.news_of_block (cs := #[.int .i64 d.kind, pv, .int .i64 d.wd, .int .i64 d.len]) hnb) ?_ (by decide) (by unfold maxLen; omega) (by omega) (by omega) w.heap.size rfl ?_
  · intro u hu
    simp at hu
    rcases hu with rfl | rfl | rfl | rfl
    · rfl
    · exact hone
    · rfl
    · rfl
  · intro g cap w' hrow hgrow hg hgl
    have hW : Within lo hi w w' := grown_within hgrow h3
    refine hK (some ⟨g, 0, none⟩) cap w' ⟨Nat.le_refl _, ?_, by simp [h2], ?_⟩ hW
    · rw [List.length_append, List.length_singleton, dcells_push ds pvs d pv h2]; exact hrow
    · intro g' hg'
      have : g = g' := by injection hg'
      subst this
      rcases hg with h | h
      · have := h3 g h; omega
      · omega
theorem list_pushR {ops : Array Oper} {rest : List Oper} {o : Oper} {a : Act} {w : World} {Q : Exit → Act → World → Prop} (hgd : o.guard = none) (s x : Operand)
    (ho : o.op = .call { callee := .builtin .append, args := #[s, x], argTypes := #[24, 24] })
    (lo hi : Nat) (v : Value) (ds : List Dv) (pvs : List Value) (hs : a.eval s = v) (hB : BldR w lo hi v ds pvs) (nb : Nat) (d : Dv) (pv : Value) (hx : a.eval x = .slice (some ⟨nb, 0, none⟩) 1 1)
    (hnb : Blk w nb #[.int .i64 d.kind, pv, .int .i64 d.wd, .int .i64 d.len] 35) (hone : pv.oneCell' = true) (hlo : lo ≤ hi) (hn : ds.length ≤ 1000)
    (hK : ∀ a' c' w', BldR w' lo w'.heap.size (.slice a' (ds.length + 1) c') (ds ++ [d]) (pvs ++ [pv]) → Within lo hi w w' → wpList Try.prog ops Q rest (a.put o.dst (.slice a' (ds.length + 1) c')) w') : wpList Try.prog ops Q (o :: rest) a w :=
  wpList_plain hgd fun K hk => by
    have h := step_pushR (ops := ops) (K := K) (Q := Q) (E := False) hgd s x ho lo hi v ds pvs hs hB nb d pv hx hnb hone hlo hn (fun a' c' w' h1 h2 => hk _ _ (hK a' c' w' h1 h2))
    rwa [if_pos (by simp [Region.wanted, hgd])] at h

/-- What a slice of devices of the call's own is made of: its cells, the pins' slices, their blocks. -/
theorem OwnDs.parts {sv : Value} {w : World} {lo hi : Nat} {ds : List Dv} (h : OwnDs w lo hi sv ds) (hne : ds ≠ []) : ∃ (g cap : Nat) (cs : Array Value) (f : Nat → Nat) (pv : Nat → Value), sv = .slice (some ⟨g, 0, none⟩) ds.length cap ∧ (lo ≤ g ∧ g < hi) ∧ ds.length ≤ cap ∧ cap ≤ maxLen ∧ Blk w g cs 35 ∧
    (∀ (i : Nat) (x : Dv), ds[i]? = some x → Cs4 cs i (.int .i64 x.kind) (pv i) (.int .i64 x.wd) (.int .i64 x.len) ∧ OwnR w (f i) (f i + 1) (pv i) x.pins ∧ (lo ≤ f i ∧ f i < hi ∧ f i ≠ g)) ∧ (∀ i j, i < ds.length → j < ds.length → i ≠ j → f i ≠ f j) := by
  rcases h with ⟨_, _, _, h⟩ | ⟨g, cap, cs, f, h1, h2, h3, h4, h5, h6, h7⟩
  · exact absurd h hne
  · refine ⟨g, cap, cs, f, fun i => cs.getD (i * 4 + 1) (.int .i64 0), h1, h2, h3, h4, h5, fun i x hx => ?_, h7⟩
    obtain ⟨⟨pv, hC, hR⟩, hf⟩ := h6 i x hx
    have e : cs.getD (i * 4 + 1) (.int .i64 0) = pv := by rw [Array.getD_eq_getD_getElem?, hC.2.1]; rfl
    dsimp only
    rw [e]
    exact ⟨hC, hR, hf⟩
end Go.Proofs.Ytdljbmfmmlcmmaa

/- A slice of devices that grows in memory of the call's own; the pins of one device lie elsewhere, at a block m below it. -/
namespace Go.Proofs.Ytdljbmfmmlcmmaa
open Go.RowKit
set_option linter.unusedVariables false
set_option linter.unusedSimpArgs false

/-- The slice v holds these devices, all its memory in blocks from lo on and below hi but for pins at m; av: no pins lie at m yet. -/
def BldM (m : Nat) (av : Prop) (w : World) (lo hi : Nat) (v : Value) (ds : List Dv) : Prop := hi ≤ w.heap.size ∧ ∃ (pvs : List Value) (f : Nat → Nat), w.ownsRow lo 35 4 v ds.length (dcells ds pvs) ∧ pvs.length = ds.length ∧ (∀ g, v.ownBlock = some g → lo ≤ g ∧ g < hi) ∧
  (∀ i x pv, ds[i]? = some x → pvs[i]? = some pv → OwnR w (f i) (f i + 1) pv x.pins ∧ ((f i = m ∧ ¬ av) ∨ (lo ≤ f i ∧ f i < hi)) ∧ v.ownBlock ≠ some (f i)) ∧ (∀ i j, i < ds.length → j < ds.length → i ≠ j → f i ≠ f j)
section
variable {m : Nat} {av : Prop} {w w' : World} {lo hi : Nat} {v : Value} {ds : List Dv}
theorem BldM.nil (m : Nat) (av : Prop) (w : World) (lo : Nat) : BldM m av w lo w.heap.size (.slice none 0 0) [] :=
  ⟨Nat.le_refl _, [], fun _ => 0, World.ownsRow_nil w lo _ 4, rfl, (by intro g h; cases h), (by intro i x pv h; simp at h), (by intro i j h; simp at h)⟩
theorem BldM.sub {av' : Prop} (h : BldM m av w lo hi v ds) (ha : av' → av) : BldM m av' w lo hi v ds := by
  obtain ⟨hs, pvs, f, h1, h2, h3, h4, h5⟩ := h
  refine ⟨hs, pvs, f, h1, h2, h3, fun i x pv hx hp => ?_, h5⟩
  obtain ⟨a, b, c⟩ := h4 i x pv hx hp
  exact ⟨a, b.imp (fun h => ⟨h.1, fun k => h.2 (ha k)⟩) id, c⟩
theorem BldM.by (hb : Below w.heap.size w w') (h : BldM m av w lo hi v ds) : BldM m av w' lo hi v ds := by
  obtain ⟨hs, pvs, f, h1, h2, h3, h4, h5⟩ := h
  refine ⟨Nat.le_trans hs hb.size, pvs, f, row_same h1 (fun g hg => hb.block g (by have := h3 g hg; omega)), h2, h3, fun i x pv hx hp => ?_, h5⟩
  obtain ⟨a, b, c⟩ := h4 i x pv hx hp
  exact ⟨OwnR.by hb a, b, c⟩
theorem BldM.past {lo' hi' : Nat} (hb : Within lo' hi' w w') (h : BldM m av w lo hi v ds) (hd : hi' ≤ lo ∨ hi ≤ lo') (hm : m < lo' ∨ hi' ≤ m) : BldM m av w' lo hi v ds := by
  obtain ⟨hs, pvs, f, h1, h2, h3, h4, h5⟩ := h
  refine ⟨Nat.le_trans hs hb.size, pvs, f, row_same h1 (fun g hg => hb.block g (by have := h3 g hg; omega) (by have := h3 g hg; omega)), h2, h3, fun i x pv hx hp => ?_, h5⟩
  obtain ⟨a, b, c⟩ := h4 i x pv hx hp
  exact ⟨OwnR.past hb a (by omega), b, c⟩
theorem BldM.sized (h : BldM m av w lo hi v ds) : ∃ a c, v = .slice a ds.length c := by
  obtain ⟨_, pvs, f, ⟨_, h1⟩, _⟩ := h
  rcases h1 with ⟨h1, h2⟩ | ⟨g, cap, cur, e1, _⟩
  · exact ⟨none, 0, by rw [h1, h2]⟩
  · exact ⟨_, _, e1⟩
theorem BldM.ownX {lo0 P : Nat} (h : BldM m av w lo hi v ds) (h0 : lo0 ≤ m) (hm : m < lo) (hm' : m < hi) (hP : P < lo) (hP' : P ≠ m) : OwnDsX w lo0 hi P v ds := by
  obtain ⟨hs, pvs, f, ⟨hlen, h1⟩, h2, h3, h4, h5⟩ := h
  rcases h1 with ⟨h1, hn⟩ | ⟨g, cap, cur, e1, e2, e3, e4, e5, e6, e7⟩
  · exact .inl ⟨_, _, h1, List.eq_nil_of_length_eq_zero hn⟩
  · have hcur : ∀ (j : Nat) u, (dcells ds pvs)[j]? = some u → cur[j]? = some u := by
      intro j u hu
      rw [← e7] at hu
      have hj : j < ds.length * 4 := by
        have := (List.getElem?_eq_some_iff.1 hu).1
        rw [List.length_take] at this; omega
      rw [List.getElem?_take_of_lt hj] at hu
      simpa using hu
    have hg := h3 g (by rw [e1]; rfl)
    refine .inr ⟨g, cap, cur, f, e1, ⟨by omega, by omega⟩, e4, e5, e3, fun i x hx => ?_, h5⟩
    have hi : i < ds.length := (List.getElem?_eq_some_iff.1 hx).1
    obtain ⟨pv, hp⟩ : ∃ pv, pvs[i]? = some pv := ⟨pvs[i]'(by omega), List.getElem?_eq_getElem (by omega)⟩
    obtain ⟨a, b, c⟩ := h4 i x pv hx hp
    obtain ⟨q0, q1, q2, q3⟩ := dcells_get ds pvs i x pv hx hp
    have hne : f i ≠ g := fun e => c (by rw [e1, e]; rfl)
    exact ⟨⟨pv, ⟨hcur _ _ q0, hcur _ _ q1, hcur _ _ q2, hcur _ _ q3⟩, a⟩, by omega, by omega, hne, by omega⟩
end

/-- append(out, d), at a step of a region that draws its order. -/
theorem step_pushM {ops : Array Oper} {o : Oper} {a : Act} {w : World} {K : Act → World → Prop} {Q : Exit → Act → World → Prop} {E : Prop} (hgd : o.guard = none) (s x : Operand)
    (ho : o.op = .call { callee := .builtin .append, args := #[s, x], argTypes := #[24, 24] })
    (m : Nat) (av av' : Prop) (lo hi : Nat) (v : Value) (ds : List Dv) (hs : a.eval s = v) (hB : BldM m av w lo hi v ds) (nb : Nat) (d : Dv) (pv : Value) (fb : Nat) (hx : a.eval x = .slice (some ⟨nb, 0, none⟩) 1 1)
    (hnb : Blk w nb #[.int .i64 d.kind, pv, .int .i64 d.wd, .int .i64 d.len] 35) (hpv : OwnR w fb (fb + 1) pv d.pins) (hlo : lo ≤ hi) (hm : m < lo) (haa : av' → av) (hfr : (fb = m ∧ av ∧ ¬ av') ∨ hi ≤ fb) (hfb : fb < w.heap.size) (hn : ds.length ≤ 1000)
    (hK : ∀ a' c' w', BldM m av' w' lo w'.heap.size (.slice a' (ds.length + 1) c') (ds ++ [d]) → Within lo hi w w' → K (a.put o.dst (.slice a' (ds.length + 1) c')) w') :
    if Region.wanted o (yielded ops a.tmps) = true then Oper.wp Try.prog o a w K Q else E := by
  obtain ⟨i0, hi0, hz0, hz1, hz2⟩ := info_parts infoDev
  obtain ⟨hsz, pvs, f, h1, h2, h3, h4, h5⟩ := hB
  have hone : pv.oneCell' = true := by
    rcases hpv with ⟨_, _, rfl, _⟩ | ⟨_, _, _, rfl, _⟩ <;> rfl
  refine step_append_lies w hgd s x 24 ho lo 35 i0 _ 4 48 Try.underlying24 hi0 hz0 hz1 hz2 rfl (by decide) v ds.length _ hs h1 ⟨nb, 0, none⟩ 1 1 [.int .i64 d.kind, pv, .int .i64 d.wd, .int .i64 d.len] hx rfl (World.news_of_block (cs := #[.int .i64 d.kind, pv, .int .i64 d.wd, .int .i64 d.len]) hnb) ?_ (by decide) (by unfold maxLen; omega) (by omega) (by omega) w.heap.size rfl ?_
  · intro u hu
    simp at hu
    rcases hu with rfl | rfl | rfl | rfl
    · rfl
    · exact hone
    · rfl
    · rfl
  · intro g cap w' hrow hgrow hg hgl
    have hW : Within lo hi w w' := grown_within hgrow h3
    have hsz' := hgrow.size
    refine hK (some ⟨g, 0, none⟩) cap w' ⟨Nat.le_refl _, pvs ++ [pv], fun i => if i = ds.length then fb else f i, ?_, by simp [h2], ?_, ?_, ?_⟩ hW
    · rw [List.length_append, List.length_singleton, dcells_push ds pvs d pv h2]; exact hrow
    · intro g' hg'
      have : g = g' := by injection hg'
      subst this
      rcases hg with h | h
      · have := h3 g h; omega
      · omega
    · intro i y pv' hy hp'
      by_cases hi' : i < ds.length
      · rw [List.getElem?_append_left hi'] at hy
        rw [List.getElem?_append_left (by omega)] at hp'
        obtain ⟨a1, b1, c1⟩ := h4 i y pv' hy hp'
        simp only [if_neg (show i ≠ ds.length by omega)]
        have hsep : ∀ g0, v.ownBlock = some g0 → g0 ≠ f i := fun g0 e1 e2 => c1 (by rw [e1, e2])
        refine ⟨?_, b1.imp (fun h => ⟨h.1, fun k => h.2 (haa k)⟩) (fun h => ⟨h.1, by omega⟩), ?_⟩
        · cases hv : v.ownBlock with
          | none => exact OwnR.by ⟨hgrow.os, hgrow.tape, hgrow.output, hgrow.size, fun k hk => hgrow.block k hk (by rw [hv]; simp)⟩ a1
          | some g0 => exact OwnR.past (grown_within (lo := g0) (hi := g0 + 1) hgrow (fun g1 e => by rw [hv] at e; cases e; omega)) a1 (by have := hsep g0 hv; omega)
        · intro e
          have : g = f i := by injection e
          rcases hg with h | h
          · exact hsep g h this
          · omega
      · have hil : i < (ds ++ [d]).length := (List.getElem?_eq_some_iff.1 hy).1
        simp at hil
        obtain rfl : i = ds.length := by omega
        rw [List.getElem?_append_right (Nat.le_refl _)] at hy
        rw [List.getElem?_append_right (by omega)] at hp'
        simp [h2] at hy hp'
        subst hy hp'
        simp only [if_true]
        refine ⟨OwnR.past hW hpv (by omega), hfr.imp (fun h => ⟨h.1, h.2.2⟩) (fun h => ⟨by omega, by omega⟩), ?_⟩
        intro e
        have : g = fb := by injection e
        rcases hg with h | h
        · have := h3 g h; omega
        · omega
    · intro i j hi' hj' hij
      simp at hi' hj'
      by_cases e1 : i = ds.length
      · subst e1
        obtain ⟨y, hy⟩ : ∃ y, ds[j]? = some y := ⟨ds[j]'(by omega), List.getElem?_eq_getElem (by omega)⟩
        obtain ⟨p, hp⟩ : ∃ p, pvs[j]? = some p := ⟨pvs[j]'(by omega), List.getElem?_eq_getElem (by omega)⟩
        have := (h4 j y p hy hp).2.1
        simp only [if_true, if_neg (show j ≠ ds.length by omega)]
        rcases hfr with ⟨q1, q2, q3⟩ | q1
        · rcases this with ⟨_, q4⟩ | q4
          · exact absurd q2 q4
          · omega
        · omega
      · by_cases e2 : j = ds.length
        · subst e2
          obtain ⟨y, hy⟩ : ∃ y, ds[i]? = some y := ⟨ds[i]'(by omega), List.getElem?_eq_getElem (by omega)⟩
          obtain ⟨p, hp⟩ : ∃ p, pvs[i]? = some p := ⟨pvs[i]'(by omega), List.getElem?_eq_getElem (by omega)⟩
          have := (h4 i y p hy hp).2.1
          simp only [if_true, if_neg e1]
          rcases hfr with ⟨q1, q2, q3⟩ | q1
          · rcases this with ⟨_, q4⟩ | q4
            · exact absurd q2 q4
            · omega
          · omega
        · simp only [if_neg e1, if_neg e2]
          exact h5 i j (by omega) (by omega) hij
theorem list_pushM {ops : Array Oper} {rest : List Oper} {o : Oper} {a : Act} {w : World} {Q : Exit → Act → World → Prop} (hgd : o.guard = none) (s x : Operand)
    (ho : o.op = .call { callee := .builtin .append, args := #[s, x], argTypes := #[24, 24] })
    (m : Nat) (av av' : Prop) (lo hi : Nat) (v : Value) (ds : List Dv) (hs : a.eval s = v) (hB : BldM m av w lo hi v ds) (nb : Nat) (d : Dv) (pv : Value) (fb : Nat) (hx : a.eval x = .slice (some ⟨nb, 0, none⟩) 1 1)
    (hnb : Blk w nb #[.int .i64 d.kind, pv, .int .i64 d.wd, .int .i64 d.len] 35) (hpv : OwnR w fb (fb + 1) pv d.pins) (hlo : lo ≤ hi) (hm : m < lo) (haa : av' → av) (hfr : (fb = m ∧ av ∧ ¬ av') ∨ hi ≤ fb) (hfb : fb < w.heap.size) (hn : ds.length ≤ 1000)
    (hK : ∀ a' c' w', BldM m av' w' lo w'.heap.size (.slice a' (ds.length + 1) c') (ds ++ [d]) → Within lo hi w w' → wpList Try.prog ops Q rest (a.put o.dst (.slice a' (ds.length + 1) c')) w') : wpList Try.prog ops Q (o :: rest) a w :=
  wpList_plain hgd fun K hk => by
    have h := step_pushM (ops := ops) (K := K) (Q := Q) (E := False) hgd s x ho m av av' lo hi v ds hs hB nb d pv fb hx hnb hpv hlo hm haa hfr hfb hn (fun a' c' w' h1 h2 => hk _ _ (hK a' c' w' h1 h2))
    rwa [if_pos (by simp [Region.wanted, hgd])] at h
theorem OwnR.atBlk {w : World} {lo hi : Nat} {sv : Value} {zs : List Int} (h : OwnR w lo hi sv zs) (hne : zs ≠ []) : ∃ g, OwnR w g (g + 1) sv zs ∧ lo ≤ g ∧ g < hi := by
  rcases h with ⟨_, _, _, rfl⟩ | ⟨g, cap, cs, e1, h1, h2, h3⟩
  · exact absurd rfl hne
  · exact ⟨g, .inr ⟨g, cap, cs, e1, Nat.le_refl _, Nat.lt_succ_self _, h3⟩, h1, h2⟩
theorem OwnPs.spot {w : World} {lo hi : Nat} {sv : Value} {ps : List Pt} (h : OwnPs w lo hi sv ps) (r : Nat) : ∃ P, OwnPs w P (P + 1) sv ps ∧ (P = r ∨ lo ≤ P ∧ P < hi) := by
  rcases h with h | ⟨g, cap, cs, h1, h2, h3, h4, h5, h6⟩
  · exact ⟨r, .inl h, .inl rfl⟩
  · exact ⟨g, .inr ⟨g, cap, cs, h1, by omega, h3, h4, h5, h6⟩, .inr h2⟩
theorem Within.newerM {a w w' : World} {lo hi lo' hi' : Nat} (h : Within lo hi a w) (h' : Within lo' hi' w w') (hl : a.heap.size ≤ lo') : Within lo hi a w' :=
  ⟨h'.os.trans h.os, h'.tape.trans h.tape, h'.output.trans h.output, Nat.le_trans h.size h'.size, fun k hk hn => (h'.block k (by have := h.size; omega) (by omega)).trans (h.block k hk hn)⟩
theorem Within.ofBelow {w w' : World} (lo hi : Nat) (h : Below w.heap.size w w') : Within lo hi w w' := ⟨h.os, h.tape, h.output, h.size, fun k hk _ => h.block k hk⟩
end Go.Proofs.Ytdljbmfmmlcmmaa
