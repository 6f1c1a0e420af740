/- append of a whole slice of resistors. -/
import Derived.Test.YtjolkdckhmmenaaNw
import Derived.Test.YtjolkdckhmmenaaSrc
import Derived.Test.YtjolkdckhmmenaaBase
namespace Go.Proofs.Ytjolkdckhmmenaa
open Go.RowKit
set_option linter.unusedVariables false
set_option linter.unusedSimpArgs false

theorem cellsRes_one1 (ps : List Res) : ∀ u ∈ cellsRes ps, u.oneCell' = true := by
  induction ps with
  | nil => intro u hu; simp [cellsRes] at hu
  | cons p ps ih =>
    intro u hu
    simp [cellsRes] at hu
    rcases hu with rfl | rfl | rfl | rfl | h
    · rfl
    · rfl
    · rfl
    · rfl
    · exact ih u h
theorem cellsRes_app1 (ps qs : List Res) : cellsRes (ps ++ qs) = cellsRes ps ++ cellsRes qs := by
  induction ps with
  | nil => rfl
  | cons p ps ih => simp [cellsRes, ih]
theorem news_res {w : World} {b off : Nat} {zs : List Res} (h : ∀ i x, zs[i]? = some x → ResAt w b (off + i * 4) x) : ∀ j u, (cellsRes zs)[j]? = some u → w.cell? ((⟨b, off, none⟩ : Addr).add j) = some u := by
  intro j u hu
  rw [addr_add]
  have hj : j < zs.length * 4 := by
    have := (List.getElem?_eq_some_iff.1 hu).1
    rw [length_cellsRes] at this; exact this
  have hi : j / 4 < zs.length := by omega
  obtain ⟨z, hx⟩ : ∃ z, zs[j / 4]? = some z := ⟨_, List.getElem?_eq_getElem hi⟩
  obtain ⟨q0, q1, q2, q3⟩ := cellsRes_get zs (j / 4) _ hx
  obtain ⟨r0, r1, r2, r3⟩ := h (j / 4) _ hx
  rcases (show j = j / 4 * 4 ∨ j = j / 4 * 4 + 1 ∨ j = j / 4 * 4 + 2 ∨ j = j / 4 * 4 + 3 by omega) with e | e | e | e
  · rw [e, q0] at hu; injection hu with hu; rw [← hu, show off + j = off + j / 4 * 4 by omega]; exact r0
  · rw [e, q1] at hu; injection hu with hu; rw [← hu, show off + j = off + j / 4 * 4 + 1 by omega]; exact r1
  · rw [e, q2] at hu; injection hu with hu; rw [← hu, show off + j = off + j / 4 * 4 + 2 by omega]; exact r2
  · rw [e, q3] at hu; injection hu with hu; rw [← hu, show off + j = off + j / 4 * 4 + 3 by omega]; exact r3

/-- append(out, xs...), at a step of a region that draws its order. -/
theorem step_appRes {ops : Array Oper} {o : Oper} {a : Act} {w : World} {K : Act → World → Prop} {Q : Exit → Act → World → Prop} {E : Prop} (hgd : o.guard = none) (s x : Operand)
    (ho : o.op = .call { callee := .builtin .append, args := #[s, x], argTypes := #[24, 24] })
    (lo hi : Nat) (v : Value) (ps : List Res) (hs : a.eval s = v) (hB : BldRes w lo hi v ps) (sv : Value) (zs : List Res) (hx : a.eval x = sv) (hz : ResSl w sv zs) (h0 : 0 < zs.length)
    (hlo : lo ≤ hi) (hn : ps.length ≤ 500) (hn' : zs.length ≤ 500)
    (hK : ∀ a' c' w', BldRes w' lo w'.heap.size (.slice a' (ps.length + zs.length) c') (ps ++ zs) → Within lo hi w w' → K (a.put o.dst (.slice a' (ps.length + zs.length) c')) w') :
    if Region.wanted o (yielded ops a.tmps) = true then Oper.wp Try.prog o a w K Q else E := by
  obtain ⟨i0, hi0, hz0, hz1, hz2⟩ := info_parts infoRes2
  obtain ⟨hsz, h1, h3⟩ := hB
  rcases hz with ⟨_, _, _, rfl⟩ | ⟨b, off, cap, rfl, z2, z3, z4⟩
  · simp at h0
  · exact step_append_lies (ops := ops) (K := K) (Q := Q) (E := E) w hgd s x 24 ho lo 39 i0 _ 4 32 Try.underlying24 hi0 hz0 hz1 hz2 rfl (by decide) v ps.length _ hs h1 ⟨b, off, none⟩ zs.length cap (cellsRes zs) hx (length_cellsRes zs) (news_res z4) (cellsRes_one1 zs) h0 (by unfold maxLen; omega) (by omega) (by omega) w.heap.size rfl
      (fun g cap w' hrow hgrow hg hgl => by
        have hW : Within lo hi w w' := grown_within hgrow h3
        refine hK (some ⟨g, 0, none⟩) cap w' ⟨Nat.le_refl _, ?_, ?_⟩ hW
        · rw [List.length_append, cellsRes_app1]; exact hrow
        · intro g' hg'
          have : g = g' := by injection hg'
          subst this
          rcases hg with h | h
          · have := h3 g h; omega
          · omega)
/-- append([]T{}, xs...) where xs is not empty. -/
theorem step_copyRes {ops : Array Oper} {o : Oper} {a : Act} {w : World} {K : Act → World → Prop} {Q : Exit → Act → World → Prop} {E : Prop} (hgd : o.guard = none) (s x : Operand)
    (ho : o.op = .call { callee := .builtin .append, args := #[s, x], argTypes := #[24, 24] })
    (E0 : Nat) (hs : a.eval s = .slice (some ⟨E0, 0, none⟩) 0 0) (hE : Blk w E0 #[] 39) (sv : Value) (zs : List Res) (hx : a.eval x = sv) (hz : ResSl w sv zs) (h0 : 0 < zs.length) (hn' : zs.length ≤ 500)
    (hK : ∀ g c' w', (g = E0 ∨ g = w.heap.size) → BldRes w' g (g + 1) (.slice (some ⟨g, 0, none⟩) zs.length c') zs → Within E0 (E0 + 1) w w' → K (a.put o.dst (.slice (some ⟨g, 0, none⟩) zs.length c')) w') :
    if Region.wanted o (yielded ops a.tmps) = true then Oper.wp Try.prog o a w K Q else E := by
  obtain ⟨i0, hi0, hz0, hz1, hz2⟩ := info_parts infoRes2
  have hEl := hE.lt
  obtain ⟨hsz, h1, h3⟩ := BldRes.none (lo := E0) (hi := E0 + 1) hE (by simp) (Nat.le_refl _) (by omega) (by omega)
  rcases hz with ⟨_, _, _, rfl⟩ | ⟨b, off, cap, rfl, z2, z3, z4⟩
  · simp at h0
  · exact step_append_lies (ops := ops) (K := K) (Q := Q) (E := E) w hgd s x 24 ho E0 39 i0 _ 4 32 Try.underlying24 hi0 hz0 hz1 hz2 rfl (by decide) _ 0 _ hs h1 ⟨b, off, none⟩ zs.length cap (cellsRes zs) hx (length_cellsRes zs) (news_res z4) (cellsRes_one1 zs) h0 (by unfold maxLen; omega) (by omega) (by omega) w.heap.size rfl
      (fun g cap w' hrow hgrow hg hgl => by
        have hW : Within E0 (E0 + 1) w w' := grown_within hgrow h3
        have hg' : g = E0 ∨ g = w.heap.size := by
          rcases hg with h | h
          · left; have := h3 g h; omega
          · exact .inr h
        obtain ⟨r1, r2⟩ := hrow
        rcases r2 with ⟨e, _⟩ | ⟨g', cap', cur, e1, e2, e3, e4, e5, e6, e7⟩
        · cases e
        · obtain ⟨rfl, rfl⟩ : g = g' ∧ cap = cap' := by injection e1 with e1 _ e3; injection e1 with e1; injection e1 with e1; exact ⟨e1, e3⟩
          have hlen : 0 + zs.length = zs.length := Nat.zero_add _
          have hcs : (cellsRes [] ++ cellsRes zs) = cellsRes zs := by rfl
          have hB : BldRes w' g (g + 1) (.slice (some ⟨g, 0, none⟩) zs.length cap) zs := by
            refine ⟨by omega, ⟨length_cellsRes zs, .inr ⟨g, cap, cur, rfl, Nat.le_refl _, e3, by omega, e5, e6, ?_⟩⟩, ?_⟩
            · rw [hlen] at e7; rw [e7]; exact hcs
            · intro g' hg'
              have : g = g' := by injection hg'
              omega
          have := hK g cap w' hg' hB hW
          rw [hlen]
          exact this)
theorem step_pushResG {ops : Array Oper} {o : Oper} {a : Act} {w : World} {K : Act → World → Prop} {Q : Exit → Act → World → Prop} {E : Prop} (hgd : o.guard = none) (s x : Operand)
    (ho : o.op = .call { callee := .builtin .append, args := #[s, x], argTypes := #[24, 24] })
    (g c L : Nat) (ps : List Res) (hL : ps.length = L) (hs : a.eval s = .slice (some ⟨g, 0, none⟩) L c) (hB : BldRes w g (g + 1) (.slice (some ⟨g, 0, none⟩) L c) ps) (nb : Nat) (p : Res) (hx : a.eval x = .slice (some ⟨nb, 0, none⟩) 1 1)
    (hnb : Blk w nb #[.int .i64 p.a, .int .i64 p.b, .int .i64 p.num, .int .i64 p.den] 39) (hn : L ≤ 1000)
    (hK : ∀ g' c' w', (g' = g ∨ g' = w.heap.size) → BldRes w' g' (g' + 1) (.slice (some ⟨g', 0, none⟩) (L + 1) c') (ps ++ [p]) → Within g (g + 1) w w' → K (a.put o.dst (.slice (some ⟨g', 0, none⟩) (L + 1) c')) w') :
    if Region.wanted o (yielded ops a.tmps) = true then Oper.wp Try.prog o a w K Q else E := by
  obtain ⟨i0, hi0, hz0, hz1, hz2⟩ := info_parts infoRes2
  obtain ⟨hsz, h1, h3⟩ := hB
  subst hL
  refine step_append_lies w hgd s x 24 ho g 39 i0 _ 4 32 Try.underlying24 hi0 hz0 hz1 hz2 rfl (by decide) _ ps.length _ hs h1 ⟨nb, 0, none⟩ 1 1 [.int .i64 p.a, .int .i64 p.b, .int .i64 p.num, .int .i64 p.den] hx rfl (World.news_of_block (cs := #[.int .i64 p.a, .int .i64 p.b, .int .i64 p.num, .int .i64 p.den]) hnb) ?_ (by decide) (by unfold maxLen; omega) (by omega) (by omega) w.heap.size rfl ?_
  · intro u hu
    simp at hu
    rcases hu with rfl | rfl | rfl | rfl
    · rfl
    · rfl
    · rfl
    · rfl
  · intro g' cap w' hrow hgrow hg hgl
    have hW : Within g (g + 1) w w' := grown_within hgrow h3
    have hg' : g' = g ∨ g' = w.heap.size := by
      rcases hg with h | h
      · left; have := h3 g' h; omega
      · exact .inr h
    obtain ⟨r1, r2⟩ := hrow
    rcases r2 with ⟨e, _⟩ | ⟨g2, cap', cur, e1, e2, e3, e4, e5, e6, e7⟩
    · cases e
    · obtain ⟨rfl, rfl⟩ : g' = g2 ∧ cap = cap' := by injection e1 with e1 _ e3; injection e1 with e1; injection e1 with e1; exact ⟨e1, e3⟩
      refine hK g' cap w' hg' ⟨by omega, ?_, ?_⟩ hW
      · rw [List.length_append, List.length_singleton, cellsRes_push]; exact ⟨r1, .inr ⟨g', cap, cur, rfl, Nat.le_refl _, e3, e4, e5, e6, e7⟩⟩
      · intro g3 hg3
        have : g' = g3 := by injection hg3
        omega
theorem list_pushResG {ops : Array Oper} {rest : List Oper} {o : Oper} {a : Act} {w : World} {Q : Exit → Act → World → Prop} (hgd : o.guard = none) (s x : Operand)
    (ho : o.op = .call { callee := .builtin .append, args := #[s, x], argTypes := #[24, 24] })
    (g c L : Nat) (ps : List Res) (hL : ps.length = L) (hs : a.eval s = .slice (some ⟨g, 0, none⟩) L c) (hB : BldRes w g (g + 1) (.slice (some ⟨g, 0, none⟩) L c) ps) (nb : Nat) (p : Res) (hx : a.eval x = .slice (some ⟨nb, 0, none⟩) 1 1)
    (hnb : Blk w nb #[.int .i64 p.a, .int .i64 p.b, .int .i64 p.num, .int .i64 p.den] 39) (hn : L ≤ 1000)
    (hK : ∀ g' c' w', (g' = g ∨ g' = w.heap.size) → BldRes w' g' (g' + 1) (.slice (some ⟨g', 0, none⟩) (L + 1) c') (ps ++ [p]) → Within g (g + 1) w w' → wpList Try.prog ops Q rest (a.put o.dst (.slice (some ⟨g', 0, none⟩) (L + 1) c')) w') : wpList Try.prog ops Q (o :: rest) a w :=
  wpList_plain hgd fun K hk => by
    have h := step_pushResG (ops := ops) (K := K) (Q := Q) (E := False) hgd s x ho g c L ps hL hs hB nb p hx hnb hn (fun g' c' w' h0 h1 h2 => hk _ _ (hK g' c' w' h0 h1 h2))
    rwa [if_pos (by simp [Region.wanted, hgd])] at h
end Go.Proofs.Ytjolkdckhmmenaa
