/- One device of a slice turned in place: a number, or its pins. -/
import Derived.Test.YtpiiccfjkgimfaaDrawVal
namespace Go.Proofs.Ytpiiccfjkgimfaa
open Go.RowKit
set_option linter.unusedVariables false
set_option linter.unusedSimpArgs false

theorem OwnDs.setNum {w : World} {lo hi b n c : Nat} {ds : List Dv} (h : OwnDs w lo hi (.slice (some ⟨b, 0, none⟩) n c) ds) (k : Nat) (x : Dv) (hx : ds[k]? = some x) (j : Nat) (u : Int) (x' : Dv)
    (hj : (j = 0 ∧ x' = ⟨u, x.pins, x.wd, x.len⟩) ∨ (j = 2 ∧ x' = ⟨x.kind, x.pins, u, x.len⟩) ∨ (j = 3 ∧ x' = ⟨x.kind, x.pins, x.wd, u⟩)) : OwnDs (w.setCell ⟨b, k * 4 + j, none⟩ (.int .i64 u)) lo hi (.slice (some ⟨b, 0, none⟩) n c) (ds.set k x') := by
  rcases h with ⟨_, _, _, h2⟩ | ⟨g, cap, cs, f, h1, h2, h3, h4, h5, h6, h7⟩
  · rw [h2] at hx; simp at hx
  obtain ⟨⟨⟩⟩ : b = g := by injection h1 with e1; injection e1 with e1; injection e1
  injection h1 with _ e2 e3
  subst e2 e3
  have hk := (List.getElem?_eq_some_iff.1 hx).1
  refine .inr ⟨b, c, _, f, by rw [List.length_set], h2, by rw [List.length_set]; exact h3, h4, h5.set (k * 4 + j) _, fun i y hy => ?_, fun i i' hi hi' hne => h7 i i' (by simpa using hi) (by simpa using hi') hne⟩
  rw [List.getElem?_set] at hy
  by_cases e : k = i
  · subst e
    rw [if_pos rfl, if_pos hk] at hy
    injection hy with hy
    subst hy
    obtain ⟨⟨pv, ⟨c0, c1, c2, c3⟩, hR⟩, hf⟩ := h6 k x hx
    have hsz := (Array.getElem?_eq_some_iff.1 c3).1
    rcases hj with ⟨rfl, rfl⟩ | ⟨rfl, rfl⟩ | ⟨rfl, rfl⟩
    all_goals refine ⟨⟨pv, ⟨?_, ?_, ?_, ?_⟩, hR.past (Within.off _) (by omega)⟩, hf⟩
    all_goals (rw [Array.getElem?_setIfInBounds]; first | (rw [if_neg (by omega)]; first | exact c0 | exact c1 | exact c2 | exact c3) | rw [if_pos (by omega), if_pos (by omega)])
  · rw [if_neg e] at hy
    obtain ⟨⟨pv, ⟨c0, c1, c2, c3⟩, hR⟩, hf⟩ := h6 i y hy
    have hj4 : j < 4 := by omega
    refine ⟨⟨pv, ⟨?_, ?_, ?_, ?_⟩, hR.past (Within.off _) (by omega)⟩, hf⟩
    all_goals (simp only [Array.getElem?_setIfInBounds]; rw [if_neg (by omega)]; assumption)

theorem BldD.pinsAt {w : World} {lo hi b n c : Nat} {ds : List Dv} (h : BldD w lo hi (.slice (some ⟨b, 0, none⟩) n c) ds) (k : Nat) (x : Dv) (hx : ds[k]? = some x) :
    ∃ f pv, BldI w f (f + 1) pv x.pins ∧ w.cell? ⟨b, k * 4 + 1, none⟩ = some pv ∧ (lo ≤ f ∧ f < hi) ∧ f ≠ b ∧
      ∀ w' pv' zs' f2 hi2, Within f (f + 1) w w' → (f2 = f ∨ hi ≤ f2) → f2 < hi2 → hi ≤ hi2 → OwnR w' f2 (f2 + 1) pv' zs' → OwnDs (w'.setCell ⟨b, k * 4 + 1, none⟩ pv') lo hi2 (.slice (some ⟨b, 0, none⟩) n c) (ds.set k ⟨x.kind, zs', x.wd, x.len⟩) := by
  obtain ⟨hs, pvs, f, ⟨hlen, h1⟩, h2, h3, h4, h5⟩ := h
  rcases h1 with ⟨h1, hn⟩ | ⟨g, cap, cur, e1, e2, e3, e4, e5, e6, e7⟩
  · exact absurd h1 (by simp)
  obtain ⟨⟨⟩⟩ : b = g := by injection e1 with e1; injection e1 with e1; injection e1
  injection e1 with _ e8 e9
  subst e8 e9
  have hcur : ∀ (j : Nat) u, (dcells ds pvs)[j]? = some u → cur[j]? = some u := by
    intro j u hu
    rw [← e7] at hu
    have hj : j < ds.length * 4 := by
      have := (List.getElem?_eq_some_iff.1 hu).1
      rw [List.length_take] at this; omega
    rw [List.getElem?_take_of_lt hj] at hu
    simpa using hu
  have hk := (List.getElem?_eq_some_iff.1 hx).1
  obtain ⟨pv, hp⟩ : ∃ pv, pvs[k]? = some pv := ⟨pvs[k]'(by omega), List.getElem?_eq_getElem (by omega)⟩
  obtain ⟨a1, b1, c1⟩ := h4 k x pv hx hp
  obtain ⟨q0, q1, q2, q3⟩ := dcells_get ds pvs k x pv hx hp
  refine ⟨f k, pv, a1, by rw [Blk.cell e3]; exact hcur _ _ q1, b1, fun e => c1 (by rw [e]; rfl), fun w' pv' zs' f2 hi2 hW hf2 hf2' hhi hR => ?_⟩
  have hfb : f k ≠ b := fun e => c1 (by rw [e]; rfl)
  have hbl := h3 b rfl
  have hB' := (hW.blk e3 (by omega)).set (k * 4 + 1) pv'
  refine .inr ⟨b, c, _, fun i => if i = k then f2 else f i, by rw [List.length_set], ⟨hbl.1, by omega⟩, by rw [List.length_set]; exact e4, e5, hB', fun i y hy => ?_, fun i i' hi hi' hne => ?_⟩
  · rw [List.getElem?_set] at hy
    dsimp only
    by_cases e : k = i
    · subst e
      rw [if_pos rfl, if_pos hk] at hy
      injection hy with hy
      subst hy
      rw [if_pos rfl]
      have hsz := (Array.getElem?_eq_some_iff.1 (hcur _ _ q3)).1
      refine ⟨⟨pv', ⟨?_, ?_, ?_, ?_⟩, hR.past (Within.off _) (by omega)⟩, by omega, by omega, by omega⟩
      all_goals (rw [Array.getElem?_setIfInBounds]; first | (rw [if_neg (by omega)]; first | exact hcur _ _ q0 | exact hcur _ _ q2 | exact hcur _ _ q3) | rw [if_pos (by omega), if_pos (by omega)])
    · rw [if_neg e] at hy
      rw [if_neg (fun h => e h.symm)]
      have hil := (List.getElem?_eq_some_iff.1 hy).1
      obtain ⟨pv2, hp2⟩ : ∃ pv, pvs[i]? = some pv := ⟨pvs[i]'(by omega), List.getElem?_eq_getElem (by omega)⟩
      obtain ⟨a2, b2, c2⟩ := h4 i y pv2 hy hp2
      obtain ⟨r0, r1, r2, r3⟩ := dcells_get ds pvs i y pv2 hy hp2
      have hfi : f i ≠ b := fun e => c2 (by rw [e]; rfl)
      have hfk : f i ≠ f k := h5 i k (by omega) hk (fun h => e h.symm)
      have hR2 : BldI (w'.setCell ⟨b, k * 4 + 1, none⟩ pv') (f i) (f i + 1) pv2 y.pins := BldI.past (Within.off _) (BldI.past hW a2 (by omega)) (by omega)
      refine ⟨⟨pv2, ⟨?_, ?_, ?_, ?_⟩, hR2.own⟩, b2.1, by omega, hfi⟩
      all_goals (rw [Array.getElem?_setIfInBounds, if_neg (by omega)]; first | exact hcur _ _ r0 | exact hcur _ _ r1 | exact hcur _ _ r2 | exact hcur _ _ r3)
  · rw [List.length_set] at hi hi'
    obtain ⟨y, hy⟩ : ∃ y, ds[i]? = some y := ⟨ds[i], List.getElem?_eq_getElem hi⟩
    obtain ⟨y', hy'⟩ : ∃ y, ds[i']? = some y := ⟨ds[i'], List.getElem?_eq_getElem hi'⟩
    obtain ⟨pv2, hp2⟩ : ∃ pv, pvs[i]? = some pv := ⟨pvs[i]'(by omega), List.getElem?_eq_getElem (by omega)⟩
    obtain ⟨pv3, hp3⟩ : ∃ pv, pvs[i']? = some pv := ⟨pvs[i']'(by omega), List.getElem?_eq_getElem (by omega)⟩
    have g2 := (h4 i y pv2 hy hp2).2.1
    have g3 := (h4 i' y' pv3 hy' hp3).2.1
    have n1 := h5 i i' hi hi' hne
    have n2 : i ≠ k → f i ≠ f k := fun h => h5 i k hi hk h
    have n3 : i' ≠ k → f i' ≠ f k := fun h => h5 i' k hi' hk h
    dsimp only
    by_cases m1 : i = k
    · by_cases m2 : i' = k
      · omega
      · rw [if_pos m1, if_neg m2]
        have := n3 m2
        omega
    · by_cases m2 : i' = k
      · rw [if_neg m1, if_pos m2]
        have := n2 m1
        omega
      · rw [if_neg m1, if_neg m2]
        exact n1
/-- append(pins, ..) in memory of one block: the pins stay in that block, or lie in a new one. -/
theorem step_pushOne {ops : Array Oper} {o : Oper} {a : Act} {w : World} {K : Act → World → Prop} {Q : Exit → Act → World → Prop} {E : Prop} (hgd : o.guard = none) (s x : Operand)
    (ho : o.op = .call { callee := .builtin .append, args := #[s, x], argTypes := #[53, 53] })
    (f : Nat) (v : Value) (zs ys : List Int) (hs : a.eval s = v) (hB : BldI w f (f + 1) v zs) (nb m : Nat) (cs : Array Value) (hx : a.eval x = .slice (some ⟨nb, 0, none⟩) m m) (hys : ys.length = m) (hm : 0 < m)
    (hnb : Blk w nb cs 2) (hcs : cs.toList = icells ys) (hn : zs.length + m ≤ 8000000)
    (hK : ∀ a' c' w' f2, BldI w' f2 (f2 + 1) (.slice a' (zs.length + m) c') (zs ++ ys) → (f2 = f ∨ w.heap.size ≤ f2) → Within f (f + 1) w w' → K (a.put o.dst (.slice a' (zs.length + m) c')) w') :
    if Region.wanted o (yielded ops a.tmps) = true then Oper.wp Try.prog o a w K Q else E := by
  obtain ⟨i0, hi0, hz0, hz1, hz2⟩ := info_parts infoI
  obtain ⟨hsz, h1, h3⟩ := hB
  refine step_append_lies w hgd s x 53 ho f 2 i0 _ 1 8 Try.underlying53 hi0 hz0 hz1 hz2 rfl (by decide) v zs.length _ hs h1 ⟨nb, 0, none⟩ m m (icells ys) hx (by simp [icells, hys]) (by rw [← hcs]; exact World.news_of_block (cs := cs) hnb) ?_ hm (by unfold maxLen; omega) (by omega) (by omega) w.heap.size rfl ?_
  · intro u hu
    simp only [icells, List.mem_map] at hu
    obtain ⟨_, _, rfl⟩ := hu
    rfl
  · intro g cap w' hrow hgrow hg hgl
    have hW : Within f (f + 1) w w' := grown_within hgrow h3
    refine hK (some ⟨g, 0, none⟩) cap w' g ⟨by omega, ?_, ?_⟩ ?_ hW
    · rw [List.length_append, hys, icells_push]
      obtain ⟨r1, r2⟩ := hrow
      refine ⟨r1, ?_⟩
      rcases r2 with ⟨r2, _⟩ | ⟨g', cap', cur, e1, e2, e3⟩
      · cases r2
      · have hgg : g = g' := by have := congrArg Value.ownBlock e1; simpa [Value.ownBlock] using this
        subst hgg
        exact .inr ⟨g, cap', cur, e1, Nat.le_refl _, e3⟩
    · intro g' hg'
      have : g = g' := by injection hg'
      omega
    · rcases hg with h | h
      · have := h3 g h; omega
      · omega
theorem BldD.fr {w : World} {lo hi b n c : Nat} {ds : List Dv} (h : BldD w lo hi (.slice (some ⟨b, 0, none⟩) n c) ds) (h0 : 0 < ds.length) (o : Nat) : w.frozen? ⟨b, o, none⟩ = false := by
  rcases h.own with ⟨_, _, _, h2⟩ | ⟨g, cap, cs, f, h1, h2, h3, h4, h5, h6, h7⟩
  · rw [h2] at h0; simp at h0
  · have hg : b = g := by injection h1 with e1; injection e1 with e1; injection e1
    subst hg
    exact h5.free o
theorem Blk.differ {w : World} {g : Nat} {a b : Array Value} {T1 T2 : TypeId} (h1 : Blk w g a T1) (h2 : Blk w g b T2) : T1 = T2 := by
  have h := h1.symm.trans h2
  injection h with h
  injection h
theorem OwnR.offN {w : World} {lo hi T o : Nat} {cs : Array Value} {sv v : Value} {zs : List Int} (h : OwnR w lo hi sv zs) (hT : Blk w T cs 48) : OwnR (w.setCell ⟨T, o, none⟩ v) lo hi sv zs := by
  rcases h with h | ⟨g, cap, c2, h1, h2, h3, h4, h5, h6, h7⟩
  · exact .inl h
  · exact .inr ⟨g, cap, c2, h1, h2, h3, h4, h5, h6.apart T o v (fun e => by subst e; exact absurd (h6.differ hT) (by decide)), h7⟩
theorem OwnDs.offN {w : World} {lo hi T o : Nat} {cs : Array Value} {sv v : Value} {ds : List Dv} (h : OwnDs w lo hi sv ds) (hT : Blk w T cs 48) : OwnDs (w.setCell ⟨T, o, none⟩ v) lo hi sv ds := by
  rcases h with h | ⟨g, cap, c2, f, h1, h2, h3, h4, h5, h6, h7⟩
  · exact .inl h
  · refine .inr ⟨g, cap, c2, f, h1, h2, h3, h4, h5.apart T o v (fun e => by subst e; exact absurd (h5.differ hT) (by decide)), fun i x hx => ?_, h7⟩
    obtain ⟨⟨pv, hC, hR⟩, hf⟩ := h6 i x hx
    exact ⟨⟨pv, hC, hR.offN hT⟩, hf⟩
theorem OwnPs.offN {w : World} {lo hi T o : Nat} {cs : Array Value} {sv v : Value} {ps : List Pt} (h : OwnPs w lo hi sv ps) (hT : Blk w T cs 48) : OwnPs (w.setCell ⟨T, o, none⟩ v) lo hi sv ps := by
  rcases h with h | ⟨g, cap, c2, h1, h2, h3, h4, h5, h6⟩
  · exact .inl h
  · exact .inr ⟨g, cap, c2, h1, h2, h3, h4, h5.apart T o v (fun e => by subst e; exact absurd (h5.differ hT) (by decide)), h6⟩
theorem Within.onB (lo hi : Nat) {a w w' : World} (h : Below a.heap.size a w) (h' : Within lo hi w w') : Within lo hi a w' := (Within.ofBelow lo hi h).on h'
theorem atWorld {P : Program} {c : Code} {Q : Exit → Act → World → Prop} {a : Act} (w : World) (h : Code.wp P c Q a w) : Code.wp P c Q a w := h
theorem BldD.blkB {w : World} {lo hi b n c : Nat} {ds : List Dv} (h : BldD w lo hi (.slice (some ⟨b, 0, none⟩) n c) ds) (h0 : 0 < ds.length) : ∃ cs, Blk w b cs 55 := by
  rcases h.own with ⟨_, _, _, h2⟩ | ⟨g, cap, cs, f, h1, h2, h3, h4, h5, h6, h7⟩
  · rw [h2] at h0; simp at h0
  · have hg : b = g := by injection h1 with e1; injection e1 with e1; injection e1
    subst hg
    exact ⟨cs, h5⟩
theorem BldP.spotT {w : World} {lo hi r : Nat} {v : Value} {ps : List Pt} (h : BldP w lo hi v ps) (h1 : lo < hi) (h2 : 0 < lo) : ∃ P, OwnPs w P (P + 1) v ps ∧ lo ≤ P ∧ P < hi := by
  rcases h.own with h | ⟨g, cap, cs, h1, h2, h3, h4, h5, h6⟩
  · exact ⟨lo, .inl h, Nat.le_refl _, h1⟩
  · exact ⟨g, .inr ⟨g, cap, cs, h1, by omega, h3, h4, h5, h6⟩, h2⟩
theorem list_pushP {ops : Array Oper} {rest : List Oper} {o : Oper} {a : Act} {w : World} {Q : Exit → Act → World → Prop} (hgd : o.guard = none) (s x : Operand)
    (ho : o.op = .call { callee := .builtin .append, args := #[s, x], argTypes := #[46, 46] })
    (lo hi : Nat) (v : Value) (ps : List Pt) (hs : a.eval s = v) (hB : BldP w lo hi v ps) (nb : Nat) (p : Pt) (hx : a.eval x = .slice (some ⟨nb, 0, none⟩) 1 1)
    (hnb : Blk w nb #[.string p.name, .int .i64 p.net] 58) (hlo : lo ≤ hi) (hn : ps.length ≤ 1000)
    (hK : ∀ a' c' w', BldP w' lo w'.heap.size (.slice a' (ps.length + 1) c') (ps ++ [p]) → Within lo hi w w' → wpList Try.prog ops Q rest (a.put o.dst (.slice a' (ps.length + 1) c')) w') : wpList Try.prog ops Q (o :: rest) a w :=
  wpList_plain hgd fun K hk => by
    have h := step_pushP (ops := ops) (K := K) (Q := Q) (E := False) hgd s x ho lo hi v ps hs hB nb p hx hnb hlo hn (fun a' c' w' h1 h2 => hk _ _ (hK a' c' w' h1 h2))
    rwa [if_pos (by simp [Region.wanted, hgd])] at h
end Go.Proofs.Ytpiiccfjkgimfaa
