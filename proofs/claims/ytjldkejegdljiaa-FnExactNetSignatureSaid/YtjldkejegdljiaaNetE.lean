/- append(literal, rows...): a row of slices, empty or not, behind a literal of one slice. -/
import Derived.Test.YtjldkejegdljiaaNetD
import Derived.Lib.AppendZeros
import Derived.Deep.AppendSrc
namespace Go.Proofs.Ytjldkejegdljiaa
open Go.RowKit
set_option linter.unusedVariables false
set_option linter.unusedSimpArgs false

theorem run_append_zero (b n c : Nat) (a2 : Option Addr) (c2 : Nat) (ty : TypeId) (hn : n ≤ c) (w : World) :
    (Builtin.append_ #[40, 40] ty #[.slice (some ⟨b, 0, none⟩) n c, .slice a2 0 c2]).run Try.prog w = .ok (.slice (some ⟨b, 0, none⟩) n c) w := by
  obtain ⟨i0, hi0, hz0, hz1, hz2⟩ := info_parts infoL
  have hs : Src Try.prog i0.size 40 (.slice a2 0 c2) 0 [] w := by
    cases a2 with
    | none => exact Src.ofNil w Try.underlying40 c2
    | some ad => exact Src.ofSlice w Try.underlying40 ad 0 c2 [] (by simp) (fun j u h => by simp at h) (fun u h => by simp at h)
  have h := run_append_room_src w 40 40 ty _ i0 Try.underlying40 hi0 b 0 n c (.slice a2 0 c2) 0 [] hs (by omega) (fun j hj => by simp at hj) (fun j hj => by simp at hj)
  simpa [World.setCells] using h
theorem list_append0 {ops : Array Oper} {rest : List Oper} {o : Oper} {a : Act} {w : World} {Q : Exit → Act → World → Prop} (hgd : o.guard = none) (s x : Operand)
    (ho : o.op = .call { callee := .builtin .append, args := #[s, x], argTypes := #[40, 40] })
    (b n c : Nat) (a2 : Option Addr) (c2 : Nat) (hs : a.eval s = .slice (some ⟨b, 0, none⟩) n c) (hx : a.eval x = .slice a2 0 c2) (hn : n ≤ c)
    (hK : wpList Try.prog ops Q rest (a.put o.dst (.slice (some ⟨b, 0, none⟩) n c)) w) : wpList Try.prog ops Q (o :: rest) a w :=
  Go.Lib.wpList_append_run w hgd s x _ _ ho _ _ hs hx _ _ (run_append_zero b n c a2 c2 o.type hn w) hK
theorem RowE.also {w : World} {L : Nat} {P : Nat → Prop} {v : Value} {ls : List (List Int)} (h : RowE w L P v ls) (fb : Nat) (hne : v.ownBlock ≠ some fb) : RowE w L (fun k => P k ∨ k = fb) v ls := by
  obtain ⟨vs, a1, a2, a3, a4⟩ := h
  refine ⟨vs, a1, a2, fun g hg => ⟨(a3 g hg).1, (a3 g hg).2.1, fun hp => ?_⟩, fun i x s hx hp => ?_⟩
  · rcases hp with hp | rfl
    · exact (a3 g hg).2.2 hp
    · exact hne hg
  · obtain ⟨f, f1, f2, f3⟩ := a4 i x s hx hp
    exact ⟨f, .inl f1, f2, f3⟩
theorem list_append1 {ops : Array Oper} {rest : List Oper} {o : Oper} {a : Act} {w : World} {Q : Exit → Act → World → Prop} (hgd : o.guard = none) (s x : Operand)
    (ho : o.op = .call { callee := .builtin .append, args := #[s, x], argTypes := #[40, 40] })
    (B fb gb : Nat) (d : List Int) (pv : Value) (hs : a.eval s = .slice (some ⟨gb, 0, none⟩) 1 1) (hgb : Blk w gb #[pv] 39) (hpv : OwnR w fb (fb + 1) pv d) (hfs : fb < w.heap.size) (h1 : B ≤ fb) (h2 : B ≤ gb) (h3 : fb ≠ gb)
    (L2 : Nat) (P : Nat → Prop) (v2 : Value) (l2 : List (List Int)) (hx : a.eval x = v2) (hB2 : RowE w L2 P v2 l2) (hv2 : ∀ g, v2.ownBlock = some g → g < B) (hPb : ∀ k, P k → k < B) (hn : l2.length ≤ 900)
    (hK : ∀ a' c' w', LlSl w' (.slice a' (1 + l2.length) c') ([d] ++ l2) → Below B w w' → wpList Try.prog ops Q rest (a.put o.dst (.slice a' (1 + l2.length) c')) w') : wpList Try.prog ops Q (o :: rest) a w := by
  have hgl := hgb.lt
  have hlit : RowE w B (fun k => P k ∨ k = fb) (.slice (some ⟨gb, 0, none⟩) 1 1) [d] := by
    refine ⟨[pv], ⟨rfl, .inr ⟨gb, 1, #[pv], rfl, h2, hgb, Nat.le_refl _, by unfold maxLen; omega, rfl, rfl⟩⟩, rfl, fun g hg => ?_, fun i y sv hy hp => ?_⟩
    · have : gb = g := by injection hg
      subst this
      refine ⟨h2, hgl, fun hp => ?_⟩
      rcases hp with hp | rfl
      · have := hPb _ hp; omega
      · exact h3 rfl
    · have hi : i < 1 := (List.getElem?_eq_some_iff.1 hy).1
      obtain rfl : i = 0 := by omega
      simp at hy hp
      subst hy hp
      exact ⟨fb, .inr rfl, hfs, hpv⟩
  rcases Nat.eq_zero_or_pos l2.length with h0 | h0
  · obtain ⟨a2, c2, rfl⟩ := hB2.sized
    have hl2 : l2 = [] := List.eq_nil_of_length_eq_zero h0
    subst hl2
    exact list_append0 hgd s x ho gb 1 1 a2 c2 hs hx (Nat.le_refl _) (hK _ _ _ hlit.ll (Below.refl _ w))
  · have hB3 := hB2.also fb (fun e => by have := hv2 _ e; omega)
    exact wpList_plain hgd fun K hk => by
      have h := step_appendB (ops := ops) (K := K) (Q := Q) (E := False) hgd s x ho B L2 _ _ v2 [d] l2 hs hlit hx hB3 h0 (by omega) (fun k hp => by
        rcases hp with hp | rfl
        · have := hPb k hp; omega
        · exact hfs) (by simp; omega) (fun g c' w' hR _ _ hW => hk _ _ (hK (some ⟨g, 0, none⟩) c' w' hR.ll ⟨hW.os, hW.tape, hW.output, hW.size, fun k hk => hW.block k (by omega) (.inl hk)⟩))
      rwa [if_pos (by simp [Region.wanted, hgd])] at h
theorem BldL.same {w w' : World} {lo hi : Nat} {v : Value} {ls : List (List Int)} (h : BldL w lo hi v ls) (hs : w.heap.size ≤ w'.heap.size) (hb : ∀ k, lo ≤ k → k < hi → w'.heap[k]? = w.heap[k]?) : BldL w' lo hi v ls := by
  obtain ⟨hz, vs, f, h1, h2, h3, h4⟩ := h
  refine ⟨Nat.le_trans hz hs, vs, f, row_same h1 (fun g hg => hb g (h3 g hg).1 (h3 g hg).2), h2, h3, fun i x s hx hp => ?_⟩
  obtain ⟨a, b, c⟩ := h4 i x s hx hp
  exact ⟨a.same (fun g g1 g2 => by
    obtain rfl : g = f i := by omega
    exact hb _ b.1 b.2), b, c⟩
theorem BldL.wide {w : World} {lo hi lo' hi' : Nat} {v : Value} {ls : List (List Int)} (h : BldL w lo hi v ls) (h1 : lo' ≤ lo) (h2 : hi ≤ hi') (h3 : hi' ≤ w.heap.size) : BldL w lo' hi' v ls := by
  obtain ⟨hz, vs, f, ⟨r0, r1⟩, a2, a3, a4⟩ := h
  refine ⟨h3, vs, f, ⟨r0, ?_⟩, a2, fun g hg => by have := a3 g hg; omega, fun i x s hx hp => ?_⟩
  · rcases r1 with r1 | ⟨g, cap, cur, e1, e2, e3⟩
    · exact .inl r1
    · exact .inr ⟨g, cap, cur, e1, by omega, e3⟩
  · obtain ⟨a, b, c⟩ := a4 i x s hx hp
    exact ⟨a, by omega, c⟩
end Go.Proofs.Ytjldkejegdljiaa
