/- Slices of ratios. -/
import Derived.Test.YtjolkdckhmmenaaCopies
import Derived.Test.YtjolkdckhmmenaaIntB
import Derived.Test.YtjolkdckhmmenaaMake
import Derived.BigRegion
namespace Go.Proofs.Ytjolkdckhmmenaa
open Go.RowKit
set_option linter.unusedVariables false
set_option linter.unusedSimpArgs false

/-- A ratio by value. -/
structure Rt where
  n : Int
  d : Int
/-- The cells of one. -/
def RatAt (w : World) (g o : Nat) (x : Rt) : Prop := w.cell? ⟨g, o, none⟩ = some (.int .i64 x.n) ∧ w.cell? ⟨g, o + 1, none⟩ = some (.int .i64 x.d)
/-- A slice that reads as these. -/
def RatSl (w : World) (sv : Value) (xs : List Rt) : Prop :=
  (∃ a c, sv = .slice a 0 c ∧ xs = []) ∨ ∃ b off cap, sv = .slice (some ⟨b, off, none⟩) xs.length cap ∧ xs.length ≤ cap ∧ cap ≤ maxLen ∧ ∀ (i : Nat) (x : Rt), xs[i]? = some x → RatAt w b (off + i * 2) x
theorem RatAt.by {w w1 : World} {g o : Nat} {x : Rt} (hb : Below w.heap.size w w1) (h : RatAt w g o x) : RatAt w1 g o x := ⟨cell_by' hb h.1, cell_by' hb h.2⟩
theorem RatSl.by {w w1 : World} {sv : Value} {xs : List Rt} (hb : Below w.heap.size w w1) (h : RatSl w sv xs) : RatSl w1 sv xs := by
  rcases h with h | ⟨b, off, cap, h1, h2, h3, h4⟩
  · exact .inl h
  · exact .inr ⟨b, off, cap, h1, h2, h3, fun i x hx => (h4 i x hx).by hb⟩
theorem RatSl.len {w : World} {sv : Value} {xs : List Rt} (h : RatSl w sv xs) : ∃ a c, sv = .slice a xs.length c := by
  rcases h with ⟨a, c, h1, h2⟩ | ⟨b, off, cap, h1, _⟩
  · subst h2; exact ⟨a, c, h1⟩
  · exact ⟨_, _, h1⟩
theorem RatSl.le {w : World} {sv : Value} {xs : List Rt} (h : RatSl w sv xs) : xs.length ≤ 9223372036854775807 := by
  rcases h with ⟨a, c, h1, h2⟩ | ⟨b, off, cap, h1, h2, h3, _⟩
  · rw [h2]; simp
  · unfold maxLen at h3; omega
/-- Element i of an array of cells. -/
def RatCs (cs : Array Value) (i : Nat) (x : Rt) : Prop := cs[i * 2]? = some (Value.int .i64 x.n) ∧ cs[i * 2 + 1]? = some (Value.int .i64 x.d)
/-- A slice all of whose memory lies in a block from lo on and below hi. -/
def OwnRat (w : World) (lo hi : Nat) (sv : Value) (xs : List Rt) : Prop :=
  (∃ a c, sv = .slice a 0 c ∧ xs = []) ∨ ∃ (g cap : Nat) (cs : Array Value), sv = .slice (some ⟨g, 0, none⟩) xs.length cap ∧ (lo ≤ g ∧ g < hi) ∧ xs.length ≤ cap ∧ cap ≤ maxLen ∧ Blk w g cs 30 ∧ (∀ (i : Nat) (x : Rt), xs[i]? = some x → RatCs cs i x)
section
variable {w w' : World} {lo hi lo' hi' : Nat} {sv : Value} {xs : List Rt}
theorem OwnRat.by (hb : Below w.heap.size w w') (h : OwnRat w lo hi sv xs) : OwnRat w' lo hi sv xs := by
  rcases h with h | ⟨g, cap, cs, h1, h2, h3, h4, h5, h6⟩
  · exact .inl h
  · exact .inr ⟨g, cap, cs, h1, h2, h3, h4, Blk.by hb h5, h6⟩
theorem OwnRat.past (hb : Within lo' hi' w w') (h : OwnRat w lo hi sv xs) (hd : hi ≤ lo' ∨ hi' ≤ lo) : OwnRat w' lo hi sv xs := by
  rcases h with h | ⟨g, cap, cs, h1, h2, h3, h4, h5, h6⟩
  · exact .inl h
  · exact .inr ⟨g, cap, cs, h1, h2, h3, h4, hb.blk h5 (by omega), h6⟩
theorem OwnRat.wide (h : OwnRat w lo hi sv xs) (h1 : lo' ≤ lo) (h2 : hi ≤ hi') : OwnRat w lo' hi' sv xs := by
  rcases h with h | ⟨g, cap, cs, e1, e2, e3, e4, e5, e6⟩
  · exact .inl h
  · exact .inr ⟨g, cap, cs, e1, by omega, e3, e4, e5, e6⟩
theorem OwnRat.sl (h : OwnRat w lo hi sv xs) : RatSl w sv xs := by
  rcases h with h | ⟨g, cap, cs, h1, h2, h3, h4, h5, h6⟩
  · exact .inl h
  · refine .inr ⟨g, 0, cap, h1, h3, h4, fun i x hx => ?_⟩
    obtain ⟨e0, e1⟩ := h6 i x hx
    have hc := h5.cell
    simp only [Nat.zero_add]
    exact ⟨by rw [hc]; exact e0, by rw [hc]; exact e1⟩
end
def cellsRat : List Rt → List Value
  | p :: ps => .int .i64 p.n :: .int .i64 p.d :: cellsRat ps
  | [] => []
theorem length_cellsRat (ps : List Rt) : (cellsRat ps).length = ps.length * 2 := by
  induction ps with
  | nil => rfl
  | cons p ps ih => simp [cellsRat, ih]; omega
theorem cellsRat_push (ps : List Rt) (p : Rt) : cellsRat (ps ++ [p]) = cellsRat ps ++ [.int .i64 p.n, .int .i64 p.d] := by
  induction ps with
  | nil => rfl
  | cons q qs ih => simp [cellsRat, ih]
theorem cellsRat_get (ps : List Rt) (i : Nat) (p : Rt) (h : ps[i]? = some p) : (cellsRat ps)[i * 2]? = some (Value.int .i64 p.n) ∧ (cellsRat ps)[i * 2 + 1]? = some (Value.int .i64 p.d) := by
  induction ps generalizing i with
  | nil => simp at h
  | cons q qs ih => cases i with
    | zero => simp at h; subst h; simp [cellsRat]
    | succ i =>
      simp at h
      have e : ∀ r, (cellsRat (q :: qs))[(i + 1) * 2 + r]? = (cellsRat qs)[i * 2 + r]? := by
        intro r
        show (Value.int .i64 q.n :: Value.int .i64 q.d :: cellsRat qs)[(i + 1) * 2 + r]? = _
        rw [show (i + 1) * 2 + r = (i * 2 + r) + 1 + 1 by omega]
        simp only [List.getElem?_cons_succ]
      have e0 := e 0
      simp only [Nat.add_zero] at e0
      rw [e0, e 1]
      exact ih i h
/-- The slice v holds these, all its memory in blocks from lo on and below hi; it may grow. -/
def BldRat (w : World) (lo hi : Nat) (v : Value) (ps : List Rt) : Prop := hi ≤ w.heap.size ∧ w.ownsRow lo 30 2 v ps.length (cellsRat ps) ∧ (∀ g, v.ownBlock = some g → lo ≤ g ∧ g < hi)
section
variable {w w' : World} {lo hi : Nat} {v : Value} {ps : List Rt}
theorem BldRat.nil (w : World) (lo : Nat) : BldRat w lo w.heap.size (.slice none 0 0) [] :=
  ⟨Nat.le_refl _, World.ownsRow_nil w lo _ 2, by intro g h; cases h⟩
/-- An empty slice literal. -/
theorem BldRat.none {g : Nat} {cs : Array Value} (h : Blk w g cs 30) (hcs : cs.size = 0) (hlo : lo ≤ g) (hhi : g < hi) (hs : hi ≤ w.heap.size) : BldRat w lo hi (.slice (some ⟨g, 0, Option.none⟩) 0 0) [] := by
  refine ⟨hs, ⟨rfl, .inr ⟨g, 0, cs, rfl, hlo, h, Nat.le_refl _, by unfold maxLen; omega, by omega, by simp [cellsRat]⟩⟩, ?_⟩
  intro g' hg'
  have : g = g' := by injection hg'
  omega
theorem BldRat.by (hb : Below w.heap.size w w') (h : BldRat w lo hi v ps) : BldRat w' lo hi v ps := by
  obtain ⟨hs, h1, h3⟩ := h
  exact ⟨Nat.le_trans hs hb.size, row_same h1 (fun g hg => hb.block g (by have := h3 g hg; omega)), h3⟩
theorem BldRat.past {lo' hi' : Nat} (hb : Within lo' hi' w w') (h : BldRat w lo hi v ps) (hd : hi' ≤ lo ∨ hi ≤ lo') : BldRat w' lo hi v ps := by
  obtain ⟨hs, h1, h3⟩ := h
  exact ⟨Nat.le_trans hs hb.size, row_same h1 (fun g hg => hb.block g (by have := h3 g hg; omega) (by have := h3 g hg; omega)), h3⟩
theorem BldRat.sized (h : BldRat w lo hi v ps) : ∃ a c, v = .slice a ps.length c := by
  obtain ⟨_, ⟨_, h1⟩, _⟩ := h
  rcases h1 with ⟨h1, h2⟩ | ⟨g, cap, cur, e1, _⟩
  · exact ⟨Option.none, 0, by rw [h1, h2]⟩
  · exact ⟨_, _, e1⟩
theorem BldRat.own (h : BldRat w lo hi v ps) : OwnRat w lo hi v ps := by
  obtain ⟨hs, ⟨hlen, h1⟩, h3⟩ := h
  rcases h1 with ⟨h1, hn⟩ | ⟨g, cap, cur, e1, e2, e3, e4, e5, e6, e7⟩
  · exact .inl ⟨_, _, h1, List.eq_nil_of_length_eq_zero hn⟩
  · have hcur : ∀ (j : Nat) u, (cellsRat ps)[j]? = some u → cur[j]? = some u := by
      intro j u hu
      rw [← e7] at hu
      have hj : j < ps.length * 2 := by
        have := (List.getElem?_eq_some_iff.1 hu).1
        rw [List.length_take] at this; omega
      rw [List.getElem?_take_of_lt hj] at hu
      simpa using hu
    refine .inr ⟨g, cap, cur, e1, h3 g (by rw [e1]; rfl), e4, e5, e3, fun i x hx => ?_⟩
    obtain ⟨q0, q1⟩ := cellsRat_get ps i x hx
    exact ⟨hcur _ _ q0, hcur _ _ q1⟩
end
theorem infoRat : (Try.prog.info? 30).map (fun i => (i.zero, i.size, i.bytes)) = some (some (.agg #[.int .i64 0, .int .i64 0]), 2, 16) := by kernel_rfl

/-- append(out, p), at a step of a region that draws its order. -/
theorem step_pushRat {ops : Array Oper} {o : Oper} {a : Act} {w : World} {K : Act → World → Prop} {Q : Exit → Act → World → Prop} {E : Prop} (hgd : o.guard = none) (s x : Operand)
    (ho : o.op = .call { callee := .builtin .append, args := #[s, x], argTypes := #[35, 35] })
    (lo hi : Nat) (v : Value) (ps : List Rt) (hs : a.eval s = v) (hB : BldRat w lo hi v ps) (nb : Nat) (p : Rt) (hx : a.eval x = .slice (some ⟨nb, 0, none⟩) 1 1)
    (hnb : Blk w nb #[.int .i64 p.n, .int .i64 p.d] 30) (hlo : lo ≤ hi) (hn : ps.length ≤ 1000)
    (hK : ∀ a' c' w', BldRat w' lo w'.heap.size (.slice a' (ps.length + 1) c') (ps ++ [p]) → Within lo hi w w' → K (a.put o.dst (.slice a' (ps.length + 1) c')) w') :
    if Region.wanted o (yielded ops a.tmps) = true then Oper.wp Try.prog o a w K Q else E := by
  obtain ⟨i0, hi0, hz0, hz1, hz2⟩ := info_parts infoRat
  obtain ⟨hsz, h1, h3⟩ := hB
  refine step_append_lies w hgd s x 35 ho lo 30 i0 _ 2 16 Try.underlying35 hi0 hz0 hz1 hz2 rfl (by decide) v ps.length _ hs h1 ⟨nb, 0, none⟩ 1 1 [.int .i64 p.n, .int .i64 p.d] hx rfl (World.news_of_block (cs := #[.int .i64 p.n, .int .i64 p.d]) hnb) ?_ (by decide) (by unfold maxLen; omega) (by omega) (by omega) w.heap.size rfl ?_
  · intro u hu
    simp at hu
    rcases hu with rfl | rfl
    · rfl
    · rfl
  · intro g cap w' hrow hgrow hg hgl
    have hW : Within lo hi w w' := grown_within hgrow h3
    refine hK (some ⟨g, 0, none⟩) cap w' ⟨Nat.le_refl _, ?_, ?_⟩ hW
    · rw [List.length_append, List.length_singleton, cellsRat_push]; exact hrow
    · intro g' hg'
      have : g = g' := by injection hg'
      subst this
      rcases hg with h | h
      · have := h3 g h; omega
      · omega
theorem list_pushRat {ops : Array Oper} {rest : List Oper} {o : Oper} {a : Act} {w : World} {Q : Exit → Act → World → Prop} (hgd : o.guard = none) (s x : Operand)
    (ho : o.op = .call { callee := .builtin .append, args := #[s, x], argTypes := #[35, 35] })
    (lo hi : Nat) (v : Value) (ps : List Rt) (hs : a.eval s = v) (hB : BldRat w lo hi v ps) (nb : Nat) (p : Rt) (hx : a.eval x = .slice (some ⟨nb, 0, none⟩) 1 1)
    (hnb : Blk w nb #[.int .i64 p.n, .int .i64 p.d] 30) (hlo : lo ≤ hi) (hn : ps.length ≤ 1000)
    (hK : ∀ a' c' w', BldRat w' lo w'.heap.size (.slice a' (ps.length + 1) c') (ps ++ [p]) → Within lo hi w w' → wpList Try.prog ops Q rest (a.put o.dst (.slice a' (ps.length + 1) c')) w') : wpList Try.prog ops Q (o :: rest) a w :=
  wpList_plain hgd fun K hk => by
    have h := step_pushRat (ops := ops) (K := K) (Q := Q) (E := False) hgd s x ho lo hi v ps hs hB nb p hx hnb hlo hn (fun a' c' w' h1 h2 => hk _ _ (hK a' c' w' h1 h2))
    rwa [if_pos (by simp [Region.wanted, hgd])] at h
def putRat (cs : Array Value) (i : Nat) (z0 z1 : Value) : Array Value := (cs.setIfInBounds (i * 2) z0).setIfInBounds (i * 2 + 1) z1
theorem size_putRat (cs : Array Value) (i : Nat) (z0 z1 : Value) : (putRat cs i z0 z1).size = cs.size := by simp [putRat]
theorem putRat_same (cs : Array Value) (i : Nat) (x : Rt) (h : i * 2 + 2 ≤ cs.size) : RatCs (putRat cs i (.int .i64 x.n) (.int .i64 x.d)) i x := by
  refine ⟨?_, ?_⟩ <;> simp only [putRat, Array.getElem?_setIfInBounds, Array.size_setIfInBounds] <;> repeat (first | rw [if_pos trivial] | rw [if_pos (by omega)] | rw [if_neg (by omega)])
theorem putRat_other (cs : Array Value) (i j : Nat) (x : Rt) (z0 z1 : Value) (hne : j ≠ i) (h : RatCs cs j x) : RatCs (putRat cs i z0 z1) j x := by
  obtain ⟨h0, h1⟩ := h
  refine ⟨?_, ?_⟩ <;> simp only [putRat, Array.getElem?_setIfInBounds, Array.size_setIfInBounds] <;> (repeat rw [if_neg (by omega)]) <;> assumption

/-- Marks. -/
def markRat (k m : Nat) : List Rt := (List.range m).map fun i => ⟨((k + 2 * i : Nat) : Int), ((k + 2 * i + 1 : Nat) : Int)⟩
theorem length_markRat (k m : Nat) : (markRat k m).length = m := by simp [markRat]
theorem markRat_get (k m i : Nat) (h : i < m) : (markRat k m)[i]? = some ⟨((k + 2 * i : Nat) : Int), ((k + 2 * i + 1 : Nat) : Int)⟩ := by simp [markRat, h]

end Go.Proofs.Ytjolkdckhmmenaa
