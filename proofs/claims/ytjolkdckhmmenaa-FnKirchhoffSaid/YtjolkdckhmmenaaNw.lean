/- Networks as arguments: in memory of one's own, and their marks. -/
import Derived.Test.YtjolkdckhmmenaaNet
import Derived.Test.YtjolkdckhmmenaaNetOpen
import Derived.Test.YtjolkdckhmmenaaRat
namespace Go.Proofs.Ytjolkdckhmmenaa
open Go.RowKit
set_option linter.unusedVariables false
set_option linter.unusedSimpArgs false

theorem ResSl.le {w : World} {sv : Value} {xs : List Res} (h : ResSl w sv xs) : xs.length ≤ 9223372036854775807 := by
  rcases h with ⟨a, c, h1, h2⟩ | ⟨b, off, cap, h1, h2, h3, _⟩
  · rw [h2]; simp
  · unfold maxLen at h3; omega
/-- Element i of an array of cells. -/
def ResCs (cs : Array Value) (i : Nat) (x : Res) : Prop := cs[i * 4]? = some (Value.int .i64 x.a) ∧ cs[i * 4 + 1]? = some (Value.int .i64 x.b) ∧ cs[i * 4 + 2]? = some (Value.int .i64 x.num) ∧ cs[i * 4 + 3]? = some (Value.int .i64 x.den)
/-- A slice all of whose memory lies in a block from lo on and below hi. -/
def OwnRes (w : World) (lo hi : Nat) (sv : Value) (xs : List Res) : Prop :=
  (∃ a c, sv = .slice a 0 c ∧ xs = []) ∨ ∃ (g cap : Nat) (cs : Array Value), sv = .slice (some ⟨g, 0, none⟩) xs.length cap ∧ (lo ≤ g ∧ g < hi) ∧ xs.length ≤ cap ∧ cap ≤ maxLen ∧ Blk w g cs 39 ∧ (∀ (i : Nat) (x : Res), xs[i]? = some x → ResCs cs i x)
section
variable {w w' : World} {lo hi lo' hi' : Nat} {sv : Value} {xs : List Res}
theorem OwnRes.by (hb : Below w.heap.size w w') (h : OwnRes w lo hi sv xs) : OwnRes w' lo hi sv xs := by
  rcases h with h | ⟨g, cap, cs, h1, h2, h3, h4, h5, h6⟩
  · exact .inl h
  · exact .inr ⟨g, cap, cs, h1, h2, h3, h4, Blk.by hb h5, h6⟩
theorem OwnRes.past (hb : Within lo' hi' w w') (h : OwnRes w lo hi sv xs) (hd : hi ≤ lo' ∨ hi' ≤ lo) : OwnRes w' lo hi sv xs := by
  rcases h with h | ⟨g, cap, cs, h1, h2, h3, h4, h5, h6⟩
  · exact .inl h
  · exact .inr ⟨g, cap, cs, h1, h2, h3, h4, hb.blk h5 (by omega), h6⟩
theorem OwnRes.wide (h : OwnRes w lo hi sv xs) (h1 : lo' ≤ lo) (h2 : hi ≤ hi') : OwnRes w lo' hi' sv xs := by
  rcases h with h | ⟨g, cap, cs, e1, e2, e3, e4, e5, e6⟩
  · exact .inl h
  · exact .inr ⟨g, cap, cs, e1, by omega, e3, e4, e5, e6⟩
theorem OwnRes.sl (h : OwnRes w lo hi sv xs) : ResSl w sv xs := by
  rcases h with h | ⟨g, cap, cs, h1, h2, h3, h4, h5, h6⟩
  · exact .inl h
  · refine .inr ⟨g, 0, cap, h1, h3, h4, fun i x hx => ?_⟩
    obtain ⟨e0, e1, e2, e3⟩ := h6 i x hx
    have hc := h5.cell
    simp only [Nat.zero_add]
    exact ⟨by rw [hc]; exact e0, by rw [hc]; exact e1, by rw [hc]; exact e2, by rw [hc]; exact e3⟩
end
def cellsRes : List Res → List Value
  | p :: ps => .int .i64 p.a :: .int .i64 p.b :: .int .i64 p.num :: .int .i64 p.den :: cellsRes ps
  | [] => []
theorem length_cellsRes (ps : List Res) : (cellsRes ps).length = ps.length * 4 := by
  induction ps with
  | nil => rfl
  | cons p ps ih => simp [cellsRes, ih]; omega
theorem cellsRes_push (ps : List Res) (p : Res) : cellsRes (ps ++ [p]) = cellsRes ps ++ [.int .i64 p.a, .int .i64 p.b, .int .i64 p.num, .int .i64 p.den] := by
  induction ps with
  | nil => rfl
  | cons q qs ih => simp [cellsRes, ih]
theorem cellsRes_get (ps : List Res) (i : Nat) (p : Res) (h : ps[i]? = some p) : (cellsRes ps)[i * 4]? = some (Value.int .i64 p.a) ∧ (cellsRes ps)[i * 4 + 1]? = some (Value.int .i64 p.b) ∧ (cellsRes ps)[i * 4 + 2]? = some (Value.int .i64 p.num) ∧ (cellsRes ps)[i * 4 + 3]? = some (Value.int .i64 p.den) := by
  induction ps generalizing i with
  | nil => simp at h
  | cons q qs ih => cases i with
    | zero => simp at h; subst h; simp [cellsRes]
    | succ i =>
      simp at h
      have e : ∀ r, (cellsRes (q :: qs))[(i + 1) * 4 + r]? = (cellsRes qs)[i * 4 + r]? := by
        intro r
        show (Value.int .i64 q.a :: Value.int .i64 q.b :: Value.int .i64 q.num :: Value.int .i64 q.den :: cellsRes qs)[(i + 1) * 4 + r]? = _
        rw [show (i + 1) * 4 + r = (i * 4 + r) + 1 + 1 + 1 + 1 by omega]
        simp only [List.getElem?_cons_succ]
      have e0 := e 0
      simp only [Nat.add_zero] at e0
      rw [e0, e 1, e 2, e 3]
      exact ih i h
/-- The slice v holds these, all its memory in blocks from lo on and below hi; it may grow. -/
def BldRes (w : World) (lo hi : Nat) (v : Value) (ps : List Res) : Prop := hi ≤ w.heap.size ∧ w.ownsRow lo 39 4 v ps.length (cellsRes ps) ∧ (∀ g, v.ownBlock = some g → lo ≤ g ∧ g < hi)
section
variable {w w' : World} {lo hi : Nat} {v : Value} {ps : List Res}
theorem BldRes.nil (w : World) (lo : Nat) : BldRes w lo w.heap.size (.slice none 0 0) [] :=
  ⟨Nat.le_refl _, World.ownsRow_nil w lo _ 4, by intro g h; cases h⟩
/-- An empty slice literal. -/
theorem BldRes.none {g : Nat} {cs : Array Value} (h : Blk w g cs 39) (hcs : cs.size = 0) (hlo : lo ≤ g) (hhi : g < hi) (hs : hi ≤ w.heap.size) : BldRes w lo hi (.slice (some ⟨g, 0, Option.none⟩) 0 0) [] := by
  refine ⟨hs, ⟨rfl, .inr ⟨g, 0, cs, rfl, hlo, h, Nat.le_refl _, by unfold maxLen; omega, by omega, by simp [cellsRes]⟩⟩, ?_⟩
  intro g' hg'
  have : g = g' := by injection hg'
  omega
theorem BldRes.by (hb : Below w.heap.size w w') (h : BldRes w lo hi v ps) : BldRes w' lo hi v ps := by
  obtain ⟨hs, h1, h3⟩ := h
  exact ⟨Nat.le_trans hs hb.size, row_same h1 (fun g hg => hb.block g (by have := h3 g hg; omega)), h3⟩
theorem BldRes.past {lo' hi' : Nat} (hb : Within lo' hi' w w') (h : BldRes w lo hi v ps) (hd : hi' ≤ lo ∨ hi ≤ lo') : BldRes w' lo hi v ps := by
  obtain ⟨hs, h1, h3⟩ := h
  exact ⟨Nat.le_trans hs hb.size, row_same h1 (fun g hg => hb.block g (by have := h3 g hg; omega) (by have := h3 g hg; omega)), h3⟩
theorem BldRes.sized (h : BldRes w lo hi v ps) : ∃ a c, v = .slice a ps.length c := by
  obtain ⟨_, ⟨_, h1⟩, _⟩ := h
  rcases h1 with ⟨h1, h2⟩ | ⟨g, cap, cur, e1, _⟩
  · exact ⟨Option.none, 0, by rw [h1, h2]⟩
  · exact ⟨_, _, e1⟩
theorem BldRes.own (h : BldRes w lo hi v ps) : OwnRes w lo hi v ps := by
  obtain ⟨hs, ⟨hlen, h1⟩, h3⟩ := h
  rcases h1 with ⟨h1, hn⟩ | ⟨g, cap, cur, e1, e2, e3, e4, e5, e6, e7⟩
  · exact .inl ⟨_, _, h1, List.eq_nil_of_length_eq_zero hn⟩
  · have hcur : ∀ (j : Nat) u, (cellsRes ps)[j]? = some u → cur[j]? = some u := by
      intro j u hu
      rw [← e7] at hu
      have hj : j < ps.length * 4 := by
        have := (List.getElem?_eq_some_iff.1 hu).1
        rw [List.length_take] at this; omega
      rw [List.getElem?_take_of_lt hj] at hu
      simpa using hu
    refine .inr ⟨g, cap, cur, e1, h3 g (by rw [e1]; rfl), e4, e5, e3, fun i x hx => ?_⟩
    obtain ⟨q0, q1, q2, q3⟩ := cellsRes_get ps i x hx
    exact ⟨hcur _ _ q0, hcur _ _ q1, hcur _ _ q2, hcur _ _ q3⟩
end
theorem infoRes2 : (Try.prog.info? 39).map (fun i => (i.zero, i.size, i.bytes)) = some (some (.agg #[.int .i64 0, .int .i64 0, .int .i64 0, .int .i64 0]), 4, 32) := by kernel_rfl

/-- append(out, p), at a step of a region that draws its order. -/
theorem step_pushRes {ops : Array Oper} {o : Oper} {a : Act} {w : World} {K : Act → World → Prop} {Q : Exit → Act → World → Prop} {E : Prop} (hgd : o.guard = none) (s x : Operand)
    (ho : o.op = .call { callee := .builtin .append, args := #[s, x], argTypes := #[24, 24] })
    (lo hi : Nat) (v : Value) (ps : List Res) (hs : a.eval s = v) (hB : BldRes w lo hi v ps) (nb : Nat) (p : Res) (hx : a.eval x = .slice (some ⟨nb, 0, none⟩) 1 1)
    (hnb : Blk w nb #[.int .i64 p.a, .int .i64 p.b, .int .i64 p.num, .int .i64 p.den] 39) (hlo : lo ≤ hi) (hn : ps.length ≤ 1000)
    (hK : ∀ a' c' w', BldRes w' lo w'.heap.size (.slice a' (ps.length + 1) c') (ps ++ [p]) → Within lo hi w w' → K (a.put o.dst (.slice a' (ps.length + 1) c')) w') :
    if Region.wanted o (yielded ops a.tmps) = true then Oper.wp Try.prog o a w K Q else E := by
  obtain ⟨i0, hi0, hz0, hz1, hz2⟩ := info_parts infoRes2
  obtain ⟨hsz, h1, h3⟩ := hB
  refine step_append_lies w hgd s x 24 ho lo 39 i0 _ 4 32 Try.underlying24 hi0 hz0 hz1 hz2 rfl (by decide) v ps.length _ hs h1 ⟨nb, 0, none⟩ 1 1 [.int .i64 p.a, .int .i64 p.b, .int .i64 p.num, .int .i64 p.den] hx rfl (World.news_of_block (cs := #[.int .i64 p.a, .int .i64 p.b, .int .i64 p.num, .int .i64 p.den]) hnb) ?_ (by decide) (by unfold maxLen; omega) (by omega) (by omega) w.heap.size rfl ?_
  · intro u hu
    simp at hu
    rcases hu with rfl | rfl | rfl | rfl
    · rfl
    · rfl
    · rfl
    · rfl
  · intro g cap w' hrow hgrow hg hgl
    have hW : Within lo hi w w' := grown_within hgrow h3
    refine hK (some ⟨g, 0, none⟩) cap w' ⟨Nat.le_refl _, ?_, ?_⟩ hW
    · rw [List.length_append, List.length_singleton, cellsRes_push]; exact hrow
    · intro g' hg'
      have : g = g' := by injection hg'
      subst this
      rcases hg with h | h
      · have := h3 g h; omega
      · omega
theorem list_pushRes {ops : Array Oper} {rest : List Oper} {o : Oper} {a : Act} {w : World} {Q : Exit → Act → World → Prop} (hgd : o.guard = none) (s x : Operand)
    (ho : o.op = .call { callee := .builtin .append, args := #[s, x], argTypes := #[24, 24] })
    (lo hi : Nat) (v : Value) (ps : List Res) (hs : a.eval s = v) (hB : BldRes w lo hi v ps) (nb : Nat) (p : Res) (hx : a.eval x = .slice (some ⟨nb, 0, none⟩) 1 1)
    (hnb : Blk w nb #[.int .i64 p.a, .int .i64 p.b, .int .i64 p.num, .int .i64 p.den] 39) (hlo : lo ≤ hi) (hn : ps.length ≤ 1000)
    (hK : ∀ a' c' w', BldRes w' lo w'.heap.size (.slice a' (ps.length + 1) c') (ps ++ [p]) → Within lo hi w w' → wpList Try.prog ops Q rest (a.put o.dst (.slice a' (ps.length + 1) c')) w') : wpList Try.prog ops Q (o :: rest) a w :=
  wpList_plain hgd fun K hk => by
    have h := step_pushRes (ops := ops) (K := K) (Q := Q) (E := False) hgd s x ho lo hi v ps hs hB nb p hx hnb hlo hn (fun a' c' w' h1 h2 => hk _ _ (hK a' c' w' h1 h2))
    rwa [if_pos (by simp [Region.wanted, hgd])] at h
def putRs (cs : Array Value) (i : Nat) (z0 z1 z2 z3 : Value) : Array Value := (((cs.setIfInBounds (i * 4) z0).setIfInBounds (i * 4 + 1) z1).setIfInBounds (i * 4 + 2) z2).setIfInBounds (i * 4 + 3) z3
theorem size_putRs (cs : Array Value) (i : Nat) (z0 z1 z2 z3 : Value) : (putRs cs i z0 z1 z2 z3).size = cs.size := by simp [putRs]
theorem putRs_same (cs : Array Value) (i : Nat) (x : Res) (h : i * 4 + 4 ≤ cs.size) : ResCs (putRs cs i (.int .i64 x.a) (.int .i64 x.b) (.int .i64 x.num) (.int .i64 x.den)) i x := by
  refine ⟨?_, ?_, ?_, ?_⟩ <;> simp only [putRs, Array.getElem?_setIfInBounds, Array.size_setIfInBounds] <;> repeat (first | rw [if_pos trivial] | rw [if_pos (by omega)] | rw [if_neg (by omega)])
theorem putRs_other (cs : Array Value) (i j : Nat) (x : Res) (z0 z1 z2 z3 : Value) (hne : j ≠ i) (h : ResCs cs j x) : ResCs (putRs cs i z0 z1 z2 z3) j x := by
  obtain ⟨h0, h1, h2, h3⟩ := h
  refine ⟨?_, ?_, ?_, ?_⟩ <;> simp only [putRs, Array.getElem?_setIfInBounds, Array.size_setIfInBounds] <;> (repeat rw [if_neg (by omega)]) <;> assumption

/-- Marks. -/
def markRes (k m : Nat) : List Res := (List.range m).map fun i => ⟨((k + 4 * i : Nat) : Int), ((k + 4 * i + 1 : Nat) : Int), ((k + 4 * i + 2 : Nat) : Int), ((k + 4 * i + 3 : Nat) : Int)⟩
theorem length_markRes (k m : Nat) : (markRes k m).length = m := by simp [markRes]
theorem markRes_get (k m i : Nat) (h : i < m) : (markRes k m)[i]? = some ⟨((k + 4 * i : Nat) : Int), ((k + 4 * i + 1 : Nat) : Int), ((k + 4 * i + 2 : Nat) : Int), ((k + 4 * i + 3 : Nat) : Int)⟩ := by simp [markRes, h]

theorem ResBlk.own {w : World} {g : Nat} {xs : List Res} (h : ResBlk w g xs) (hm : xs.length ≤ 1048576) : OwnRes w g (g + 1) (.slice (some ⟨g, 0, none⟩) xs.length xs.length) xs := by
  obtain ⟨cs, h1, h2, h3⟩ := h
  exact .inr ⟨g, _, cs, rfl, ⟨Nat.le_refl _, Nat.lt_succ_self _⟩, Nat.le_refl _, by unfold maxLen; omega, h1, h3⟩

/-- A network by value. -/
structure Nw where
  nodes : Int
  rs : List Res
def NwV (w : World) (v : Value) (x : Nw) : Prop := ∃ sv, v = .agg #[.int .i64 x.nodes, sv] ∧ ResSl w sv x.rs
def OwnNw (w : World) (lo hi : Nat) (v : Value) (x : Nw) : Prop := ∃ sv, v = .agg #[.int .i64 x.nodes, sv] ∧ OwnRes w lo hi sv x.rs
def IsNwV (w : World) (v : Value) (x : Nw) : Prop := NwV w v x ∧ Fits x.nodes ∧ ∀ r ∈ x.rs, r.ok
def nwsum (x : Nw) : Nat := 4 * x.rs.length
def markNw (k : Nat) (x : Nw) : Nw := ⟨x.nodes, markRes k x.rs.length⟩
section
variable {w w' : World} {lo hi lo' hi' : Nat} {v : Value} {x : Nw}
theorem NwV.by (hb : Below w.heap.size w w') (h : NwV w v x) : NwV w' v x := by obtain ⟨s, e, a⟩ := h; exact ⟨s, e, a.by hb⟩
theorem NwV.sized (h : NwV w v x) : ∃ a c, v = .agg #[.int .i64 x.nodes, .slice a x.rs.length c] := by
  obtain ⟨s, e, a⟩ := h
  obtain ⟨b, c, rfl⟩ := a.len
  exact ⟨b, c, e⟩
theorem OwnNw.by (hb : Below w.heap.size w w') (h : OwnNw w lo hi v x) : OwnNw w' lo hi v x := by obtain ⟨s, e, a⟩ := h; exact ⟨s, e, a.by hb⟩
theorem OwnNw.past (hb : Within lo' hi' w w') (h : OwnNw w lo hi v x) (hd : hi ≤ lo' ∨ hi' ≤ lo) : OwnNw w' lo hi v x := by obtain ⟨s, e, a⟩ := h; exact ⟨s, e, a.past hb hd⟩
theorem OwnNw.wide (h : OwnNw w lo hi v x) (h1 : lo' ≤ lo) (h2 : hi ≤ hi') : OwnNw w lo' hi' v x := by obtain ⟨s, e, a⟩ := h; exact ⟨s, e, a.wide h1 h2⟩
theorem OwnNw.nw (h : OwnNw w lo hi v x) : NwV w v x := by obtain ⟨s, e, a⟩ := h; exact ⟨s, e, a.sl⟩
end
theorem RatSl.sized {w : World} {sv : Value} {xs : List Rt} (h : RatSl w sv xs) : ∃ a c, sv = .slice a xs.length c := h.len
end Go.Proofs.Ytjolkdckhmmenaa
