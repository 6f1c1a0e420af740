/- Networks as arguments: in memory of one's own, and their marks. -/
import Derived.Test.YtljlcjficjefdaaNet
import Derived.Test.YtljlcjficjefdaaNetOpen
import Derived.Test.YtljlcjficjefdaaRat
namespace Go.Proofs.Ytljlcjficjefdaa
open Go.RowKit
set_option linter.unusedVariables false
set_option linter.unusedSimpArgs false

theorem ResSl.le {w : World} {sv : Value} {xs : List Res} (h : ResSl w sv xs) : xs.length ≤ 9223372036854775807 := by
  rcases h with ⟨a, c, h1, h2⟩ | ⟨b, off, cap, h1, h2, h3, _⟩
  · rw [h2]; simp
  · unfold maxLen at h3; omega
/-- Element i of an array of cells. -/
def ResCs (cs : Array Value) (i : Nat) (x : Res) : Prop := cs[i * 4]? = some (Value.int .i64 x.a) ∧ cs[i * 4 + 1]? = some (Value.int .i64 x.b) ∧ cs[i * 4 + 2]? = some (Value.int .i64 x.num) ∧ cs[i * 4 + 3]? = some (Value.int .i64 x.den)
/-- A slice all of whose memory lies in a block from lo on and below hi. -/
def OwnRes (w : World) (lo hi : Nat) (sv : Value) (xs : List Res) : Prop :=
  (∃ a c, sv = .slice a 0 c ∧ xs = []) ∨ ∃ (g cap : Nat) (cs : Array Value), sv = .slice (some ⟨g, 0, none⟩) xs.length cap ∧ (lo ≤ g ∧ g < hi) ∧ xs.length ≤ cap ∧ cap ≤ maxLen ∧ Blk w g cs 49 ∧ (∀ (i : Nat) (x : Res), xs[i]? = some x → ResCs cs i x)
section
variable {w w' : World} {lo hi lo' hi' : Nat} {sv : Value} {xs : List Res}
theorem OwnRes.by (hb : Below w.heap.size w w') (h : OwnRes w lo hi sv xs) : OwnRes w' lo hi sv xs := by
  rcases h with h | ⟨g, cap, cs, h1, h2, h3, h4, h5, h6⟩
  · exact .inl h
  · exact .inr ⟨g, cap, cs, h1, h2, h3, h4, Blk.by hb h5, h6⟩
theorem OwnRes.past (hb : Within lo' hi' w w') (h : OwnRes w lo hi sv xs) (hd : hi ≤ lo' ∨ hi' ≤ lo) : OwnRes w' lo hi sv xs := by
  rcases h with h | ⟨g, cap, cs, h1, h2, h3, h4, h5, h6⟩
  · exact .inl h
  · exact .inr ⟨g, cap, cs, h1, h2, h3, h4, hb.blk h5 (by omega), h6⟩
theorem OwnRes.wide (h : OwnRes w lo hi sv xs) (h1 : lo' ≤ lo) (h2 : hi ≤ hi') : OwnRes w lo' hi' sv xs := by
  rcases h with h | ⟨g, cap, cs, e1, e2, e3, e4, e5, e6⟩
  · exact .inl h
  · exact .inr ⟨g, cap, cs, e1, by omega, e3, e4, e5, e6⟩
theorem OwnRes.sl (h : OwnRes w lo hi sv xs) : ResSl w sv xs := by
  rcases h with h | ⟨g, cap, cs, h1, h2, h3, h4, h5, h6⟩
  · exact .inl h
  · refine .inr ⟨g, 0, cap, h1, h3, h4, fun i x hx => ?_⟩
    obtain ⟨e0, e1, e2, e3⟩ := h6 i x hx
    have hc := h5.cell
    simp only [Nat.zero_add]
    exact ⟨by rw [hc]; exact e0, by rw [hc]; exact e1, by rw [hc]; exact e2, by rw [hc]; exact e3⟩
end
def cellsRes : List Res → List Value
  | p :: ps => .int .i64 p.a :: .int .i64 p.b :: .int .i64 p.num :: .int .i64 p.den :: cellsRes ps
  | [] => []
theorem length_cellsRes (ps : List Res) : (cellsRes ps).length = ps.length * 4 := by
  induction ps with
  | nil => rfl
  | cons p ps ih => simp [cellsRes, ih]; omega
theorem cellsRes_push (ps : List Res) (p : Res) : cellsRes (ps ++ [p]) = cellsRes ps ++ [.int .i64 p.a, .int .i64 p.b, .int .i64 p.num, .int .i64 p.den] := by
  induction ps with
  | nil => rfl
  | cons q qs ih => simp [cellsRes, ih]
theorem cellsRes_get (ps : List Res) (i : Nat) (p : Res) (h : ps[i]? = some p) : (cellsRes ps)[i * 4]? = some (Value.int .i64 p.a) ∧ (cellsRes ps)[i * 4 + 1]? = some (Value.int .i64 p.b) ∧ (cellsRes ps)[i * 4 + 2]? = some (Value.int .i64 p.num) ∧ (cellsRes ps)[i * 4 + 3]? = some (Value.int .i64 p.den) := by
  induction ps generalizing i with
  | nil => simp at h
  | cons q qs ih => cases i with
    | zero => simp at h; subst h; simp [cellsRes]
    | succ i =>
      simp at h
      have e : ∀ r, (cellsRes (q :: qs))[(i + 1) * 4 + r]? = (cellsRes qs)[i * 4 + r]? := by
        intro r
        show (Value.int .i64 q.a :: Value.int .i64 q.b :: Value.int .i64 q.num :: Value.int .i64 q.den :: cellsRes qs)[(i + 1) * 4 + r]? = _
        rw [show (i + 1) * 4 + r = (i * 4 + r) + 1 + 1 + 1 + 1 by omega]
        simp only [List.getElem?_cons_succ]
      have e0 := e 0
      simp only [Nat.add_zero] at e0
      rw [e0, e 1, e 2, e 3]
      exact ih i h
/-- The slice v holds these, all its memory in blocks from lo on and below hi; it may grow. -/
def BldRes (w : World) (lo hi : Nat) (v : Value) (ps : List Res) : Prop := hi ≤ w.heap.size ∧ w.ownsRow lo 49 4 v ps.length (cellsRes ps) ∧ (∀ g, v.ownBlock = some g → lo ≤ g ∧ g < hi)
section
variable {w w' : World} {lo hi : Nat} {v : Value} {ps : List Res}
theorem BldRes.nil (w : World) (lo : Nat) : BldRes w lo w.heap.size (.slice none 0 0) [] :=
  ⟨Nat.le_refl _, World.ownsRow_nil w lo _ 4, by intro g h; cases h⟩
/-- An empty slice literal. -/
theorem BldRes.none {g : Nat} {cs : Array Value} (h : Blk w g cs 49) (hcs : cs.size = 0) (hlo : lo ≤ g) (hhi : g < hi) (hs : hi ≤ w.heap.size) : BldRes w lo hi (.slice (some ⟨g, 0, Option.none⟩) 0 0) [] := by
  refine ⟨hs, ⟨rfl, .inr ⟨g, 0, cs, rfl, hlo, h, Nat.le_refl _, by unfold maxLen; omega, by omega, by simp [cellsRes]⟩⟩, ?_⟩
  intro g' hg'
  have : g = g' := by injection hg'
  omega
theorem BldRes.by (hb : Below w.heap.size w w') (h : BldRes w lo hi v ps) : BldRes w' lo hi v ps := by
  obtain ⟨hs, h1, h3⟩ := h
  exact ⟨Nat.le_trans hs hb.size, row_same h1 (fun g hg => hb.block g (by have := h3 g hg; omega)), h3⟩
theorem BldRes.past {lo' hi' : Nat} (hb : Within lo' hi' w w') (h : BldRes w lo hi v ps) (hd : hi' ≤ lo ∨ hi ≤ lo') : BldRes w' lo hi v ps := by
  obtain ⟨hs, h1, h3⟩ := h
  exact ⟨Nat.le_trans hs hb.size, row_same h1 (fun g hg => hb.block g (by have := h3 g hg; omega) (by have := h3 g hg; omega)), h3⟩
theorem BldRes.sized (h : BldRes w lo hi v ps) : ∃ a c, v = .slice a ps.length c := by
  obtain ⟨_, ⟨_, h1⟩, _⟩ := h
  rcases h1 with ⟨h1, h2⟩ | ⟨g, cap, cur, e1, _⟩
  · exact ⟨Option.none, 0, by rw [h1, h2]⟩
  · exact ⟨_, _, e1⟩
theorem BldRes.own (h : BldRes w lo hi v ps) : OwnRes w lo hi v ps := by
  obtain ⟨hs, ⟨hlen, h1⟩, h3⟩ := h
  rcases h1 with ⟨h1, hn⟩ | ⟨g, cap, cur, e1, e2, e3, e4, e5, e6, e7⟩
  · exact .inl ⟨_, _, h1, List.eq_nil_of_length_eq_zero hn⟩
  · have hcur : ∀ (j : Nat) u, (cellsRes ps)[j]? = some u → cur[j]? = some u := by
      intro j u hu
      rw [← e7] at hu
      have hj : j < ps.length * 4 := by
        have := (List.getElem?_eq_some_iff.1 hu).1
        rw [List.length_take] at this; omega
      rw [List.getElem?_take_of_lt hj] at hu
      simpa using hu
    refine .inr ⟨g, cap, cur, e1, h3 g (by rw [e1]; rfl), e4, e5, e3, fun i x hx => ?_⟩
    obtain ⟨q0, q1, q2, q3⟩ := cellsRes_get ps i x hx
    exact ⟨hcur _ _ q0, hcur _ _ q1, hcur _ _ q2, hcur _ _ q3⟩
end
theorem infoRes2 : (Try.prog.info? 49).map (fun i => (i.zero, i.size, i.bytes)) = some (some (.agg #[.int .i64 0, .int .i64 0, .int .i64 0, .int .i64 0]), 4, 32) := by kernel_rfl

/-- append(out, p), at a step of a region that draws its order. -/
theorem step_pushRes {ops : Array Oper} {o : Oper} {a : Act} {w : World} {K : Act → World → Prop} {Q : Exit → Act → World → Prop} {E : Prop} (hgd : o.guard = none) (s x : Operand)
    (ho : o.op = .call { callee := .builtin .append, args := #[s, x], argTypes := #[30, 30] })
    (lo hi : Nat) (v : Value) (ps : List Res) (hs : a.eval s = v) (hB : BldRes w lo hi v ps) (nb : Nat) (p : Res) (hx : a.eval x = .slice (some ⟨nb, 0, none⟩) 1 1)
    (hnb : Blk w nb #[.int .i64 p.a, .int .i64 p.b, .int .i64 p.num, .int .i64 p.den] 49) (hlo : lo ≤ hi) (hn : ps.length ≤ 1000)
    (hK : ∀ a' c' w', BldRes w' lo w'.heap.size (.slice a' (ps.length + 1) c') (ps ++ [p]) → Within lo hi w w' → K (a.put o.dst (.slice a' (ps.length + 1) c')) w') :
    if Region.wanted o (yielded ops a.tmps) = true then Oper.wp Try.prog o a w K Q else E := by
  obtain ⟨i0, hi0, hz0, hz1, hz2⟩ := info_parts infoRes2
  obtain ⟨hsz, h1, h3⟩ := hB
  refine step_append_lies w hgd s x 30 ho lo 49 i0 _ 4 32 Try.underlying30 hi0 hz0 hz1 hz2 rfl (by decide) v ps.length _ hs h1 ⟨nb, 0, none⟩ 1 1 [.int .i64 p.a, .int .i64 p.b, .int .i64 p.num, .int .i64 p.den] hx rfl (World.news_of_block (cs := #[.int .i64 p.a, .int .i64 p.b, .int .i64 p.num, .int .i64 p.den]) hnb) ?_ (by decide) (by unfold maxLen; omega) (by omega) (by omega) w.heap.size rfl ?_
  · intro u hu
    simp at hu
    rcases hu with rfl | rfl | rfl | rfl
    · rfl
    · rfl
    · rfl
    · rfl
  · intro g cap w' hrow hgrow hg hgl
    have hW : Within lo hi w w' := grown_within hgrow h3
    refine hK (some ⟨g, 0, none⟩) cap w' ⟨Nat.le_refl _, ?_, ?_⟩ hW
    · rw [List.length_append, List.length_singleton, cellsRes_push]; exact hrow
    · intro g' hg'
      have : g = g' := by injection hg'
      subst this
      rcases hg with h | h
      · have := h3 g h; omega
      · omega
theorem list_pushRes {ops : Array Oper} {rest : List Oper} {o : Oper} {a : Act} {w : World} {Q : Exit → Act → World → Prop} (hgd : o.guard = none) (s x : Operand)
    (ho : o.op = .call { callee := .builtin .append, args := #[s, x], argTypes := #[30, 30] })
    (lo hi : Nat) (v : Value) (ps : List Res) (hs : a.eval s = v) (hB : BldRes w lo hi v ps) (nb : Nat) (p : Res) (hx : a.eval x = .slice (some ⟨nb, 0, none⟩) 1 1)
    (hnb : Blk w nb #[.int .i64 p.a, .int .i64 p.b, .int .i64 p.num, .int .i64 p.den] 49) (hlo : lo ≤ hi) (hn : ps.length ≤ 1000)
    (hK : ∀ a' c' w', BldRes w' lo w'.heap.size (.slice a' (ps.length + 1) c') (ps ++ [p]) → Within lo hi w w' → wpList Try.prog ops Q rest (a.put o.dst (.slice a' (ps.length + 1) c')) w') : wpList Try.prog ops Q (o :: rest) a w :=
  wpList_plain hgd fun K hk => by
    have h := step_pushRes (ops := ops) (K := K) (Q := Q) (E := False) hgd s x ho lo hi v ps hs hB nb p hx hnb hlo hn (fun a' c' w' h1 h2 => hk _ _ (hK a' c' w' h1 h2))
    rwa [if_pos (by simp [Region.wanted, hgd])] at h
def putRs (cs : Array Value) (i : Nat) (z0 z1 z2 z3 : Value) : Array Value := (((cs.setIfInBounds (i * 4) z0).setIfInBounds (i * 4 + 1) z1).setIfInBounds (i * 4 + 2) z2).setIfInBounds (i * 4 + 3) z3
theorem size_putRs (cs : Array Value) (i : Nat) (z0 z1 z2 z3 : Value) : (putRs cs i z0 z1 z2 z3).size = cs.size := by simp [putRs]
theorem putRs_same (cs : Array Value) (i : Nat) (x : Res) (h : i * 4 + 4 ≤ cs.size) : ResCs (putRs cs i (.int .i64 x.a) (.int .i64 x.b) (.int .i64 x.num) (.int .i64 x.den)) i x := by
  refine ⟨?_, ?_, ?_, ?_⟩ <;> simp only [putRs, Array.getElem?_setIfInBounds, Array.size_setIfInBounds] <;> repeat (first | rw [if_pos trivial] | rw [if_pos (by omega)] | rw [if_neg (by omega)])
theorem putRs_other (cs : Array Value) (i j : Nat) (x : Res) (z0 z1 z2 z3 : Value) (hne : j ≠ i) (h : ResCs cs j x) : ResCs (putRs cs i z0 z1 z2 z3) j x := by
  obtain ⟨h0, h1, h2, h3⟩ := h
  refine ⟨?_, ?_, ?_, ?_⟩ <;> simp only [putRs, Array.getElem?_setIfInBounds, Array.size_setIfInBounds] <;> (repeat rw [if_neg (by omega)]) <;> assumption

/-- Marks. -/
def markRes (k m : Nat) : List Res := (List.range m).map fun i => ⟨((k + 4 * i : Nat) : Int), ((k + 4 * i + 1 : Nat) : Int), ((k + 4 * i + 2 : Nat) : Int), ((k + 4 * i + 3 : Nat) : Int)⟩
theorem length_markRes (k m : Nat) : (markRes k m).length = m := by simp [markRes]
theorem markRes_get (k m i : Nat) (h : i < m) : (markRes k m)[i]? = some ⟨((k + 4 * i : Nat) : Int), ((k + 4 * i + 1 : Nat) : Int), ((k + 4 * i + 2 : Nat) : Int), ((k + 4 * i + 3 : Nat) : Int)⟩ := by simp [markRes, h]

set_option maxRecDepth 100000 in
set_option maxHeartbeats 4000000 in
theorem markResistorS_any (lo hi : Nat) (sv : Value) (ps : List Res) (k0 : Nat) (w : World) (h : OwnRes w lo hi sv ps) (hk : 0 < k0) (hk' : k0 + 4 * ps.length ≤ 1000000000000) :
    Calls Try.prog 43 #[sv, .int .i64 (k0 : Int)] w fun e w' => e = .returned (.int .i64 ((k0 + 4 * ps.length : Nat) : Int)) ∧ OwnRes w' lo hi sv (markRes k0 ps.length) ∧ Within lo hi w w' := by
  rcases h with ⟨a, c, rfl, rfl⟩ | ⟨g, cap, cs0, rfl, hg, hcap, hmax, hB0, hel⟩
  · go_enter Try.func43, Try.ntmps43
    go_wp2
    go_loopw [1, 5] (fun v i wr => i = .int .i64 0 ∧ v = .int .i64 (k0 : Int) ∧ wr = w) (fun _ _ _ => 0)
    case atStart => exact ⟨rfl, rfl, rfl⟩
    case round =>
      obtain ⟨rfl, rfl, rfl⟩ := hrel
      go_wp2
      go_ret
      exact ⟨ret_i64 (by simp), .inl ⟨_, _, rfl, by simp [markRes]⟩, Within.refl _ _ _⟩
  · unfold maxLen at hmax
    have HEL := Lib.hid hel
    clear hel
    go_enter Try.func43, Try.ntmps43
    go_wp2
    go_loopw [1, 5] (fun v i wr => ∃ k : Nat, k ≤ ps.length ∧ i = .int .i64 k ∧ v = .int .i64 ((k0 + 4 * k : Nat) : Int) ∧
      (∃ cs : Array Value, Blk wr g cs 49 ∧ cs.size = cs0.size ∧ Hid (∀ (j : Nat), j < k → ResCs cs j ⟨((k0 + 4 * j : Nat) : Int), ((k0 + 4 * j + 1 : Nat) : Int), ((k0 + 4 * j + 2 : Nat) : Int), ((k0 + 4 * j + 3 : Nat) : Int)⟩)) ∧ Within lo hi w wr) (fun _ i _ => ps.length - (intOf i).toNat)
    case atStart => exact ⟨0, Nat.zero_le _, rfl, by simp, ⟨cs0, hB0, rfl, Lib.hid (fun j h => by omega)⟩, Within.refl _ _ _⟩
    case round =>
      obtain ⟨k, hkl, rfl, rfl, ⟨cs, hB, hsz, HO⟩, ho⟩ := hrel
      by_cases hlt : k < ps.length
      · obtain ⟨x, hx⟩ : ∃ x, ps[k]? = some x := ⟨ps[k], List.getElem?_eq_getElem hlt⟩
        have hz : k * 4 + 3 < cs.size := by rw [hsz]; exact (Array.getElem?_eq_some_iff.1 (HEL.out k x hx).2.2.2).1
        have HSZ := Lib.hid hsz
        obtain ⟨s, hs⟩ : ∃ s : Nat, k0 + 4 * k = s := ⟨_, rfl⟩
        rw [hs]
        have HS := Lib.hid hs
        have hs1 : s + 4 ≤ 1000000000000 := by omega
        obtain ⟨u0_, d0⟩ : ∃ u, cs[k * 4]? = some u := ⟨_, Array.getElem?_eq_getElem (by omega)⟩
        obtain ⟨u1_, d1⟩ : ∃ u, cs[k * 4 + 1]? = some u := ⟨_, Array.getElem?_eq_getElem (by omega)⟩
        obtain ⟨u2_, d2⟩ : ∃ u, cs[k * 4 + 2]? = some u := ⟨_, Array.getElem?_eq_getElem (by omega)⟩
        obtain ⟨u3_, d3⟩ : ∃ u, cs[k * 4 + 3]? = some u := ⟨_, Array.getElem?_eq_getElem (by omega)⟩
        have i1 : (0 : Int) ≤ (k : Int) := by omega
        have i2 : (k : Int) < (ps.length : Int) := by omega
        have e2 := hB.cell
        have f2 := hB.free
        clear hx hs hsz
        go_wp2
        refine ⟨⟨k + 1, by omega, by go_num, by have := HS.out; congr 1; omega, ⟨putRs cs k (.int .i64 (s : Int)) (.int .i64 ((s : Int) + 1)) (.int .i64 ((s : Int) + 2)) (.int .i64 ((s : Int) + 3)), (((hB.set _ _).set _ _).set _ _).set _ _, by rw [size_putRs]; exact HSZ.out, Lib.hid (fun j hj => ?_)⟩, (((ho.set g _ _ hg.1 hg.2).set g _ _ hg.1 hg.2).set g _ _ hg.1 hg.2).set g _ _ hg.1 hg.2⟩, by simp [intOf]; omega⟩
        by_cases hjk : j = k
        · subst hjk
          rw [HS.out]
          exact putRs_same cs j ⟨(s : Int), (s : Int) + 1, (s : Int) + 2, (s : Int) + 3⟩ (by omega)
        · exact putRs_other cs k j _ _ _ _ _ hjk (HO.out j (by omega))
      · obtain rfl : k = ps.length := by omega
        go_wp2
        go_ret
        refine ⟨rfl, .inr ⟨g, cap, cs, by rw [length_markRes], hg, by rw [length_markRes]; exact hcap, by unfold maxLen; exact hmax, hB, fun i y hy => ?_⟩, ho⟩
        have hi : i < ps.length := by have := (List.getElem?_eq_some_iff.1 hy).1; rwa [length_markRes] at this
        rw [markRes_get k0 _ i hi] at hy
        cases hy
        exact HO.out i hi
theorem ResBlk.own {w : World} {g : Nat} {xs : List Res} (h : ResBlk w g xs) (hm : xs.length ≤ 1048576) : OwnRes w g (g + 1) (.slice (some ⟨g, 0, none⟩) xs.length xs.length) xs := by
  obtain ⟨cs, h1, h2, h3⟩ := h
  exact .inr ⟨g, _, cs, rfl, ⟨Nat.le_refl _, Nat.lt_succ_self _⟩, Nat.le_refl _, by unfold maxLen; omega, h1, h3⟩

/-- A network by value. -/
structure Nw where
  nodes : Int
  rs : List Res
def NwV (w : World) (v : Value) (x : Nw) : Prop := ∃ sv, v = .agg #[.int .i64 x.nodes, sv] ∧ ResSl w sv x.rs
def OwnNw (w : World) (lo hi : Nat) (v : Value) (x : Nw) : Prop := ∃ sv, v = .agg #[.int .i64 x.nodes, sv] ∧ OwnRes w lo hi sv x.rs
def IsNwV (w : World) (v : Value) (x : Nw) : Prop := NwV w v x ∧ Fits x.nodes ∧ ∀ r ∈ x.rs, r.ok
def nwsum (x : Nw) : Nat := 4 * x.rs.length
def markNw (k : Nat) (x : Nw) : Nw := ⟨x.nodes, markRes k x.rs.length⟩
section
variable {w w' : World} {lo hi lo' hi' : Nat} {v : Value} {x : Nw}
theorem NwV.by (hb : Below w.heap.size w w') (h : NwV w v x) : NwV w' v x := by obtain ⟨s, e, a⟩ := h; exact ⟨s, e, a.by hb⟩
theorem NwV.sized (h : NwV w v x) : ∃ a c, v = .agg #[.int .i64 x.nodes, .slice a x.rs.length c] := by
  obtain ⟨s, e, a⟩ := h
  obtain ⟨b, c, rfl⟩ := a.len
  exact ⟨b, c, e⟩
theorem OwnNw.by (hb : Below w.heap.size w w') (h : OwnNw w lo hi v x) : OwnNw w' lo hi v x := by obtain ⟨s, e, a⟩ := h; exact ⟨s, e, a.by hb⟩
theorem OwnNw.past (hb : Within lo' hi' w w') (h : OwnNw w lo hi v x) (hd : hi ≤ lo' ∨ hi' ≤ lo) : OwnNw w' lo hi v x := by obtain ⟨s, e, a⟩ := h; exact ⟨s, e, a.past hb hd⟩
theorem OwnNw.wide (h : OwnNw w lo hi v x) (h1 : lo' ≤ lo) (h2 : hi ≤ hi') : OwnNw w lo' hi' v x := by obtain ⟨s, e, a⟩ := h; exact ⟨s, e, a.wide h1 h2⟩
theorem OwnNw.nw (h : OwnNw w lo hi v x) : NwV w v x := by obtain ⟨s, e, a⟩ := h; exact ⟨s, e, a.sl⟩
end
theorem RatSl.sized {w : World} {sv : Value} {xs : List Rt} (h : RatSl w sv xs) : ∃ a c, sv = .slice a xs.length c := h.len
theorem szNw_any (v : Value) (x : Nw) (l : Int) (w : World) (h : NwV w v x) (hl : 0 ≤ l) (hl' : l ≤ 1048576) :
    Calls Try.prog 9 #[v, .int .i64 l] w fun e w' => e = .returned (.int .i64 (if l < x.rs.length then -1 else l - x.rs.length)) ∧ Below w.heap.size w w' := by
  obtain ⟨sv, rfl, h⟩ := h; exact szNetwork_any x.nodes sv x.rs l w h hl hl'
theorem toNetwork_own (v : Value) (x : Nw) (w : World) (h : NwV w v x) (hn : x.rs.length ≤ 1048576) :
    Calls Try.prog 11 #[v] w fun e w' => ∃ v', e = .returned v' ∧ OwnNw w' w.heap.size w'.heap.size v' x ∧ Below w.heap.size w w' := by
  obtain ⟨sv, rfl, h⟩ := h
  refine (toNetwork_any x.nodes sv x.rs w h hn).mono ?_
  rintro e w' ⟨g, rfl, hG, hge, hb⟩
  have hl := hG.lt
  exact ⟨_, rfl, ⟨_, rfl, (hG.own hn).wide hge (by omega)⟩, hb⟩
theorem toNetwork_nw (v : Value) (x : Nw) (w : World) (h : NwV w v x) (hn : x.rs.length ≤ 1048576) :
    Calls Try.prog 11 #[v] w fun e w' => ∃ v', e = .returned v' ∧ NwV w' v' x ∧ Below w.heap.size w w' :=
  (toNetwork_own v x w h hn).mono fun e w' ⟨v', e1, h1, h2⟩ => ⟨v', e1, h1.nw, h2⟩
theorem eqNetwork_nw (v1 v2 : Value) (x : Nw) (w : World) (h : NwV w v1 x) (h' : NwV w v2 x) :
    Calls Try.prog 14 #[v1, v2] w fun e w' => e = .returned (.bool true) ∧ Below w.heap.size w w' := by
  obtain ⟨s1, rfl, h⟩ := h
  obtain ⟨s2, rfl, h'⟩ := h'
  exact eqNetwork_refl x.nodes s1 s2 x.rs w h h'
set_option maxRecDepth 100000 in
set_option maxHeartbeats 1000000 in
theorem markNetwork_any (lo hi : Nat) (v : Value) (x : Nw) (k0 : Nat) (w : World) (h : OwnNw w lo hi v x) (hl : hi ≤ w.heap.size) (hk : 0 < k0) (hk' : k0 + nwsum x ≤ 1000000000) :
    Calls Try.prog 18 #[v, .int .i64 (k0 : Int)] w fun e w' => e = .returned (.int .i64 ((k0 + nwsum x : Nat) : Int)) ∧ OwnNw w' lo hi v (markNw k0 x) ∧ Within lo hi w w' := by
  unfold nwsum at hk' ⊢
  obtain ⟨sv, rfl, h⟩ := h
  have HM := Lib.hid (fun w h => markResistorS_any lo hi sv x.rs k0 w h hk (by omega))
  have h0 := h.by ((Below.refl _ w).alloc (Nat.le_refl _) (.cells #[.int .i64 x.nodes, sv] 32))
  obtain ⟨a, c, rfl⟩ := h.sl.len
  clear h
  go_enter Try.func18, Try.ntmps18
  go_wp2_with fail
  refine (HM.out _ h0).mono ?_
  rintro e w1 ⟨rfl, hO, hw⟩
  have hw2 : Within lo hi w w1 := (Within.alloc (Within.refl lo hi w) (.cells #[.int .i64 x.nodes, .slice a x.rs.length c] 32)).on hw
  go_wp2
  go_ret
  refine ⟨rfl, ⟨_, ?_, hO⟩, hw2⟩
  show _ = Value.agg #[.int .i64 x.nodes, _]
  rfl
theorem opened_nw {H : Type} {enc : TypeId × Value → H} {W : World} {base b0 : Nat} {r : Reach} {spare : Nat → Bool} {held : Bool} {v : Value} {d : DataW H} {p : List MemPlace}
    (hv : Value.okWide Try.prog W r b0 24 v) (h : DataW.Trod enc Try.prog W base spare held 24 v d p) : ∃ x, IsNwV W v x := by
  obtain ⟨x, sv, e, hf, hs, hr⟩ := opened_net hv h
  exact ⟨⟨x.1, x.2⟩, ⟨sv, e, hs⟩, hf, hr⟩
end Go.Proofs.Ytljlcjficjefdaa
