/- Contracts and plain laws, part 7, for the statement's proof. -/
import Derived.Test.YtacbdmngcdhgoaaGreatPkRrLaw6
import Derived.ProofKit
import Derived.OpenShut
import Derived.BigRegion
import Derived.BigQuiet
namespace Go.Proofs.YtacbdmngcdhgoaaGreat
open Go.RowKit
set_option linter.unusedVariables false
set_option linter.unusedSimpArgs false
theorem size_drewN (w : World) (n : Nat) : (w.drewN n).heap.size = w.heap.size := rfl
section
variable {w w' : World} {lo hi lo' hi' : Nat} {v : Value} {zs : List Int}
theorem OwnR.wide' (h : OwnR w lo hi v zs) (h1 : lo' ≤ lo) (h2 : hi ≤ hi') : OwnR w lo' hi' v zs := by
  rcases h with h | ⟨g, cap, cs, e1, e2, e2', e3⟩
  · exact .inl h
  · exact .inr ⟨g, cap, cs, e1, by omega, by omega, e3⟩
end
def OwnPr (w : World) (lo hi : Nat) (v : Value) (x : List Int × List Int) : Prop := ∃ s1 s2 l1 h1 l2 h2, v = .agg #[s1, s2] ∧ OwnR w l1 h1 s1 x.1 ∧ OwnR w l2 h2 s2 x.2 ∧ (lo ≤ l1 ∧ h1 ≤ hi) ∧ (lo ≤ l2 ∧ h2 ≤ hi) ∧ (h1 ≤ l2 ∨ h2 ≤ l1)
section
variable {w w' : World} {lo hi lo' hi' : Nat} {v : Value} {x : List Int × List Int}
theorem OwnPr.by (hb : Below w.heap.size w w') (h : OwnPr w lo hi v x) : OwnPr w' lo hi v x := by
  obtain ⟨s1, s2, l1, h1, l2, h2, e, a, b, c⟩ := h; exact ⟨s1, s2, l1, h1, l2, h2, e, OwnR.by hb a, OwnR.by hb b, c⟩
theorem OwnPr.past (hb : Within lo' hi' w w') (h : OwnPr w lo hi v x) (hd : hi ≤ lo' ∨ hi' ≤ lo) : OwnPr w' lo hi v x := by
  obtain ⟨s1, s2, l1, h1, l2, h2, e, a, b, c, d, f⟩ := h; exact ⟨s1, s2, l1, h1, l2, h2, e, OwnR.past hb a (by omega), OwnR.past hb b (by omega), c, d, f⟩
theorem OwnPr.wide (h : OwnPr w lo hi v x) (h1 : lo' ≤ lo) (h2 : hi ≤ hi') : OwnPr w lo' hi' v x := by
  obtain ⟨s1, s2, l1, h1, l2, h2, e, a, b, c, d, f⟩ := h; exact ⟨s1, s2, l1, h1, l2, h2, e, a, b, by omega, by omega, f⟩
end
/- A slice of int64 that came in as an argument. -/
open Go.ChangeShapes Go.WideShapes Go.ChangeAt Go.RowKit Go.Joins
structure Rt where
  n : Int
  d : Int
def RatAt (w : World) (g o : Nat) (x : Rt) : Prop := w.cell? ⟨g, o, none⟩ = some (.int .i64 x.n) ∧ w.cell? ⟨g, o + 1, none⟩ = some (.int .i64 x.d)
def RatSl (w : World) (sv : Value) (xs : List Rt) : Prop :=
  (∃ a c, sv = .slice a 0 c ∧ xs = []) ∨ ∃ b off cap, sv = .slice (some ⟨b, off, none⟩) xs.length cap ∧ xs.length ≤ cap ∧ cap ≤ maxLen ∧ ∀ (i : Nat) (x : Rt), xs[i]? = some x → RatAt w b (off + i * 2) x
theorem RatAt.by {w w1 : World} {g o : Nat} {x : Rt} (hb : Below w.heap.size w w1) (h : RatAt w g o x) : RatAt w1 g o x := ⟨cell_by' hb h.1, cell_by' hb h.2⟩
theorem RatSl.by {w w1 : World} {sv : Value} {xs : List Rt} (hb : Below w.heap.size w w1) (h : RatSl w sv xs) : RatSl w1 sv xs := by
  rcases h with h | ⟨b, off, cap, h1, h2, h3, h4⟩
  · exact .inl h
  · exact .inr ⟨b, off, cap, h1, h2, h3, fun i x hx => (h4 i x hx).by hb⟩
theorem RatSl.len {w : World} {sv : Value} {xs : List Rt} (h : RatSl w sv xs) : ∃ a c, sv = .slice a xs.length c := by
  rcases h with ⟨a, c, h1, h2⟩ | ⟨b, off, cap, h1, _⟩
  · subst h2; exact ⟨a, c, h1⟩
  · exact ⟨_, _, h1⟩
theorem RatSl.le {w : World} {sv : Value} {xs : List Rt} (h : RatSl w sv xs) : xs.length ≤ 9223372036854775807 := by
  rcases h with ⟨a, c, h1, h2⟩ | ⟨b, off, cap, h1, h2, h3, _⟩
  · rw [h2]; simp
  · unfold maxLen at h3; omega
def RatCs (cs : Array Value) (i : Nat) (x : Rt) : Prop := cs[i * 2]? = some (Value.int .i64 x.n) ∧ cs[i * 2 + 1]? = some (Value.int .i64 x.d)
def OwnRat (w : World) (lo hi : Nat) (sv : Value) (xs : List Rt) : Prop :=
  (∃ a c, sv = .slice a 0 c ∧ xs = []) ∨ ∃ (g cap : Nat) (cs : Array Value), sv = .slice (some ⟨g, 0, none⟩) xs.length cap ∧ (lo ≤ g ∧ g < hi) ∧ xs.length ≤ cap ∧ cap ≤ maxLen ∧ Blk w g cs 31 ∧ (∀ (i : Nat) (x : Rt), xs[i]? = some x → RatCs cs i x)
section
variable {w w' : World} {lo hi lo' hi' : Nat} {sv : Value} {xs : List Rt}
theorem OwnRat.by (hb : Below w.heap.size w w') (h : OwnRat w lo hi sv xs) : OwnRat w' lo hi sv xs := by
  rcases h with h | ⟨g, cap, cs, h1, h2, h3, h4, h5, h6⟩
  · exact .inl h
  · exact .inr ⟨g, cap, cs, h1, h2, h3, h4, Blk.by hb h5, h6⟩
theorem OwnRat.past (hb : Within lo' hi' w w') (h : OwnRat w lo hi sv xs) (hd : hi ≤ lo' ∨ hi' ≤ lo) : OwnRat w' lo hi sv xs := by
  rcases h with h | ⟨g, cap, cs, h1, h2, h3, h4, h5, h6⟩
  · exact .inl h
  · exact .inr ⟨g, cap, cs, h1, h2, h3, h4, hb.blk h5 (by omega), h6⟩
theorem OwnRat.wide (h : OwnRat w lo hi sv xs) (h1 : lo' ≤ lo) (h2 : hi ≤ hi') : OwnRat w lo' hi' sv xs := by
  rcases h with h | ⟨g, cap, cs, e1, e2, e3, e4, e5, e6⟩
  · exact .inl h
  · exact .inr ⟨g, cap, cs, e1, by omega, e3, e4, e5, e6⟩
theorem OwnRat.sl (h : OwnRat w lo hi sv xs) : RatSl w sv xs := by
  rcases h with h | ⟨g, cap, cs, h1, h2, h3, h4, h5, h6⟩
  · exact .inl h
  · refine .inr ⟨g, 0, cap, h1, h3, h4, fun i x hx => ?_⟩
    obtain ⟨e0, e1⟩ := h6 i x hx
    have hc := h5.cell
    simp only [Nat.zero_add]
    exact ⟨by rw [hc]; exact e0, by rw [hc]; exact e1⟩
end
def cellsRat : List Rt → List Value
  | p :: ps => .int .i64 p.n :: .int .i64 p.d :: cellsRat ps
  | [] => []
theorem cellsRat_push (ps : List Rt) (p : Rt) : cellsRat (ps ++ [p]) = cellsRat ps ++ [.int .i64 p.n, .int .i64 p.d] := by
  induction ps with
  | nil => rfl
  | cons q qs ih => simp [cellsRat, ih]
theorem cellsRat_get (ps : List Rt) (i : Nat) (p : Rt) (h : ps[i]? = some p) : (cellsRat ps)[i * 2]? = some (Value.int .i64 p.n) ∧ (cellsRat ps)[i * 2 + 1]? = some (Value.int .i64 p.d) := by
  induction ps generalizing i with
  | nil => simp at h
  | cons q qs ih => cases i with
    | zero => simp at h; subst h; simp [cellsRat]
    | succ i =>
      simp at h
      have e : ∀ r, (cellsRat (q :: qs))[(i + 1) * 2 + r]? = (cellsRat qs)[i * 2 + r]? := by
        intro r
        show (Value.int .i64 q.n :: Value.int .i64 q.d :: cellsRat qs)[(i + 1) * 2 + r]? = _
        rw [show (i + 1) * 2 + r = (i * 2 + r) + 1 + 1 by omega]
        simp only [List.getElem?_cons_succ]
      have e0 := e 0
      simp only [Nat.add_zero] at e0
      rw [e0, e 1]
      exact ih i h
def BldRat (w : World) (lo hi : Nat) (v : Value) (ps : List Rt) : Prop := hi ≤ w.heap.size ∧ w.ownsRow lo 31 2 v ps.length (cellsRat ps) ∧ (∀ g, v.ownBlock = some g → lo ≤ g ∧ g < hi)
section
variable {w w' : World} {lo hi : Nat} {v : Value} {ps : List Rt}
theorem BldRat.nil (w : World) (lo : Nat) : BldRat w lo w.heap.size (.slice none 0 0) [] :=
  ⟨Nat.le_refl _, World.ownsRow_nil w lo _ 2, by intro g h; cases h⟩
theorem BldRat.none {g : Nat} {cs : Array Value} (h : Blk w g cs 31) (hcs : cs.size = 0) (hlo : lo ≤ g) (hhi : g < hi) (hs : hi ≤ w.heap.size) : BldRat w lo hi (.slice (some ⟨g, 0, Option.none⟩) 0 0) [] := by
  refine ⟨hs, ⟨rfl, .inr ⟨g, 0, cs, rfl, hlo, h, Nat.le_refl _, by unfold maxLen; omega, by omega, by simp [cellsRat]⟩⟩, ?_⟩
  intro g' hg'
  have : g = g' := by injection hg'
  omega
theorem BldRat.by (hb : Below w.heap.size w w') (h : BldRat w lo hi v ps) : BldRat w' lo hi v ps := by
  obtain ⟨hs, h1, h3⟩ := h
  exact ⟨Nat.le_trans hs hb.size, row_same h1 (fun g hg => hb.block g (by have := h3 g hg; omega)), h3⟩
theorem BldRat.past {lo' hi' : Nat} (hb : Within lo' hi' w w') (h : BldRat w lo hi v ps) (hd : hi' ≤ lo ∨ hi ≤ lo') : BldRat w' lo hi v ps := by
  obtain ⟨hs, h1, h3⟩ := h
  exact ⟨Nat.le_trans hs hb.size, row_same h1 (fun g hg => hb.block g (by have := h3 g hg; omega) (by have := h3 g hg; omega)), h3⟩
theorem BldRat.sized (h : BldRat w lo hi v ps) : ∃ a c, v = .slice a ps.length c := by
  obtain ⟨_, ⟨_, h1⟩, _⟩ := h
  rcases h1 with ⟨h1, h2⟩ | ⟨g, cap, cur, e1, _⟩
  · exact ⟨Option.none, 0, by rw [h1, h2]⟩
  · exact ⟨_, _, e1⟩
theorem BldRat.own (h : BldRat w lo hi v ps) : OwnRat w lo hi v ps := by
  obtain ⟨hs, ⟨hlen, h1⟩, h3⟩ := h
  rcases h1 with ⟨h1, hn⟩ | ⟨g, cap, cur, e1, e2, e3, e4, e5, e6, e7⟩
  · exact .inl ⟨_, _, h1, List.eq_nil_of_length_eq_zero hn⟩
  · have hcur : ∀ (j : Nat) u, (cellsRat ps)[j]? = some u → cur[j]? = some u := by
      intro j u hu
      rw [← e7] at hu
      have hj : j < ps.length * 2 := by
        have := (List.getElem?_eq_some_iff.1 hu).1
        rw [List.length_take] at this; omega
      rw [List.getElem?_take_of_lt hj] at hu
      simpa using hu
    refine .inr ⟨g, cap, cur, e1, h3 g (by rw [e1]; rfl), e4, e5, e3, fun i x hx => ?_⟩
    obtain ⟨q0, q1⟩ := cellsRat_get ps i x hx
    exact ⟨hcur _ _ q0, hcur _ _ q1⟩
end
theorem infoRat : (Tryz.prog.info? 31).map (fun i => (i.zero, i.size, i.bytes)) = some (some (.agg #[.int .i64 0, .int .i64 0]), 2, 16) := by kernel_rfl
theorem step_pushRat {ops : Array Oper} {o : Oper} {a : Act} {w : World} {K : Act → World → Prop} {Q : Exit → Act → World → Prop} {E : Prop} (hgd : o.guard = none) (s x : Operand)
    (ho : o.op = .call { callee := .builtin .append, args := #[s, x], argTypes := #[81, 81] })
    (lo hi : Nat) (v : Value) (ps : List Rt) (hs : a.eval s = v) (hB : BldRat w lo hi v ps) (nb : Nat) (p : Rt) (hx : a.eval x = .slice (some ⟨nb, 0, none⟩) 1 1)
    (hnb : Blk w nb #[.int .i64 p.n, .int .i64 p.d] 31) (hlo : lo ≤ hi) (hn : ps.length ≤ 1000)
    (hK : ∀ a' c' w', BldRat w' lo w'.heap.size (.slice a' (ps.length + 1) c') (ps ++ [p]) → Within lo hi w w' → K (a.put o.dst (.slice a' (ps.length + 1) c')) w') :
    if Region.wanted o (yielded ops a.tmps) = true then Oper.wp Tryz.prog o a w K Q else E := by
  obtain ⟨i0, hi0, hz0, hz1, hz2⟩ := info_parts infoRat
  obtain ⟨hsz, h1, h3⟩ := hB
  refine step_append_lies w hgd s x 81 ho lo 31 i0 _ 2 16 Tryz.underlying81 hi0 hz0 hz1 hz2 rfl (by decide) v ps.length _ hs h1 ⟨nb, 0, none⟩ 1 1 [.int .i64 p.n, .int .i64 p.d] hx rfl (World.news_of_block (cs := #[.int .i64 p.n, .int .i64 p.d]) hnb) ?_ (by decide) (by unfold maxLen; omega) (by omega) (by omega) w.heap.size rfl ?_
  · intro u hu
    simp at hu
    rcases hu with rfl | rfl
    · rfl
    · rfl
  · intro g cap w' hrow hgrow hg hgl
    have hW : Within lo hi w w' := grown_within hgrow h3
    refine hK (some ⟨g, 0, none⟩) cap w' ⟨Nat.le_refl _, ?_, ?_⟩ hW
    · rw [List.length_append, List.length_singleton, cellsRat_push]; exact hrow
    · intro g' hg'
      have : g = g' := by injection hg'
      subst this
      rcases hg with h | h
      · have := h3 g h; omega
      · omega
theorem list_pushRat {ops : Array Oper} {rest : List Oper} {o : Oper} {a : Act} {w : World} {Q : Exit → Act → World → Prop} (hgd : o.guard = none) (s x : Operand)
    (ho : o.op = .call { callee := .builtin .append, args := #[s, x], argTypes := #[81, 81] })
    (lo hi : Nat) (v : Value) (ps : List Rt) (hs : a.eval s = v) (hB : BldRat w lo hi v ps) (nb : Nat) (p : Rt) (hx : a.eval x = .slice (some ⟨nb, 0, none⟩) 1 1)
    (hnb : Blk w nb #[.int .i64 p.n, .int .i64 p.d] 31) (hlo : lo ≤ hi) (hn : ps.length ≤ 1000)
    (hK : ∀ a' c' w', BldRat w' lo w'.heap.size (.slice a' (ps.length + 1) c') (ps ++ [p]) → Within lo hi w w' → wpList Tryz.prog ops Q rest (a.put o.dst (.slice a' (ps.length + 1) c')) w') : wpList Tryz.prog ops Q (o :: rest) a w :=
  wpList_plain hgd fun K hk => by
    have h := step_pushRat (ops := ops) (K := K) (Q := Q) (E := False) hgd s x ho lo hi v ps hs hB nb p hx hnb hlo hn (fun a' c' w' h1 h2 => hk _ _ (hK a' c' w' h1 h2))
    rwa [if_pos (by simp [Region.wanted, hgd])] at h
theorem ResSl.le {w : World} {sv : Value} {xs : List Res} (h : ResSl w sv xs) : xs.length ≤ 9223372036854775807 := by
  rcases h with ⟨a, c, h1, h2⟩ | ⟨b, off, cap, h1, h2, h3, _⟩
  · rw [h2]; simp
  · unfold maxLen at h3; omega
def ResCs (cs : Array Value) (i : Nat) (x : Res) : Prop := cs[i * 4]? = some (Value.int .i64 x.a) ∧ cs[i * 4 + 1]? = some (Value.int .i64 x.b) ∧ cs[i * 4 + 2]? = some (Value.int .i64 x.num) ∧ cs[i * 4 + 3]? = some (Value.int .i64 x.den)
def OwnRes (w : World) (lo hi : Nat) (sv : Value) (xs : List Res) : Prop :=
  (∃ a c, sv = .slice a 0 c ∧ xs = []) ∨ ∃ (g cap : Nat) (cs : Array Value), sv = .slice (some ⟨g, 0, none⟩) xs.length cap ∧ (lo ≤ g ∧ g < hi) ∧ xs.length ≤ cap ∧ cap ≤ maxLen ∧ Blk w g cs 57 ∧ (∀ (i : Nat) (x : Res), xs[i]? = some x → ResCs cs i x)
section
variable {w w' : World} {lo hi lo' hi' : Nat} {sv : Value} {xs : List Res}
theorem OwnRes.by (hb : Below w.heap.size w w') (h : OwnRes w lo hi sv xs) : OwnRes w' lo hi sv xs := by
  rcases h with h | ⟨g, cap, cs, h1, h2, h3, h4, h5, h6⟩
  · exact .inl h
  · exact .inr ⟨g, cap, cs, h1, h2, h3, h4, Blk.by hb h5, h6⟩
theorem OwnRes.past (hb : Within lo' hi' w w') (h : OwnRes w lo hi sv xs) (hd : hi ≤ lo' ∨ hi' ≤ lo) : OwnRes w' lo hi sv xs := by
  rcases h with h | ⟨g, cap, cs, h1, h2, h3, h4, h5, h6⟩
  · exact .inl h
  · exact .inr ⟨g, cap, cs, h1, h2, h3, h4, hb.blk h5 (by omega), h6⟩
theorem OwnRes.wide (h : OwnRes w lo hi sv xs) (h1 : lo' ≤ lo) (h2 : hi ≤ hi') : OwnRes w lo' hi' sv xs := by
  rcases h with h | ⟨g, cap, cs, e1, e2, e3, e4, e5, e6⟩
  · exact .inl h
  · exact .inr ⟨g, cap, cs, e1, by omega, e3, e4, e5, e6⟩
theorem OwnRes.sl (h : OwnRes w lo hi sv xs) : ResSl w sv xs := by
  rcases h with h | ⟨g, cap, cs, h1, h2, h3, h4, h5, h6⟩
  · exact .inl h
  · refine .inr ⟨g, 0, cap, h1, h3, h4, fun i x hx => ?_⟩
    obtain ⟨e0, e1, e2, e3⟩ := h6 i x hx
    have hc := h5.cell
    simp only [Nat.zero_add]
    exact ⟨by rw [hc]; exact e0, by rw [hc]; exact e1, by rw [hc]; exact e2, by rw [hc]; exact e3⟩
end
def cellsRes : List Res → List Value
  | p :: ps => .int .i64 p.a :: .int .i64 p.b :: .int .i64 p.num :: .int .i64 p.den :: cellsRes ps
  | [] => []
theorem cellsRes_push (ps : List Res) (p : Res) : cellsRes (ps ++ [p]) = cellsRes ps ++ [.int .i64 p.a, .int .i64 p.b, .int .i64 p.num, .int .i64 p.den] := by
  induction ps with
  | nil => rfl
  | cons q qs ih => simp [cellsRes, ih]
theorem cellsRes_get (ps : List Res) (i : Nat) (p : Res) (h : ps[i]? = some p) : (cellsRes ps)[i * 4]? = some (Value.int .i64 p.a) ∧ (cellsRes ps)[i * 4 + 1]? = some (Value.int .i64 p.b) ∧ (cellsRes ps)[i * 4 + 2]? = some (Value.int .i64 p.num) ∧ (cellsRes ps)[i * 4 + 3]? = some (Value.int .i64 p.den) := by
  induction ps generalizing i with
  | nil => simp at h
  | cons q qs ih => cases i with
    | zero => simp at h; subst h; simp [cellsRes]
    | succ i =>
      simp at h
      have e : ∀ r, (cellsRes (q :: qs))[(i + 1) * 4 + r]? = (cellsRes qs)[i * 4 + r]? := by
        intro r
        show (Value.int .i64 q.a :: Value.int .i64 q.b :: Value.int .i64 q.num :: Value.int .i64 q.den :: cellsRes qs)[(i + 1) * 4 + r]? = _
        rw [show (i + 1) * 4 + r = (i * 4 + r) + 1 + 1 + 1 + 1 by omega]
        simp only [List.getElem?_cons_succ]
      have e0 := e 0
      simp only [Nat.add_zero] at e0
      rw [e0, e 1, e 2, e 3]
      exact ih i h
def BldRes (w : World) (lo hi : Nat) (v : Value) (ps : List Res) : Prop := hi ≤ w.heap.size ∧ w.ownsRow lo 57 4 v ps.length (cellsRes ps) ∧ (∀ g, v.ownBlock = some g → lo ≤ g ∧ g < hi)
section
variable {w w' : World} {lo hi : Nat} {v : Value} {ps : List Res}
theorem BldRes.nil (w : World) (lo : Nat) : BldRes w lo w.heap.size (.slice none 0 0) [] :=
  ⟨Nat.le_refl _, World.ownsRow_nil w lo _ 4, by intro g h; cases h⟩
theorem BldRes.none {g : Nat} {cs : Array Value} (h : Blk w g cs 57) (hcs : cs.size = 0) (hlo : lo ≤ g) (hhi : g < hi) (hs : hi ≤ w.heap.size) : BldRes w lo hi (.slice (some ⟨g, 0, Option.none⟩) 0 0) [] := by
  refine ⟨hs, ⟨rfl, .inr ⟨g, 0, cs, rfl, hlo, h, Nat.le_refl _, by unfold maxLen; omega, by omega, by simp [cellsRes]⟩⟩, ?_⟩
  intro g' hg'
  have : g = g' := by injection hg'
  omega
theorem BldRes.by (hb : Below w.heap.size w w') (h : BldRes w lo hi v ps) : BldRes w' lo hi v ps := by
  obtain ⟨hs, h1, h3⟩ := h
  exact ⟨Nat.le_trans hs hb.size, row_same h1 (fun g hg => hb.block g (by have := h3 g hg; omega)), h3⟩
theorem BldRes.past {lo' hi' : Nat} (hb : Within lo' hi' w w') (h : BldRes w lo hi v ps) (hd : hi' ≤ lo ∨ hi ≤ lo') : BldRes w' lo hi v ps := by
  obtain ⟨hs, h1, h3⟩ := h
  exact ⟨Nat.le_trans hs hb.size, row_same h1 (fun g hg => hb.block g (by have := h3 g hg; omega) (by have := h3 g hg; omega)), h3⟩
theorem BldRes.sized (h : BldRes w lo hi v ps) : ∃ a c, v = .slice a ps.length c := by
  obtain ⟨_, ⟨_, h1⟩, _⟩ := h
  rcases h1 with ⟨h1, h2⟩ | ⟨g, cap, cur, e1, _⟩
  · exact ⟨Option.none, 0, by rw [h1, h2]⟩
  · exact ⟨_, _, e1⟩
theorem BldRes.own (h : BldRes w lo hi v ps) : OwnRes w lo hi v ps := by
  obtain ⟨hs, ⟨hlen, h1⟩, h3⟩ := h
  rcases h1 with ⟨h1, hn⟩ | ⟨g, cap, cur, e1, e2, e3, e4, e5, e6, e7⟩
  · exact .inl ⟨_, _, h1, List.eq_nil_of_length_eq_zero hn⟩
  · have hcur : ∀ (j : Nat) u, (cellsRes ps)[j]? = some u → cur[j]? = some u := by
      intro j u hu
      rw [← e7] at hu
      have hj : j < ps.length * 4 := by
        have := (List.getElem?_eq_some_iff.1 hu).1
        rw [List.length_take] at this; omega
      rw [List.getElem?_take_of_lt hj] at hu
      simpa using hu
    refine .inr ⟨g, cap, cur, e1, h3 g (by rw [e1]; rfl), e4, e5, e3, fun i x hx => ?_⟩
    obtain ⟨q0, q1, q2, q3⟩ := cellsRes_get ps i x hx
    exact ⟨hcur _ _ q0, hcur _ _ q1, hcur _ _ q2, hcur _ _ q3⟩
end
theorem infoRes2 : (Tryz.prog.info? 57).map (fun i => (i.zero, i.size, i.bytes)) = some (some (.agg #[.int .i64 0, .int .i64 0, .int .i64 0, .int .i64 0]), 4, 32) := by kernel_rfl
theorem step_pushRes {ops : Array Oper} {o : Oper} {a : Act} {w : World} {K : Act → World → Prop} {Q : Exit → Act → World → Prop} {E : Prop} (hgd : o.guard = none) (s x : Operand)
    (ho : o.op = .call { callee := .builtin .append, args := #[s, x], argTypes := #[53, 53] })
    (lo hi : Nat) (v : Value) (ps : List Res) (hs : a.eval s = v) (hB : BldRes w lo hi v ps) (nb : Nat) (p : Res) (hx : a.eval x = .slice (some ⟨nb, 0, none⟩) 1 1)
    (hnb : Blk w nb #[.int .i64 p.a, .int .i64 p.b, .int .i64 p.num, .int .i64 p.den] 57) (hlo : lo ≤ hi) (hn : ps.length ≤ 1000)
    (hK : ∀ a' c' w', BldRes w' lo w'.heap.size (.slice a' (ps.length + 1) c') (ps ++ [p]) → Within lo hi w w' → K (a.put o.dst (.slice a' (ps.length + 1) c')) w') :
    if Region.wanted o (yielded ops a.tmps) = true then Oper.wp Tryz.prog o a w K Q else E := by
  obtain ⟨i0, hi0, hz0, hz1, hz2⟩ := info_parts infoRes2
  obtain ⟨hsz, h1, h3⟩ := hB
  refine step_append_lies w hgd s x 53 ho lo 57 i0 _ 4 32 Tryz.underlying53 hi0 hz0 hz1 hz2 rfl (by decide) v ps.length _ hs h1 ⟨nb, 0, none⟩ 1 1 [.int .i64 p.a, .int .i64 p.b, .int .i64 p.num, .int .i64 p.den] hx rfl (World.news_of_block (cs := #[.int .i64 p.a, .int .i64 p.b, .int .i64 p.num, .int .i64 p.den]) hnb) ?_ (by decide) (by unfold maxLen; omega) (by omega) (by omega) w.heap.size rfl ?_
  · intro u hu
    simp at hu
    rcases hu with rfl | rfl | rfl | rfl
    · rfl
    · rfl
    · rfl
    · rfl
  · intro g cap w' hrow hgrow hg hgl
    have hW : Within lo hi w w' := grown_within hgrow h3
    refine hK (some ⟨g, 0, none⟩) cap w' ⟨Nat.le_refl _, ?_, ?_⟩ hW
    · rw [List.length_append, List.length_singleton, cellsRes_push]; exact hrow
    · intro g' hg'
      have : g = g' := by injection hg'
      subst this
      rcases hg with h | h
      · have := h3 g h; omega
      · omega
theorem list_pushRes {ops : Array Oper} {rest : List Oper} {o : Oper} {a : Act} {w : World} {Q : Exit → Act → World → Prop} (hgd : o.guard = none) (s x : Operand)
    (ho : o.op = .call { callee := .builtin .append, args := #[s, x], argTypes := #[53, 53] })
    (lo hi : Nat) (v : Value) (ps : List Res) (hs : a.eval s = v) (hB : BldRes w lo hi v ps) (nb : Nat) (p : Res) (hx : a.eval x = .slice (some ⟨nb, 0, none⟩) 1 1)
    (hnb : Blk w nb #[.int .i64 p.a, .int .i64 p.b, .int .i64 p.num, .int .i64 p.den] 57) (hlo : lo ≤ hi) (hn : ps.length ≤ 1000)
    (hK : ∀ a' c' w', BldRes w' lo w'.heap.size (.slice a' (ps.length + 1) c') (ps ++ [p]) → Within lo hi w w' → wpList Tryz.prog ops Q rest (a.put o.dst (.slice a' (ps.length + 1) c')) w') : wpList Tryz.prog ops Q (o :: rest) a w :=
  wpList_plain hgd fun K hk => by
    have h := step_pushRes (ops := ops) (K := K) (Q := Q) (E := False) hgd s x ho lo hi v ps hs hB nb p hx hnb hlo hn (fun a' c' w' h1 h2 => hk _ _ (hK a' c' w' h1 h2))
    rwa [if_pos (by simp [Region.wanted, hgd])] at h
theorem ResBlk.own {w : World} {g : Nat} {xs : List Res} (h : ResBlk w g xs) (hm : xs.length ≤ 1048576) : OwnRes w g (g + 1) (.slice (some ⟨g, 0, none⟩) xs.length xs.length) xs := by
  obtain ⟨cs, h1, h2, h3⟩ := h
  exact .inr ⟨g, _, cs, rfl, ⟨Nat.le_refl _, Nat.lt_succ_self _⟩, Nat.le_refl _, by unfold maxLen; omega, h1, h3⟩
structure Nw where
  nodes : Int
  rs : List Res
def NwV (w : World) (v : Value) (x : Nw) : Prop := ∃ sv, v = .agg #[.int .i64 x.nodes, sv] ∧ ResSl w sv x.rs
def OwnNw (w : World) (lo hi : Nat) (v : Value) (x : Nw) : Prop := ∃ sv, v = .agg #[.int .i64 x.nodes, sv] ∧ OwnRes w lo hi sv x.rs
section
variable {w w' : World} {lo hi lo' hi' : Nat} {v : Value} {x : Nw}
theorem NwV.by (hb : Below w.heap.size w w') (h : NwV w v x) : NwV w' v x := by obtain ⟨s, e, a⟩ := h; exact ⟨s, e, a.by hb⟩
theorem NwV.sized (h : NwV w v x) : ∃ a c, v = .agg #[.int .i64 x.nodes, .slice a x.rs.length c] := by
  obtain ⟨s, e, a⟩ := h
  obtain ⟨b, c, rfl⟩ := a.len
  exact ⟨b, c, e⟩
theorem OwnNw.by (hb : Below w.heap.size w w') (h : OwnNw w lo hi v x) : OwnNw w' lo hi v x := by obtain ⟨s, e, a⟩ := h; exact ⟨s, e, a.by hb⟩
theorem OwnNw.past (hb : Within lo' hi' w w') (h : OwnNw w lo hi v x) (hd : hi ≤ lo' ∨ hi' ≤ lo) : OwnNw w' lo hi v x := by obtain ⟨s, e, a⟩ := h; exact ⟨s, e, a.past hb hd⟩
theorem OwnNw.wide (h : OwnNw w lo hi v x) (h1 : lo' ≤ lo) (h2 : hi ≤ hi') : OwnNw w lo' hi' v x := by obtain ⟨s, e, a⟩ := h; exact ⟨s, e, a.wide h1 h2⟩
theorem OwnNw.nw (h : OwnNw w lo hi v x) : NwV w v x := by obtain ⟨s, e, a⟩ := h; exact ⟨s, e, a.sl⟩
end
theorem RatSl.sized {w : World} {sv : Value} {xs : List Rt} (h : RatSl w sv xs) : ∃ a c, sv = .slice a xs.length c := h.len
def mrgF (L : Nat → Nat) (p q : Nat) : Nat → Nat := fun v => if L v = max (L p) (L q) then min (L p) (L q) else L v
def selF (E : Nat → Nat × Nat) (on : Nat → Bool) : Nat → Nat → Nat
  | 0 => fun v => v
  | k + 1 => if on k = true then mrgF (selF E on k) (E k).1 (E k).2 else selF E on k
theorem selF_on {E : Nat → Nat × Nat} {on : Nat → Bool} {k : Nat} (h : on k = true) : selF E on (k + 1) = mrgF (selF E on k) (E k).1 (E k).2 := by simp only [selF, if_pos h]
theorem selF_off {E : Nat → Nat × Nat} {on : Nat → Bool} {k : Nat} (h : ¬ on k = true) : selF E on (k + 1) = selF E on k := by simp only [selF, if_neg h]
theorem mrgF_same {L : Nat → Nat} {p q : Nat} (h : L p = L q) : mrgF L p q = L := by
  funext v; unfold mrgF; split <;> omega
theorem mrgF_keep {L : Nat → Nat} {p q u v : Nat} (h : L u = L v) : mrgF L p q u = mrgF L p q v := by unfold mrgF; rw [h]
theorem mrgF_ends (L : Nat → Nat) (p q : Nat) : mrgF L p q p = mrgF L p q q := by
  unfold mrgF
  by_cases h1 : L p = max (L p) (L q) <;> by_cases h2 : L q = max (L p) (L q)
  · rw [if_pos h1, if_pos h2]
  · rw [if_pos h1, if_neg h2]; omega
  · rw [if_neg h1, if_pos h2]; omega
  · omega
theorem selF_edge {E : Nat → Nat × Nat} {on : Nat → Bool} {m i : Nat} (hi : i < m) (h : on i = true) : selF E on m (E i).1 = selF E on m (E i).2 := by
  induction m with
  | zero => omega
  | succ k ih =>
    by_cases hk : on k = true
    · rw [selF_on hk]
      by_cases e : i = k
      · subst e; exact mrgF_ends _ _ _
      · exact mrgF_keep (ih (by omega))
    · rw [selF_off hk]
      exact ih (by
        rcases Nat.lt_or_ge i k with h' | h'
        · exact h'
        · have : i = k := by omega
          subst this; exact absurd h hk)
theorem selF_min {α : Type} {E : Nat → Nat × Nat} {on : Nat → Bool} (f : Nat → α) {m : Nat} (h : ∀ i, i < m → on i = true → f (E i).1 = f (E i).2) : ∀ u v, selF E on m u = selF E on m v → f u = f v := by
  induction m with
  | zero => intro u v e; simp only [selF] at e; rw [e]
  | succ k ih =>
    have ih' := ih (fun i hi => h i (by omega))
    intro u v e
    by_cases hk : on k = true
    · rw [selF_on hk] at e
      have he := h k (by omega) hk
      unfold mrgF at e
      by_cases h1 : selF E on k u = max (selF E on k (E k).1) (selF E on k (E k).2) <;> by_cases h2 : selF E on k v = max (selF E on k (E k).1) (selF E on k (E k).2)
      · exact ih' u v (h1.trans h2.symm)
      · rw [if_pos h1, if_neg h2] at e
        rcases Nat.le_total (selF E on k (E k).1) (selF E on k (E k).2) with hl | hl
        · rw [ih' u (E k).2 (by omega), ← ih' (E k).1 v (by omega), he]
        · rw [ih' u (E k).1 (by omega), ← ih' (E k).2 v (by omega), he]
      · rw [if_neg h1, if_pos h2] at e
        rcases Nat.le_total (selF E on k (E k).1) (selF E on k (E k).2) with hl | hl
        · rw [ih' v (E k).2 (by omega), ← ih' (E k).1 u (by omega), he]
        · rw [ih' v (E k).1 (by omega), ← ih' (E k).2 u (by omega), he]
      · rw [if_neg h1, if_neg h2] at e
        exact ih' u v e
    · rw [selF_off hk] at e
      exact ih' u v e
theorem selF_facts (E : Nat → Nat × Nat) (on : Nat → Bool) (m : Nat) : ∀ v, selF E on m (selF E on m v) = selF E on m v ∧ selF E on m v ≤ v := by
  induction m with
  | zero => intro v; exact ⟨rfl, Nat.le_refl _⟩
  | succ k ih =>
    by_cases hk : on k = true
    · rw [selF_on hk]
      intro v
      have i1 := ih v
      have i2 := (ih (E k).1).1
      have i3 := (ih (E k).2).1
      unfold mrgF
      by_cases h1 : selF E on k v = max (selF E on k (E k).1) (selF E on k (E k).2)
      · simp only [if_pos h1]
        have e : selF E on k (min (selF E on k (E k).1) (selF E on k (E k).2)) = min (selF E on k (E k).1) (selF E on k (E k).2) := by
          rcases Nat.le_total (selF E on k (E k).1) (selF E on k (E k).2) with hl | hl
          · rw [Nat.min_eq_left hl]; exact i2
          · rw [Nat.min_eq_right hl]; exact i3
        rw [e]
        refine ⟨?_, by omega⟩
        split <;> omega
      · simp only [if_neg h1, i1.1]
        exact ⟨trivial, i1.2⟩
    · rw [selF_off hk]; exact ih
theorem selF_idem (E : Nat → Nat × Nat) (on : Nat → Bool) (m v : Nat) : selF E on m (selF E on m v) = selF E on m v := (selF_facts E on m v).1
theorem selF_le (E : Nat → Nat × Nat) (on : Nat → Bool) (m v : Nat) : selF E on m v ≤ v := (selF_facts E on m v).2
theorem selF_eq {E E' : Nat → Nat × Nat} {on on' : Nat → Bool} {m m' : Nat} (h1 : ∀ i, i < m → on i = true → selF E' on' m' (E i).1 = selF E' on' m' (E i).2) (h2 : ∀ i, i < m' → on' i = true → selF E on m (E' i).1 = selF E on m (E' i).2) : selF E on m = selF E' on' m' := by
  funext v
  have a := selF_min (E := E) (on := on) (m := m) (selF E' on' m') h1 _ _ (selF_idem E on m v)
  have b := selF_min (E := E') (on := on') (m := m') (selF E on m) h2 _ _ (selF_idem E' on' m' v)
  have c := selF_le E' on' m' (selF E on m v)
  have d := selF_le E on m (selF E' on' m' v)
  omega
def rootsF (L : Nat → Nat) : Nat → Nat
  | 0 => 0
  | n + 1 => rootsF L n + if L n = n then 1 else 0
def cntF (on : Nat → Bool) : Nat → Nat
  | 0 => 0
  | k + 1 => cntF on k + if on k = true then 1 else 0
theorem cntF_le (on : Nat → Bool) (m : Nat) : cntF on m ≤ m := by
  induction m with
  | zero => exact Nat.le_refl _
  | succ k ih => simp only [cntF]; split <;> omega
theorem rootsF_le (L : Nat → Nat) (n : Nat) : rootsF L n ≤ n := by
  induction n with
  | zero => exact Nat.le_refl _
  | succ k ih => simp only [rootsF]; split <;> omega
theorem rootsF_congr {L L' : Nat → Nat} {n : Nat} (h : ∀ v, v < n → (L' v = v ↔ L v = v)) : rootsF L' n = rootsF L n := by
  induction n with
  | zero => rfl
  | succ k ih =>
    simp only [rootsF]
    rw [ih (fun v hv => h v (by omega))]
    have := h k (by omega)
    by_cases e : L k = k
    · rw [if_pos e, if_pos (this.2 e)]
    · rw [if_neg e, if_neg (fun q => e (this.1 q))]
theorem rootsF_less {L L' : Nat → Nat} {M n : Nat} (hM : L M = M) (hn : M < n) (h : ∀ v, (L' v = v ↔ L v = v ∧ v ≠ M)) : rootsF L' n + 1 = rootsF L n := by
  induction n with
  | zero => omega
  | succ k ih =>
    simp only [rootsF]
    have hk := h k
    by_cases e : M = k
    · subst e
      rw [rootsF_congr (L := L) (L' := L') (fun v hv => by rw [h v]; exact ⟨fun q => q.1, fun q => ⟨q, by omega⟩⟩), if_pos hM, if_neg (fun q => (hk.1 q).2 rfl)]
    · have := ih (by omega)
      by_cases e2 : L k = k
      · rw [if_pos e2, if_pos (hk.2 ⟨e2, fun q => e q.symm⟩)]; omega
      · rw [if_neg e2, if_neg (fun q => e2 (hk.1 q).1)]; omega
theorem roots_id (n : Nat) : rootsF (fun v => v) n = n := by
  induction n with
  | zero => rfl
  | succ k ih => simp only [rootsF, ih, if_true]
theorem mrgF_roots {L : Nat → Nat} {p q n : Nat} (hL : ∀ v, L (L v) = L v ∧ L v ≤ v) (hp : p < n) (hq : q < n) (h : L p ≠ L q) : rootsF (mrgF L p q) n + 1 = rootsF L n := by
  have ip := hL p
  have iq := hL q
  have hM : L (max (L p) (L q)) = max (L p) (L q) := by
    rcases Nat.le_total (L p) (L q) with hl | hl
    · rw [Nat.max_eq_right hl]; exact iq.1
    · rw [Nat.max_eq_left hl]; exact ip.1
  have hm : L (min (L p) (L q)) = min (L p) (L q) := by
    rcases Nat.le_total (L p) (L q) with hl | hl
    · rw [Nat.min_eq_left hl]; exact ip.1
    · rw [Nat.min_eq_right hl]; exact iq.1
  refine rootsF_less hM (by omega) (fun v => ?_)
  unfold mrgF
  by_cases e : L v = max (L p) (L q)
  · rw [if_pos e]
    constructor
    · intro e2; rw [← e2, hm] at e; omega
    · rintro ⟨e2, e3⟩; omega
  · rw [if_neg e]
    constructor
    · intro e2; exact ⟨e2, fun e3 => e (by rw [e3]; exact hM)⟩
    · intro e2; exact e2.1
theorem roots_step {E : Nat → Nat × Nat} {on : Nat → Bool} {k n : Nat} (hE : (E k).1 < n ∧ (E k).2 < n) : rootsF (selF E on k) n ≤ rootsF (selF E on (k + 1)) n + (if on k = true then 1 else 0) := by
  by_cases hk : on k = true
  · rw [selF_on hk, if_pos hk]
    by_cases e : selF E on k (E k).1 = selF E on k (E k).2
    · rw [mrgF_same e]; omega
    · have := mrgF_roots (selF_facts E on k) hE.1 hE.2 e; omega
  · rw [selF_off hk, if_neg hk]; omega
theorem roots_ge {E : Nat → Nat × Nat} (on : Nat → Bool) {m n : Nat} (hE : ∀ i, i < m → (E i).1 < n ∧ (E i).2 < n) : n ≤ rootsF (selF E on m) n + cntF on m := by
  induction m with
  | zero => simp only [cntF, selF, roots_id]; omega
  | succ k ih =>
    have := ih (fun i hi => hE i (by omega))
    have := roots_step (E := E) (on := on) (hE k (by omega))
    simp only [cntF]; omega
def offB (on : Nat → Bool) (j : Nat) : Nat → Bool := fun i => on i && !(i == j)
def putB (on : Nat → Bool) (j : Nat) : Nat → Bool := fun i => on i || i == j
theorem cnt_off {on : Nat → Bool} {m j : Nat} (hj : j < m) (h : on j = true) : cntF (offB on j) m + 1 = cntF on m := by
  have low : ∀ n, n ≤ j → cntF (offB on j) n = cntF on n := by
    intro n hn
    induction n with
    | zero => rfl
    | succ k ih =>
      simp only [cntF, ih (by omega)]
      have : offB on j k = on k := by unfold offB; have : (k == j) = false := by simp; omega
                                      rw [this]; simp
      rw [this]
  induction m with
  | zero => omega
  | succ k ih =>
    simp only [cntF]
    by_cases e : j = k
    · subst e
      rw [low j (Nat.le_refl _), if_pos h]
      have : offB on j j = false := by simp [offB]
      rw [this]; simp
    · have hk := ih (by omega)
      have : offB on j k = on k := by unfold offB; have : (k == j) = false := by simp; omega
                                      rw [this]; simp
      rw [this]; omega
theorem forest_apart {E : Nat → Nat × Nat} {on : Nat → Bool} {m n j : Nat} (hE : ∀ i, i < m → (E i).1 < n ∧ (E i).2 < n) (hF : rootsF (selF E on m) n + cntF on m = n) (hj : j < m) (h : on j = true) : selF E (offB on j) m (E j).1 ≠ selF E (offB on j) m (E j).2 := by
  intro e
  have hs : selF E (offB on j) m = selF E on m := by
    refine selF_eq (fun i hi ho => selF_edge hi (by unfold offB at ho; simp at ho; exact ho.1)) (fun i hi ho => ?_)
    by_cases ei : i = j
    · subst ei; exact e
    · exact selF_edge hi (by unfold offB; simp [ho, ei])
  have a := roots_ge (E := E) (offB on j) hE
  have b := cnt_off hj h
  rw [hs] at a
  omega
def treeOn (E : Nat → Nat × Nat) (on : Nat → Bool) : Nat → Bool := fun i => on i && !(selF E on i (E i).1 == selF E on i (E i).2)
theorem tree_sel (E : Nat → Nat × Nat) (on : Nat → Bool) (m : Nat) : selF E (treeOn E on) m = selF E on m := by
  induction m with
  | zero => rfl
  | succ k ih =>
    by_cases hk : on k = true
    · rw [selF_on hk]
      by_cases e : selF E on k (E k).1 = selF E on k (E k).2
      · rw [mrgF_same e, selF_off (by simp [treeOn, hk, e]), ih]
      · rw [selF_on (by simp [treeOn, hk, e]), ih]
    · rw [selF_off hk, selF_off (by simp [treeOn, hk]), ih]
theorem tree_cnt {E : Nat → Nat × Nat} {on : Nat → Bool} {m n : Nat} (hE : ∀ i, i < m → (E i).1 < n ∧ (E i).2 < n) : rootsF (selF E on m) n + cntF (treeOn E on) m = n := by
  induction m with
  | zero => simp only [cntF, selF, roots_id]; omega
  | succ k ih =>
    have ih' := ih (fun i hi => hE i (by omega))
    simp only [cntF]
    by_cases hk : on k = true
    · rw [selF_on hk]
      by_cases e : selF E on k (E k).1 = selF E on k (E k).2
      · rw [mrgF_same e, if_neg (by simp [treeOn, hk, e])]; omega
      · rw [if_pos (by simp [treeOn, hk, e])]
        have := mrgF_roots (selF_facts E on k) (hE k (by omega)).1 (hE k (by omega)).2 e
        omega
    · rw [selF_off hk, if_neg (by simp [treeOn, hk])]; omega
def numOf (on : Nat → Bool) : Nat → Nat
  | 0 => 0
  | k + 1 => numOf on k + if on k = true then 2 ^ k else 0
theorem numOf_lt (on : Nat → Bool) (m : Nat) : numOf on m < 2 ^ m := by
  induction m with
  | zero => simp [numOf]
  | succ k ih => simp only [numOf, Nat.pow_succ]; split <;> omega
theorem numOf_bit (on : Nat → Bool) {m i : Nat} (hi : i < m) : (numOf on m).testBit i = on i := by
  induction m with
  | zero => omega
  | succ k ih =>
    simp only [numOf]
    have hl := numOf_lt on k
    by_cases hk : on k = true
    · rw [if_pos hk, Nat.add_comm]
      by_cases e : i = k
      · subst e
        rw [Nat.testBit_two_pow_add_eq, hk, Nat.testBit_lt_two_pow hl]; rfl
      · rw [Nat.testBit_two_pow_add_gt (by omega)]
        exact ih (by omega)
    · rw [if_neg hk, Nat.add_zero]
      by_cases e : i = k
      · subst e
        rw [Nat.testBit_lt_two_pow hl]; simp at hk; exact hk.symm
      · exact ih (by omega)
theorem selF_congr {E : Nat → Nat × Nat} {on on' : Nat → Bool} {m : Nat} (h : ∀ i, i < m → on i = on' i) : selF E on m = selF E on' m := by
  induction m with
  | zero => rfl
  | succ k ih =>
    have hk := h k (by omega)
    have ik := ih (fun i hi => h i (by omega))
    by_cases e : on k = true
    · rw [selF_on e, selF_on (hk ▸ e), ik]
    · rw [selF_off e, selF_off (hk ▸ e), ik]
theorem cntF_congr {on on' : Nat → Bool} {m : Nat} (h : ∀ i, i < m → on i = on' i) : cntF on m = cntF on' m := by
  induction m with
  | zero => rfl
  | succ k ih => simp only [cntF, ih (fun i hi => h i (by omega)), h k (by omega)]
/- Weights of forests and their sums: plain. -/
def sumF (f : Nat → Int) : Nat → Int
  | 0 => 0
  | k + 1 => sumF f k + f k
theorem sumF_congr {f g : Nat → Int} {k : Nat} (h : ∀ i, i < k → f i = g i) : sumF f k = sumF g k := by
  induction k with
  | zero => rfl
  | succ k ih => simp only [sumF, ih (fun i hi => h i (by omega)), h k (by omega)]
theorem sumF_nn {f : Nat → Int} {k : Nat} (h : ∀ i, i < k → 0 ≤ f i) : 0 ≤ sumF f k := by
  induction k with
  | zero => simp [sumF]
  | succ k ih =>
    have := ih (fun i hi => h i (by omega))
    have := h k (by omega)
    simp only [sumF]; omega
theorem sumF_le {f : Nat → Int} {B : Int} {k : Nat} (h : ∀ i, i < k → f i ≤ B) : sumF f k ≤ k * B := by
  induction k with
  | zero => simp [sumF]
  | succ k ih =>
    have := ih (fun i hi => h i (by omega))
    have := h k (by omega)
    simp only [sumF]
    have e : ((k + 1 : Nat) : Int) * B = k * B + B := by rw [Int.natCast_succ, Int.add_mul, Int.one_mul]
    rw [e]; omega
theorem sumF_pos {f : Nat → Int} {k j : Nat} (h : ∀ i, i < k → 0 ≤ f i) (hj : j < k) (hp : 0 < f j) : 0 < sumF f k := by
  induction k with
  | zero => omega
  | succ k ih =>
    simp only [sumF]
    have h0 := h k (by omega)
    by_cases e : j = k
    · subst e
      have := sumF_nn (f := f) (k := j) (fun i hi => h i (by omega))
      omega
    · have := ih (fun i hi => h i (by omega)) (by omega); omega
theorem sumF_sub (f g : Nat → Int) (k : Nat) : sumF f k - sumF g k = sumF (fun i => f i - g i) k := by
  induction k with
  | zero => simp [sumF]
  | succ k ih => simp only [sumF, ← ih]; omega
theorem sumF_add (f g : Nat → Int) (k : Nat) : sumF f k + sumF g k = sumF (fun i => f i + g i) k := by
  induction k with
  | zero => simp [sumF]
  | succ k ih => simp only [sumF, ← ih]; omega
theorem sumF_mul (f : Nat → Int) (c : Int) (k : Nat) : c * sumF f k = sumF (fun i => c * f i) k := by
  induction k with
  | zero => simp [sumF]
  | succ k ih => simp only [sumF, ← ih, Int.mul_add]
theorem sumF_zero (k : Nat) : sumF (fun _ => 0) k = 0 := by
  induction k with
  | zero => rfl
  | succ k ih => simp only [sumF, ih]; omega
def wtF (nm dn : Nat → Int) (on : Nat → Bool) : Nat → Int
  | 0 => 1
  | k + 1 => wtF nm dn on k * (if on k = true then dn k else nm k)
def mxF (nm dn : Nat → Int) : Nat → Int
  | 0 => 1
  | k + 1 => mxF nm dn k * max (nm k) (dn k)
theorem mul_mono {a b c d : Int} (h0 : 0 ≤ a) (h1 : a ≤ b) (h2 : 0 ≤ c) (h3 : c ≤ d) : a * c ≤ b * d :=
  Int.le_trans (Int.mul_le_mul_of_nonneg_left h3 h0) (Int.mul_le_mul_of_nonneg_right h1 (by omega))
theorem wtF_bd {nm dn : Nat → Int} (on : Nat → Bool) {k : Nat} (h : ∀ i, i < k → 1 ≤ nm i ∧ 1 ≤ dn i) : 1 ≤ wtF nm dn on k ∧ wtF nm dn on k ≤ mxF nm dn k := by
  induction k with
  | zero => simp [wtF, mxF]
  | succ k ih =>
    have ⟨a, b⟩ := ih (fun i hi => h i (by omega))
    have ⟨c, d⟩ := h k (by omega)
    simp only [wtF, mxF]
    obtain ⟨z, hz⟩ : ∃ z, (if on k = true then dn k else nm k) = z := ⟨_, rfl⟩
    rw [hz]
    have h1 : 1 ≤ z ∧ z ≤ max (nm k) (dn k) := by rw [← hz]; split <;> omega
    have p := mul_mono (a := 1) (b := wtF nm dn on k) (c := 1) (d := z) (by omega) a (by omega) h1.1
    exact ⟨by omega, mul_mono (by omega) b (by omega) h1.2⟩
theorem mxF_mono {nm dn : Nat → Int} {k m : Nat} (h : ∀ i, i < m → 1 ≤ nm i ∧ 1 ≤ dn i) (hk : k ≤ m) : mxF nm dn k ≤ mxF nm dn m ∧ 1 ≤ mxF nm dn k := by
  induction m with
  | zero => have : k = 0 := by omega
            subst this; simp [mxF]
  | succ m ih =>
    by_cases e : k = m + 1
    · subst e
      have q := wtF_bd (nm := nm) (dn := dn) (fun _ => true) h
      exact ⟨Int.le_refl _, by omega⟩
    · have ⟨a, b⟩ := ih (fun i hi => h i (by omega)) (by omega)
      refine ⟨?_, b⟩
      simp only [mxF]
      have ⟨c, d⟩ := h m (by omega)
      have p := mul_mono (a := mxF nm dn m) (b := mxF nm dn m) (c := 1) (d := max (nm m) (dn m)) (by omega) (Int.le_refl _) (by omega) (by omega)
      omega
def wxF (nm dn : Nat → Int) (on : Nat → Bool) (j : Nat) : Nat → Int
  | 0 => 1
  | k + 1 => wxF nm dn on j k * (if k = j then 1 else if on k = true then dn k else nm k)
theorem wxF_low {nm dn : Nat → Int} {on : Nat → Bool} {j k : Nat} (h : k ≤ j) : wxF nm dn on j k = wtF nm dn on k := by
  induction k with
  | zero => rfl
  | succ k ih => simp only [wxF, wtF, ih (by omega), if_neg (show ¬ k = j by omega)]
theorem wxF_wt {nm dn : Nat → Int} {on : Nat → Bool} {j m : Nat} (h : j < m) : wtF nm dn on m = wxF nm dn on j m * (if on j = true then dn j else nm j) := by
  induction m with
  | zero => omega
  | succ k ih =>
    simp only [wxF, wtF]
    by_cases e : k = j
    · subst e
      rw [if_pos rfl, Int.mul_one, wxF_low (Nat.le_refl _)]
    · rw [if_neg e, ih (by omega), Int.mul_assoc, Int.mul_assoc, Int.mul_comm (if on j = true then dn j else nm j)]
theorem wxF_congr {nm dn : Nat → Int} {on on' : Nat → Bool} {j m : Nat} (h : ∀ i, i < m → i ≠ j → on i = on' i) : wxF nm dn on j m = wxF nm dn on' j m := by
  induction m with
  | zero => rfl
  | succ k ih =>
    simp only [wxF, ih (fun i hi => h i (by omega))]
    by_cases e : k = j
    · rw [if_pos e, if_pos e]
    · rw [if_neg e, if_neg e, h k (by omega) e]
theorem wt_put {nm dn : Nat → Int} {on : Nat → Bool} {j m : Nat} (h : j < m) : wtF nm dn (putB on j) m = wxF nm dn on j m * dn j := by
  rw [wxF_wt h, if_pos (by simp [putB])]
  congr 1
  exact wxF_congr (fun i hi hne => by simp [putB, hne])
theorem wt_off {nm dn : Nat → Int} {on : Nat → Bool} {j m : Nat} (h : j < m) (ho : on j = false) : wtF nm dn on m = wxF nm dn on j m * nm j := by
  rw [wxF_wt h, if_neg (by simp [ho])]
structure Pn where
  n : Nat
  m : Nat
  E : Nat → Nat × Nat
  nm : Nat → Int
  dn : Nat → Int
def bit (s : Nat) : Nat → Bool := fun i => s.testBit i
namespace Pn
variable (P : Pn)
def L (s : Nat) : Nat → Nat := selF P.E (bit s) P.m
def all : Nat → Nat := selF P.E (fun _ => true) P.m
def wt (s : Nat) : Int := wtF P.nm P.dn (bit s) P.m
def cnt (s : Nat) : Nat := cntF (bit s) P.m
def roots (s : Nat) : Nat := rootsF (P.L s) P.n
def least : Nat := rootsF P.all P.n
def treeB (s : Nat) : Bool := decide (P.roots s + P.cnt s = P.n) && decide (P.roots s = P.least)
def twoB (a b v : Nat) (s : Nat) : Bool := decide (P.roots s + P.cnt s = P.n) && (decide (P.roots s = P.least + 1) && (!(P.L s a == P.L s b) && P.L s v == P.L s a))
def tF (s : Nat) : Int := if P.treeB s = true then P.wt s else 0
def gF (a b v : Nat) (s : Nat) : Int := if P.twoB a b v s = true then P.wt s else 0
def tot : Int := sumF P.tF (2 ^ P.m)
def top (a b v : Nat) : Int := sumF (P.gF a b v) (2 ^ P.m)
structure Ok : Prop where
  ends : ∀ i, i < P.m → (P.E i).1 < P.n ∧ (P.E i).2 < P.n
  pos : ∀ i, i < P.m → 1 ≤ P.nm i ∧ 1 ≤ P.dn i
variable {P : Pn} (h : P.Ok)
include h
theorem wt_bd (s : Nat) : 1 ≤ P.wt s ∧ P.wt s ≤ mxF P.nm P.dn P.m := wtF_bd _ h.pos
theorem tF_bd (s : Nat) : 0 ≤ P.tF s ∧ P.tF s ≤ mxF P.nm P.dn P.m := by
  have := wt_bd h s
  unfold tF; split <;> omega
theorem gF_bd (a b v s : Nat) : 0 ≤ P.gF a b v s ∧ P.gF a b v s ≤ mxF P.nm P.dn P.m := by
  have := wt_bd h s
  unfold gF; split <;> omega
theorem tot_pos : 0 < P.tot := by
  have hl := numOf_lt (treeOn P.E (fun _ => true)) P.m
  refine sumF_pos (j := numOf (treeOn P.E (fun _ => true)) P.m) (fun i _ => (tF_bd h i).1) hl ?_
  have hb : ∀ i, i < P.m → bit (numOf (treeOn P.E (fun _ => true)) P.m) i = treeOn P.E (fun _ => true) i := fun i hi => numOf_bit _ hi
  have e1 : P.L (numOf (treeOn P.E (fun _ => true)) P.m) = P.all := by
    unfold L all; rw [selF_congr hb, tree_sel]
  have e2 := tree_cnt (E := P.E) (on := fun _ => true) h.ends
  have e3 : P.cnt (numOf (treeOn P.E (fun _ => true)) P.m) = cntF (treeOn P.E (fun _ => true)) P.m := cntF_congr hb
  have e4 : P.roots (numOf (treeOn P.E (fun _ => true)) P.m) = P.least := by unfold roots least; rw [e1]
  have := (wt_bd h (numOf (treeOn P.E (fun _ => true)) P.m)).1
  unfold tF treeB
  rw [e3, e4]
  have e5 : P.least + cntF (treeOn P.E (fun _ => true)) P.m = P.n := e2
  rw [e5]
  simp
  omega
theorem tot_le : P.tot ≤ (2 ^ P.m : Nat) * mxF P.nm P.dn P.m := sumF_le (fun s _ => (tF_bd h s).2)
theorem top_bd (a b v : Nat) : 0 ≤ P.top a b v ∧ P.top a b v ≤ (2 ^ P.m : Nat) * mxF P.nm P.dn P.m := ⟨sumF_nn (fun s _ => (gF_bd h a b v s).1), sumF_le (fun s _ => (gF_bd h a b v s).2)⟩
omit h
theorem L_edge (P : Pn) {s j : Nat} (hj : j < P.m) (hb : bit s j = true) : P.L s (P.E j).1 = P.L s (P.E j).2 := selF_edge hj hb
theorem two_ends {a b s j : Nat} (hj : j < P.m) (hb : bit s j = true) : P.gF a b (P.E j).1 s = P.gF a b (P.E j).2 s := by
  unfold gF twoB; rw [L_edge P hj hb]
def dF (P : Pn) (a b j s : Nat) : Int := if bit s j = true then 0 else ((if P.twoB a b (P.E j).1 s = true then 1 else 0) - (if P.twoB a b (P.E j).2 s = true then 1 else 0)) * wxF P.nm P.dn (bit s) j P.m
def dif (P : Pn) (a b j : Nat) : Int := sumF (P.dF a b j) (2 ^ P.m)
theorem gF_dif {a b j s : Nat} (hj : j < P.m) : P.gF a b (P.E j).1 s - P.gF a b (P.E j).2 s = P.nm j * P.dF a b j s := by
  by_cases hb : bit s j = true
  · rw [two_ends hj hb]; unfold dF; rw [if_pos hb]; omega
  · have e := wt_off (nm := P.nm) (dn := P.dn) (on := bit s) hj (by simpa using hb)
    unfold gF dF
    rw [if_neg hb]
    have e' : P.wt s = P.nm j * wxF P.nm P.dn (bit s) j P.m := by rw [Int.mul_comm]; exact e
    rw [e']
    split <;> split <;> simp [Int.mul_neg]
theorem top_dif {a b j : Nat} (hj : j < P.m) : P.top a b (P.E j).1 - P.top a b (P.E j).2 = P.nm j * P.dif a b j := by
  unfold top dif
  rw [sumF_sub, sumF_mul]
  exact sumF_congr (fun s _ => gF_dif hj)
include h
theorem dif_bd (a b : Nat) {j : Nat} (hj : j < P.m) : -((2 ^ P.m : Nat) * mxF P.nm P.dn P.m) ≤ P.dif a b j * P.dn j ∧ P.dif a b j * P.dn j ≤ (2 ^ P.m : Nat) * mxF P.nm P.dn P.m := by
  have each : ∀ s, -(mxF P.nm P.dn P.m) ≤ P.dn j * P.dF a b j s ∧ P.dn j * P.dF a b j s ≤ mxF P.nm P.dn P.m := by
    intro s
    have q := wtF_bd (nm := P.nm) (dn := P.dn) (putB (bit s) j) h.pos
    rw [wt_put hj, Int.mul_comm] at q
    unfold dF
    split
    · omega
    · split <;> split <;> simp [Int.mul_neg] <;> omega
  have e : P.dif a b j * P.dn j = sumF (fun s => P.dn j * P.dF a b j s) (2 ^ P.m) := by
    rw [Int.mul_comm]; unfold dif; rw [sumF_mul]
  rw [e]
  refine ⟨?_, sumF_le (fun s _ => (each s).2)⟩
  have q := sumF_le (f := fun s => (-1) * (P.dn j * P.dF a b j s)) (B := mxF P.nm P.dn P.m) (k := 2 ^ P.m) (fun s _ => by have := (each s).1; omega)
  rw [← sumF_mul] at q
  omega
end Pn
/- A network's part, and what the program counts of it: plain. -/
def cnB (p : Nat → Bool) : Nat → Nat
  | 0 => 0
  | n + 1 => cnB p n + if p n = true then 1 else 0
theorem cnB_congr {p q : Nat → Bool} {n : Nat} (h : ∀ v, v < n → p v = q v) : cnB p n = cnB q n := by
  induction n with
  | zero => rfl
  | succ k ih => simp only [cnB, ih (fun v hv => h v (by omega)), h k (by omega)]
theorem cnB_split (p q : Nat → Bool) (n : Nat) : cnB p n = cnB (fun v => p v && q v) n + cnB (fun v => p v && !q v) n := by
  induction n with
  | zero => rfl
  | succ k ih =>
    simp only [cnB, ih]
    by_cases hp : p k = true <;> by_cases hq : q k = true <;> simp [hp, hq] <;> omega
theorem cnB_true (n : Nat) : cnB (fun _ => true) n = n := by
  induction n with
  | zero => rfl
  | succ k ih => simp only [cnB, ih]; simp
theorem cnB_none {p : Nat → Bool} {n : Nat} (h : ∀ v, v < n → p v = false) : cnB p n = 0 := by
  induction n with
  | zero => rfl
  | succ k ih => simp only [cnB, ih (fun v hv => h v (by omega)), h k (by omega)]; simp
theorem cnB_one {p : Nat → Bool} {n r : Nat} (hr : r < n) (h : ∀ v, v < n → (p v = true ↔ v = r)) : cnB p n = 1 := by
  induction n with
  | zero => omega
  | succ k ih =>
    simp only [cnB]
    by_cases e : r = k
    · subst e
      rw [cnB_none (fun v hv => by
        have := h v (by omega)
        cases hp : p v with
        | false => rfl
        | true => have := this.1 hp; omega), if_pos ((h r (by omega)).2 rfl)]
    · rw [ih (by omega) (fun v hv => h v (by omega)), if_neg (fun q => e ((h k (by omega)).1 q).symm)]
theorem cnB_roots (L : Nat → Nat) (n : Nat) : rootsF L n = cnB (fun v => decide (L v = v)) n := by
  induction n with
  | zero => rfl
  | succ k ih => simp only [rootsF, cnB, ih, decide_eq_true_eq]
def edg (rs : List Res) (i : Nat) : Nat × Nat := match rs[i]? with | some r => (r.a.toNat, r.b.toNat) | none => (0, 0)
def rnm (rs : List Res) (i : Nat) : Int := match rs[i]? with | some r => r.num | none => 1
def rdn (rs : List Res) (i : Nat) : Int := match rs[i]? with | some r => r.den | none => 1
theorem edg_at {rs : List Res} {i : Nat} {r : Res} (h : rs[i]? = some r) : edg rs i = (r.a.toNat, r.b.toNat) := by simp [edg, h]
theorem rnm_at {rs : List Res} {i : Nat} {r : Res} (h : rs[i]? = some r) : rnm rs i = r.num := by simp [rnm, h]
theorem rdn_at {rs : List Res} {i : Nat} {r : Res} (h : rs[i]? = some r) : rdn rs i = r.den := by simp [rdn, h]
def netP (n : Nat) (rs : List Res) : Pn := ⟨n, rs.length, edg rs, rnm rs, rdn rs⟩
def allL (rs : List Res) : Nat → Nat := selF (edg rs) (fun _ => true) rs.length
def partR (rs : List Res) (a : Nat) : List Res := rs.filter (fun r => decide (allL rs r.a.toNat = allL rs a))
def parP (n : Nat) (rs : List Res) (a : Nat) : Pn := netP n (partR rs a)
theorem mem_part {rs : List Res} {a : Nat} {r : Res} : r ∈ partR rs a ↔ r ∈ rs ∧ allL rs r.a.toNat = allL rs a := by simp [partR]
theorem part_len (rs : List Res) (a : Nat) : (partR rs a).length ≤ rs.length := List.length_filter_le _ _
theorem all_edge {rs : List Res} {r : Res} (h : r ∈ rs) : allL rs r.a.toNat = allL rs r.b.toNat := by
  obtain ⟨i, hi, e⟩ := List.getElem_of_mem h
  have := selF_edge (E := edg rs) (on := fun _ => true) (m := rs.length) (i := i) hi rfl
  rw [edg_at (by rw [List.getElem?_eq_getElem hi, e])] at this
  exact this
def mprod (rs : List Res) : Int := rs.foldl (fun p r => p * max r.num r.den) 1
theorem mprod_snoc (rs : List Res) (r : Res) : mprod (rs ++ [r]) = mprod rs * max r.num r.den := by simp [mprod, List.foldl_append]
theorem mxF_take (rs : List Res) {k : Nat} (h : k ≤ rs.length) : mxF (rnm rs) (rdn rs) k = mprod (rs.take k) := by
  induction k with
  | zero => rfl
  | succ k ih =>
    have hk : rs[k]? = some rs[k] := List.getElem?_eq_getElem (by omega)
    rw [List.take_add_one, hk]
    show mxF (rnm rs) (rdn rs) k * max (rnm rs k) (rdn rs k) = mprod (rs.take k ++ [rs[k]])
    rw [mprod_snoc, ih (by omega), rnm_at hk, rdn_at hk]
theorem mxF_all (rs : List Res) : mxF (rnm rs) (rdn rs) rs.length = mprod rs := by rw [mxF_take rs (Nat.le_refl _), List.take_length]
theorem ediv2 (a b c : Int) (hb : 0 ≤ b) : a / b / c = a / (b * c) := by
  rw [Int.ediv_ediv, if_neg (by omega), Int.sub_zero]
theorem left_prod (rs : List Res) (h : ∀ r ∈ rs, 1 ≤ r.num) (l p : Int) (hp : 1 ≤ p) : rs.foldl (fun l x => l / max x.num x.den) (l / p) = l / rs.foldl (fun p r => p * max r.num r.den) p ∧ 1 ≤ rs.foldl (fun p r => p * max r.num r.den) p := by
  induction rs generalizing p with
  | nil => exact ⟨rfl, hp⟩
  | cons r rs ih =>
    have hr := h r (by simp)
    simp only [List.foldl_cons]
    rw [ediv2 l p (max r.num r.den) (by omega)]
    have q := mul_mono (a := 1) (b := p) (c := 1) (d := max r.num r.den) (by omega) hp (by omega) (by omega)
    exact ih (fun x hx => h x (by simp [hx])) _ (by omega)
theorem mprod_le {rs : List Res} (h : ∀ r ∈ rs, 1 ≤ r.num) (hl : 0 < leftOf rs) : mprod rs ≤ 10000000000000000 ∧ 1 ≤ mprod rs := by
  have ⟨a, b⟩ := left_prod rs h 10000000000000000 1 (by omega)
  unfold leftOf at hl
  rw [Int.ediv_one] at a
  rw [a] at hl
  refine ⟨?_, b⟩
  have e : mprod rs = rs.foldl (fun p r => p * max r.num r.den) 1 := rfl
  rw [← e] at hl b
  rcases Int.lt_or_le 10000000000000000 (mprod rs) with hc | hc
  · rw [Int.ediv_eq_zero_of_lt (by omega) hc] at hl; omega
  · exact hc
theorem mprod_filter (rs : List Res) (h : ∀ r ∈ rs, 1 ≤ r.num) (f : Res → Bool) (p q : Int) (hp : 1 ≤ p) (hpq : p ≤ q) : (rs.filter f).foldl (fun p r => p * max r.num r.den) p ≤ rs.foldl (fun p r => p * max r.num r.den) q := by
  induction rs generalizing p q with
  | nil => exact hpq
  | cons r rs ih =>
    have hr := h r (by simp)
    have ih' := ih (fun x hx => h x (by simp [hx]))
    simp only [List.filter_cons, List.foldl_cons]
    have q1 := mul_mono (a := 1) (b := p) (c := 1) (d := max r.num r.den) (by omega) hp (by omega) (by omega)
    have q2 := mul_mono (a := p) (b := q) (c := max r.num r.den) (d := max r.num r.den) (by omega) hpq (by omega) (Int.le_refl _)
    split
    · simp only [List.foldl_cons]
      exact ih' _ _ (by omega) q2
    · refine ih' _ _ hp ?_
      have q3 := mul_mono (a := p) (b := q) (c := 1) (d := max r.num r.den) (by omega) hpq (by omega) (by omega)
      omega
theorem nw_facts {nodes : Int} {rs : List Res} (h : nwB nodes rs = true) : (1 ≤ nodes ∧ nodes ≤ 6) ∧ rs.length ≤ 8 ∧ (∀ r ∈ rs, (0 ≤ r.a ∧ r.a < nodes) ∧ (0 ≤ r.b ∧ r.b < nodes) ∧ r.a ≠ r.b ∧ vrB r.num r.den = true ∧ (1 ≤ r.num ∧ r.num ≤ 1000000) ∧ (1 ≤ r.den ∧ r.den ≤ 1000000)) ∧ mprod rs ≤ 10000000000000000 := by
  simp only [nwB, Bool.and_eq_true, decide_eq_true_eq, List.all_eq_true] at h
  obtain ⟨h1, h2, h3, h4⟩ := h
  have each : ∀ r ∈ rs, (0 ≤ r.a ∧ r.a < nodes) ∧ (0 ≤ r.b ∧ r.b < nodes) ∧ r.a ≠ r.b ∧ vrB r.num r.den = true ∧ (1 ≤ r.num ∧ r.num ≤ 1000000) ∧ (1 ≤ r.den ∧ r.den ≤ 1000000) := by
    intro r hr
    have q := h3 r hr
    simp only [rsB, Bool.and_eq_true, decide_eq_true_eq, Bool.not_eq_true', beq_eq_false_iff_ne] at q
    obtain ⟨q1, q2, q3, q4, q5, q6⟩ := q
    have a1 := inB_iff.1 q1
    have a2 := inB_iff.1 q2
    have a5 := inB_iff.1 q5
    have a6 := vrB_pos q4
    exact ⟨by omega, by omega, q3, q4, a5, by omega⟩
  exact ⟨inB_iff.1 h1, h2, each, (mprod_le (fun r hr => (each r hr).2.2.2.2.1.1) h4).1⟩
theorem par_ok {nodes : Int} {rs : List Res} {n : Nat} (h : nwB nodes rs = true) (hn : nodes = n) (a : Nat) : (parP n rs a).Ok := by
  obtain ⟨_, _, each, _⟩ := nw_facts h
  have at' : ∀ i, i < (partR rs a).length → ∃ r, (partR rs a)[i]? = some r ∧ r ∈ rs := fun i hi => ⟨_, List.getElem?_eq_getElem hi, (mem_part.1 (List.getElem_mem hi)).1⟩
  refine ⟨fun i hi => ?_, fun i hi => ?_⟩
  · obtain ⟨r, e, m⟩ := at' i hi
    have q := each _ m
    show (edg (partR rs a) i).1 < n ∧ (edg (partR rs a) i).2 < n
    rw [edg_at e]
    omega
  · obtain ⟨r, e, m⟩ := at' i hi
    have q := each _ m
    show 1 ≤ rnm (partR rs a) i ∧ 1 ≤ rdn (partR rs a) i
    rw [rnm_at e, rdn_at e]
    omega
theorem par_mx {nodes : Int} {rs : List Res} (n : Nat) (h : nwB nodes rs = true) (a : Nat) : mxF (parP n rs a).nm (parP n rs a).dn (parP n rs a).m ≤ 10000000000000000 := by
  obtain ⟨_, _, each, hm⟩ := nw_facts h
  show mxF (rnm (partR rs a)) (rdn (partR rs a)) (partR rs a).length ≤ _
  rw [mxF_all]
  have := mprod_filter rs (fun r hr => (each r hr).2.2.2.2.1.1) (fun r => decide (allL rs r.a.toNat = allL rs a)) 1 1 (by omega) (by omega)
  exact Int.le_trans this hm
theorem par_pow {nodes : Int} {rs : List Res} (n : Nat) (h : nwB nodes rs = true) (a : Nat) : (2 ^ (parP n rs a).m : Nat) ≤ 256 := by
  obtain ⟨_, hl, _, _⟩ := nw_facts h
  have := part_len rs a
  have := Nat.pow_le_pow_right (show 0 < 2 by omega) (show (partR rs a).length ≤ 8 by omega)
  exact this
theorem par_bd {nodes : Int} {rs : List Res} {n : Nat} (h : nwB nodes rs = true) (hn : nodes = n) {z : Int} (a : Nat) (hz : z ≤ (2 ^ (parP n rs a).m : Nat) * mxF (parP n rs a).nm (parP n rs a).dn (parP n rs a).m) : z ≤ 2560000000000000000 := by
  have p := par_pow n h a
  have q := par_mx n h a
  have r := (mxF_mono (k := (parP n rs a).m) (par_ok h hn a).pos (Nat.le_refl _)).2
  obtain ⟨K, hK⟩ : ∃ K : Nat, 2 ^ (parP n rs a).m = K := ⟨_, rfl⟩
  rw [hK] at p hz
  have s := mul_mono (a := (K : Int)) (b := 256) (by omega) (by omega) (show 0 ≤ mxF (parP n rs a).nm (parP n rs a).dn (parP n rs a).m by omega) q
  omega
def comNL (rs : List Res) (a n : Nat) : Nat := cnB (fun v => decide (allL rs v = allL rs a)) n
def treN (rs : List Res) (a n s : Nat) : Nat := cnB (fun v => decide (allL rs v = allL rs a) && decide ((parP n rs a).L s v = v)) n
section
variable {rs : List Res} {n a : Nat}
theorem par_edge {i : Nat} (hi : i < (partR rs a).length) : allL rs (edg (partR rs a) i).1 = allL rs a ∧ allL rs (edg (partR rs a) i).2 = allL rs a := by
  have e : (partR rs a)[i]? = some (partR rs a)[i] := List.getElem?_eq_getElem hi
  rw [edg_at e]
  have ⟨m1, m2⟩ := mem_part.1 (List.getElem_mem hi)
  exact ⟨m2, by rw [← all_edge m1]; exact m2⟩
theorem par_out (on : Nat → Bool) {v : Nat} (hv : allL rs v ≠ allL rs a) : selF (edg (partR rs a)) on (partR rs a).length v = v := by
  have q := selF_min (E := edg (partR rs a)) (on := on) (m := (partR rs a).length) (fun u => if allL rs u = allL rs a then none else some u) (fun i hi _ => by
    have ⟨e1, e2⟩ := par_edge hi
    simp only [if_pos e1, if_pos e2]) _ _ (selF_idem (edg (partR rs a)) on (partR rs a).length v)
  simp only [if_neg hv] at q
  split at q
  · cases q
  · exact Option.some.inj q
theorem par_in (on : Nat → Bool) (v : Nat) : allL rs (selF (edg (partR rs a)) on (partR rs a).length v) = allL rs v :=
  selF_min (E := edg (partR rs a)) (on := on) (m := (partR rs a).length) (allL rs) (fun i hi _ => by
    have ⟨e1, e2⟩ := par_edge hi
    rw [e1, e2]) _ _ (selF_idem (edg (partR rs a)) on (partR rs a).length v)
theorem par_all {u v : Nat} (hu : allL rs u = allL rs a) (hv : allL rs v = allL rs a) : (parP n rs a).all u = (parP n rs a).all v := by
  have q := selF_min (E := edg rs) (on := fun _ => true) (m := rs.length) (fun u => if allL rs u = allL rs a then some ((parP n rs a).all u) else none) (fun i hi _ => by
    have e : rs[i]? = some rs[i] := List.getElem?_eq_getElem hi
    have hm := List.getElem_mem hi
    have ea := all_edge hm
    rw [edg_at e]
    show (if allL rs rs[i].a.toNat = allL rs a then _ else _) = (if allL rs rs[i].b.toNat = allL rs a then _ else _)
    rw [← ea]
    by_cases hc : allL rs rs[i].a.toNat = allL rs a
    · rw [if_pos hc, if_pos hc]
      obtain ⟨j, hj, ej⟩ := List.getElem_of_mem (mem_part.2 ⟨hm, hc⟩)
      have := selF_edge (E := edg (partR rs a)) (on := fun _ => true) (m := (partR rs a).length) (i := j) hj rfl
      rw [edg_at (by rw [List.getElem?_eq_getElem hj, ej])] at this
      exact congrArg some this
    · rw [if_neg hc, if_neg hc]) u v (hu.trans hv.symm)
  simp only [if_pos hu, if_pos hv] at q
  exact Option.some.inj q
theorem rootsF_split (on : Nat → Bool) : rootsF (selF (edg (partR rs a)) on (partR rs a).length) n + comNL rs a n = cnB (fun v => decide (allL rs v = allL rs a) && decide (selF (edg (partR rs a)) on (partR rs a).length v = v)) n + n := by
  have s1 := cnB_split (fun v => decide (selF (edg (partR rs a)) on (partR rs a).length v = v)) (fun v => decide (allL rs v = allL rs a)) n
  have s2 := cnB_split (fun _ => true) (fun v => decide (allL rs v = allL rs a)) n
  have e1 : cnB (fun v => decide (selF (edg (partR rs a)) on (partR rs a).length v = v) && decide (allL rs v = allL rs a)) n = cnB (fun v => decide (allL rs v = allL rs a) && decide (selF (edg (partR rs a)) on (partR rs a).length v = v)) n := cnB_congr (fun v _ => Bool.and_comm _ _)
  have e2 : cnB (fun v => decide (selF (edg (partR rs a)) on (partR rs a).length v = v) && !decide (allL rs v = allL rs a)) n = cnB (fun v => true && !decide (allL rs v = allL rs a)) n := cnB_congr (fun v _ => by
    by_cases hc : allL rs v = allL rs a
    · simp [hc]
    · rw [decide_eq_true (par_out on hc)])
  have e3 : cnB (fun v => true && decide (allL rs v = allL rs a)) n = comNL rs a n := cnB_congr (fun v _ => Bool.true_and _)
  rw [cnB_roots]
  rw [cnB_true] at s2
  omega
theorem tre_roots (s : Nat) : (parP n rs a).roots s + comNL rs a n = treN rs a n s + n := rootsF_split (bit s)
theorem least_com (ha : a < n) : (parP n rs a).least + comNL rs a n = 1 + n := by
  have q := rootsF_split (rs := rs) (n := n) (a := a) (fun _ => true)
  have e : cnB (fun v => decide (allL rs v = allL rs a) && decide (selF (edg (partR rs a)) (fun _ => true) (partR rs a).length v = v)) n = 1 := by
    have hl := selF_le (edg (partR rs a)) (fun _ => true) (partR rs a).length a
    refine cnB_one (r := selF (edg (partR rs a)) (fun _ => true) (partR rs a).length a) (by omega) (fun v hv => ?_)
    simp only [Bool.and_eq_true, decide_eq_true_eq]
    constructor
    · rintro ⟨e1, e2⟩
      have := par_all (n := n) (rs := rs) (a := a) e1 rfl
      exact e2.symm.trans this
    · intro e1
      have e2 := par_in (rs := rs) (a := a) (fun _ => true) a
      rw [← e1] at e2
      refine ⟨e2, ?_⟩
      have e3 := par_all (n := n) (rs := rs) (a := a) e2 rfl
      rw [e1]
      exact selF_idem _ _ _ _
  rw [e] at q
  exact q
theorem com_pos (ha : a < n) : 1 ≤ comNL rs a n := by
  have := least_com (rs := rs) ha
  have : (parP n rs a).least ≤ n := rootsF_le _ _
  omega
theorem treeB_iff (ha : a < n) (s : Nat) : (parP n rs a).treeB s = true ↔ treN rs a n s + (parP n rs a).cnt s = comNL rs a n ∧ treN rs a n s = 1 := by
  have h1 := tre_roots (n := n) (rs := rs) (a := a) s
  have h2 := least_com (rs := rs) ha
  have h3 : comNL rs a n ≤ n := by
    have s2 := cnB_split (fun _ => true) (fun v => decide (allL rs v = allL rs a)) n
    have e3 : cnB (fun v => true && decide (allL rs v = allL rs a)) n = comNL rs a n := cnB_congr (fun v _ => Bool.true_and _)
    rw [cnB_true] at s2; omega
  unfold Pn.treeB
  rw [Bool.and_eq_true, decide_eq_true_eq, decide_eq_true_eq]
  show _ + _ = n ∧ _ ↔ _
  omega
theorem twoB_iff (ha : a < n) (b v s : Nat) : (parP n rs a).twoB a b v s = true ↔ (treN rs a n s + (parP n rs a).cnt s = comNL rs a n ∧ treN rs a n s = 2) ∧ ((parP n rs a).L s a ≠ (parP n rs a).L s b ∧ (parP n rs a).L s v = (parP n rs a).L s a) := by
  have h1 := tre_roots (n := n) (rs := rs) (a := a) s
  have h2 := least_com (rs := rs) ha
  unfold Pn.twoB
  rw [Bool.and_eq_true, Bool.and_eq_true, Bool.and_eq_true, decide_eq_true_eq, decide_eq_true_eq, Bool.not_eq_true', beq_eq_false_iff_ne, beq_iff_eq]
  show _ + _ = n ∧ _ ↔ _
  constructor
  · rintro ⟨e1, e2, e3⟩; exact ⟨by omega, e3⟩
  · rintro ⟨e1, e3⟩; exact ⟨by omega, by omega, e3⟩
theorem tF_no {P : Pn} {s : Nat} (h : ¬ P.treeB s = true) : P.tF s = 0 := by unfold Pn.tF; rw [if_neg h]
theorem gF_no {P : Pn} {a b v s : Nat} (h : ¬ P.twoB a b v s = true) : P.gF a b v s = 0 := by unfold Pn.gF; rw [if_neg h]
theorem tF_yes {P : Pn} {s : Nat} (h : P.treeB s = true) : P.tF s = P.wt s := by unfold Pn.tF; rw [if_pos h]
theorem gF_yes {P : Pn} {a b v s : Nat} (h : P.twoB a b v s = true) : P.gF a b v s = P.wt s := by unfold Pn.gF; rw [if_pos h]
theorem top_out {b v : Nat} (hv : allL rs v ≠ allL rs a) : (parP n rs a).top a b v = 0 := by
  unfold Pn.top
  rw [sumF_congr (g := fun _ => 0) (fun s _ => gF_no (fun q => ?_)), sumF_zero]
  unfold Pn.twoB at q
  rw [Bool.and_eq_true, Bool.and_eq_true, Bool.and_eq_true] at q
  have e : (parP n rs a).L s v = (parP n rs a).L s a := by simpa using q.2.2.2
  have e1 := par_in (rs := rs) (a := a) (bit s) v
  have e2 := par_in (rs := rs) (a := a) (bit s) a
  have e' : selF (edg (partR rs a)) (bit s) (partR rs a).length v = selF (edg (partR rs a)) (bit s) (partR rs a).length a := e
  rw [e'] at e1
  exact hv (e1.symm.trans e2)
end
/- Kirchhoff's laws of the sums over forests: plain. -/
theorem sumF_split (f : Nat → Int) (a b : Nat) : sumF f (a + b) = sumF f a + sumF (fun i => f (a + i)) b := by
  induction b with
  | zero => simp [sumF]
  | succ k ih =>
    show sumF f (a + k) + f (a + k) = _
    rw [ih]; simp only [sumF]; omega
theorem sumF_comm (f : Nat → Nat → Int) (a b : Nat) : sumF (fun i => sumF (fun j => f i j) b) a = sumF (fun j => sumF (fun i => f i j) a) b := by
  induction a with
  | zero => simp only [sumF]; exact (sumF_zero b).symm
  | succ k ih => simp only [sumF, ih, sumF_add]
theorem bit_flip (s j i : Nat) : bit (s ^^^ 2 ^ j) i = (bit s i != (i == j)) := by
  unfold bit
  rw [Nat.testBit_xor, Nat.testBit_two_pow]
  by_cases e : j = i
  · subst e; simp
  · have : ¬ i = j := fun q => e q.symm
    rw [decide_eq_false e, beq_eq_false_iff_ne.2 this]
theorem flip_lt {s j m : Nat} (hs : s < 2 ^ m) (hj : j < m) : s ^^^ 2 ^ j < 2 ^ m := Nat.xor_lt_two_pow hs (Nat.pow_lt_pow_right (by omega) hj)
theorem bit_high {s m : Nat} (hs : s < 2 ^ m) (i : Nat) : bit (2 ^ m + s) i = (bit s i || i == m) := by
  unfold bit
  by_cases e : i = m
  · subst e; rw [Nat.testBit_two_pow_add_eq, Nat.testBit_lt_two_pow hs]; simp
  · rcases Nat.lt_or_ge i m with h | h
    · rw [Nat.testBit_two_pow_add_gt h]; simp [e]
    · have h2 : 2 ^ m + s < 2 ^ i := by
        have := Nat.pow_le_pow_right (show 0 < 2 by omega) (show m + 1 ≤ i by omega)
        rw [Nat.pow_succ] at this; omega
      rw [Nat.testBit_lt_two_pow h2, Nat.testBit_lt_two_pow (by omega : s < 2 ^ i)]; simp [e]
theorem eq_of_bits {s t : Nat} (h : ∀ i, bit s i = bit t i) : s = t := Nat.eq_of_testBit_eq h
theorem sumF_flip (f : Nat → Int) {j m : Nat} (hj : j < m) : sumF f (2 ^ m) = sumF (fun s => f (s ^^^ 2 ^ j)) (2 ^ m) := by
  induction m generalizing f with
  | zero => omega
  | succ k ih =>
    have e2 : 2 ^ (k + 1) = 2 ^ k + 2 ^ k := by rw [Nat.pow_succ]; omega
    rw [e2, sumF_split, sumF_split]
    by_cases e : j = k
    · subst e
      have a1 : sumF (fun s => f (s ^^^ 2 ^ j)) (2 ^ j) = sumF (fun i => f (2 ^ j + i)) (2 ^ j) := sumF_congr (fun s hs => by
        congr 1
        refine eq_of_bits (fun i => ?_)
        rw [bit_flip, bit_high hs]
        by_cases h : i = j
        · subst h; have : bit s i = false := Nat.testBit_lt_two_pow hs
          simp [this]
        · rw [beq_eq_false_iff_ne.2 h]; simp)
      have a2 : sumF (fun i => (fun s => f (s ^^^ 2 ^ j)) (2 ^ j + i)) (2 ^ j) = sumF f (2 ^ j) := sumF_congr (fun s hs => by
        show f ((2 ^ j + s) ^^^ 2 ^ j) = f s
        congr 1
        refine eq_of_bits (fun i => ?_)
        rw [bit_flip, bit_high hs]
        by_cases h : i = j
        · subst h; have : bit s i = false := Nat.testBit_lt_two_pow hs
          simp [this]
        · rw [beq_eq_false_iff_ne.2 h]; simp)
      rw [a1, a2]; omega
    · rw [ih f (by omega), ih (fun i => f (2 ^ k + i)) (by omega)]
      congr 1
      refine sumF_congr (fun s hs => ?_)
      show f (2 ^ k + (s ^^^ 2 ^ j)) = f ((2 ^ k + s) ^^^ 2 ^ j)
      congr 1
      refine eq_of_bits (fun i => ?_)
      rw [bit_high (flip_lt hs (by omega)), bit_flip, bit_flip, bit_high hs]
      by_cases h : i = k
      · subst h
        have h2 : ¬ i = j := fun q => e q.symm
        have : bit s i = false := Nat.testBit_lt_two_pow hs
        simp [this, h2]
      · rw [beq_eq_false_iff_ne.2 h]; simp
namespace Pn
theorem tree_all {P : Pn} {s : Nat} (hs : P.treeB s = true) {u : Nat} (hu : u < P.n) : P.L s u = P.all u := by
  unfold treeB at hs
  rw [Bool.and_eq_true, decide_eq_true_eq, decide_eq_true_eq] at hs
  have sub : ∀ v, P.all (P.L s v) = P.all v := fun v => selF_min (E := P.E) (on := bit s) (m := P.m) P.all (fun i hi _ => selF_edge hi rfl) _ _ (selF_idem P.E (bit s) P.m v)
  have r1 : ∀ v, P.all v = v → P.L s v = v := fun v hv => by
    have a := sub v
    rw [hv] at a
    have b := selF_le P.E (bit s) P.m v
    have c := selF_le P.E (fun _ => true) P.m (P.L s v)
    have a' : selF P.E (fun _ => true) P.m (P.L s v) = v := a
    have b' : P.L s v ≤ v := b
    omega
  have key : ∀ n, rootsF P.all n ≤ rootsF (P.L s) n ∧ (rootsF (P.L s) n ≤ rootsF P.all n → ∀ v, v < n → P.L s v = v → P.all v = v) := by
    intro n
    induction n with
    | zero => exact ⟨Nat.le_refl _, fun _ v hv => by omega⟩
    | succ k ih =>
      simp only [rootsF]
      have rk := r1 k
      refine ⟨?_, fun hle v hv hv2 => ?_⟩
      · by_cases e : P.all k = k
        · rw [if_pos e, if_pos (rk e)]; omega
        · rw [if_neg e]; split <;> omega
      · by_cases e : P.all k = k
        · rw [if_pos e, if_pos (rk e)] at hle
          by_cases ev : v = k
          · subst ev; exact e
          · exact ih.2 (by omega) v (by omega) hv2
        · rw [if_neg e] at hle
          by_cases e2 : P.L s k = k
          · rw [if_pos e2] at hle; omega
          · rw [if_neg e2] at hle
            by_cases ev : v = k
            · subst ev; exact absurd hv2 e2
            · exact ih.2 (by omega) v (by omega) hv2
  have h1 : rootsF (P.L s) P.n ≤ rootsF P.all P.n := Nat.le_of_eq hs.2
  have h2 := (key P.n).2 h1 (P.L s u) (by have := selF_le P.E (bit s) P.m u; exact Nat.lt_of_le_of_lt this hu) (selF_idem P.E (bit s) P.m u)
  rw [← h2, sub]
def side (P : Pn) (on : Nat → Bool) (j u : Nat) : Int := if selF P.E (offB on j) P.m u = selF P.E (offB on j) P.m (P.E j).1 then 1 else 0
theorem tree_way {P : Pn} (h : P.Ok) {s a b : Nat} (hs : P.treeB s = true) (ha : a < P.n) (hb : b < P.n) (hab : P.all a = P.all b) (f : Nat → Int) :
    sumF (fun j => if bit s j = true then (f (P.E j).1 - f (P.E j).2) * (P.side (bit s) j a - P.side (bit s) j b) else 0) P.m = f a - f b := by
  have hF : rootsF (selF P.E (bit s) P.m) P.n + cntF (bit s) P.m = P.n := by
    unfold treeB at hs
    rw [Bool.and_eq_true, decide_eq_true_eq, decide_eq_true_eq] at hs
    exact hs.1
  have g : ∀ i, i < P.m → bit s i = true → ∀ k, k ≤ P.m → sumF (fun j => if bit s j = true then (f (P.E j).1 - f (P.E j).2) * (P.side (bit s) j (P.E i).1 - P.side (bit s) j (P.E i).2) else 0) k = if i < k then f (P.E i).1 - f (P.E i).2 else 0 := by
    intro i hi ho k hk
    induction k with
    | zero => rfl
    | succ k ih =>
      simp only [sumF, ih (by omega)]
      by_cases e : k = i
      · subst e
        rw [if_neg (by omega), if_pos ho, if_pos (by omega)]
        have ne := forest_apart h.ends hF hi ho
        unfold side
        rw [if_pos rfl, if_neg (fun q => ne q.symm)]
        omega
      · by_cases hk2 : bit s k = true
        · rw [if_pos hk2]
          have same : P.side (bit s) k (P.E i).1 = P.side (bit s) k (P.E i).2 := by
            unfold side
            rw [selF_edge (E := P.E) (on := offB (bit s) k) (m := P.m) (i := i) hi (by unfold offB; simp [ho]; exact fun q => e q.symm)]
          rw [same, Int.sub_self, Int.mul_zero, Int.add_zero]
          by_cases hik : i < k
          · rw [if_pos hik, if_pos (by omega)]
          · rw [if_neg hik, if_neg (by omega)]
        · rw [if_neg hk2, Int.add_zero]
          by_cases hik : i < k
          · rw [if_pos hik, if_pos (by omega)]
          · rw [if_neg hik, if_neg (by omega)]
  have lin : ∀ u v k, sumF (fun j => if bit s j = true then (f (P.E j).1 - f (P.E j).2) * P.side (bit s) j u else 0) k - sumF (fun j => if bit s j = true then (f (P.E j).1 - f (P.E j).2) * P.side (bit s) j v else 0) k = sumF (fun j => if bit s j = true then (f (P.E j).1 - f (P.E j).2) * (P.side (bit s) j u - P.side (bit s) j v) else 0) k := by
    intro u v k
    rw [sumF_sub]
    refine sumF_congr (fun j _ => ?_)
    split
    · rw [Int.mul_sub]
    · rfl
  have q := selF_min (E := P.E) (on := bit s) (m := P.m) (fun u => f u - sumF (fun j => if bit s j = true then (f (P.E j).1 - f (P.E j).2) * P.side (bit s) j u else 0) P.m) (fun i hi ho => by
    have e1 := g i hi ho P.m (Nat.le_refl _)
    rw [if_pos hi] at e1
    have e2 := lin (P.E i).1 (P.E i).2 P.m
    show f (P.E i).1 - _ = f (P.E i).2 - _
    omega) a b (by
      have e1 := tree_all hs ha
      have e2 := tree_all hs hb
      show P.L s a = P.L s b
      rw [e1, e2, hab])
  have e3 := lin a b P.m
  have q' : f a - sumF (fun j => if bit s j = true then (f (P.E j).1 - f (P.E j).2) * P.side (bit s) j a else 0) P.m = f b - sumF (fun j => if bit s j = true then (f (P.E j).1 - f (P.E j).2) * P.side (bit s) j b else 0) P.m := q
  omega
theorem roots_mrg {P : Pn} (h : P.Ok) {on : Nat → Bool} {j : Nat} (hj : j < P.m) (ho : on j = true) : (selF P.E (offB on j) P.m (P.E j).1 ≠ selF P.E (offB on j) P.m (P.E j).2 → rootsF (selF P.E on P.m) P.n + 1 = rootsF (selF P.E (offB on j) P.m) P.n ∧ ∀ u v, selF P.E on P.m u = selF P.E on P.m v → selF P.E (offB on j) P.m u = selF P.E (offB on j) P.m v ∨ (selF P.E (offB on j) P.m u = selF P.E (offB on j) P.m (P.E j).1 ∧ selF P.E (offB on j) P.m v = selF P.E (offB on j) P.m (P.E j).2) ∨ (selF P.E (offB on j) P.m u = selF P.E (offB on j) P.m (P.E j).2 ∧ selF P.E (offB on j) P.m v = selF P.E (offB on j) P.m (P.E j).1)) ∧ (selF P.E (offB on j) P.m (P.E j).1 = selF P.E (offB on j) P.m (P.E j).2 → selF P.E on P.m = selF P.E (offB on j) P.m) := by
  obtain ⟨L, hL⟩ : ∃ L, selF P.E (offB on j) P.m = L := ⟨_, rfl⟩
  have fac : ∀ v, L (L v) = L v ∧ L v ≤ v := by rw [← hL]; exact selF_facts _ _ _
  have le : ∀ i, i < P.m → offB on j i = true → L (P.E i).1 = L (P.E i).2 := fun i hi h' => by rw [← hL]; exact selF_edge hi h'
  have hm : selF P.E on P.m = mrgF L (P.E j).1 (P.E j).2 := by
    funext v
    have A : ∀ i, i < P.m → on i = true → mrgF L (P.E j).1 (P.E j).2 (P.E i).1 = mrgF L (P.E j).1 (P.E j).2 (P.E i).2 := fun i hi ho' => by
      by_cases e : i = j
      · subst e; exact mrgF_ends _ _ _
      · exact mrgF_keep (le i hi (by unfold offB; simp [ho', e]))
    have sub : ∀ u v, L u = L v → selF P.E on P.m u = selF P.E on P.m v := by
      rw [← hL]
      exact selF_min (E := P.E) (on := offB on j) (m := P.m) (selF P.E on P.m) (fun i hi h' => selF_edge hi (by unfold offB at h'; simp at h'; exact h'.1))
    have B := selF_min (E := P.E) (on := on) (m := P.m) (mrgF L (P.E j).1 (P.E j).2) A _ _ (selF_idem P.E on P.m v)
    have C : selF P.E on P.m (mrgF L (P.E j).1 (P.E j).2 v) = selF P.E on P.m v := by
      have ej := selF_edge (E := P.E) (on := on) (m := P.m) (i := j) hj ho
      have k1 := sub _ _ (fac (P.E j).1).1
      have k2 := sub _ _ (fac (P.E j).2).1
      have kv := sub _ _ (fac v).1
      unfold mrgF
      by_cases e : L v = max (L (P.E j).1) (L (P.E j).2)
      · rw [if_pos e]
        rcases Nat.le_total (L (P.E j).1) (L (P.E j).2) with hl | hl
        · rw [Nat.min_eq_left hl]; rw [Nat.max_eq_right hl] at e
          rw [k1, ej, ← k2, ← e, kv]
        · rw [Nat.min_eq_right hl]; rw [Nat.max_eq_left hl] at e
          rw [k2, ← ej, ← k1, ← e, kv]
      · rw [if_neg e, kv]
    have D := selF_le P.E on P.m (mrgF L (P.E j).1 (P.E j).2 v)
    have mle : ∀ u, mrgF L (P.E j).1 (P.E j).2 u ≤ u := fun u => by
      have := (fac u).2
      unfold mrgF; split <;> omega
    have F := mle (selF P.E on P.m v)
    omega
  rw [hm, hL]
  have en := h.ends j hj
  refine ⟨fun hne => ⟨mrgF_roots fac en.1 en.2 hne, fun u v e => ?_⟩, fun e => mrgF_same e⟩
  unfold mrgF at e
  split at e <;> split at e <;> omega
theorem cross {P : Pn} (h : P.Ok) {a b s j : Nat} (ha : a < P.n) (hb : b < P.n) (hab : P.all a = P.all b) (hj : j < P.m) (hF : bit s j = true) :
    (if P.twoB a b (P.E j).1 (s ^^^ 2 ^ j) = true then (1 : Int) else 0) - (if P.twoB a b (P.E j).2 (s ^^^ 2 ^ j) = true then 1 else 0) = if P.treeB s = true then P.side (bit s) j a - P.side (bit s) j b else 0 := by
  have hbit : ∀ i, i < P.m → bit (s ^^^ 2 ^ j) i = offB (bit s) j i := fun i _ => by
    rw [bit_flip]; unfold offB
    by_cases e : i = j
    · subst e; simp [hF]
    · rw [beq_eq_false_iff_ne.2 e]; simp
  have eL : P.L (s ^^^ 2 ^ j) = selF P.E (offB (bit s) j) P.m := selF_congr hbit
  have eC : P.cnt (s ^^^ 2 ^ j) + 1 = P.cnt s := by
    have q := cnt_off hj hF
    show cntF _ _ + 1 = cntF _ _
    rw [cntF_congr hbit]; exact q
  obtain ⟨h1, h2⟩ := roots_mrg h hj hF
  have tw : ∀ v, P.twoB a b v (s ^^^ 2 ^ j) = true ↔ (rootsF (selF P.E (offB (bit s) j) P.m) P.n + P.cnt (s ^^^ 2 ^ j) = P.n ∧ rootsF (selF P.E (offB (bit s) j) P.m) P.n = P.least + 1) ∧ (selF P.E (offB (bit s) j) P.m a ≠ selF P.E (offB (bit s) j) P.m b ∧ selF P.E (offB (bit s) j) P.m v = selF P.E (offB (bit s) j) P.m a) := fun v => by
    unfold twoB roots
    rw [eL, Bool.and_eq_true, Bool.and_eq_true, Bool.and_eq_true, decide_eq_true_eq, decide_eq_true_eq, Bool.not_eq_true', beq_eq_false_iff_ne, beq_iff_eq, and_assoc]
  have tr : P.treeB s = true ↔ rootsF (selF P.E (bit s) P.m) P.n + P.cnt s = P.n ∧ rootsF (selF P.E (bit s) P.m) P.n = P.least := by
    unfold treeB; rw [Bool.and_eq_true, decide_eq_true_eq, decide_eq_true_eq]; exact Iff.rfl
  simp only [tw]
  by_cases hT : P.treeB s = true
  · rw [if_pos hT]
    have ht := tr.1 hT
    have ne := forest_apart h.ends ht.1 hj hF
    obtain ⟨r1, r2⟩ := h1 ne
    have c1 : rootsF (selF P.E (offB (bit s) j) P.m) P.n + P.cnt (s ^^^ 2 ^ j) = P.n ∧ rootsF (selF P.E (offB (bit s) j) P.m) P.n = P.least + 1 := by omega
    have cab := r2 a b (by
      have e1 := tree_all hT ha
      have e2 := tree_all hT hb
      show P.L s a = P.L s b
      rw [e1, e2, hab])
    unfold side
    generalize selF P.E (offB (bit s) j) P.m = L at *
    simp only [c1, true_and, and_true]
    by_cases x1 : L a = L b
    · simp [x1]
    · rcases cab with q | ⟨q1, q2⟩ | ⟨q1, q2⟩
      · exact absurd q x1
      · have n1 : ¬ L (P.E j).2 = L (P.E j).1 := fun q => ne q.symm
        simp [q1, q2, ne, n1]; omega
      · have n1 : ¬ L (P.E j).2 = L (P.E j).1 := fun q => ne q.symm
        simp [q1, q2, ne, n1]; omega
  · rw [if_neg hT]
    by_cases c1 : rootsF (selF P.E (offB (bit s) j) P.m) P.n + P.cnt (s ^^^ 2 ^ j) = P.n ∧ rootsF (selF P.E (offB (bit s) j) P.m) P.n = P.least + 1
    · by_cases e : selF P.E (offB (bit s) j) P.m (P.E j).1 = selF P.E (offB (bit s) j) P.m (P.E j).2
      · rw [e]; omega
      · have := (h1 e).1
        exact absurd (tr.2 (by omega)) hT
    · rw [if_neg (fun q => c1 q.1), if_neg (fun q => c1 q.1)]; rfl
theorem kirchhoff {P : Pn} (h : P.Ok) {a b : Nat} (ha : a < P.n) (hb : b < P.n) (hab : P.all a = P.all b) (f : Nat → Int) :
    sumF (fun j => P.dn j * (f (P.E j).1 - f (P.E j).2) * P.dif a b j) P.m = P.tot * (f a - f b) := by
  have e1 : ∀ j, j < P.m → P.dn j * (f (P.E j).1 - f (P.E j).2) * P.dif a b j = sumF (fun s => if P.treeB s = true then P.wt s * (if bit s j = true then (f (P.E j).1 - f (P.E j).2) * (P.side (bit s) j a - P.side (bit s) j b) else 0) else 0) (2 ^ P.m) := by
    intro j hj
    unfold dif
    rw [sumF_flip _ hj, sumF_mul]
    refine sumF_congr (fun s hs => ?_)
    unfold dF
    have hb' : bit (s ^^^ 2 ^ j) j = !bit s j := by rw [bit_flip]; simp
    by_cases ho : bit s j = true
    · rw [if_neg (by rw [hb', ho]; decide), cross h ha hb hab hj ho]
      have hw : wxF P.nm P.dn (bit (s ^^^ 2 ^ j)) j P.m = wxF P.nm P.dn (bit s) j P.m := wxF_congr (fun i hi hne => by rw [bit_flip, beq_eq_false_iff_ne.2 hne]; simp)
      have hw2 : P.wt s = wxF P.nm P.dn (bit s) j P.m * P.dn j := by
        show wtF _ _ _ _ = _
        rw [wxF_wt hj, if_pos ho]
      rw [hw]
      by_cases hT : P.treeB s = true
      · rw [if_pos hT, if_pos hT, if_pos ho, hw2]
        generalize wxF P.nm P.dn (bit s) j P.m = X
        generalize P.dn j = D
        generalize (f (P.E j).1 - f (P.E j).2) = F
        generalize (P.side (bit s) j a - P.side (bit s) j b) = S
        rw [Int.mul_comm S X, ← Int.mul_assoc, Int.mul_assoc D F X, Int.mul_comm F X, ← Int.mul_assoc D X F, Int.mul_comm D X, Int.mul_assoc]
      · rw [if_neg hT, if_neg hT, Int.zero_mul, Int.mul_zero]
    · rw [if_pos (by rw [hb']; simp at ho; simp [ho]), if_neg ho, Int.mul_zero, Int.mul_zero]
      split <;> rfl
  rw [sumF_congr e1, sumF_comm]
  have e2 : ∀ s, sumF (fun j => if P.treeB s = true then P.wt s * (if bit s j = true then (f (P.E j).1 - f (P.E j).2) * (P.side (bit s) j a - P.side (bit s) j b) else 0) else 0) P.m = (f a - f b) * P.tF s := by
    intro s
    by_cases hT : P.treeB s = true
    · simp only [if_pos hT]
      rw [← sumF_mul, tree_way h hT ha hb hab f, Int.mul_comm]
      unfold tF; rw [if_pos hT]
    · simp only [if_neg hT]
      rw [sumF_zero]
      unfold tF; rw [if_neg hT, Int.mul_zero]
  rw [sumF_congr (fun s _ => e2 s), ← sumF_mul, Int.mul_comm]
  rfl
end Pn
/- Potentials, currents and resistances of a network: plain. -/
def lsum (g : Res → Int) : List Res → Int
  | [] => 0
  | r :: rs => g r + lsum g rs
theorem lsum_append (g : Res → Int) (xs ys : List Res) : lsum g (xs ++ ys) = lsum g xs + lsum g ys := by
  induction xs with
  | nil => simp [lsum]
  | cons x xs ih => simp only [List.cons_append, lsum, ih]; omega
theorem lsum_congr {g h : Res → Int} {xs : List Res} (e : ∀ r ∈ xs, g r = h r) : lsum g xs = lsum h xs := by
  induction xs with
  | nil => rfl
  | cons x xs ih => simp only [lsum, ih (fun r hr => e r (by simp [hr])), e x (by simp)]
theorem lsum_filter {g : Res → Int} {p : Res → Bool} {xs : List Res} (h : ∀ r ∈ xs, p r = false → g r = 0) : lsum g (xs.filter p) = lsum g xs := by
  induction xs with
  | nil => rfl
  | cons x xs ih =>
    have ih' := ih (fun r hr => h r (by simp [hr]))
    rw [List.filter_cons]
    cases e : p x with
    | true => simp only [if_true, lsum, ih']
    | false =>
      have := h x (by simp) e
      simp only [Bool.false_eq_true, if_false, lsum, ih']; omega
theorem lsum_mul (g : Res → Int) (c : Int) (xs : List Res) : c * lsum g xs = lsum (fun r => c * g r) xs := by
  induction xs with
  | nil => simp [lsum]
  | cons x xs ih => simp only [lsum, ← ih, Int.mul_add]
theorem sumF_lsum {g : Nat → Int} {G : Res → Int} {rs : List Res} (h : ∀ j r, rs[j]? = some r → g j = G r) : sumF g rs.length = lsum G rs := by
  have key : ∀ k, k ≤ rs.length → sumF g k = lsum G (rs.take k) := by
    intro k hk
    induction k with
    | zero => rfl
    | succ k ih =>
      have e : rs[k]? = some rs[k] := List.getElem?_eq_getElem (by omega)
      rw [List.take_add_one, e]
      show sumF g k + g k = lsum G (rs.take k ++ [rs[k]])
      rw [lsum_append, ih (by omega), h k _ e]; simp [lsum]
  rw [key _ (Nat.le_refl _), List.take_length]
structure NetAB where
  n : Nat
  rs : List Res
  a : Nat
  b : Nat
  ok : nwB (n : Int) rs = true
  ha : a < n
  hb : b < n
  hab : allL rs a = allL rs b
namespace NetAB
variable (X : NetAB)
def P : Pn := parP X.n X.rs X.a
def T : Int := X.P.tot
def S (v : Int) : Int := X.P.top X.a X.b v.toNat
def cur (r : Res) : Int := (X.S r.a - X.S r.b) / r.num
theorem T_pos : 0 < X.T := Pn.tot_pos (par_ok X.ok rfl X.a)
theorem T_le : X.T ≤ 2560000000000000000 := par_bd X.ok rfl X.a (Pn.tot_le (par_ok X.ok rfl X.a))
theorem S_bd (v : Int) : 0 ≤ X.S v ∧ X.S v ≤ 2560000000000000000 := by
  have q := Pn.top_bd (par_ok X.ok rfl X.a) X.a X.b v.toNat
  exact ⟨q.1, par_bd X.ok rfl X.a q.2⟩
theorem res_in {r : Res} (h : r ∈ X.rs) : (0 ≤ r.a ∧ r.a < X.n) ∧ (0 ≤ r.b ∧ r.b < X.n) ∧ r.a ≠ r.b ∧ vrB r.num r.den = true ∧ (1 ≤ r.num ∧ r.num ≤ 1000000) ∧ (1 ≤ r.den ∧ r.den ≤ 1000000) := (nw_facts X.ok).2.2.1 r h
theorem par_at {j : Nat} {r : Res} (h : (partR X.rs X.a)[j]? = some r) : X.S r.a - X.S r.b = r.num * X.P.dif X.a X.b j := by
  obtain ⟨hj, _⟩ := List.getElem?_eq_some_iff.1 h
  have q := Pn.top_dif (P := X.P) (a := X.a) (b := X.b) (j := j) hj
  have e1 : X.P.E j = (r.a.toNat, r.b.toNat) := edg_at h
  have e2 : X.P.nm j = r.num := rnm_at h
  rw [e1, e2] at q
  exact q
theorem cur_eq {r : Res} (h : r ∈ X.rs) : X.S r.a - X.S r.b = r.num * X.cur r ∧ -2560000000000000000 ≤ X.cur r * r.den ∧ X.cur r * r.den ≤ 2560000000000000000 := by
  obtain ⟨_, _, _, _, h5, h6⟩ := X.res_in h
  by_cases hc : allL X.rs r.a.toNat = allL X.rs X.a
  · obtain ⟨j, hj, ej⟩ := List.getElem_of_mem (mem_part.2 ⟨h, hc⟩)
    have e : (partR X.rs X.a)[j]? = some r := by rw [List.getElem?_eq_getElem hj, ej]
    have q := X.par_at e
    have d := Pn.dif_bd (P := X.P) (par_ok X.ok rfl X.a) X.a X.b (j := j) hj
    have e2 : X.P.dn j = r.den := rdn_at e
    rw [e2] at d
    have ec : X.cur r = X.P.dif X.a X.b j := by unfold cur; rw [q, Int.mul_ediv_cancel_left _ (by omega)]
    rw [ec]
    refine ⟨q, ?_, par_bd X.ok rfl X.a d.2⟩
    have := par_bd X.ok rfl X.a (z := -(X.P.dif X.a X.b j * r.den)) (by
      have := d.1
      show _ ≤ ((2 ^ X.P.m : Nat) : Int) * mxF X.P.nm X.P.dn X.P.m
      omega)
    omega
  · have e1 : X.S r.a = 0 := top_out hc
    have e2 : X.S r.b = 0 := top_out (by rw [← all_edge h]; exact hc)
    have ec : X.cur r = 0 := by unfold cur; rw [e1, e2]; simp
    rw [ec, e1, e2]; simp
theorem law (f : Nat → Int) : lsum (fun r => r.den * (f r.a.toNat - f r.b.toNat) * X.cur r) X.rs = X.T * (f X.a - f X.b) := by
  have hab : X.P.all X.a = X.P.all X.b := par_all (n := X.n) (rs := X.rs) (a := X.a) rfl X.hab.symm
  have K := Pn.kirchhoff (P := X.P) (par_ok X.ok rfl X.a) (a := X.a) (b := X.b) X.ha X.hb hab f
  rw [← lsum_filter (p := fun r => decide (allL X.rs r.a.toNat = allL X.rs X.a)) (fun r hr hp => by
    have hc : ¬ allL X.rs r.a.toNat = allL X.rs X.a := by simpa using hp
    have e1 : X.S r.a = 0 := top_out hc
    have e2 : X.S r.b = 0 := top_out (by rw [← all_edge hr]; exact hc)
    have ec : X.cur r = 0 := by unfold cur; rw [e1, e2]; simp
    rw [ec, Int.mul_zero])]
  show _ = X.P.tot * (f X.a - f X.b)
  rw [← K]
  refine (sumF_lsum (rs := partR X.rs X.a) (fun j r e => ?_)).symm
  have q := X.par_at e
  have hr := (mem_part.1 (List.mem_of_getElem? e)).1
  obtain ⟨_, _, _, _, h5, h6⟩ := X.res_in hr
  have e1 : X.P.E j = (r.a.toNat, r.b.toNat) := edg_at e
  have e2 : X.P.dn j = r.den := rdn_at e
  have ec : X.cur r = X.P.dif X.a X.b j := by unfold cur; rw [q, Int.mul_ediv_cancel_left _ (by omega)]
  rw [e1, e2, ec]
theorem S_b : X.S X.b = 0 := by
  show X.P.top X.a X.b ((X.b : Int).toNat) = 0
  rw [Int.toNat_natCast]
  unfold Pn.top
  rw [sumF_congr (g := fun _ => 0) (fun s _ => gF_no (fun q => ?_)), sumF_zero]
  unfold Pn.twoB at q
  simp only [Bool.and_eq_true, Bool.not_eq_true', beq_eq_false_iff_ne, beq_iff_eq] at q
  exact q.2.2.1 q.2.2.2.symm
def N : Int := X.S X.a
end NetAB
def labL (n : Nat) (f : Nat → Nat) : List Int := (List.range n).map fun v => ((f v : Nat) : Int)
theorem length_labL (n : Nat) (f : Nat → Nat) : (labL n f).length = n := by simp [labL]
theorem labL_get {n v : Nat} (f : Nat → Nat) (h : v < n) : (labL n f)[v]? = some ((f v : Nat) : Int) := by simp [labL, h]
theorem labL_set {n j y : Nat} {f g : Nat → Nat} (h : j < n) (hy : g j = y) (hf : ∀ v, v ≠ j → g v = f v) : (labL n f).set j (y : Int) = labL n g := by
  apply List.ext_getElem?
  intro i
  by_cases hi : i < n
  · rw [labL_get g hi]
    by_cases e : i = j
    · subst e; rw [List.getElem?_set_self (by rw [length_labL]; exact hi), hy]
    · rw [List.getElem?_set_ne (fun q => e q.symm), labL_get f hi, hf i e]
  · rw [List.getElem?_eq_none (by rw [List.length_set, length_labL]; omega), List.getElem?_eq_none (by rw [length_labL]; omega)]
def upF (f g : Nat → Nat) (j : Nat) : Nat → Nat := fun v => if v < j then f v else g v
theorem upF_zero (f g : Nat → Nat) : upF f g 0 = g := by funext v; unfold upF; rw [if_neg (by omega)]
theorem upF_all {f g : Nat → Nat} {n : Nat} : labL n (upF f g n) = labL n f := by
  unfold labL
  apply List.map_congr_left
  intro v hv
  unfold upF; rw [if_pos (by simpa using hv)]
theorem upF_at (f g : Nat → Nat) (j : Nat) : upF f g j j = g j := by unfold upF; rw [if_neg (by omega)]
theorem upF_same {f g : Nat → Nat} {j : Nat} (h : f j = g j) : upF f g (j + 1) = upF f g j := by
  funext v; unfold upF
  by_cases e : v = j
  · subst e; rw [if_pos (by omega), if_neg (by omega), h]
  · by_cases l : v < j
    · rw [if_pos (by omega), if_pos l]
    · rw [if_neg (by omega), if_neg l]
theorem upF_step {f g : Nat → Nat} {n j y : Nat} (h : j < n) (hy : f j = y) : (labL n (upF f g j)).set j (y : Int) = labL n (upF f g (j + 1)) :=
  labL_set h (by unfold upF; rw [if_pos (by omega), hy]) (fun v hv => by
    unfold upF
    by_cases l : v < j
    · rw [if_pos (by omega), if_pos l]
    · rw [if_neg (by omega), if_neg l])
theorem bit_small : ∀ s : Nat, s < 256 → ∀ i : Nat, i < 8 → (bits BinOp.and IntKind.i64 ((s : Int) / 2 ^ i) 1 == 1) = bit s i := by decide +kernel
set_option maxRecDepth 100000 in
theorem l26In_any (s i : Nat) (hs : s < 256) (hi : i < 8) (w : World) :
    Calls Tryz.prog 121 #[.int .i64 (s : Int), .int .i64 (i : Int)] w fun e w' => e = .returned (.bool (bit s i)) ∧ w = w' := by
  have HB := Lib.hid (bit_small s hs i hi)
  generalize bit s i = b at HB
  go_enter Tryz.func121, Tryz.ntmps121
  go_wp2
  go_ret
  exact ⟨ret_bool HB.out, rfl⟩
theorem BldI.wide {w : World} {lo hi lo' hi' : Nat} {v : Value} {zs : List Int} (h : BldI w lo hi v zs) (h1 : lo' ≤ lo) (h2 : hi ≤ hi') (h3 : hi' ≤ w.heap.size) : BldI w lo' hi' v zs := by
  obtain ⟨hs, ⟨hlen, r⟩, h4⟩ := h
  refine ⟨h3, ⟨hlen, ?_⟩, fun g hg => by have := h4 g hg; omega⟩
  rcases r with r | ⟨g, cap, cur, e1, e2, e3⟩
  · exact .inl r
  · exact .inr ⟨g, cap, cur, e1, by omega, e3⟩
def NwOk (n : Nat) (rs : List Res) : Prop := n ≤ 6 ∧ rs.length ≤ 8 ∧ ∀ r ∈ rs, (0 ≤ r.a ∧ r.a < n) ∧ (0 ≤ r.b ∧ r.b < n)
theorem NwOk.at {n : Nat} {rs : List Res} (h : NwOk n rs) {k : Nat} {r : Res} (hk : rs[k]? = some r) : ∃ p q : Nat, r.a = p ∧ r.b = q ∧ p < n ∧ q < n ∧ edg rs k = (p, q) := by
  have q := h.2.2 r (List.mem_of_getElem? hk)
  exact ⟨r.a.toNat, r.b.toNat, by omega, by omega, by omega, by omega, edg_at hk⟩
theorem max_beq (x y z : Nat) : ((x : Int) == max (y : Int) (z : Int)) = decide (x = max y z) := by
  rw [Bool.eq_iff_iff, beq_iff_eq, decide_eq_true_eq]; omega
set_option maxRecDepth 100000 in
set_option maxHeartbeats 4000000 in
theorem l26Trees_any (n : Nat) (rs : List Res) (s : Nat) (v : Value) (w : World) (h : NwV w v ⟨n, rs⟩) (hok : NwOk n rs) (hs : s < 256) :
    Calls Tryz.prog 106 #[v, .int .i64 (s : Int)] w fun e w' => ∃ v', e = .returned v' ∧ BldI w' w.heap.size w'.heap.size v' (labL n (selF (edg rs) (bit s) rs.length)) ∧ Below w.heap.size w w' := by
  have HI := Lib.hid (fun k : Nat => show iota (k + 1) = iota k ++ [(k : Int)] by simp [iota, List.range_succ])
  have HL := Lib.hid (fun k : Nat => length_iota k)
  have HIN := Lib.hid (fun i hi w => l26In_any s i hs hi w)
  have HOK := Lib.hid hok
  obtain ⟨hn6, hr8, _⟩ := hok
  obtain ⟨sv, rfl, hR⟩ := h
  have HR := Lib.hid hR
  obtain ⟨a, c, rfl⟩ := hR.len
  clear hR
  go_enter Tryz.func106, Tryz.ntmps106
  go_wp2
  go_loopw [5, 6] (fun u i wr => ∃ (k hi : Nat), k ≤ n ∧ i = .int .i64 (k : Int) ∧ Hid (BldI wr (w.heap.size + 1) hi u (iota k)) ∧ w.heap.size + 1 < hi ∧ Blk wr w.heap.size #[.int .i64 (n : Int), .slice a rs.length c] 55 ∧ Below w.heap.size w wr) (fun _ i _ => n - (intOf i).toNat)
  case atStart =>
    refine ⟨0, w.heap.size + 1 + 1, Nat.zero_le _, rfl, Lib.hid ?_, by omega, blkT, blwT⟩
    have hB : Blk ((w.alloc (.cells #[.int .i64 (n : Int), .slice a rs.length c] 55)).alloc (.cells #[] 2)) (w.heap.size + 1) #[] 2 := Blk.new _ (by simp)
    exact BldI.lit (zs := []) hB rfl (by simp) (Nat.le_refl _) (by omega) (by simp)
  case round =>
    obtain ⟨k, hi, hk, rfl, HB, hhi, kA, hb⟩ := hrel
    obtain ⟨a', c', rfl⟩ := HB.out.sized
    rw [HL.out k] at HB ⊢
    have qA := kA.cell
    have lA := kA.lt
    have hIs := HB.out.1
    have hlk := HL.out k
    have HLK := Lib.hid hlk
    by_cases hlt : k < n
    · have HX := Lib.hid (HI.out k)
      have i1 : (k : Int) < (n : Int) := by omega
      obtain ⟨Z, hZ⟩ : ∃ Z, iota k = Z := ⟨_, rfl⟩
      rw [hZ] at HB HLK HX
      have hzl : Z.length + 1 ≤ 2000 := by rw [HLK.out]; omega
      clear hZ hlk
      go_wp2_with (refine list_pushI (by rfl) _ _ (by rfl) (w.heap.size + 1) hi (.slice a' k c') Z [(k : Int)] (by rfl) (HB.out.by blwT) wr.heap.size 1 #[.int .i64 (k : Int)] (by rfl) (by rfl) (by omega) (Blk.new _ rfl) (by rfl) (by omega) (by omega) ?_; intro a5 c5 w5 hB5 hw5; have HB5 := Lib.hid hB5; rw [HLK.out]; clear hB5)
      have hsz := hw5.size
      simp only [World.size_alloc] at hsz
      refine ⟨⟨k + 1, w5.heap.size, by omega, by go_num, Lib.hid ?_, by omega, hw5.blk (kA.past _) (by omega), hw5.below (below_al hb _) (by omega)⟩, by simp [intOf]; omega⟩
      rw [HX.out]
      have := HB5.out
      rw [HLK.out] at this
      exact this
    · obtain rfl : k = n := by omega
      have i1 : ¬ (k : Int) < (k : Int) := by omega
      have HB2 : Hid (BldI wr (w.heap.size + 1) hi (.slice a' k c') (labL k (selF (edg rs) (bit s) 0))) := HB
      clear HB hlk HLK
      go_wp2
      obtain ⟨wo, rfl⟩ : ∃ wo, wo = wr := ⟨_, rfl⟩
      go_loopw [7] (fun i wr' => ∃ (m : Nat), m ≤ rs.length ∧ i = .int .i64 (m : Int) ∧ Hid (BldI wr' (w.heap.size + 1) hi (.slice a' k c') (labL k (selF (edg rs) (bit s) m))) ∧ Blk wr' w.heap.size #[.int .i64 (k : Int), .slice a rs.length c] 55 ∧ Below w.heap.size w wr') (fun i _ => rs.length - (intOf i).toNat)
      case atStart => exact ⟨0, Nat.zero_le _, rfl, HB2, kA, hb⟩
      case round =>
        clear HB2 kA hb qA lA hIs
        obtain ⟨m, hm, rfl, HB, kA, hb⟩ := hrel
        have qA := kA.cell
        have lA := kA.lt
        have hIs := HB.out.1
        by_cases hlt2 : m < rs.length
        · obtain ⟨x, hx⟩ : ∃ x, rs[m]? = some x := ⟨_, List.getElem?_eq_getElem hlt2⟩
          obtain ⟨p, q, ep, eq, hp, hq, hE⟩ := HOK.out.at hx
          rcases HR.out with ⟨_, _, _, h2⟩ | ⟨bb, off, cap, he, h2, h3, h4⟩
          · rw [h2] at hlt2; simp at hlt2
          obtain ⟨rfl, rfl⟩ : a = some ⟨bb, off, none⟩ ∧ c = cap := by simpa using he
          obtain ⟨d0, d1, _, _⟩ := (h4 m x hx).by hb
          rw [ep] at d0
          rw [eq] at d1
          obtain ⟨L, hLe⟩ : ∃ L, selF (edg rs) (bit s) m = L := ⟨_, rfl⟩
          rw [hLe] at HB
          have HLE := Lib.hid hLe
          have HE := Lib.hid hE
          obtain ⟨G, cap', cs, hv, hG, hBk, hcell⟩ := HB.out.blk (by rw [length_labL]; omega)
          rw [length_labL] at hv
          obtain ⟨rfl, rfl⟩ : a' = some ⟨G, 0, none⟩ ∧ c' = cap' := by simpa using hv
          have cp := hcell p _ (labL_get L hp)
          have cq := hcell q _ (labL_get L hq)
          have HC := Lib.hid hcell
          have hb6 : bit s m = true ∨ bit s m = false := by cases bit s m <;> simp
          have j1 : (0 : Int) ≤ (m : Int) := by omega
          have j2 : (m : Int) < (rs.length : Int) := by omega
          have j3 : (0 : Int) ≤ (p : Int) := by omega
          have j4 : (p : Int) < (k : Int) := by omega
          have j5 : (0 : Int) ≤ (q : Int) := by omega
          have j6 : (q : Int) < (k : Int) := by omega
          have HIm := Lib.hid (fun w => HIN.out m (by omega) w)
          clear hLe hE h4 he hx hv hcell hBk ep eq
          rcases hb6 with hbt | hbf
          · rw [hbt] at HIm
            have HBT := Lib.hid hbt
            obtain ⟨y, hy⟩ : ∃ y, L p = y := ⟨_, rfl⟩
            obtain ⟨z, hz⟩ : ∃ z, L q = z := ⟨_, rfl⟩
            rw [hy] at cp
            rw [hz] at cq
            have HY := Lib.hid hy
            have HZ := Lib.hid hz
            clear hbt hy hz
            go_wp2
            go_quiet (fail)
            go_wp2
            obtain ⟨wo2, rfl⟩ : ∃ wo, wo = wr := ⟨_, rfl⟩
            go_loopw [10] (fun i wr2 => ∃ (j : Nat), j ≤ k ∧ i = .int .i64 (j : Int) ∧ Hid (BldI wr2 (w.heap.size + 1) hi (.slice (some ⟨G, 0, none⟩) k c') (labL k (upF (mrgF L p q) L j))) ∧ Blk wr2 w.heap.size #[.int .i64 (k : Int), .slice (some ⟨bb, off, none⟩) rs.length c] 55 ∧ Below w.heap.size w wr2) (fun i _ => k - (intOf i).toNat)
            case atStart => exact ⟨0, Nat.zero_le _, rfl, Lib.hid (by rw [upF_zero]; exact BldI.by blwT HB.out), blkT, blwT⟩
            case round =>
              clear HB kA hb qA lA hIs HC cp cq
              obtain ⟨j, hj, rfl, HB, kA, hb⟩ := hrel
              have qA := kA.cell
              have lA := kA.lt
              have hIs := HB.out.1
              by_cases hlt3 : j < k
              · obtain ⟨G2, cap2, cs2, hv2, hG2, hBk2, hcell2⟩ := HB.out.blk (by rw [length_labL]; omega)
                rw [length_labL] at hv2
                obtain ⟨rfl, rfl⟩ : G = G2 ∧ c' = cap2 := by simpa using hv2
                have cj := hcell2 j _ (labL_get _ hlt3)
                rw [upF_at] at cj
                have fG := hBk2.free
                have lG := hBk2.lt
                obtain ⟨x, hx⟩ : ∃ x, L j = x := ⟨_, rfl⟩
                rw [hx] at cj
                have HX := Lib.hid hx
                have l1 : (0 : Int) ≤ (j : Int) := by omega
                have l2 : (j : Int) < (k : Int) := by omega
                have hGA : w.heap.size < G := by omega
                clear hv2 hcell2 hBk2 hx
                by_cases hm2 : x = max y z
                · have hmb : ((x : Int) == max (y : Int) (z : Int)) = true := by rw [max_beq]; simpa using hm2
                  have HST := Lib.hid (show BldI (wr.setCell ⟨G, j, none⟩ (.int .i64 (if z < y then (z : Int) else (y : Int)))) (w.heap.size + 1) hi (.slice (some ⟨G, 0, none⟩) k c') (labL k (upF (mrgF L p q) L (j + 1))) from by
                    have e := upF_step (f := mrgF L p q) (g := L) hlt3 (y := min y z) (by unfold mrgF; rw [HX.out, HY.out, HZ.out, if_pos hm2])
                    have e2 : ((min y z : Nat) : Int) = (if z < y then (z : Int) else (y : Int)) := by split <;> omega
                    rw [e2] at e
                    rw [← e]
                    exact HB.out.setAt j _)
                  clear hm2
                  go_wp2_with (go_at_call 121; refine (HIm.out _).mono ?_; rintro e w' ⟨rfl, rfl⟩)
                  exact ⟨⟨j + 1, by omega, by go_num, HST, kA.apart _ _ _ (by omega), blwT⟩, by simp [intOf]; omega⟩
                · have hmb : ((x : Int) == max (y : Int) (z : Int)) = false := by rw [max_beq]; simpa using hm2
                  have HST := Lib.hid (show BldI wr (w.heap.size + 1) hi (.slice (some ⟨G, 0, none⟩) k c') (labL k (upF (mrgF L p q) L (j + 1))) from by
                    rw [upF_same (by unfold mrgF; rw [HX.out, HY.out, HZ.out, if_neg hm2])]
                    exact HB.out)
                  clear hm2
                  go_wp2_with (go_at_call 121; refine (HIm.out _).mono ?_; rintro e w' ⟨rfl, rfl⟩)
                  exact ⟨⟨j + 1, by omega, by go_num, HST, kA, hb⟩, by simp [intOf]; omega⟩
              · obtain rfl : j = k := by omega
                have l2 : ¬ (j : Int) < (j : Int) := by omega
                have HST := Lib.hid (show BldI wr (w.heap.size + 1) hi (.slice (some ⟨G, 0, none⟩) j c') (labL j (selF (edg rs) (bit s) (m + 1))) from by
                  rw [selF_on HBT.out, HE.out, HLE.out]
                  have := HB.out
                  rwa [upF_all] at this)
                go_wp2
                exact ⟨⟨m + 1, by omega, by go_num, HST, kA, hb⟩, by simp [intOf]; omega⟩
          · rw [hbf] at HIm
            have HST := fun w' (hb' : Below wr.heap.size wr w') => (show BldI w' (w.heap.size + 1) hi (.slice (some ⟨G, 0, none⟩) k c') (labL k (selF (edg rs) (bit s) (m + 1))) from by
              rw [selF_off (by rw [hbf]; decide), HLE.out]
              exact BldI.by hb' HB.out)
            have HS2 := Lib.hid HST
            clear HST hbf
            go_wp2
            go_quiet (fail)
            go_wp2
            obtain ⟨wo2, rfl⟩ : ∃ wo, wo = wr := ⟨_, rfl⟩
            go_loopw [10] (fun i wr2 => i = .int .i64 0 ∧ Hid (BldI wr2 (w.heap.size + 1) hi (.slice (some ⟨G, 0, none⟩) k c') (labL k (selF (edg rs) (bit s) (m + 1)))) ∧ Blk wr2 w.heap.size #[.int .i64 (k : Int), .slice (some ⟨bb, off, none⟩) rs.length c] 55 ∧ Below w.heap.size w wr2) (fun i _ => 0)
            case atStart => exact ⟨rfl, Lib.hid (HS2.out _ blwT), blkT, blwT⟩
            case round =>
              clear HB kA hb qA lA hIs HC cp cq HS2
              obtain ⟨rfl, HB, kA, hb⟩ := hrel
              have qA := kA.cell
              have k1 : (0 : Int) < (k : Int) := by omega
              go_wp2_with (go_at_call 121; refine (HIm.out _).mono ?_; rintro e w' ⟨rfl, rfl⟩)
              exact ⟨⟨m + 1, by omega, by go_num, HB, kA, hb⟩, by simp [intOf]; omega⟩
        · obtain rfl : m = rs.length := by omega
          have i2 : ¬ (rs.length : Int) < (rs.length : Int) := by omega
          have hs := HB.out
          have HB2 := Lib.hid (show BldI wr w.heap.size wr.heap.size (.slice a' k c') (labL k (selF (edg rs) (bit s) rs.length)) from hs.wide (by omega) hIs (Nat.le_refl _))
          clear hs HB
          go_wp2
          go_ret
          exact ⟨_, rfl, HB2.out, hb⟩
end Go.Proofs.YtacbdmngcdhgoaaGreat
