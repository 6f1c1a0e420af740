/- Contracts and plain laws, part 3, for the statement's proof. -/
import Derived.Test.YtmmohdhkpccjbaaGreatPkNrLaw2
import Derived.Deep.AppendLies
import Derived.Lib.SliceRun
import Derived.Deep.DeepCutAuto
import Derived.Deep.RegionLaw
import Derived.WalkLawsBesides
import Derived.Laws.IdiomCopy
import Derived.Laws.AppendOwn
namespace Go.Proofs.YtmmohdhkpccjbaaGreat
open Go.RowKit
set_option linter.unusedVariables false
set_option linter.unusedSimpArgs false
def dcells : List Dv → List Value → List Value
  | d :: ds, p :: ps => .int .i64 d.kind :: p :: .int .i64 d.wd :: .int .i64 d.len :: dcells ds ps
  | _, _ => []
theorem dcells_push (ds : List Dv) (ps : List Value) (d : Dv) (p : Value) (h : ps.length = ds.length) : dcells (ds ++ [d]) (ps ++ [p]) = dcells ds ps ++ [.int .i64 d.kind, p, .int .i64 d.wd, .int .i64 d.len] := by
  induction ds generalizing ps with
  | nil => cases ps with
    | nil => rfl
    | cons => simp at h
  | cons y ys ih => cases ps with
    | nil => simp at h
    | cons q qs => simp at h; simp [dcells, ih qs h]
theorem dcells_get (ds : List Dv) (ps : List Value) (i : Nat) (d : Dv) (p : Value) (h : ds[i]? = some d) (hp : ps[i]? = some p) : (dcells ds ps)[i * 4]? = some (.int .i64 d.kind) ∧ (dcells ds ps)[i * 4 + 1]? = some p ∧ (dcells ds ps)[i * 4 + 2]? = some (.int .i64 d.wd) ∧ (dcells ds ps)[i * 4 + 3]? = some (.int .i64 d.len) := by
  induction ds generalizing ps i with
  | nil => simp at h
  | cons y ys ih => cases ps with
    | nil => simp at hp
    | cons q qs => cases i with
      | zero => simp at h hp; subst h hp; simp [dcells]
      | succ i =>
        simp at h hp
        have e : ∀ r, (dcells (y :: ys) (q :: qs))[(i + 1) * 4 + r]? = (dcells ys qs)[i * 4 + r]? := by
          intro r
          show (Value.int .i64 y.kind :: q :: Value.int .i64 y.wd :: Value.int .i64 y.len :: dcells ys qs)[(i + 1) * 4 + r]? = _
          rw [show (i + 1) * 4 + r = (i * 4 + r) + 1 + 1 + 1 + 1 by omega]
          simp only [List.getElem?_cons_succ]
        have e0 := e 0
        simp only [Nat.add_zero] at e0
        rw [e0, e 1, e 2, e 3]
        exact ih qs i h hp
def Bld (w : World) (lo hi : Nat) (v : Value) (ds : List Dv) : Prop := hi ≤ w.heap.size ∧ ∃ (pvs : List Value) (f : Nat → Nat), w.ownsRow lo 51 4 v ds.length (dcells ds pvs) ∧ pvs.length = ds.length ∧ (∀ g, v.ownBlock = some g → lo ≤ g ∧ g < hi) ∧
  (∀ i x pv, ds[i]? = some x → pvs[i]? = some pv → OwnR w (f i) (f i + 1) pv x.pins ∧ (lo ≤ f i ∧ f i < hi) ∧ v.ownBlock ≠ some (f i)) ∧ (∀ i j, i < ds.length → j < ds.length → i ≠ j → f i ≠ f j)
section
variable {w w' : World} {lo hi : Nat} {v : Value} {ds : List Dv}
theorem grown_within {row : Option Nat} (h : w.grownBy w' row) (hr : ∀ g, row = some g → lo ≤ g ∧ g < hi) : Within lo hi w w' :=
  ⟨h.os, h.tape, h.output, h.size, fun k hk hd => h.block k hk (fun e => by have := hr k e.symm; omega)⟩
theorem row_same {T : TypeId} {k n : Nat} {xs : List Value} (h : w.ownsRow lo T k v n xs) (hb : ∀ g, v.ownBlock = some g → w'.heap[g]? = w.heap[g]?) : w'.ownsRow lo T k v n xs := by
  obtain ⟨h1, h2⟩ := h
  refine ⟨h1, ?_⟩
  rcases h2 with h2 | ⟨g, cap, cur, e1, e2, e3, e4⟩
  · exact .inl h2
  · exact .inr ⟨g, cap, cur, e1, e2, by rw [hb g (by rw [e1]; rfl)]; exact e3, e4⟩
theorem Bld.nil (w : World) (lo : Nat) : Bld w lo w.heap.size (.slice none 0 0) [] :=
  ⟨Nat.le_refl _, [], fun _ => 0, World.ownsRow_nil w lo _ 4, rfl, (by intro g h; cases h), (by intro i x pv h; simp at h), (by intro i j h; simp at h)⟩
theorem Bld.by (hb : Below w.heap.size w w') (h : Bld w lo hi v ds) : Bld w' lo hi v ds := by
  obtain ⟨hs, pvs, f, h1, h2, h3, h4, h5⟩ := h
  refine ⟨Nat.le_trans hs hb.size, pvs, f, row_same h1 (fun g hg => hb.block g (by have := h3 g hg; omega)), h2, h3, fun i x pv hx hp => ?_, h5⟩
  obtain ⟨a, b, c⟩ := h4 i x pv hx hp
  exact ⟨OwnR.by hb a, b, c⟩
theorem Bld.past {lo' hi' : Nat} (hb : Within lo' hi' w w') (h : Bld w lo hi v ds) (hd : hi' ≤ lo ∨ hi ≤ lo') : Bld w' lo hi v ds := by
  obtain ⟨hs, pvs, f, h1, h2, h3, h4, h5⟩ := h
  refine ⟨Nat.le_trans hs hb.size, pvs, f, row_same h1 (fun g hg => hb.block g (by have := h3 g hg; omega) (by have := h3 g hg; omega)), h2, h3, fun i x pv hx hp => ?_, h5⟩
  obtain ⟨a, b, c⟩ := h4 i x pv hx hp
  exact ⟨OwnR.past hb a (by omega), b, c⟩
theorem Bld.sized (h : Bld w lo hi v ds) : ∃ a c, v = .slice a ds.length c := by
  obtain ⟨_, pvs, f, ⟨_, h1⟩, _⟩ := h
  rcases h1 with ⟨h1, h2⟩ | ⟨g, cap, cur, e1, _⟩
  · exact ⟨none, 0, by rw [h1, h2]⟩
  · exact ⟨_, _, e1⟩
theorem Bld.own (h : Bld w lo hi v ds) : OwnDs w lo hi v ds := by
  obtain ⟨hs, pvs, f, ⟨hlen, h1⟩, h2, h3, h4, h5⟩ := h
  rcases h1 with ⟨h1, hn⟩ | ⟨g, cap, cur, e1, e2, e3, e4, e5, e6, e7⟩
  · exact .inl ⟨_, _, h1, List.eq_nil_of_length_eq_zero hn⟩
  · have hcur : ∀ (j : Nat) u, (dcells ds pvs)[j]? = some u → cur[j]? = some u := by
      intro j u hu
      rw [← e7] at hu
      have hj : j < ds.length * 4 := by
        have := (List.getElem?_eq_some_iff.1 hu).1
        rw [List.length_take] at this; omega
      rw [List.getElem?_take_of_lt hj] at hu
      simpa using hu
    refine .inr ⟨g, cap, cur, f, e1, h3 g (by rw [e1]; rfl), e4, e5, e3, fun i x hx => ?_, h5⟩
    have hi : i < ds.length := (List.getElem?_eq_some_iff.1 hx).1
    obtain ⟨pv, hp⟩ : ∃ pv, pvs[i]? = some pv := ⟨pvs[i]'(by omega), List.getElem?_eq_getElem (by omega)⟩
    obtain ⟨a, b, c⟩ := h4 i x pv hx hp
    obtain ⟨q0, q1, q2, q3⟩ := dcells_get ds pvs i x pv hx hp
    refine ⟨⟨pv, ⟨hcur _ _ q0, hcur _ _ q1, hcur _ _ q2, hcur _ _ q3⟩, a⟩, b.1, b.2, fun e => c (by rw [e1, e]; rfl)⟩
end
theorem step_push {ops : Array Oper} {o : Oper} {a : Act} {w : World} {K : Act → World → Prop} {Q : Exit → Act → World → Prop} {E : Prop} (hgd : o.guard = none) (s x : Operand)
    (ho : o.op = .call { callee := .builtin .append, args := #[s, x], argTypes := #[31, 31] })
    (lo hi : Nat) (v : Value) (ds : List Dv) (hs : a.eval s = v) (hB : Bld w lo hi v ds) (nb : Nat) (d : Dv) (pv : Value) (fb : Nat) (hx : a.eval x = .slice (some ⟨nb, 0, none⟩) 1 1)
    (hnb : Blk w nb #[.int .i64 d.kind, pv, .int .i64 d.wd, .int .i64 d.len] 51) (hpv : OwnR w fb (fb + 1) pv d.pins) (hlo : lo ≤ hi) (hhi : hi ≤ fb) (hfb : fb < w.heap.size) (hn : ds.length ≤ 1000)
    (hK : ∀ a' c' w', Bld w' lo w'.heap.size (.slice a' (ds.length + 1) c') (ds ++ [d]) → Within lo hi w w' → K (a.put o.dst (.slice a' (ds.length + 1) c')) w') :
    if Region.wanted o (yielded ops a.tmps) = true then Oper.wp Tryz.prog o a w K Q else E := by
  obtain ⟨i0, hi0, hz0, hz1, hz2⟩ := info_parts infoDev
  obtain ⟨hsz, pvs, f, h1, h2, h3, h4, h5⟩ := hB
  have hone : pv.oneCell' = true := by
    rcases hpv with ⟨_, _, rfl, _⟩ | ⟨_, _, _, rfl, _⟩ <;> rfl
  refine step_append_lies w hgd s x 31 ho lo 51 i0 _ 4 48 Tryz.underlying31 hi0 hz0 hz1 hz2 rfl (by decide) v ds.length _ hs h1 ⟨nb, 0, none⟩ 1 1 [.int .i64 d.kind, pv, .int .i64 d.wd, .int .i64 d.len] hx rfl (World.news_of_block (cs := #[.int .i64 d.kind, pv, .int .i64 d.wd, .int .i64 d.len]) hnb) ?_ (by decide) (by unfold maxLen; omega) (by omega) (by omega) w.heap.size rfl ?_
  · intro u hu
    simp at hu
    rcases hu with rfl | rfl | rfl | rfl
    · rfl
    · exact hone
    · rfl
    · rfl
  · intro g cap w' hrow hgrow hg hgl
    have hW : Within lo hi w w' := grown_within hgrow h3
    refine hK (some ⟨g, 0, none⟩) cap w' ⟨Nat.le_refl _, pvs ++ [pv], fun i => if i = ds.length then fb else f i, ?_, by simp [h2], ?_, ?_, ?_⟩ hW
    · rw [List.length_append, List.length_singleton, dcells_push ds pvs d pv h2]; exact hrow
    · intro g' hg'
      have : g = g' := by injection hg'
      subst this
      rcases hg with h | h
      · have := h3 g h; omega
      · omega
    · intro i y pv' hy hp'
      by_cases hi' : i < ds.length
      · rw [List.getElem?_append_left hi'] at hy
        rw [List.getElem?_append_left (by omega)] at hp'
        obtain ⟨a1, b1, c1⟩ := h4 i y pv' hy hp'
        simp only [if_neg (show i ≠ ds.length by omega)]
        have hsep : ∀ g0, v.ownBlock = some g0 → g0 ≠ f i := fun g0 e1 e2 => c1 (by rw [e1, e2])
        refine ⟨?_, by have := hgrow.size; omega, ?_⟩
        · cases hv : v.ownBlock with
          | none => exact OwnR.by ⟨hgrow.os, hgrow.tape, hgrow.output, hgrow.size, fun k hk => hgrow.block k hk (by rw [hv]; simp)⟩ a1
          | some g0 => exact OwnR.past (grown_within (lo := g0) (hi := g0 + 1) hgrow (fun g1 e => by rw [hv] at e; cases e; omega)) a1 (by have := hsep g0 hv; omega)
        · intro e
          have : g = f i := by injection e
          rcases hg with h | h
          · exact hsep g h this
          · omega
      · have hil : i < (ds ++ [d]).length := (List.getElem?_eq_some_iff.1 hy).1
        simp at hil
        obtain rfl : i = ds.length := by omega
        rw [List.getElem?_append_right (Nat.le_refl _)] at hy
        rw [List.getElem?_append_right (by omega)] at hp'
        simp [h2] at hy hp'
        subst hy hp'
        simp only [if_true]
        refine ⟨OwnR.past hW hpv (by omega), by have := hgrow.size; omega, ?_⟩
        intro e
        have : g = fb := by injection e
        rcases hg with h | h
        · have := h3 g h; omega
        · omega
    · intro i j hi' hj' hij
      simp at hi' hj'
      by_cases e1 : i = ds.length
      · subst e1
        obtain ⟨y, hy⟩ : ∃ y, ds[j]? = some y := ⟨ds[j]'(by omega), List.getElem?_eq_getElem (by omega)⟩
        obtain ⟨p, hp⟩ : ∃ p, pvs[j]? = some p := ⟨pvs[j]'(by omega), List.getElem?_eq_getElem (by omega)⟩
        have := (h4 j y p hy hp).2.1
        simp only [if_true, if_neg (show j ≠ ds.length by omega)]
        omega
      · by_cases e2 : j = ds.length
        · subst e2
          obtain ⟨y, hy⟩ : ∃ y, ds[i]? = some y := ⟨ds[i]'(by omega), List.getElem?_eq_getElem (by omega)⟩
          obtain ⟨p, hp⟩ : ∃ p, pvs[i]? = some p := ⟨pvs[i]'(by omega), List.getElem?_eq_getElem (by omega)⟩
          have := (h4 i y p hy hp).2.1
          simp only [if_true, if_neg e1]
          omega
        · simp only [if_neg e1, if_neg e2]
          exact h5 i j (by omega) (by omega) hij
/- Copies of slices of ports. -/
def pcells : List Pt → List Value
  | p :: ps => .string p.name :: .int .i64 p.net :: pcells ps
  | [] => []
theorem length_pcells (ps : List Pt) : (pcells ps).length = ps.length * 2 := by
  induction ps with
  | nil => rfl
  | cons p ps ih => simp [pcells, ih]; omega
theorem pcells_get (ps : List Pt) (i : Nat) (p : Pt) (h : ps[i]? = some p) : (pcells ps)[i * 2]? = some (.string p.name) ∧ (pcells ps)[i * 2 + 1]? = some (.int .i64 p.net) := by
  induction ps generalizing i with
  | nil => simp at h
  | cons q qs ih => cases i with
    | zero => simp at h; subst h; simp [pcells]
    | succ i =>
      simp at h
      have e : ∀ r, (pcells (q :: qs))[(i + 1) * 2 + r]? = (pcells qs)[i * 2 + r]? := by
        intro r
        show (Value.string q.name :: Value.int .i64 q.net :: pcells qs)[(i + 1) * 2 + r]? = _
        rw [show (i + 1) * 2 + r = (i * 2 + r) + 1 + 1 by omega]
        simp only [List.getElem?_cons_succ]
      have e0 := e 0
      simp only [Nat.add_zero] at e0
      rw [e0, e 1]
      exact ih i h
theorem pcells_at (ps : List Pt) (j : Nat) (u : Value) (h : (pcells ps)[j]? = some u) : ∃ p, ps[j / 2]? = some p ∧ ((j % 2 = 0 ∧ u = .string p.name) ∨ (j % 2 = 1 ∧ u = .int .i64 p.net)) := by
  have hj : j < ps.length * 2 := by have := (List.getElem?_eq_some_iff.1 h).1; rwa [length_pcells] at this
  obtain ⟨p, hp⟩ : ∃ p, ps[j / 2]? = some p := ⟨ps[j / 2]'(by omega), List.getElem?_eq_getElem (by omega)⟩
  obtain ⟨e1, e2⟩ := pcells_get ps (j / 2) p hp
  refine ⟨p, hp, ?_⟩
  rcases Nat.mod_two_eq_zero_or_one j with hm | hm
  · left
    rw [show j / 2 * 2 = j by omega, h] at e1
    exact ⟨hm, Option.some.inj e1⟩
  · right
    rw [show j / 2 * 2 + 1 = j by omega, h] at e2
    exact ⟨hm, Option.some.inj e2⟩
section
variable {w w1 : World} {lo : Nat} {sv : Value} {ps : List Pt}
theorem src_ports (h : PtSl w sv ps) : Src Tryz.prog 2 32 sv ps.length (pcells ps) w := by
  have h1 : ∀ u ∈ pcells ps, u.oneCell' = true := by
    intro u hu
    obtain ⟨j, hj, e⟩ := List.mem_iff_getElem.1 hu
    obtain ⟨p, _, h⟩ := pcells_at ps j u (by rw [List.getElem?_eq_getElem hj, e])
    rcases h with ⟨_, rfl⟩ | ⟨_, rfl⟩ <;> rfl
  rcases h with ⟨a, c, rfl, rfl⟩ | ⟨b, off, cap, rfl, h2, h3, h4⟩
  · cases a with
    | none => exact Src.ofNil w Tryz.underlying32 c
    | some a => exact Src.ofSlice w Tryz.underlying32 a 0 c [] rfl (by simp) (by simp)
  · refine Src.ofSlice w Tryz.underlying32 _ _ _ _ (by rw [length_pcells]) (fun j u hu => ?_) h1
    obtain ⟨p, hp, hc⟩ := pcells_at ps j u hu
    obtain ⟨c1, c2⟩ := h4 _ p hp
    rw [Addr.add_lit]
    rcases hc with ⟨hm, rfl⟩ | ⟨hm, rfl⟩
    · have e : off + j / 2 * 2 = off + j := by omega
      rw [e] at c1; exact c1
    · have e : off + j / 2 * 2 + 1 = off + j := by omega
      rw [e] at c2; exact c2
theorem cloneP_run (h : PtSl w sv ps) (hn : ps.length ≤ 1048576) (b : Nat) (ty : TypeId) (hlo : lo ≤ w.heap.size) :
    ∃ v w', (Builtin.append_ #[32, 32] ty #[.slice (some ⟨b, 0, none⟩) 0 0, sv]).run Tryz.prog w = .ok v w' ∧ OwnPs w' lo w'.heap.size v ps ∧ Below w.heap.size w w' := by
  obtain ⟨i0, hi, hz0, hz1, hz2⟩ := info_parts infoPt
  have hS := src_ports h
  by_cases h0 : ps = []
  · subst h0
    have hr := run_append_room_src (P := Tryz.prog) w 32 32 ty 89 i0 Tryz.underlying32 hi b 0 0 0 sv 0 [] (by rw [hz1]; exact hS) (by omega) (by simp) (by simp)
    refine ⟨_, _, hr, .inl ⟨_, _, rfl, rfl⟩, ?_⟩
    exact Below.refl _ _
  · have hl : 0 < ps.length := List.length_pos_iff.2 h0
    have hr := run_append_grow_src (P := Tryz.prog) w 32 32 ty 89 i0 _ Tryz.underlying32 hi hz0 (some ⟨b, 0, none⟩) 0 0 [] (by rw [hz1]; exact run_firstCells_some w.drew 2 0 _ 0 0 [] rfl (by simp)) sv ps.length (pcells ps) (by rw [hz1]; exact hS) (by omega) (by omega)
      (by rw [hz2]; simp only [Builtin.nextslicecap, Nat.mul_zero, Nat.zero_add]; rw [if_pos (by omega)]; omega)
    refine ⟨_, _, hr, .inr ⟨w.heap.size, grownCap w (0 + ps.length) 0 89, _, by rw [Nat.zero_add], ⟨hlo, by simp⟩, by have := grownCap_ge w (0 + ps.length) 0 89; omega, grownCap_le_maxLen _ _ _ _ (by unfold maxLen; omega), Blk.new _ rfl, ?_⟩, ((Below.refl _ _).drew).alloc (Nat.le_refl _) _⟩
    intro i x hx
    have hi := (List.getElem?_eq_some_iff.1 hx).1
    obtain ⟨e1, e2⟩ := pcells_get ps i x hx
    have hl2 := length_pcells ps
    refine ⟨?_, ?_⟩
    · rw [Array.getElem?_append_left (by simp [hl2]; omega)]; simpa using e1
    · rw [Array.getElem?_append_left (by simp [hl2]; omega)]; simpa using e2
end
theorem step_cloneP {ops : Array Oper} {o : Oper} {a : Act} {w : World} {K : Act → World → Prop} {Q : Exit → Act → World → Prop} {E : Prop} (hgd : o.guard = none) (s x : Operand)
    (ho : o.op = .call { callee := .builtin .append, args := #[s, x], argTypes := #[32, 32] })
    (b : Nat) (hs : a.eval s = .slice (some ⟨b, 0, none⟩) 0 0) (sv : Value) (ps : List Pt) (hx : a.eval x = sv) (h : PtSl w sv ps) (hn : ps.length ≤ 1048576) (lo : Nat) (hlo : lo ≤ w.heap.size)
    (hK : ∀ v w', OwnPs w' lo w'.heap.size v ps → Below w.heap.size w w' → K (a.put o.dst v) w') :
    if Region.wanted o (yielded ops a.tmps) = true then Oper.wp Tryz.prog o a w K Q else E := by
  have hw : Region.wanted o (yielded ops a.tmps) = true := by simp [Region.wanted, hgd]
  rw [if_pos hw]
  obtain ⟨v, w', hr, h2, h3⟩ := cloneP_run h hn b o.type hlo
  unfold Oper.wp execOp
  simp only [ho, resolve, invoke, builtin, Sem.run_bind, Sem.run_pure, Result.andThen_ok, List.map_toArray, List.map_cons, List.map_nil, hs, hx, hr]
  exact hK v w' h2 h3
theorem list_cloneP {ops : Array Oper} {rest : List Oper} {o : Oper} {a : Act} {w : World} {Q : Exit → Act → World → Prop} (hgd : o.guard = none) (s x : Operand)
    (ho : o.op = .call { callee := .builtin .append, args := #[s, x], argTypes := #[32, 32] })
    (b : Nat) (hs : a.eval s = .slice (some ⟨b, 0, none⟩) 0 0) (sv : Value) (ps : List Pt) (hx : a.eval x = sv) (h : PtSl w sv ps) (hn : ps.length ≤ 1048576) (lo : Nat) (hlo : lo ≤ w.heap.size)
    (hK : ∀ v w', OwnPs w' lo w'.heap.size v ps → Below w.heap.size w w' → wpList Tryz.prog ops Q rest (a.put o.dst v) w') : wpList Tryz.prog ops Q (o :: rest) a w :=
  wpList_plain hgd fun _ hK' => by
    obtain ⟨v, w', hr, h2, h3⟩ := cloneP_run h hn b o.type hlo
    unfold Oper.wp execOp
    simp only [ho, resolve, invoke, builtin, Sem.run_bind, Sem.run_pure, Result.andThen_ok, List.map_toArray, List.map_cons, List.map_nil, hs, hx, hr]
    exact hK' _ _ (hK v w' h2 h3)
set_option maxRecDepth 100000 in
set_option maxHeartbeats 1000000 in
theorem cloneP_any (sv : Value) (ps : List Pt) (w : World) (h : PtSl w sv ps) (hn : ps.length ≤ 1048576) :
    Calls Tryz.prog 77 #[sv] w fun e w' => ∃ v, e = .returned v ∧ OwnPs w' w.heap.size w'.heap.size v ps ∧ Below w.heap.size w w' := by
  obtain ⟨a, c, rfl⟩ := h.sized
  have q22 : ∀ (w : World) (a : Option Addr) (n c n' c' : Nat), (binOp .eql 32 (.slice a n c) (.slice none n' c')).run Tryz.prog w = .ok (.bool a.isNone) w := fun w a n c n' c' => Lib.run_eql_slice_nil w _ _ a n c n' c' Tryz.underlying32
  cases a with
  | none =>
    have hz : ps = [] := by
      rcases h with ⟨_, _, _, h2⟩ | ⟨b, off, cap, h1, _⟩
      · exact h2
      · simp at h1
    subst hz
    go_enter Tryz.func77, Tryz.ntmps77
    go_wp2
    refine bodyPost_ret (v := .slice none 0 0) (by simp [results, Tryz.results77, go_sem, *]) rfl ⟨_, rfl, .inl ⟨_, _, rfl, rfl⟩, blwT⟩
  | some ad =>
    go_enter Tryz.func77, Tryz.ntmps77
    go_wp2_with ((refine list_cloneP (by rfl) _ _ (by rfl) _ (by rfl) _ ps (by rfl) (h.by blwT) hn w.heap.size (by simp; try omega) ?_; intro v w3 hO hb3; have HO := Lib.hid hO; obtain ⟨a1, c1, rfl⟩ := hO.sl.sized; clear hO))
    refine bodyPost_ret (v := .slice a1 ps.length c1) (by simp [results, Tryz.results77, go_sem, *]) rfl ⟨_, rfl, HO.out, blwT⟩
/- copyNetlist. -/
theorem OwnI.pin {w : World} {lo : Nat} {sv : Value} {zs : List Int} (h : OwnI w lo sv zs) (hne : zs ≠ []) : ∃ g, lo ≤ g ∧ g < w.heap.size ∧ OwnR w g (g + 1) sv zs := by
  rcases h with ⟨_, _, _, h⟩ | ⟨g, cap, cs, h1, h2, h3, h4, h5, h6⟩
  · exact absurd h hne
  · exact ⟨g, h2, h5.lt, .inr ⟨g, cap, cs, h1, Nat.le_refl _, Nat.lt_succ_self _, h3, h4, h5, h6⟩⟩
set_option maxRecDepth 100000 in
set_option maxHeartbeats 4000000 in
theorem copyNetlist_any (x : Nl) (v : Value) (w : World) (h : NlV w v x) (hl : x.ds.length ≤ 1000) (hpl : x.ps.length ≤ 1048576) (hpn : ∀ d ∈ x.ds, d.pins.length ≤ 1048576 ∧ d.pins ≠ []) :
    Calls Tryz.prog 40 #[v] w fun e w' => ∃ v', e = .returned v' ∧ OwnNl w' w.heap.size w'.heap.size v' x ∧ Below w.heap.size w w' := by
  obtain ⟨s1, s2, rfl, hd, hp⟩ := h
  obtain ⟨nets, ds, ps⟩ := x
  dsimp only at hd hp hl hpl hpn ⊢
  have HD := Lib.hid hd
  have HP := Lib.hid hp
  have HPN := Lib.hid hpn
  have HCL := Lib.hid (fun w h => cloneP_any s2 ps w h hpl)
  obtain ⟨a1, c1, rfl⟩ := hd.sized
  obtain ⟨a2, c2, rfl⟩ := hp.sized
  clear hd hp hpn
  go_enter Tryz.func40, Tryz.ntmps40
  go_upto_region 1 with fail
  go_cut [3] (fun s3 wx => ∃ (p : Nat) (a3 : Option Addr) (c3 lo2 hi2 : Nat), s3 = .pointer (some ⟨p, 0, none⟩) ∧ Blk wx p #[.int .i64 nets, .slice none 0 0, .slice a3 ps.length c3] 34 ∧ Blk wx w.heap.size #[.int .i64 nets, .slice a1 ds.length c1, .slice a2 ps.length c2] 34 ∧ Blk wx (w.heap.size + 1) #[.int .i64 0, .slice none 0 0, .slice none 0 0] 34 ∧ OwnPs wx lo2 hi2 (.slice a3 ps.length c3) ps ∧ (w.heap.size + 1 < p ∧ w.heap.size + 1 < lo2 ∧ hi2 ≤ wx.heap.size ∧ (p < lo2 ∨ hi2 ≤ p)) ∧ Below w.heap.size w wx)
  case first =>
    go_region_held3 ((fun w' => (Blk w' (w.heap.size) #[.int .i64 nets, .slice a1 ds.length c1, .slice a2 ps.length c2] 34 ∧ ∀ o, w'.cell? ⟨w.heap.size, o, none⟩ = (#[.int .i64 nets, .slice a1 ds.length c1, .slice a2 ps.length c2] : Array Value)[o]?) ∧ Below w.heap.size w w')) (((try (obtain ⟨⟨hS0, _⟩, hSB⟩ := hHeld)); refine ⟨Blk.both ?_, ?_⟩ <;> first | ((repeat (first | (with_reducible assumption) | (with_reducible refine Blk.drewN ?_ _) | (with_reducible refine Blk.drew ?_) | ((with_reducible refine Blk.new _ ?_); focus (first | omega | (simp; done) | (simp; omega))) | (with_reducible refine Blk.past ?_ _) | ((with_reducible refine Blk.apart ?_ _ _ _ ?_); rotate_left; focus (first | omega | (simp; done) | (simp; omega))) | (with_reducible refine Blk.by (by assumption) ?_))); done) | ((repeat (first | (with_reducible exact Below.refl _ _) | (with_reducible refine below_drewN ?_ _) | (with_reducible refine Below.drew ?_) | (with_reducible refine below_al ?_ _) | (with_reducible refine below_on (by assumption) ?_) | ((with_reducible refine Below.setCell ?_ ?_ _); rotate_left; focus (first | omega | (simp; done) | (simp; omega))) | (with_reducible assumption))); done)))
      (first | (go_at_call 77; refine (HCL.out _ (HP.out.by blwT)).mono ?_; rintro e w1 ⟨v1, rfl, hO, hb1⟩; have HO := Lib.hid hO; obtain ⟨a3, c3, rfl⟩ := hO.sl.sized; clear hO; (try (refine with_fact (p := Blk w1 (w.heap.size + 1 + 1) #[.int .i64 0, .slice none 0 0, .slice none 0 0] 34) (Blk.by hb1 ?_) ?_; (focus ((repeat (first | (with_reducible assumption) | (with_reducible refine Blk.drewN ?_ _) | (with_reducible refine Blk.drew ?_) | ((with_reducible refine Blk.new _ ?_); focus (first | omega | (simp; done) | (simp; omega))) | (with_reducible refine Blk.past ?_ _) | ((with_reducible refine Blk.apart ?_ _ _ _ ?_); rotate_left; focus (first | omega | (simp; done) | (simp; omega))) | (with_reducible refine Blk.by (by assumption) ?_))); done)); intro k3; have c3' := k3.cell; have f3' := k3.free))))
    all_goals (go_wp2_with fail; go_meet)
    all_goals have hlw := hb1.size
    all_goals simp only [World.size_alloc, World.size_drew] at hlw
    · refine ⟨_, a3, c3, w.heap.size + 1 + 1, w1.heap.size, rfl, Blk.new _ rfl, blkT, blkT, ?_, ⟨by omega, by omega, by simp, by omega⟩, blwT⟩
      exact (HO.out.by ((Below.refl _ w1).alloc (Nat.le_refl _) _)).wide (by simp) (by simp)
    · refine ⟨_, a3, c3, w.heap.size + 1 + 1 + 1, w1.heap.size, rfl, (((k3.set 0 _).set 1 _).set 2 _), blkT, blkT, ?_, ⟨by omega, by omega, by simp, by omega⟩, blwT⟩
      exact (((HO.out.past (Within.off _) (by simp)).past (Within.off _) (by simp)).past (Within.off _) (by simp)).wide (by simp) (by simp)
  case rest =>
    obtain ⟨p, a3, c3, lo2, hi2, rfl, kP, kN, kZ, hO, ⟨hp1, hp2, hp3, hp4⟩, hb⟩ := hcut
    have HO := Lib.hid hO
    have lP := kP.lt
    have hbl := hb.size
    have cN := kN.cell
    obtain ⟨B, hB⟩ : ∃ B, wc.heap.size = B := ⟨_, rfl⟩
    rw [hB] at lP hbl
    have hBl := Bld.nil wc wc.heap.size
    rw [hB] at hBl hp3
    have HO1 := Lib.hid hO
    have lPB : p < B := lP
    clear hO HO
    have HB := Lib.hid hB
    clear hB
    go_wp2
    go_loopw [15] (fun i wr => ∃ (k : Nat) (v : Value) (hi : Nat), k ≤ ds.length ∧ B ≤ hi ∧ i = .int .i64 k ∧ Bld wr B hi v (ds.take k) ∧ Blk wr p #[.int .i64 nets, v, .slice a3 ps.length c3] 34 ∧ Blk wr (w.heap.size + 1) #[.int .i64 0, .slice none 0 0, .slice none 0 0] 34 ∧ OwnPs wr lo2 hi2 (.slice a3 ps.length c3) ps ∧ Below w.heap.size w wr) (fun i _ => ds.length - (intOf i).toNat)
    case atStart => exact ⟨0, .slice none 0 0, B, Nat.zero_le _, Nat.le_refl _, rfl, hBl, kP, kZ, HO1.out, hb⟩
    case round =>
      clear kP kZ kN cN hb hBl
      obtain ⟨k, v, hi, hk, hBhi, rfl, hBl, kP, kZ, hO, hb⟩ := hrel
      have HO := Lib.hid hO
      have HBL := Lib.hid hBl
      have lP := kP.lt
      obtain ⟨av, cv, rfl⟩ := hBl.sized
      have hhi := hBl.1
      clear hO hBl
      by_cases hlt : k < ds.length
      · obtain ⟨x, hx⟩ : ∃ x, ds[k]? = some x := ⟨ds[k], List.getElem?_eq_getElem hlt⟩
        have HDS := HD.out
        rcases HDS with ⟨_, _, _, h2⟩ | ⟨b, off, cap, he, h2, h3, h4⟩
        · rw [h2] at hlt; simp at hlt
        obtain ⟨rfl, rfl⟩ : a1 = some ⟨b, off, none⟩ ∧ c1 = cap := by simpa using he
        obtain ⟨hxl, hxn⟩ := HPN.out x (List.mem_of_getElem? hx)
        obtain ⟨sx, d1, d2, d3, d4, hSx⟩ := (h4 k x hx).by hb
        have lX := lt_of_cell d1
        dsimp only at lX
        have HCD := Lib.hid (fun w h => copyDevice_any x.kind x.wd x.len sx x.pins w h hxl)
        have HSX := Lib.hid hSx
        have HX := Lib.hid hx
        have HXN := Lib.hid hxn
        have htk := List.length_take (i := k) (l := ds)
        obtain ⟨ax, cx, rfl⟩ := hSx.len
        have i1 : (0 : Int) ≤ (k : Int) := by omega
        have i2 : (k : Int) < (ds.length : Int) := by omega
        obtain ⟨wo, rfl⟩ : ∃ wo : World, wo = wr := ⟨_, rfl⟩
        have htl : (ds.take k).length = k := by rw [List.length_take]; omega
        have HTL := Lib.hid htl
        have kA : Blk (wo.alloc (.cells #[.int .i64 x.kind, .slice ax x.pins.length cx, .int .i64 x.wd, .int .i64 x.len] 51)) wo.heap.size #[.int .i64 x.kind, .slice ax x.pins.length cx, .int .i64 x.wd, .int .i64 x.len] 51 := Blk.new _ rfl
        have kP' := kP.past (.cells #[.int .i64 x.kind, .slice ax x.pins.length cx, .int .i64 x.wd, .int .i64 x.len] 51)
        have hb' := below_al hb (.cells #[.int .i64 x.kind, .slice ax x.pins.length cx, .int .i64 x.wd, .int .i64 x.len] 51)
        rw [htl] at kP' kP
        clear h4 hx hxn he hSx htk htl
        have hBL2 := HBL.out
        rw [HTL.out] at hBL2
        have HBL2 := Lib.hid hBL2
        clear hBL2
        clear HBL
        have cP : wo.cell? ⟨p, 1, none⟩ = some (.slice av k cv) := kP.cell 1
        have kP1' := kP'.drew
        go_wp2
        go_region_law
          (first | (go_simp; go_at_call 78; refine (HCD.out _ (HSX.out.by blwT)).mono ?_; rintro e w1 ⟨v1, rfl, hOI, hb1⟩; obtain ⟨fb, hf1, hf2, hOR⟩ := hOI.pin HXN.out; have HOR := Lib.hid hOR; obtain ⟨a1', c1', rfl⟩ := hOR.sl.len; clear hOR hOI; (try simp at hf1); have kP1 := Blk.by hb1 kP1'; have cP1 : w1.cell? ⟨p, 1, none⟩ = some (.slice av k cv) := kP1.cell 1; have lP1 := kP1.lt; dsimp only) | (refine step_push (by rfl) _ _ (by rfl) B hi _ (ds.take k) (by rfl) (HBL2.out.by blwT) w1.heap.size x _ fb (by rfl) (Blk.new _ rfl) (HOR.out.by ((Below.refl _ w1).alloc (Nat.le_refl _) _)) (by omega) (by omega) (by simp; omega) (by rw [HTL.out]; omega) ?_; intro a' c' w3 hBl3 hw3; have HBL3 := Lib.hid hBl3; have kP3 := hw3.blk ((Blk.by hb1 kP'.drew).past (.cells #[.int .i64 x.kind, .slice a1' x.pins.length c1', .int .i64 x.wd, .int .i64 x.len] 51)) (by omega); have cP3 : w3.cell? ⟨p, 1, none⟩ = some (.slice av k cv) := kP3.cell 1; have fP3 : w3.frozen? ⟨p, 1, none⟩ = false := kP3.free 1; have lP3 := kP3.lt; clear hBl3))
        all_goals
          have hsz3 := hw3.size
          simp only [World.size_alloc] at hsz3
          have hb3 := hw3.below (below_al (below_on hb1 hb'.drew) (.cells #[.int .i64 x.kind, .slice a1' x.pins.length c1', .int .i64 x.wd, .int .i64 x.len] 51)) (by omega)
          have kZ3 := hw3.blk ((Blk.by hb1 ((kZ.past (.cells #[.int .i64 x.kind, .slice ax x.pins.length cx, .int .i64 x.wd, .int .i64 x.len] 51)).drew)).past (.cells #[.int .i64 x.kind, .slice a1' x.pins.length c1', .int .i64 x.wd, .int .i64 x.len] 51)) (by omega)
          have hO3 := ((((HO.out.by ((Below.refl _ wo).alloc (Nat.le_refl _) (.cells #[.int .i64 x.kind, .slice ax x.pins.length cx, .int .i64 x.wd, .int .i64 x.len] 51))).by (below_of_drewN _ 1)).by hb1).by ((Below.refl _ w1).alloc (Nat.le_refl _) (.cells #[.int .i64 x.kind, .slice a1' x.pins.length c1', .int .i64 x.wd, .int .i64 x.len] 51))).past hw3 (by omega)
          have hl1 := hb1.size
          simp only [World.size_alloc, World.size_drew] at hl1
          go_wp2
          have hB4 := HBL3.out
          rw [HTL.out] at hB4
          have hW4 : Within p (p + 1) w3 (w3.setCell ⟨p, 1, none⟩ (.slice a' (k + 1) c')) := Within.off _
          have hO4 := OwnPs.past (lo := lo2) (hi := hi2) hW4 hO3 (by omega)
          refine ⟨⟨k + 1, .slice a' (k + 1) c', w3.heap.size, by omega, by omega, by go_num, ?_, kP3.set 1 _, kZ3.apart p 1 _ (by omega), hO4, hb3.setCell (by simp; omega) _⟩, by simp [intOf]; omega⟩
          rw [take_snoc_of ds k x HX.out]
          exact hB4.past hW4 (by omega)
      · obtain rfl : k = ds.length := by omega
        have hBL2 := HBL.out
        rw [List.take_length] at hBL2 kP
        have HOD := Lib.hid hBL2.own
        have c1' := kP.cell
        have c2' := kZ.cell
        have f2' := kZ.free
        have l2' := kZ.lt
        clear HBL hBL2
        go_wp2
        refine bodyPost_ret (v := .agg #[.int .i64 nets, .slice av ds.length cv, .slice a3 ps.length c3]) (by simp [results, Tryz.results40, go_sem, *]) rfl ⟨_, rfl, ⟨_, _, B, hi, lo2, hi2, rfl, ?_, ?_, ⟨hbl, by simp; omega⟩, ⟨by omega, by simp; omega⟩, .inr hp3⟩, ?_⟩
        · exact (((HOD.out.past (Within.off _) (by omega)).past (Within.off _) (by omega)).past (Within.off _) (by omega))
        · exact (((HO.out.past (Within.off _) (by omega)).past (Within.off _) (by omega)).past (Within.off _) (by omega))
        · repeat (first | (with_reducible exact hb) | ((with_reducible refine Below.setCell ?_ ?_ _); rotate_left; focus (simp; try omega)))
def Dr (w w' : World) : Prop := ∃ n, w' = w.drewN n
theorem Dr.refl (w : World) : Dr w w := ⟨0, rfl⟩
theorem Dr.drewN {w w' : World} (h : Dr w w') (m : Nat) : Dr w (w'.drewN m) := by obtain ⟨n, rfl⟩ := h; exact ⟨n + m, World.drewN_drewN _ _ _⟩
theorem Dr.cell {w w' : World} (h : Dr w w') (p : Addr) : w'.cell? p = w.cell? p := by obtain ⟨n, rfl⟩ := h; rfl
theorem Dr.out {w w' : World} (h : Dr w w') : ∃ n, w' = w.drewN n := h
theorem IntSl.cells {w : World} {a : Option Addr} {n c : Nat} {zs : List Int} (h : IntSl w (.slice a n c) zs) : n = zs.length ∧ ∀ (i : Nat) (x : Int), zs[i]? = some x → ∃ b off, a = some ⟨b, off, none⟩ ∧ w.cell? ⟨b, off + i, none⟩ = some (.int .i64 x) := by
  rcases h with ⟨_, _, e, rfl⟩ | ⟨b, off, cap, e, h2, h3, h4⟩
  · simp at e
    exact ⟨e.2.1, by simp⟩
  · simp at e
    exact ⟨e.2.1, fun i x hx => ⟨b, off, e.1, h4 i x hx⟩⟩
/- Contracts of the functions that compare two devices. -/
/- Parallel devices, devices in series, first pairs: plain. -/
def curP : List Int → Int
  | [p, _] => p
  | [_, p, _] => p
  | _ => 0
def curQ : List Int → Int
  | [_, q] => q
  | [_, _, q] => q
  | _ => 0
def Shp (x : Dv) : Prop := (x.kind = 2 ∧ ∃ p q, x.pins = [p, q]) ∨ ((x.kind = 0 ∨ x.kind = 1) ∧ ∃ g p q, x.pins = [g, p, q])
theorem shp_of {nets : Int} {x : Dv} (h : dvB nets x = true) : Shp x := by
  obtain ⟨h1, h2, _⟩ := dvB_all h
  have hk := inB_iff.1 h1
  by_cases h2' : x.kind = 2
  · left
    refine ⟨h2', ?_⟩
    simp only [pinsOf, h2', if_pos] at h2
    match hp : x.pins, h2 with
    | [p, q], _ => exact ⟨p, q, rfl⟩
  · right
    refine ⟨by omega, ?_⟩
    simp only [pinsOf, if_neg h2'] at h2
    match hp : x.pins, h2 with
    | [g, p, q], _ => exact ⟨g, p, q, rfl⟩
/- Current pins, gates: contracts. -/
theorem IntSl.two {w : World} {sv : Value} {p q : Int} (h : IntSl w sv [p, q]) : ∃ b off cap, sv = .slice (some ⟨b, off, none⟩) 2 cap ∧ w.cell? ⟨b, off, none⟩ = some (.int .i64 p) ∧ w.cell? ⟨b, off + 1, none⟩ = some (.int .i64 q) ∧ b < w.heap.size := by
  rcases h with ⟨_, _, _, h2⟩ | ⟨b, off, cap, hsv, h2, h3, h4⟩
  · simp at h2
  simp only [List.length_cons, List.length_nil, Nat.zero_add, Nat.reduceAdd] at hsv
  have hp : w.cell? ⟨b, off, none⟩ = some (.int .i64 p) := by have := h4 0 p rfl; simpa using this
  have hq : w.cell? ⟨b, off + 1, none⟩ = some (.int .i64 q) := by have := h4 1 q rfl; simpa using this
  refine ⟨b, off, cap, hsv, hp, hq, ?_⟩
  rcases Nat.lt_or_ge b w.heap.size with h' | h'
  · exact h'
  · simp [World.cell?, Array.getElem?_eq_none h'] at hp
theorem IntSl.three {w : World} {sv : Value} {g p q : Int} (h : IntSl w sv [g, p, q]) : ∃ b off cap, sv = .slice (some ⟨b, off, none⟩) 3 cap ∧ w.cell? ⟨b, off, none⟩ = some (.int .i64 g) ∧ w.cell? ⟨b, off + 1, none⟩ = some (.int .i64 p) ∧ w.cell? ⟨b, off + 2, none⟩ = some (.int .i64 q) ∧ b < w.heap.size := by
  rcases h with ⟨_, _, _, h2⟩ | ⟨b, off, cap, hsv, h2, h3, h4⟩
  · simp at h2
  simp only [List.length_cons, List.length_nil, Nat.zero_add, Nat.reduceAdd] at hsv
  have hg : w.cell? ⟨b, off, none⟩ = some (.int .i64 g) := by have := h4 0 g rfl; simpa using this
  have hp : w.cell? ⟨b, off + 1, none⟩ = some (.int .i64 p) := by have := h4 1 p rfl; simpa using this
  have hq : w.cell? ⟨b, off + 2, none⟩ = some (.int .i64 q) := by have := h4 2 q rfl; simpa using this
  refine ⟨b, off, cap, hsv, hg, hp, hq, ?_⟩
  rcases Nat.lt_or_ge b w.heap.size with h' | h'
  · exact h'
  · simp [World.cell?, Array.getElem?_eq_none h'] at hp
set_option maxRecDepth 100000 in
set_option maxHeartbeats 1000000 in
theorem currentPins_any (x : Dv) (sv : Value) (w : World) (h : IntSl w sv x.pins) (hs : Shp x) :
    Calls Tryz.prog 99 #[.agg #[.int .i64 x.kind, sv, .int .i64 x.wd, .int .i64 x.len]] w fun e w' => e = .returned (.tuple #[.int .i64 (curP x.pins), .int .i64 (curQ x.pins)]) ∧ Below w.heap.size w w' := by
  obtain ⟨kind, pins, wd, len⟩ := x
  dsimp only at h ⊢
  rcases hs with ⟨_, p, q, hp⟩ | ⟨_, g, p, q, hp⟩
  · dsimp only at hp; subst hp
    obtain ⟨b, off, cap, rfl, c0, c1, hb⟩ := h.two
    clear h
    simp only [curP, curQ]
    go_enter Tryz.func99, Tryz.ntmps99
    go_wp2
    go_quiet (fail)
    go_wp2
    go_ret2
    exact ⟨rfl, blwT⟩
  · dsimp only at hp; subst hp
    obtain ⟨b, off, cap, rfl, c0, c1, c2, hb⟩ := h.three
    clear h
    simp only [curP, curQ]
    go_enter Tryz.func99, Tryz.ntmps99
    go_wp2
    go_quiet (fail)
    go_wp2
    go_ret2
    exact ⟨rfl, blwT⟩
def shB (x : Dv) : Bool := decide (curP x.pins = curQ x.pins)
set_option maxRecDepth 100000 in
set_option maxHeartbeats 1000000 in
theorem shorted_any (x : Dv) (sv : Value) (w : World) (h : IntSl w sv x.pins) (hs : Shp x) :
    Calls Tryz.prog 68 #[.agg #[.int .i64 x.kind, sv, .int .i64 x.wd, .int .i64 x.len]] w fun e w' => e = .returned (.bool (shB x)) ∧ Below w.heap.size w w' := by
  have HC := Lib.hid (fun w h => currentPins_any x sv w h hs)
  have HH := Lib.hid h
  have HB := Lib.hid (show shB x = (decide (curP x.pins = curQ x.pins)) from rfl)
  generalize shB x = r at *
  generalize curP x.pins = p at *
  generalize curQ x.pins = q at *
  obtain ⟨a, c, rfl⟩ := h.len
  clear h
  go_enter Tryz.func68, Tryz.ntmps68
  go_wp2_with (go_at_call 99; refine (HC.out _ (HH.out.by blwT)).mono ?_; rintro e w1 ⟨rfl, hb1⟩)
  go_ret
  exact ⟨ret_bool (by rw [HB.out, Bool.eq_iff_iff]; simp), blwT⟩
/- Parallel devices: contracts. -/
set_option maxRecDepth 100000 in
set_option maxHeartbeats 2000000 in
theorem l27Degree_any (x : Nl) (v : Value) (net : Int) (w : World) (h : NlV w v x) (hl : x.ds.length ≤ 24) (hp3 : ∀ d ∈ x.ds, d.pins.length ≤ 3) :
    Calls Tryz.prog 19 #[v, .int .i64 net] w fun e w' => e = .returned (.int .i64 (degN x.ds net : Nat)) ∧ Below w.heap.size w w' := by
  obtain ⟨s1, s2, rfl, hd, hp⟩ := h
  obtain ⟨nets, ds, ps⟩ := x
  dsimp only at hd hp hl hp3 ⊢
  have HD := Lib.hid hd
  have H3 := Lib.hid hp3
  have HS := Lib.hid (fun k d h => degN_take ds k d h net)
  have HL := Lib.hid (fun k => degN_take_le ds k net hl hp3)
  have HF := Lib.hid (show degN (ds.take ds.length) net = degN ds net by rw [List.take_length])
  have H0 := Lib.hid (show degN (ds.take 0) net = 0 by simp [degN])
  obtain ⟨f, hf⟩ : ∃ f : Nat → Nat, (fun k => degN (ds.take k) net) = f := ⟨_, rfl⟩
  have hfe : ∀ k, degN (ds.take k) net = f k := fun k => by rw [← hf]
  generalize degN ds net = r at *
  simp only [hfe] at HS HL HF H0
  clear hf hfe hp3
  obtain ⟨a1, c1, rfl⟩ := hd.sized
  obtain ⟨a2, c2, rfl⟩ := hp.sized
  clear hd hp
  go_enter Tryz.func19, Tryz.ntmps19
  go_wp2
  go_loop [5, 6] (fun c i => ∃ k : Nat, k ≤ ds.length ∧ i = .int .i64 k ∧ c = .int .i64 (f k : Nat)) (fun _ i => ds.length - (intOf i).toNat)
  case atStart => exact ⟨0, Nat.zero_le _, rfl, by rw [H0.out]; rfl⟩
  case round =>
    obtain ⟨k, hk, rfl, rfl⟩ := hrel
    by_cases hlt : k < ds.length
    · obtain ⟨x, hx⟩ : ∃ x, ds[k]? = some x := ⟨ds[k], List.getElem?_eq_getElem hlt⟩
      have HDS := HD.out
      rcases HDS with ⟨_, _, _, h2⟩ | ⟨b, off, cap, he, h2, h3, h4⟩
      · rw [h2] at hlt; simp at hlt
      obtain ⟨rfl, rfl⟩ : a1 = some ⟨b, off, none⟩ ∧ c1 = cap := by simpa using he
      obtain ⟨sv, d1, d2, d3, d4, hS⟩ := h4 k x hx
      have lB := lt_of_cell d1
      dsimp only at lB
      have hx3 : x.pins.length ≤ 3 := H3.out x (List.mem_of_getElem? hx)
      have HC := Lib.hid (fun j z h => count_take x.pins j z h net)
      have HCL := Lib.hid (fun j => count_take_le x.pins j net hx3)
      have HST := Lib.hid (HS.out k x hx)
      have HCF := Lib.hid (show (x.pins.take x.pins.length).count net = x.pins.count net by rw [List.take_length])
      have HC0 := Lib.hid (show (x.pins.take 0).count net = 0 by simp)
      obtain ⟨g, hg⟩ : ∃ g : Nat → Nat, (fun j => (x.pins.take j).count net) = g := ⟨_, rfl⟩
      have hge : ∀ j, (x.pins.take j).count net = g j := fun j => by rw [← hg]
      simp only [hge] at HC HCL HCF HC0
      generalize x.pins.count net = q at *
      have hfk := HL.out k
      clear hg hge h4 hx he
      have HI := Lib.hid hS
      obtain ⟨a', c', rfl⟩ := hS.len
      have i1 : (0 : Int) ≤ (k : Int) := by omega
      have i2 : (k : Int) < (ds.length : Int) := by omega
      clear hS
      go_wp2
      go_loop [5, 7] (fun c j => ∃ m : Nat, m ≤ x.pins.length ∧ j = .int .i64 m ∧ c = .int .i64 (f k + g m : Nat)) (fun _ j => x.pins.length - (intOf j).toNat)
      case atStart => exact ⟨0, Nat.zero_le _, rfl, by rw [HC0.out]; rfl⟩
      case round =>
        obtain ⟨m, hm, rfl, rfl⟩ := hrel
        have hgm := HCL.out m
        by_cases hlm : m < x.pins.length
        · obtain ⟨z, hz⟩ : ∃ z, x.pins[m]? = some z := ⟨x.pins[m], List.getElem?_eq_getElem hlm⟩
          have HIS := HI.out
          rcases HIS with ⟨_, _, _, e2⟩ | ⟨bp, op, cp, e1, e2, e3, e4⟩
          · rw [e2] at hlm; simp at hlm
          obtain ⟨rfl, rfl⟩ : a' = some ⟨bp, op, none⟩ ∧ c' = cp := by simpa using e1
          have cz := e4 m z hz
          have lZ := lt_of_cell cz
          dsimp only at lZ
          have HZ := Lib.hid (HC.out m z hz)
          have j1 : (0 : Int) ≤ (m : Int) := by omega
          have j2 : (m : Int) < (x.pins.length : Int) := by omega
          clear e4 hz e1
          by_cases hzn : z = net
          · subst hzn
            go_wp2
            go_round
            case rel => exact ⟨m + 1, by omega, by go_num, by rw [HZ.out, if_pos rfl]; congr 1⟩
            case measure => simp [intOf]; omega
          · have hzb : (z == net) = false := by simpa using hzn
            have HZN := Lib.hid hzn
            clear hzn
            go_wp2
            go_round
            case rel => exact ⟨m + 1, by omega, by go_num, by rw [HZ.out, if_neg HZN.out]; rfl⟩
            case measure => simp [intOf]; omega
        · obtain rfl : m = x.pins.length := by omega
          go_wp2
          go_round
          case rel => exact ⟨k + 1, by omega, by go_num, by rw [HST.out, HCF.out]⟩
          case measure => simp [intOf]; omega
    · obtain rfl : k = ds.length := by omega
      go_wp2
      go_ret
      exact ⟨ret_i64 (by rw [HF.out]), blwT⟩
/- Contract of degrees. -/
/- Devices in series: plain. -/
/- Devices in series: contracts of the reference's helpers. -/
set_option maxRecDepth 100000 in
set_option maxHeartbeats 1000000 in
theorem l28Shorted_any (x : Dv) (sv : Value) (w : World) (h : IntSl w sv x.pins) (hs : Shp x) :
    Calls Tryz.prog 51 #[.agg #[.int .i64 x.kind, sv, .int .i64 x.wd, .int .i64 x.len]] w fun e w' => e = .returned (.bool (decide (curP x.pins = curQ x.pins))) ∧ Below w.heap.size w w' := by
  obtain ⟨kind, pins, wd, len⟩ := x
  dsimp only at h ⊢
  rcases hs with ⟨hkk, p, q, hp⟩ | ⟨hkk, g, p, q, hp⟩
  · dsimp only at hp; subst hp; clear hkk
    obtain ⟨b, off, cap, rfl, c0, c1, hb⟩ := h.two
    have HF := Lib.hid (fun w => l28First_any kind wd len (some ⟨b, off, none⟩) 0 cap (by omega) w)
    have HH := Lib.hid h
    clear h
    simp only [curP, curQ]
    go_enter Tryz.func51, Tryz.ntmps51
    go_wp2_with fail
    refine (HF.out _).mono ?_
    rintro e w1 ⟨rfl, hb1⟩
    have k0 : Blk w1 w.heap.size #[.int .i64 kind, .slice (some ⟨b, off, none⟩) 2 cap, .int .i64 wd, .int .i64 len] 51 := blkT
    have hW : Below w.heap.size w w1 := blwT
    have e0 := cell_by' hW c0
    have e1 := cell_by' hW c1
    have kc := k0.cell
    clear hb1
    go_wp2
    go_quiet (fail)
    go_wp2
    go_ret
    exact ⟨ret_bool (by rw [Bool.eq_iff_iff]; simp; exact decide_eq_true_iff.symm), blwT⟩
  · dsimp only at hp; subst hp; clear hkk
    obtain ⟨b, off, cap, rfl, c0, c1, c2, hb⟩ := h.three
    have HF := Lib.hid (fun w => l28First_any kind wd len (some ⟨b, off, none⟩) 1 cap (by omega) w)
    clear h
    simp only [curP, curQ]
    go_enter Tryz.func51, Tryz.ntmps51
    go_wp2_with fail
    refine (HF.out _).mono ?_
    rintro e w1 ⟨rfl, hb1⟩
    have k0 : Blk w1 w.heap.size #[.int .i64 kind, .slice (some ⟨b, off, none⟩) 3 cap, .int .i64 wd, .int .i64 len] 51 := blkT
    have hW : Below w.heap.size w w1 := blwT
    have e0 := cell_by' hW c0
    have e1 := cell_by' hW c1
    have e2 := cell_by' hW c2
    have kc := k0.cell
    clear hb1
    go_wp2
    go_quiet (fail)
    go_wp2
    go_ret
    exact ⟨ret_bool (by rw [Bool.eq_iff_iff]; simp; exact decide_eq_true_iff.symm), blwT⟩
set_option maxRecDepth 100000 in
set_option maxHeartbeats 4000000 in
theorem specNl_any (x : Nl) (v : Value) (w : World) (h : NlV w v x) (hok : ∀ p ∈ x.ps, p.ok) (hnn : Fits x.nets) :
    Calls Tryz.prog 16 #[v] w fun e w' => e = .returned (.bool (nlB x)) ∧ Below w.heap.size w w' := by
  obtain ⟨s1, s2, rfl, hd, hp⟩ := h
  have HNn := Lib.hid (@nlB_nets x)
  have HND := Lib.hid (@nlB_ds x)
  have HNP := Lib.hid (@nlB_ps x)
  have HDV := Lib.hid (fun k d => @nlB_dv x k d)
  have HPT := Lib.hid (fun i => @nlB_pt i x)
  have HEN := Lib.hid (@nlB_pts x)
  obtain ⟨nets, ds, ps⟩ := x
  dsimp only at hd hp hok hnn HNn HND HNP HDV HPT HEN ⊢
  generalize nlB ⟨nets, ds, ps⟩ = r at *
  have hdl : ds.length ≤ maxLen := by
    rcases hd with ⟨_, _, _, h2⟩ | ⟨b, off, cap, h1, h2, h3, _⟩
    · subst h2; simp
    · exact Nat.le_trans h2 h3
  have hpl : ps.length ≤ maxLen := by
    rcases hp with ⟨_, _, _, h2⟩ | ⟨b, off, cap, h1, h2, h3, _⟩
    · subst h2; simp
    · exact Nat.le_trans h2 h3
  unfold maxLen at hdl hpl
  have HD := Lib.hid hd
  have HP := Lib.hid hp
  obtain ⟨a1, c1, rfl⟩ := hd.sized
  obtain ⟨a2, c2, rfl⟩ := hp.sized
  clear hd hp
  rcases Bool.eq_false_or_eq_true (inB nets 0 24) with hn | hn
  · have hn' := inB_iff.1 hn
    have HN1 := Lib.hid hn
    by_cases h24 : ds.length ≤ 24
    · by_cases h8 : ps.length ≤ 8
      · have HK := Lib.hid hok
        clear hok
        go_enter Tryz.func16, Tryz.ntmps16
        go_wp2_with (go_at_call 48; refine (l16In_any _ _ _ _).mono ?_; rintro e w' ⟨rfl, rfl⟩)
        go_loopw [3] (fun i wr => ∃ k : Nat, k ≤ ds.length ∧ i = .int .i64 k ∧ Hid (∀ (j : Nat) d, j < k → ds[j]? = some d → dvB nets d = true) ∧ Blk wr w.heap.size #[.int .i64 nets, .slice a1 ds.length c1, .slice a2 ps.length c2] 34 ∧ Below w.heap.size w wr) (fun i _ => ds.length - (intOf i).toNat)
        case atStart => exact ⟨0, Nat.zero_le _, rfl, Lib.hid (by intro j d hj; omega), blkT, blwT⟩
        case round =>
          obtain ⟨k, hk, rfl, HI, kN, hb⟩ := hrel
          have cN := kN.cell
          by_cases hlt : k < ds.length
          · obtain ⟨x, hx⟩ : ∃ x, ds[k]? = some x := ⟨ds[k], List.getElem?_eq_getElem hlt⟩
            have HX := Lib.hid hx
            have HDS := HD.out
            rcases HDS with ⟨_, _, _, h2⟩ | ⟨b, off, cap, he, h2, h3, h4⟩
            · rw [h2] at hlt; simp at hlt
            obtain ⟨rfl, rfl⟩ : a1 = some ⟨b, off, none⟩ ∧ c1 = cap := by simpa using he
            obtain ⟨sv, d1, d2, d3, d4, hS⟩ := (h4 k x hx).by hb
            have HT := Lib.hid (fun w h => l27Device_any x sv nets w h (by omega) (by omega))
            obtain ⟨a', c', rfl⟩ := hS.len
            have i1 : (0 : Int) ≤ (k : Int) := by omega
            have i2 : (k : Int) < (ds.length : Int) := by omega
            clear h4 hx he
            cases hq : dvB nets x with
            | false =>
              rw [hq] at HT
              have HQ := Lib.hid (HDV.out k x HX.out hq)
              clear hq
              go_wp2_with fail
              go_region_held3 (fun w' => (Blk w' w.heap.size #[.int .i64 nets, .slice (some ⟨b, off, none⟩) ds.length c1, .slice a2 ps.length c2] 34 ∧ ∀ o, w'.cell? ⟨w.heap.size, o, none⟩ = (#[.int .i64 nets, .slice (some ⟨b, off, none⟩) ds.length c1, .slice a2 ps.length c2] : Array Value)[o]?) ∧ (w'.cell? ⟨b, off + k * 4, none⟩ = some (.int .i64 x.kind) ∧ w'.cell? ⟨b, off + k * 4 + 1, none⟩ = some (.slice a' x.pins.length c') ∧ w'.cell? ⟨b, off + k * 4 + 2, none⟩ = some (.int .i64 x.wd) ∧ w'.cell? ⟨b, off + k * 4 + 3, none⟩ = some (.int .i64 x.len)) ∧ Below w.heap.size w w')
                (first | exact ⟨kN.both, ⟨d1, d2, d3, d4⟩, hb.drew⟩ | exact ⟨(Blk.by hb1 kN).both, ⟨cell_by' hb1 d1, cell_by' hb1 d2, cell_by' hb1 d3, cell_by' hb1 d4⟩, below_on hb1 hb.drew⟩)
                (first | (go_at_call 49; refine (HT.out _ (hS.by (below_of_drewN _ 1))).mono ?_; rintro e w1 ⟨rfl, hb1⟩))
              go_wp2
              go_ret
              exact ⟨ret_bool HQ.out.symm, below_on hb1 hb.drew⟩
            | true =>
              rw [hq] at HT
              have HQ := Lib.hid hq
              clear hq
              go_wp2_with fail
              go_region_held3 (fun w' => (Blk w' w.heap.size #[.int .i64 nets, .slice (some ⟨b, off, none⟩) ds.length c1, .slice a2 ps.length c2] 34 ∧ ∀ o, w'.cell? ⟨w.heap.size, o, none⟩ = (#[.int .i64 nets, .slice (some ⟨b, off, none⟩) ds.length c1, .slice a2 ps.length c2] : Array Value)[o]?) ∧ (w'.cell? ⟨b, off + k * 4, none⟩ = some (.int .i64 x.kind) ∧ w'.cell? ⟨b, off + k * 4 + 1, none⟩ = some (.slice a' x.pins.length c') ∧ w'.cell? ⟨b, off + k * 4 + 2, none⟩ = some (.int .i64 x.wd) ∧ w'.cell? ⟨b, off + k * 4 + 3, none⟩ = some (.int .i64 x.len)) ∧ Below w.heap.size w w')
                (first | exact ⟨kN.both, ⟨d1, d2, d3, d4⟩, hb.drew⟩ | exact ⟨(Blk.by hb1 kN).both, ⟨cell_by' hb1 d1, cell_by' hb1 d2, cell_by' hb1 d3, cell_by' hb1 d4⟩, below_on hb1 hb.drew⟩)
                (first | (go_at_call 49; refine (HT.out _ (hS.by (below_of_drewN _ 1))).mono ?_; rintro e w1 ⟨rfl, hb1⟩))
              go_wp2
              exact ⟨⟨k + 1, by omega, by go_num, Lib.hid (fun j y hj hy => by
                by_cases e : j = k
                · subst e; obtain rfl : y = x := Option.some.inj (hy.symm.trans HX.out); exact HQ.out
                · exact HI.out j y (by omega) hy), Blk.by hb1 kN, below_on hb1 hb.drew⟩, by simp [intOf]; omega⟩
          · obtain rfl : k = ds.length := by omega
            have hall := all_dv (fun j d hj => HI.out j d hj)
            have HALL := Lib.hid hall
            clear hall
            clear HI HDV
            go_wp2
            go_loopw [4] (fun i wr => ∃ k : Nat, k ≤ ps.length ∧ i = .int .i64 k ∧ Hid (∀ (j : Nat), j < k → ptOk nets ps j = true) ∧ Blk wr w.heap.size #[.int .i64 nets, .slice a1 ds.length c1, .slice a2 ps.length c2] 34 ∧ Below w.heap.size w wr) (fun i _ => ps.length - (intOf i).toNat)
            case atStart => exact ⟨0, Nat.zero_le _, rfl, Lib.hid (by intro j hj; omega), kN, hb⟩
            case round =>
              clear kN hb cN
              obtain ⟨k, hk, rfl, HI, kN, hb⟩ := hrel
              have cN := kN.cell
              by_cases hlt : k < ps.length
              · obtain ⟨x, hx⟩ : ∃ x, ps[k]? = some x := ⟨ps[k], List.getElem?_eq_getElem hlt⟩
                have HX := Lib.hid hx
                have HPS := HP.out
                rcases HPS with ⟨_, _, _, h2⟩ | ⟨b, off, cap, he, h2, h3, h4⟩
                · rw [h2] at hlt; simp at hlt
                obtain ⟨rfl, rfl⟩ : a2 = some ⟨b, off, none⟩ ∧ c2 = cap := by simpa using he
                obtain ⟨p1, p2⟩ := (h4 k x hx).by hb
                have hsz : x.name.size ≤ 9223372036854775807 := (HK.out x (List.mem_of_getElem? hx)).1
                have i1 : (0 : Int) ≤ (k : Int) := by omega
                have i2 : (k : Int) < (ps.length : Int) := by omega
                clear hx he
                rcases Bool.eq_false_or_eq_true (nameB x.name) with hnm | hnm
                · by_cases hk0 : k = 0
                  · have HK0 := Lib.hid hk0
                    have hx0 := HX.out
                    rw [hk0] at hx0
                    have HX0 := Lib.hid hx0
                    have hkz : decide (0 < k) = false := by rw [decide_eq_false_iff_not]; omega
                    clear h4 hk0 hx0
                    rcases Bool.eq_false_or_eq_true (inB x.net 0 (nets - 1)) with hin | hin
                    · have HOK := Lib.hid (HK0.out.symm ▸ ptOk_zero HX0.out hnm hin : ptOk nets ps k = true)
                      go_wp2
                      go_quiet ((first | (go_at_call 50; exact Calls.quiet_of_same ((specIsName_any x.name _ hsz).mono fun _ _ h => ⟨h.1, h.2.symm⟩)) | (go_at_call 48; exact Calls.quiet_of_same ((l16In_any _ _ _ _).mono fun _ _ h => ⟨h.1, h.2.symm⟩))))
                      go_wp2
                      exact ⟨⟨k + 1, by omega, by go_num, Lib.hid (fun i hj => by
                        by_cases e : i = k
                        · subst e; exact HOK.out
                        · exact HI.out i (by omega)), blkT, blwT⟩, by simp [intOf]; omega⟩
                    · have hr := Lib.hid (HPT.out _ hlt (ptOk_net HX.out hin))
                      go_wp2
                      go_quiet ((first | (go_at_call 50; exact Calls.quiet_of_same ((specIsName_any x.name _ hsz).mono fun _ _ h => ⟨h.1, h.2.symm⟩)) | (go_at_call 48; exact Calls.quiet_of_same ((l16In_any _ _ _ _).mono fun _ _ h => ⟨h.1, h.2.symm⟩))))
                      go_wp2
                      go_ret
                      exact ⟨ret_bool hr.out.symm, blwT⟩
                  · obtain ⟨j, rfl⟩ : ∃ j, k = j + 1 := ⟨k - 1, by omega⟩
                    obtain ⟨y, hy⟩ : ∃ y, ps[j]? = some y := ⟨ps[j]'(by omega), List.getElem?_eq_getElem (by omega)⟩
                    have HY := Lib.hid hy
                    obtain ⟨q1, q2⟩ := (h4 j y hy).by hb
                    have j1 : (0 : Int) < (j : Int) + 1 := by omega
                    have j2 : (0 : Int) ≤ (j : Int) := by omega
                    have j3 : (j : Int) < (ps.length : Int) := by omega
                    have j4 : (j : Int) + 1 < (ps.length : Int) := by omega
                    clear hy h4
                    rcases Bool.eq_false_or_eq_true (Op.bytesLess y.name.toList x.name.toList) with hls | hls
                    · rcases Bool.eq_false_or_eq_true (inB x.net 0 (nets - 1)) with hin | hin
                      · have HOK := Lib.hid (ptOk_succ HX.out HY.out hnm hin hls)
                        go_wp2
                        go_quiet ((first | (go_at_call 50; exact Calls.quiet_of_same ((specIsName_any x.name _ hsz).mono fun _ _ h => ⟨h.1, h.2.symm⟩)) | (go_at_call 48; exact Calls.quiet_of_same ((l16In_any _ _ _ _).mono fun _ _ h => ⟨h.1, h.2.symm⟩))))
                        go_wp2
                        exact ⟨⟨(j + 1) + 1, by omega, by go_num, Lib.hid (fun i hj => by
                          by_cases e : i = (j + 1)
                          · subst e; exact HOK.out
                          · exact HI.out i (by omega)), blkT, blwT⟩, by simp [intOf]; omega⟩
                      · have hr := Lib.hid (HPT.out _ hlt (ptOk_net HX.out hin))
                        go_wp2
                        go_quiet ((first | (go_at_call 50; exact Calls.quiet_of_same ((specIsName_any x.name _ hsz).mono fun _ _ h => ⟨h.1, h.2.symm⟩)) | (go_at_call 48; exact Calls.quiet_of_same ((l16In_any _ _ _ _).mono fun _ _ h => ⟨h.1, h.2.symm⟩))))
                        go_wp2
                        go_ret
                        exact ⟨ret_bool hr.out.symm, blwT⟩
                    · have hr := Lib.hid (HPT.out _ hlt (ptOk_lt HX.out HY.out hls))
                      go_wp2
                      go_quiet ((first | (go_at_call 50; exact Calls.quiet_of_same ((specIsName_any x.name _ hsz).mono fun _ _ h => ⟨h.1, h.2.symm⟩)) | (go_at_call 48; exact Calls.quiet_of_same ((l16In_any _ _ _ _).mono fun _ _ h => ⟨h.1, h.2.symm⟩))))
                      go_wp2
                      go_ret
                      exact ⟨ret_bool hr.out.symm, blwT⟩
                · have hr := Lib.hid (HPT.out _ hlt (ptOk_name HX.out hnm))
                  go_wp2
                  go_quiet ((first | (go_at_call 50; exact Calls.quiet_of_same ((specIsName_any x.name _ hsz).mono fun _ _ h => ⟨h.1, h.2.symm⟩)) | (go_at_call 48; exact Calls.quiet_of_same ((l16In_any _ _ _ _).mono fun _ _ h => ⟨h.1, h.2.symm⟩))))
                  go_wp2
                  go_ret
                  exact ⟨ret_bool hr.out.symm, blwT⟩
              · obtain rfl : k = ps.length := by omega
                have hr := Lib.hid ((HEN.out HN1.out h24 h8 (fun i hi => HI.out i hi)).trans HALL.out)
                go_wp2
                go_ret
                exact ⟨ret_bool hr.out.symm, hb⟩
      · have hr := Lib.hid (HNP.out h8)
        go_enter Tryz.func16, Tryz.ntmps16
        go_wp2_with (go_at_call 48; refine (l16In_any _ _ _ _).mono ?_; rintro e w' ⟨rfl, rfl⟩)
        go_ret
        exact ⟨ret_bool hr.out.symm, blwT⟩
    · have hr := Lib.hid (HND.out h24)
      go_enter Tryz.func16, Tryz.ntmps16
      go_wp2_with (go_at_call 48; refine (l16In_any _ _ _ _).mono ?_; rintro e w' ⟨rfl, rfl⟩)
      go_ret
      exact ⟨ret_bool hr.out.symm, blwT⟩
  · have hr := Lib.hid (HNn.out hn)
    go_enter Tryz.func16, Tryz.ntmps16
    go_wp2_with (go_at_call 48; refine (l16In_any _ _ _ _).mono ?_; rintro e w' ⟨rfl, rfl⟩)
    go_ret
    exact ⟨ret_bool hr.out.symm, blwT⟩
def BldP (w : World) (lo hi : Nat) (v : Value) (ps : List Pt) : Prop := hi ≤ w.heap.size ∧ w.ownsRow lo 89 2 v ps.length (pcells ps) ∧ (∀ g, v.ownBlock = some g → lo ≤ g ∧ g < hi)
section
variable {w w' : World} {lo hi : Nat} {v : Value} {ps : List Pt}
theorem BldP.nil (w : World) (lo : Nat) : BldP w lo w.heap.size (.slice none 0 0) [] :=
  ⟨Nat.le_refl _, World.ownsRow_nil w lo _ 2, by intro g h; cases h⟩
theorem BldP.by (hb : Below w.heap.size w w') (h : BldP w lo hi v ps) : BldP w' lo hi v ps := by
  obtain ⟨hs, h1, h3⟩ := h
  exact ⟨Nat.le_trans hs hb.size, row_same h1 (fun g hg => hb.block g (by have := h3 g hg; omega)), h3⟩
theorem BldP.past {lo' hi' : Nat} (hb : Within lo' hi' w w') (h : BldP w lo hi v ps) (hd : hi' ≤ lo ∨ hi ≤ lo') : BldP w' lo hi v ps := by
  obtain ⟨hs, h1, h3⟩ := h
  exact ⟨Nat.le_trans hs hb.size, row_same h1 (fun g hg => hb.block g (by have := h3 g hg; omega) (by have := h3 g hg; omega)), h3⟩
theorem BldP.sized (h : BldP w lo hi v ps) : ∃ a c, v = .slice a ps.length c := by
  obtain ⟨_, ⟨_, h1⟩, _⟩ := h
  rcases h1 with ⟨h1, h2⟩ | ⟨g, cap, cur, e1, _⟩
  · exact ⟨none, 0, by rw [h1, h2]⟩
  · exact ⟨_, _, e1⟩
theorem BldP.own (h : BldP w lo hi v ps) : OwnPs w lo hi v ps := by
  obtain ⟨hs, ⟨hlen, h1⟩, h3⟩ := h
  rcases h1 with ⟨h1, hn⟩ | ⟨g, cap, cur, e1, e2, e3, e4, e5, e6, e7⟩
  · exact .inl ⟨_, _, h1, List.eq_nil_of_length_eq_zero hn⟩
  · have hcur : ∀ (j : Nat) u, (pcells ps)[j]? = some u → cur[j]? = some u := by
      intro j u hu
      rw [← e7] at hu
      have hj : j < ps.length * 2 := by
        have := (List.getElem?_eq_some_iff.1 hu).1
        rw [List.length_take] at this; omega
      rw [List.getElem?_take_of_lt hj] at hu
      simpa using hu
    refine .inr ⟨g, cap, cur, e1, h3 g (by rw [e1]; rfl), e4, e5, e3, fun i x hx => ?_⟩
    obtain ⟨q0, q1⟩ := pcells_get ps i x hx
    exact ⟨hcur _ _ q0, hcur _ _ q1⟩
end
/- Netlists with other numbers of nets: the plain part. -/
def ICs (cs : Array Value) (zs : List Int) : Prop := ∀ (i : Nat) (z : Int), zs[i]? = some z → cs[i]? = some (Value.int .i64 z)
theorem ICs.set {cs : Array Value} {zs : List Int} (h : ICs cs zs) (k : Nat) (v : Int) : ICs (cs.setIfInBounds k (.int .i64 v)) (zs.set k v) := by
  intro i z hz
  have hi : i < zs.length := by have := (List.getElem?_eq_some_iff.1 hz).1; simpa using this
  have hc := h i zs[i] (List.getElem?_eq_getElem hi)
  have hs := (Array.getElem?_eq_some_iff.1 hc).1
  by_cases e : k = i
  · subst e
    rw [List.getElem?_set_self hi] at hz
    cases hz
    simp [Array.getElem?_setIfInBounds, hs]
  · rw [List.getElem?_set_ne e] at hz
    rw [Array.getElem?_setIfInBounds, if_neg e]
    exact h i z hz
theorem ICs.own {w : World} {g cap : Nat} {cs : Array Value} {zs : List Int} (h : ICs cs zs) (hB : Blk w g cs 2) (h1 : zs.length ≤ cap) (h2 : cap ≤ maxLen) : OwnR w g (g + 1) (.slice (some ⟨g, 0, none⟩) zs.length cap) zs :=
  .inr ⟨g, cap, cs, rfl, Nat.le_refl _, Nat.lt_succ_self _, h1, h2, hB, h⟩
theorem OwnR.cells {w : World} {lo hi : Nat} {sv : Value} {zs : List Int} (h : OwnR w lo hi sv zs) (hz : zs ≠ []) : ∃ g cap cs, sv = .slice (some ⟨g, 0, none⟩) zs.length cap ∧ (lo ≤ g ∧ g < hi) ∧ zs.length ≤ cap ∧ cap ≤ maxLen ∧ Blk w g cs 2 ∧ ICs cs zs := by
  rcases h with ⟨_, _, _, h⟩ | ⟨g, cap, cs, h1, h2, h2', h3, h4, h5, h6⟩
  · exact absurd h hz
  · exact ⟨g, cap, cs, h1, ⟨h2, h2'⟩, h3, h4, h5, h6⟩
/- The two pushes at a plain list of operations. -/
/- One device's pins, one port's net, turned in place. -/
section
variable {α : Type} (f : α → α)
end
def iota (n : Nat) : List Int := (List.range n).map (fun (i : Nat) => (i : Int))
theorem length_iota (n : Nat) : (iota n).length = n := by simp [iota]
def srt (zs : List Int) : List Int := zs.mergeSort (fun x y => decide (x ≤ y))
theorem length_srt (zs : List Int) : (srt zs).length = zs.length := by simp [srt]
theorem srt_perm (zs : List Int) : (srt zs).Perm zs := List.mergeSort_perm _ _
theorem srt_pairwise (zs : List Int) : (srt zs).Pairwise (fun x y => decide (x ≤ y) = true) :=
  List.pairwise_mergeSort (fun a b c h1 h2 => by simp at *; omega) (fun a b => by simp; omega) zs
/- A slice of int64 that grows in memory of the call's own. -/
def icells (zs : List Int) : List Value := zs.map (Value.int .i64)
theorem icells_push (zs ys : List Int) : icells (zs ++ ys) = icells zs ++ icells ys := by simp [icells]
def BldI (w : World) (lo hi : Nat) (v : Value) (zs : List Int) : Prop := hi ≤ w.heap.size ∧ w.ownsRow lo 2 1 v zs.length (icells zs) ∧ (∀ g, v.ownBlock = some g → lo ≤ g ∧ g < hi)
section
variable {w w' : World} {lo hi : Nat} {v : Value} {zs : List Int}
theorem BldI.nil (w : World) (lo : Nat) : BldI w lo w.heap.size (.slice none 0 0) [] :=
  ⟨Nat.le_refl _, World.ownsRow_nil w lo _ 1, by intro g h; cases h⟩
theorem BldI.lit {g : Nat} {cs : Array Value} (h : Blk w g cs 2) (hcs : cs.toList = icells zs) (hm : zs.length ≤ 1048576) (hlo : lo ≤ g) (hhi : g < hi) (hs : hi ≤ w.heap.size) : BldI w lo hi (.slice (some ⟨g, 0, none⟩) zs.length zs.length) zs := by
  have hl : cs.size = zs.length := by rw [← Array.length_toList, hcs]; simp [icells]
  refine ⟨hs, ⟨by simp [icells], .inr ⟨g, zs.length, cs, rfl, hlo, h, Nat.le_refl _, by unfold maxLen; omega, by omega, ?_⟩⟩, ?_⟩
  · rw [hcs, Nat.mul_one, List.take_of_length_le (by simp [icells])]
  · intro g' hg'
    have : g = g' := by injection hg'
    omega
theorem BldI.by (hb : Below w.heap.size w w') (h : BldI w lo hi v zs) : BldI w' lo hi v zs := by
  obtain ⟨hs, h1, h3⟩ := h
  exact ⟨Nat.le_trans hs hb.size, row_same h1 (fun g hg => hb.block g (by have := h3 g hg; omega)), h3⟩
theorem BldI.past {lo' hi' : Nat} (hb : Within lo' hi' w w') (h : BldI w lo hi v zs) (hd : hi' ≤ lo ∨ hi ≤ lo') : BldI w' lo hi v zs := by
  obtain ⟨hs, h1, h3⟩ := h
  exact ⟨Nat.le_trans hs hb.size, row_same h1 (fun g hg => hb.block g (by have := h3 g hg; omega) (by have := h3 g hg; omega)), h3⟩
theorem BldI.sized (h : BldI w lo hi v zs) : ∃ a c, v = .slice a zs.length c := by
  obtain ⟨_, ⟨_, h1⟩, _⟩ := h
  rcases h1 with ⟨h1, h2⟩ | ⟨g, cap, cur, e1, _⟩
  · exact ⟨none, 0, by rw [h1, h2]⟩
  · exact ⟨_, _, e1⟩
theorem BldI.own (h : BldI w lo hi v zs) : OwnR w lo hi v zs := by
  obtain ⟨hs, ⟨hlen, h1⟩, h3⟩ := h
  rcases h1 with ⟨h1, hn⟩ | ⟨g, cap, cur, e1, e2, e3, e4, e5, e6, e7⟩
  · exact .inl ⟨_, _, h1, List.eq_nil_of_length_eq_zero hn⟩
  · have h4 := h3 g (by rw [e1]; rfl)
    refine .inr ⟨g, cap, cur, e1, h4.1, h4.2, e4, e5, e3, fun i x hx => ?_⟩
    have hi' : i < zs.length := (List.getElem?_eq_some_iff.1 hx).1
    have : (icells zs)[i]? = some (.int .i64 x) := by simp [icells, hx]
    rw [← e7, List.getElem?_take_of_lt (by omega)] at this
    simpa using this
end
theorem step_pushI {ops : Array Oper} {o : Oper} {a : Act} {w : World} {K : Act → World → Prop} {Q : Exit → Act → World → Prop} {E : Prop} (hgd : o.guard = none) (s x : Operand)
    (ho : o.op = .call { callee := .builtin .append, args := #[s, x], argTypes := #[49, 49] })
    (lo hi : Nat) (v : Value) (zs ys : List Int) (hs : a.eval s = v) (hB : BldI w lo hi v zs) (nb m : Nat) (cs : Array Value) (hx : a.eval x = .slice (some ⟨nb, 0, none⟩) m m) (hys : ys.length = m) (hm : 0 < m)
    (hnb : Blk w nb cs 2) (hcs : cs.toList = icells ys) (hlo : lo ≤ hi) (hn : zs.length + m ≤ 8000000)
    (hK : ∀ a' c' w', BldI w' lo w'.heap.size (.slice a' (zs.length + m) c') (zs ++ ys) → Within lo hi w w' → K (a.put o.dst (.slice a' (zs.length + m) c')) w') :
    if Region.wanted o (yielded ops a.tmps) = true then Oper.wp Tryz.prog o a w K Q else E := by
  obtain ⟨i0, hi0, hz0, hz1, hz2⟩ := info_parts infoI
  obtain ⟨hsz, h1, h3⟩ := hB
  refine step_append_lies w hgd s x 49 ho lo 2 i0 _ 1 8 Tryz.underlying49 hi0 hz0 hz1 hz2 rfl (by decide) v zs.length _ hs h1 ⟨nb, 0, none⟩ m m (icells ys) hx (by simp [icells, hys]) (by rw [← hcs]; exact World.news_of_block (cs := cs) hnb) ?_ hm (by unfold maxLen; omega) (by omega) (by omega) w.heap.size rfl ?_
  · intro u hu
    simp only [icells, List.mem_map] at hu
    obtain ⟨_, _, rfl⟩ := hu
    rfl
  · intro g cap w' hrow hgrow hg hgl
    have hW : Within lo hi w w' := grown_within hgrow h3
    refine hK (some ⟨g, 0, none⟩) cap w' ⟨Nat.le_refl _, ?_, ?_⟩ hW
    · rw [List.length_append, hys, icells_push]; exact hrow
    · intro g' hg'
      have : g = g' := by injection hg'
      subst this
      rcases hg with h | h
      · have := h3 g h; omega
      · omega
theorem list_pushI {ops : Array Oper} {rest : List Oper} {o : Oper} {a : Act} {w : World} {Q : Exit → Act → World → Prop} (hgd : o.guard = none) (s x : Operand)
    (ho : o.op = .call { callee := .builtin .append, args := #[s, x], argTypes := #[49, 49] })
    (lo hi : Nat) (v : Value) (zs ys : List Int) (hs : a.eval s = v) (hB : BldI w lo hi v zs) (nb m : Nat) (cs : Array Value) (hx : a.eval x = .slice (some ⟨nb, 0, none⟩) m m) (hys : ys.length = m) (hm : 0 < m)
    (hnb : Blk w nb cs 2) (hcs : cs.toList = icells ys) (hlo : lo ≤ hi) (hn : zs.length + m ≤ 8000000)
    (hK : ∀ a' c' w', BldI w' lo w'.heap.size (.slice a' (zs.length + m) c') (zs ++ ys) → Within lo hi w w' → wpList Tryz.prog ops Q rest (a.put o.dst (.slice a' (zs.length + m) c')) w') : wpList Tryz.prog ops Q (o :: rest) a w :=
  wpList_plain hgd fun K hk => by
    have h := step_pushI (ops := ops) (K := K) (Q := Q) (E := False) hgd s x ho lo hi v zs ys hs hB nb m cs hx hys hm hnb hcs hlo hn (fun a' c' w' h1 h2 => hk _ _ (hK a' c' w' h1 h2))
    rwa [if_pos (by simp [Region.wanted, hgd])] at h
theorem perm_of_mem {α : Type} [DecidableEq α] : ∀ (l r : List α), l.Nodup → r.Nodup → (∀ z, z ∈ l ↔ z ∈ r) → l.Perm r
  | [], r, _, _, h => by
    cases r with
    | nil => exact List.Perm.nil
    | cons a s => exact absurd ((h a).2 (by simp)) (by simp)
  | a :: l, r, hn, hr, h => by
    rw [List.nodup_cons] at hn
    have ha : a ∈ r := (h a).1 (by simp)
    have hp := List.perm_cons_erase ha
    have hre : (a :: r.erase a).Nodup := hp.nodup_iff.1 hr
    rw [List.nodup_cons] at hre
    refine (List.Perm.cons a (perm_of_mem l (r.erase a) hn.2 hre.2 (fun z => ?_))).trans hp.symm
    by_cases e : z = a
    · subst e; simp [hn.1, hre.1]
    · rw [List.mem_erase_of_ne e, ← h z]; simp [e]
def ddpA {α : Type} [DecidableEq α] (p : α) : List α → List α
  | [] => []
  | b :: l => if b = p then ddpA b l else b :: ddpA b l
def ddp {α : Type} [DecidableEq α] : List α → List α
  | [] => []
  | a :: l => a :: ddpA a l
theorem mem_ddpA {α : Type} [DecidableEq α] (p : α) (l : List α) (z : α) : z = p ∨ z ∈ ddpA p l ↔ z = p ∨ z ∈ l := by
  induction l generalizing p with
  | nil => simp [ddpA]
  | cons b l ih =>
    unfold ddpA
    by_cases h : b = p
    · subst h
      rw [if_pos rfl, ih b]; simp
    · rw [if_neg h, List.mem_cons, List.mem_cons, ih b]
theorem mem_ddp {α : Type} [DecidableEq α] (l : List α) (z : α) : z ∈ ddp l ↔ z ∈ l := by
  cases l with
  | nil => simp [ddp]
  | cons a l => simp only [ddp, List.mem_cons]; exact mem_ddpA a l z
/- What a walk reads of a slice of slices. -/
def LlSl (w : World) (sv : Value) (ls : List (List Int)) : Prop :=
  (∃ a c, sv = .slice a 0 c ∧ ls = []) ∨ ∃ b off cap, sv = .slice (some ⟨b, off, none⟩) ls.length cap ∧ ls.length ≤ cap ∧ cap ≤ maxLen ∧ ∀ (i : Nat) (xs : List Int), ls[i]? = some xs → ∃ s, w.cell? ⟨b, off + i, none⟩ = some s ∧ IntSl w s xs
theorem LlSl.by {w w1 : World} {sv : Value} {ls : List (List Int)} (hb : Below w.heap.size w w1) (h : LlSl w sv ls) : LlSl w1 sv ls := by
  rcases h with h | ⟨b, off, cap, h1, h2, h3, h4⟩
  · exact .inl h
  · refine .inr ⟨b, off, cap, h1, h2, h3, fun i xs hx => ?_⟩
    obtain ⟨s, a, b⟩ := h4 i xs hx
    exact ⟨s, cell_by' hb a, b.by hb⟩
theorem LlSl.sized {w : World} {sv : Value} {ls : List (List Int)} (h : LlSl w sv ls) : ∃ a c, sv = .slice a ls.length c := by
  rcases h with ⟨a, c, h1, h2⟩ | ⟨b, off, cap, h1, _⟩
  · exact ⟨a, c, by rw [h2]; exact h1⟩
  · exact ⟨_, _, h1⟩
/- slices.DeleteFunc on a slice of devices of the call's own: the plain part, and clear. -/
theorem run_clear_dev (w : World) (ty : TypeId) (b o n c : Nat) (hn : 0 < n)
    (hc : ∀ j, j < n * 4 → (w.cell? ⟨b, o + j, none⟩).isSome = true) (hf : ∀ j, w.frozen? ⟨b, j, none⟩ = false) :
    ∃ vs : List Value, vs.length = n * 4 ∧ (Builtin.clear_ #[31] ty #[.slice (some ⟨b, o, none⟩) n c]).run Tryz.prog w = .ok (.tuple #[]) (w.setCells b o vs) := by
  have hv : ∀ w, (zeroValue 51).run Tryz.prog w = .ok (.agg #[.int .i64 0, .slice none 0 0, .int .i64 0, .int .i64 0]) w := fun w => by kernel_rfl
  have hz : (Value.agg #[.int .i64 0, .slice none 0 0, .int .i64 0, .int .i64 0]).cells = #[.int .i64 0, .slice none 0 0, .int .i64 0, .int .i64 0] := by kernel_rfl
  have hlen : (Builtin.zeroCells #[Value.int .i64 0, .slice none 0 0, .int .i64 0, .int .i64 0] n).toList.length = n * 4 := by rw [Array.length_toList, size_zeroCells]; rfl
  have h1 : ∀ v ∈ (Builtin.zeroCells #[Value.int .i64 0, .slice none 0 0, .int .i64 0, .int .i64 0] n).toList, v.oneCell' = true := by
    intro v hv'
    simp [Builtin.zeroCells] at hv'
    obtain ⟨i, hi, rfl⟩ := hv'
    have h4 : i % 4 < 4 := Nat.mod_lt _ (by omega)
    generalize i % 4 = m at h4
    match m, h4 with
    | 0, _ => rfl
    | 1, _ => rfl
    | 2, _ => rfl
    | 3, _ => rfl
  have hst := run_storeCells_cells (P := Tryz.prog) b o (Builtin.zeroCells #[Value.int .i64 0, .slice none 0 0, .int .i64 0, .int .i64 0] n).toList 0 w (by rw [hlen]; simpa using hc) (by intro j _; exact hf _) h1
  simp only [Nat.add_zero] at hst
  refine ⟨_, hlen, ?_⟩
  obtain ⟨m, rfl⟩ : ∃ m, n = m + 1 := ⟨n - 1, by omega⟩
  simp [Builtin.clear_, run_underlying Tryz.underlying31, hv, hz, hst]
theorem Blk.setCells (g : Nat) {T : TypeId} : ∀ (vs : List Value) (o : Nat) (w : World) (cs : Array Value), Blk w g cs T → ∃ cs' : Array Value, Blk (w.setCells g o vs) g cs' T ∧ (∀ i, i < o → cs'[i]? = cs[i]?) ∧ Within g (g + 1) w (w.setCells g o vs)
  | [], o, w, cs, h => ⟨cs, h, fun _ _ => rfl, Within.refl _ _ _⟩
  | v :: r, o, w, cs, h => by
    obtain ⟨cs', h1, h2, h3⟩ := Blk.setCells g r (o + 1) (w.setCell ⟨g, o, none⟩ v) _ (h.set o v)
    refine ⟨cs', h1, fun i hi => ?_, (Within.off v).on h3⟩
    rw [h2 i (by omega)]
    simp [Array.getElem?_setIfInBounds, show ¬ o = i by omega]
def At4 (w : World) (cs : Array Value) (i f : Nat) (x : Dv) : Prop := ∃ pv, Cs4 cs i (.int .i64 x.kind) pv (.int .i64 x.wd) (.int .i64 x.len) ∧ OwnR w f (f + 1) pv x.pins
def DelSt (w : World) (lo hi g : Nat) (f : Nat → Nat) (xs ys : List Dv) (k : Nat) (cs : Array Value) : Prop :=
  (∃ h : Nat → Nat, (∀ i y, ys[i]? = some y → At4 w cs i (f (h i)) y ∧ (h i < k ∧ h i < xs.length) ∧ (lo ≤ f (h i) ∧ f (h i) < hi ∧ f (h i) ≠ g)) ∧ (∀ i j, i < ys.length → j < ys.length → i ≠ j → h i ≠ h j)) ∧
  (∀ i x, k ≤ i → xs[i]? = some x → At4 w cs i (f i) x ∧ (lo ≤ f i ∧ f i < hi ∧ f i ≠ g))
section
variable {w w' : World} {lo hi g k : Nat} {f : Nat → Nat} {xs ys : List Dv} {cs cs' : Array Value}
theorem DelSt.skip (h : DelSt w lo hi g f xs ys k cs) : DelSt w lo hi g f xs ys (k + 1) cs := by
  obtain ⟨⟨m, h1, h2⟩, h3⟩ := h
  refine ⟨⟨m, fun i y hy => ?_, h2⟩, fun i x hi hx => h3 i x (by omega) hx⟩
  obtain ⟨a, b, c⟩ := h1 i y hy
  exact ⟨a, ⟨by omega, b.2⟩, c⟩
theorem DelSt.start (h : ∀ i x, xs[i]? = some x → At4 w cs i (f i) x ∧ (lo ≤ f i ∧ f i < hi ∧ f i ≠ g)) (k : Nat) (hk : k < xs.length) : DelSt w lo hi g f xs (xs.take k) (k + 1) cs := by
  refine ⟨⟨fun i => i, fun i y hy => ?_, fun i j _ _ h => h⟩, fun i x _ hx => h i x hx⟩
  dsimp only
  have hi : i < k := by have := (List.getElem?_eq_some_iff.1 hy).1; simp at this; omega
  rw [List.getElem?_take] at hy
  simp [hi] at hy
  exact ⟨(h i y hy).1, ⟨by omega, by omega⟩, (h i y hy).2⟩
theorem Cs4.at_ {cs cs' : Array Value} {i : Nat} {a b c d : Value} (h : Cs4 cs i a b c d) (e : ∀ j, i * 4 ≤ j → j < i * 4 + 4 → cs'[j]? = cs[j]?) : Cs4 cs' i a b c d :=
  ⟨(e _ (by omega) (by omega)).trans h.1, (e _ (by omega) (by omega)).trans h.2.1, (e _ (by omega) (by omega)).trans h.2.2.1, (e _ (by omega) (by omega)).trans h.2.2.2⟩
theorem At4.at_ {i q : Nat} {x : Dv} (h : At4 w cs i q x) (e : ∀ j, i * 4 ≤ j → j < i * 4 + 4 → cs'[j]? = cs[j]?) : At4 w cs' i q x := by
  obtain ⟨pv, h1, h2⟩ := h
  exact ⟨pv, h1.at_ e, h2⟩
def set4 (cs : Array Value) (k : Nat) (a b c d : Value) : Array Value := (((cs.setIfInBounds (k * 4) a).setIfInBounds (k * 4 + 1) b).setIfInBounds (k * 4 + 2) c).setIfInBounds (k * 4 + 3) d
theorem set4_other (cs : Array Value) (k : Nat) (a b c d : Value) (j : Nat) (h : j < k * 4 ∨ k * 4 + 4 ≤ j) : (set4 cs k a b c d)[j]? = cs[j]? := by
  simp [set4, Array.getElem?_setIfInBounds, show ¬ k * 4 = j by omega, show ¬ k * 4 + 1 = j by omega, show ¬ k * 4 + 2 = j by omega, show ¬ k * 4 + 3 = j by omega]
theorem set4_same (cs : Array Value) (k : Nat) (a b c d : Value) (h : k * 4 + 3 < cs.size) : Cs4 (set4 cs k a b c d) k a b c d := by
  refine ⟨?_, ?_, ?_, ?_⟩ <;> simp [set4, Array.getElem?_setIfInBounds] <;> omega
theorem DelSt.push (h : DelSt w lo hi g f xs ys k cs) (hl : ys.length ≤ k) {x : Dv} (hx : xs[k]? = some x) {pv : Value} (hc : Cs4 cs k (.int .i64 x.kind) pv (.int .i64 x.wd) (.int .i64 x.len)) (hO : OwnR w (f k) (f k + 1) pv x.pins) :
    DelSt w lo hi g f xs (ys ++ [x]) (k + 1) (set4 cs ys.length (.int .i64 x.kind) pv (.int .i64 x.wd) (.int .i64 x.len)) := by
  obtain ⟨⟨m, h1, h2⟩, h3⟩ := h
  have hk := (List.getElem?_eq_some_iff.1 hx).1
  have hsz : ys.length * 4 + 3 < cs.size := by have := (Array.getElem?_eq_some_iff.1 hc.2.2.2).1; omega
  refine ⟨⟨fun i => if i = ys.length then k else m i, fun i y hy => ?_, fun i j hi hj hne => ?_⟩, fun i y hi hy => ?_⟩
  · dsimp only
    by_cases e : i = ys.length
    · subst e
      obtain rfl : y = x := by simpa using hy.symm
      rw [if_pos rfl]
      exact ⟨⟨pv, set4_same _ _ _ _ _ _ hsz, hO⟩, ⟨by omega, hk⟩, (h3 k y (Nat.le_refl _) hx).2⟩
    · have hi : i < ys.length := by have := (List.getElem?_eq_some_iff.1 hy).1; simp at this; omega
      rw [List.getElem?_append_left hi] at hy
      obtain ⟨a, b, c⟩ := h1 i y hy
      rw [if_neg e]
      exact ⟨a.at_ (fun j _ _ => set4_other _ _ _ _ _ _ _ (by omega)), ⟨by omega, b.2⟩, c⟩
  · simp at hi hj
    dsimp only
    have hb : ∀ i, i < ys.length → m i < k := fun i hi => (h1 i ys[i] (List.getElem?_eq_getElem hi)).2.1.1
    by_cases e : i = ys.length <;> by_cases e' : j = ys.length
    · omega
    · have := hb j (by omega); rw [if_pos e, if_neg e']; omega
    · have := hb i (by omega); rw [if_neg e, if_pos e']; omega
    · rw [if_neg e, if_neg e']; exact h2 i j (by omega) (by omega) hne
  · obtain ⟨a, b⟩ := h3 i y (by omega) hy
    exact ⟨a.at_ (fun j _ _ => set4_other _ _ _ _ _ _ _ (by omega)), b⟩
theorem DelSt.done (h : DelSt w lo hi g f xs ys k cs) (hinj : ∀ i j, i < xs.length → j < xs.length → i ≠ j → f i ≠ f j) (hw : Within g (g + 1) w w') (hB : Blk w' g cs' 51) (he : ∀ j, j < ys.length * 4 → cs'[j]? = cs[j]?) (hg : lo ≤ g ∧ g < hi) {cap : Nat} (h1 : ys.length ≤ cap) (h2 : cap ≤ maxLen) :
    OwnDs w' lo hi (.slice (some ⟨g, 0, none⟩) ys.length cap) ys := by
  obtain ⟨⟨m, a1, a2⟩, _⟩ := h
  refine .inr ⟨g, cap, cs', fun i => f (m i), rfl, hg, h1, h2, hB, fun i y hy => ?_, fun i j hi hj hne => ?_⟩
  · dsimp only
    obtain ⟨b1, b2, b3⟩ := a1 i y hy
    have hi := (List.getElem?_eq_some_iff.1 hy).1
    obtain ⟨pv, c1, c2⟩ := b1.at_ (cs' := cs') (fun j _ _ => he j (by omega))
    exact ⟨⟨pv, c1, c2.past hw (by omega)⟩, b3⟩
  · exact hinj _ _ (a1 i ys[i] (List.getElem?_eq_getElem hi)).2.1.2 (a1 j ys[j] (List.getElem?_eq_getElem hj)).2.1.2 (a2 i j hi hj hne)
end
theorem first_hit {α : Type} (p : α → Bool) (xs : List α) : (∀ x ∈ xs, p x = false) ∨ ∃ (k : Nat) (x : α), xs[k]? = some x ∧ p x = true ∧ ∀ (j : Nat) (y : α), j < k → xs[j]? = some y → p y = false := by
  induction xs with
  | nil => exact .inl (by simp)
  | cons a l ih =>
    cases ha : p a with
    | true => exact .inr ⟨0, a, rfl, ha, fun j y hj => by omega⟩
    | false =>
      rcases ih with h | ⟨k, x, h1, h2, h3⟩
      · exact .inl (by simpa [ha] using h)
      · refine .inr ⟨k + 1, x, h1, h2, fun j y hj hy => ?_⟩
        cases j with
        | zero => simp at hy; subst hy; exact ha
        | succ j => exact h3 j y (by omega) hy
theorem filter_at {α : Type} {p : α → Bool} {xs : List α} {k : Nat} {x : α} (h : xs[k]? = some x) : (xs.take (k + 1)).filter (fun x => !p x) = (xs.take k).filter (fun x => !p x) ++ (if p x = true then [] else [x]) := by
  rw [take_snoc_of xs k x h, List.filter_append]; cases hp : p x <;> simp [hp]
theorem filter_first {α : Type} {p : α → Bool} {xs : List α} {k : Nat} {x : α} (h : xs[k]? = some x) (hp : p x = true) (h' : ∀ (j : Nat) (y : α), j < k → xs[j]? = some y → p y = false) : (xs.take (k + 1)).filter (fun x => !p x) = xs.take k := by
  rw [filter_at h, hp]
  simp only [if_true, List.append_nil]
  refine List.filter_eq_self.2 fun y hy => ?_
  obtain ⟨j, hj, e⟩ := List.getElem_of_mem hy
  simp at hj e
  rw [h' j y (by omega) (by rw [← e]; exact List.getElem?_eq_getElem (by omega))]; rfl
end Go.Proofs.YtmmohdhkpccjbaaGreat
