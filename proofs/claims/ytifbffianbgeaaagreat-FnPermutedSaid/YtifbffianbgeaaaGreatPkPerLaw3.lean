/- Contracts and plain laws, part 3, for the statement's proof. -/
import Derived.Test.YtifbffianbgeaaaGreatPkPerLaw2
import Derived.Deep.AppendLies
import Derived.Lib.SliceRun
import Derived.Deep.DeepCutAuto
import Derived.Deep.RegionLaw
import Derived.Laws.IdiomCopy
import Derived.Laws.AppendOwn
import Derived.Sort.LotA
import Derived.Shelf.Abstract
import Derived.Deep.RegionHeldLaw
import Derived.Deep.AppendSrc
namespace Go.Proofs.YtifbffianbgeaaaGreat
open Go.RowKit
set_option linter.unusedVariables false
set_option linter.unusedSimpArgs false
def dcells : List Dv → List Value → List Value
  | d :: ds, p :: ps => .int .i64 d.kind :: p :: .int .i64 d.wd :: .int .i64 d.len :: dcells ds ps
  | _, _ => []
theorem dcells_push (ds : List Dv) (ps : List Value) (d : Dv) (p : Value) (h : ps.length = ds.length) : dcells (ds ++ [d]) (ps ++ [p]) = dcells ds ps ++ [.int .i64 d.kind, p, .int .i64 d.wd, .int .i64 d.len] := by
  induction ds generalizing ps with
  | nil => cases ps with
    | nil => rfl
    | cons => simp at h
  | cons y ys ih => cases ps with
    | nil => simp at h
    | cons q qs => simp at h; simp [dcells, ih qs h]
theorem dcells_get (ds : List Dv) (ps : List Value) (i : Nat) (d : Dv) (p : Value) (h : ds[i]? = some d) (hp : ps[i]? = some p) : (dcells ds ps)[i * 4]? = some (.int .i64 d.kind) ∧ (dcells ds ps)[i * 4 + 1]? = some p ∧ (dcells ds ps)[i * 4 + 2]? = some (.int .i64 d.wd) ∧ (dcells ds ps)[i * 4 + 3]? = some (.int .i64 d.len) := by
  induction ds generalizing ps i with
  | nil => simp at h
  | cons y ys ih => cases ps with
    | nil => simp at hp
    | cons q qs => cases i with
      | zero => simp at h hp; subst h hp; simp [dcells]
      | succ i =>
        simp at h hp
        have e : ∀ r, (dcells (y :: ys) (q :: qs))[(i + 1) * 4 + r]? = (dcells ys qs)[i * 4 + r]? := by
          intro r
          show (Value.int .i64 y.kind :: q :: Value.int .i64 y.wd :: Value.int .i64 y.len :: dcells ys qs)[(i + 1) * 4 + r]? = _
          rw [show (i + 1) * 4 + r = (i * 4 + r) + 1 + 1 + 1 + 1 by omega]
          simp only [List.getElem?_cons_succ]
        have e0 := e 0
        simp only [Nat.add_zero] at e0
        rw [e0, e 1, e 2, e 3]
        exact ih qs i h hp
def Bld (w : World) (lo hi : Nat) (v : Value) (ds : List Dv) : Prop := hi ≤ w.heap.size ∧ ∃ (pvs : List Value) (f : Nat → Nat), w.ownsRow lo 62 4 v ds.length (dcells ds pvs) ∧ pvs.length = ds.length ∧ (∀ g, v.ownBlock = some g → lo ≤ g ∧ g < hi) ∧
  (∀ i x pv, ds[i]? = some x → pvs[i]? = some pv → OwnR w (f i) (f i + 1) pv x.pins ∧ (lo ≤ f i ∧ f i < hi) ∧ v.ownBlock ≠ some (f i)) ∧ (∀ i j, i < ds.length → j < ds.length → i ≠ j → f i ≠ f j)
section
variable {w w' : World} {lo hi : Nat} {v : Value} {ds : List Dv}
theorem grown_within {row : Option Nat} (h : w.grownBy w' row) (hr : ∀ g, row = some g → lo ≤ g ∧ g < hi) : Within lo hi w w' :=
  ⟨h.os, h.tape, h.output, h.size, fun k hk hd => h.block k hk (fun e => by have := hr k e.symm; omega)⟩
theorem row_same {T : TypeId} {k n : Nat} {xs : List Value} (h : w.ownsRow lo T k v n xs) (hb : ∀ g, v.ownBlock = some g → w'.heap[g]? = w.heap[g]?) : w'.ownsRow lo T k v n xs := by
  obtain ⟨h1, h2⟩ := h
  refine ⟨h1, ?_⟩
  rcases h2 with h2 | ⟨g, cap, cur, e1, e2, e3, e4⟩
  · exact .inl h2
  · exact .inr ⟨g, cap, cur, e1, e2, by rw [hb g (by rw [e1]; rfl)]; exact e3, e4⟩
theorem Bld.nil (w : World) (lo : Nat) : Bld w lo w.heap.size (.slice none 0 0) [] :=
  ⟨Nat.le_refl _, [], fun _ => 0, World.ownsRow_nil w lo _ 4, rfl, (by intro g h; cases h), (by intro i x pv h; simp at h), (by intro i j h; simp at h)⟩
theorem Bld.by (hb : Below w.heap.size w w') (h : Bld w lo hi v ds) : Bld w' lo hi v ds := by
  obtain ⟨hs, pvs, f, h1, h2, h3, h4, h5⟩ := h
  refine ⟨Nat.le_trans hs hb.size, pvs, f, row_same h1 (fun g hg => hb.block g (by have := h3 g hg; omega)), h2, h3, fun i x pv hx hp => ?_, h5⟩
  obtain ⟨a, b, c⟩ := h4 i x pv hx hp
  exact ⟨OwnR.by hb a, b, c⟩
theorem Bld.past {lo' hi' : Nat} (hb : Within lo' hi' w w') (h : Bld w lo hi v ds) (hd : hi' ≤ lo ∨ hi ≤ lo') : Bld w' lo hi v ds := by
  obtain ⟨hs, pvs, f, h1, h2, h3, h4, h5⟩ := h
  refine ⟨Nat.le_trans hs hb.size, pvs, f, row_same h1 (fun g hg => hb.block g (by have := h3 g hg; omega) (by have := h3 g hg; omega)), h2, h3, fun i x pv hx hp => ?_, h5⟩
  obtain ⟨a, b, c⟩ := h4 i x pv hx hp
  exact ⟨OwnR.past hb a (by omega), b, c⟩
theorem Bld.sized (h : Bld w lo hi v ds) : ∃ a c, v = .slice a ds.length c := by
  obtain ⟨_, pvs, f, ⟨_, h1⟩, _⟩ := h
  rcases h1 with ⟨h1, h2⟩ | ⟨g, cap, cur, e1, _⟩
  · exact ⟨none, 0, by rw [h1, h2]⟩
  · exact ⟨_, _, e1⟩
theorem Bld.own (h : Bld w lo hi v ds) : OwnDs w lo hi v ds := by
  obtain ⟨hs, pvs, f, ⟨hlen, h1⟩, h2, h3, h4, h5⟩ := h
  rcases h1 with ⟨h1, hn⟩ | ⟨g, cap, cur, e1, e2, e3, e4, e5, e6, e7⟩
  · exact .inl ⟨_, _, h1, List.eq_nil_of_length_eq_zero hn⟩
  · have hcur : ∀ (j : Nat) u, (dcells ds pvs)[j]? = some u → cur[j]? = some u := by
      intro j u hu
      rw [← e7] at hu
      have hj : j < ds.length * 4 := by
        have := (List.getElem?_eq_some_iff.1 hu).1
        rw [List.length_take] at this; omega
      rw [List.getElem?_take_of_lt hj] at hu
      simpa using hu
    refine .inr ⟨g, cap, cur, f, e1, h3 g (by rw [e1]; rfl), e4, e5, e3, fun i x hx => ?_, h5⟩
    have hi : i < ds.length := (List.getElem?_eq_some_iff.1 hx).1
    obtain ⟨pv, hp⟩ : ∃ pv, pvs[i]? = some pv := ⟨pvs[i]'(by omega), List.getElem?_eq_getElem (by omega)⟩
    obtain ⟨a, b, c⟩ := h4 i x pv hx hp
    obtain ⟨q0, q1, q2, q3⟩ := dcells_get ds pvs i x pv hx hp
    refine ⟨⟨pv, ⟨hcur _ _ q0, hcur _ _ q1, hcur _ _ q2, hcur _ _ q3⟩, a⟩, b.1, b.2, fun e => c (by rw [e1, e]; rfl)⟩
end
theorem step_push {ops : Array Oper} {o : Oper} {a : Act} {w : World} {K : Act → World → Prop} {Q : Exit → Act → World → Prop} {E : Prop} (hgd : o.guard = none) (s x : Operand)
    (ho : o.op = .call { callee := .builtin .append, args := #[s, x], argTypes := #[32, 32] })
    (lo hi : Nat) (v : Value) (ds : List Dv) (hs : a.eval s = v) (hB : Bld w lo hi v ds) (nb : Nat) (d : Dv) (pv : Value) (fb : Nat) (hx : a.eval x = .slice (some ⟨nb, 0, none⟩) 1 1)
    (hnb : Blk w nb #[.int .i64 d.kind, pv, .int .i64 d.wd, .int .i64 d.len] 62) (hpv : OwnR w fb (fb + 1) pv d.pins) (hlo : lo ≤ hi) (hhi : hi ≤ fb) (hfb : fb < w.heap.size) (hn : ds.length ≤ 1000)
    (hK : ∀ a' c' w', Bld w' lo w'.heap.size (.slice a' (ds.length + 1) c') (ds ++ [d]) → Within lo hi w w' → K (a.put o.dst (.slice a' (ds.length + 1) c')) w') :
    if Region.wanted o (yielded ops a.tmps) = true then Oper.wp Tryz.prog o a w K Q else E := by
  obtain ⟨i0, hi0, hz0, hz1, hz2⟩ := info_parts infoDev
  obtain ⟨hsz, pvs, f, h1, h2, h3, h4, h5⟩ := hB
  have hone : pv.oneCell' = true := by
    rcases hpv with ⟨_, _, rfl, _⟩ | ⟨_, _, _, rfl, _⟩ <;> rfl
  refine step_append_lies w hgd s x 32 ho lo 62 i0 _ 4 48 Tryz.underlying32 hi0 hz0 hz1 hz2 rfl (by decide) v ds.length _ hs h1 ⟨nb, 0, none⟩ 1 1 [.int .i64 d.kind, pv, .int .i64 d.wd, .int .i64 d.len] hx rfl (World.news_of_block (cs := #[.int .i64 d.kind, pv, .int .i64 d.wd, .int .i64 d.len]) hnb) ?_ (by decide) (by unfold maxLen; omega) (by omega) (by omega) w.heap.size rfl ?_
  · intro u hu
    simp at hu
    rcases hu with rfl | rfl | rfl | rfl
    · rfl
    · exact hone
    · rfl
    · rfl
  · intro g cap w' hrow hgrow hg hgl
    have hW : Within lo hi w w' := grown_within hgrow h3
    refine hK (some ⟨g, 0, none⟩) cap w' ⟨Nat.le_refl _, pvs ++ [pv], fun i => if i = ds.length then fb else f i, ?_, by simp [h2], ?_, ?_, ?_⟩ hW
    · rw [List.length_append, List.length_singleton, dcells_push ds pvs d pv h2]; exact hrow
    · intro g' hg'
      have : g = g' := by injection hg'
      subst this
      rcases hg with h | h
      · have := h3 g h; omega
      · omega
    · intro i y pv' hy hp'
      by_cases hi' : i < ds.length
      · rw [List.getElem?_append_left hi'] at hy
        rw [List.getElem?_append_left (by omega)] at hp'
        obtain ⟨a1, b1, c1⟩ := h4 i y pv' hy hp'
        simp only [if_neg (show i ≠ ds.length by omega)]
        have hsep : ∀ g0, v.ownBlock = some g0 → g0 ≠ f i := fun g0 e1 e2 => c1 (by rw [e1, e2])
        refine ⟨?_, by have := hgrow.size; omega, ?_⟩
        · cases hv : v.ownBlock with
          | none => exact OwnR.by ⟨hgrow.os, hgrow.tape, hgrow.output, hgrow.size, fun k hk => hgrow.block k hk (by rw [hv]; simp)⟩ a1
          | some g0 => exact OwnR.past (grown_within (lo := g0) (hi := g0 + 1) hgrow (fun g1 e => by rw [hv] at e; cases e; omega)) a1 (by have := hsep g0 hv; omega)
        · intro e
          have : g = f i := by injection e
          rcases hg with h | h
          · exact hsep g h this
          · omega
      · have hil : i < (ds ++ [d]).length := (List.getElem?_eq_some_iff.1 hy).1
        simp at hil
        obtain rfl : i = ds.length := by omega
        rw [List.getElem?_append_right (Nat.le_refl _)] at hy
        rw [List.getElem?_append_right (by omega)] at hp'
        simp [h2] at hy hp'
        subst hy hp'
        simp only [if_true]
        refine ⟨OwnR.past hW hpv (by omega), by have := hgrow.size; omega, ?_⟩
        intro e
        have : g = fb := by injection e
        rcases hg with h | h
        · have := h3 g h; omega
        · omega
    · intro i j hi' hj' hij
      simp at hi' hj'
      by_cases e1 : i = ds.length
      · subst e1
        obtain ⟨y, hy⟩ : ∃ y, ds[j]? = some y := ⟨ds[j]'(by omega), List.getElem?_eq_getElem (by omega)⟩
        obtain ⟨p, hp⟩ : ∃ p, pvs[j]? = some p := ⟨pvs[j]'(by omega), List.getElem?_eq_getElem (by omega)⟩
        have := (h4 j y p hy hp).2.1
        simp only [if_true, if_neg (show j ≠ ds.length by omega)]
        omega
      · by_cases e2 : j = ds.length
        · subst e2
          obtain ⟨y, hy⟩ : ∃ y, ds[i]? = some y := ⟨ds[i]'(by omega), List.getElem?_eq_getElem (by omega)⟩
          obtain ⟨p, hp⟩ : ∃ p, pvs[i]? = some p := ⟨pvs[i]'(by omega), List.getElem?_eq_getElem (by omega)⟩
          have := (h4 i y p hy hp).2.1
          simp only [if_true, if_neg e1]
          omega
        · simp only [if_neg e1, if_neg e2]
          exact h5 i j (by omega) (by omega) hij
/- Copies of slices of ports. -/
def pcells : List Pt → List Value
  | p :: ps => .string p.name :: .int .i64 p.net :: pcells ps
  | [] => []
theorem length_pcells (ps : List Pt) : (pcells ps).length = ps.length * 2 := by
  induction ps with
  | nil => rfl
  | cons p ps ih => simp [pcells, ih]; omega
theorem pcells_get (ps : List Pt) (i : Nat) (p : Pt) (h : ps[i]? = some p) : (pcells ps)[i * 2]? = some (.string p.name) ∧ (pcells ps)[i * 2 + 1]? = some (.int .i64 p.net) := by
  induction ps generalizing i with
  | nil => simp at h
  | cons q qs ih => cases i with
    | zero => simp at h; subst h; simp [pcells]
    | succ i =>
      simp at h
      have e : ∀ r, (pcells (q :: qs))[(i + 1) * 2 + r]? = (pcells qs)[i * 2 + r]? := by
        intro r
        show (Value.string q.name :: Value.int .i64 q.net :: pcells qs)[(i + 1) * 2 + r]? = _
        rw [show (i + 1) * 2 + r = (i * 2 + r) + 1 + 1 by omega]
        simp only [List.getElem?_cons_succ]
      have e0 := e 0
      simp only [Nat.add_zero] at e0
      rw [e0, e 1]
      exact ih i h
theorem pcells_at (ps : List Pt) (j : Nat) (u : Value) (h : (pcells ps)[j]? = some u) : ∃ p, ps[j / 2]? = some p ∧ ((j % 2 = 0 ∧ u = .string p.name) ∨ (j % 2 = 1 ∧ u = .int .i64 p.net)) := by
  have hj : j < ps.length * 2 := by have := (List.getElem?_eq_some_iff.1 h).1; rwa [length_pcells] at this
  obtain ⟨p, hp⟩ : ∃ p, ps[j / 2]? = some p := ⟨ps[j / 2]'(by omega), List.getElem?_eq_getElem (by omega)⟩
  obtain ⟨e1, e2⟩ := pcells_get ps (j / 2) p hp
  refine ⟨p, hp, ?_⟩
  rcases Nat.mod_two_eq_zero_or_one j with hm | hm
  · left
    rw [show j / 2 * 2 = j by omega, h] at e1
    exact ⟨hm, Option.some.inj e1⟩
  · right
    rw [show j / 2 * 2 + 1 = j by omega, h] at e2
    exact ⟨hm, Option.some.inj e2⟩
section
variable {w w1 : World} {lo : Nat} {sv : Value} {ps : List Pt}
theorem src_ports (h : PtSl w sv ps) : Src Tryz.prog 2 33 sv ps.length (pcells ps) w := by
  have h1 : ∀ u ∈ pcells ps, u.oneCell' = true := by
    intro u hu
    obtain ⟨j, hj, e⟩ := List.mem_iff_getElem.1 hu
    obtain ⟨p, _, h⟩ := pcells_at ps j u (by rw [List.getElem?_eq_getElem hj, e])
    rcases h with ⟨_, rfl⟩ | ⟨_, rfl⟩ <;> rfl
  rcases h with ⟨a, c, rfl, rfl⟩ | ⟨b, off, cap, rfl, h2, h3, h4⟩
  · cases a with
    | none => exact Src.ofNil w Tryz.underlying33 c
    | some a => exact Src.ofSlice w Tryz.underlying33 a 0 c [] rfl (by simp) (by simp)
  · refine Src.ofSlice w Tryz.underlying33 _ _ _ _ (by rw [length_pcells]) (fun j u hu => ?_) h1
    obtain ⟨p, hp, hc⟩ := pcells_at ps j u hu
    obtain ⟨c1, c2⟩ := h4 _ p hp
    rw [Addr.add_lit]
    rcases hc with ⟨hm, rfl⟩ | ⟨hm, rfl⟩
    · have e : off + j / 2 * 2 = off + j := by omega
      rw [e] at c1; exact c1
    · have e : off + j / 2 * 2 + 1 = off + j := by omega
      rw [e] at c2; exact c2
theorem cloneP_run (h : PtSl w sv ps) (hn : ps.length ≤ 1048576) (b : Nat) (ty : TypeId) (hlo : lo ≤ w.heap.size) :
    ∃ v w', (Builtin.append_ #[33, 33] ty #[.slice (some ⟨b, 0, none⟩) 0 0, sv]).run Tryz.prog w = .ok v w' ∧ OwnPs w' lo w'.heap.size v ps ∧ Below w.heap.size w w' := by
  obtain ⟨i0, hi, hz0, hz1, hz2⟩ := info_parts infoPt
  have hS := src_ports h
  by_cases h0 : ps = []
  · subst h0
    have hr := run_append_room_src (P := Tryz.prog) w 33 33 ty 98 i0 Tryz.underlying33 hi b 0 0 0 sv 0 [] (by rw [hz1]; exact hS) (by omega) (by simp) (by simp)
    refine ⟨_, _, hr, .inl ⟨_, _, rfl, rfl⟩, ?_⟩
    exact Below.refl _ _
  · have hl : 0 < ps.length := List.length_pos_iff.2 h0
    have hr := run_append_grow_src (P := Tryz.prog) w 33 33 ty 98 i0 _ Tryz.underlying33 hi hz0 (some ⟨b, 0, none⟩) 0 0 [] (by rw [hz1]; exact run_firstCells_some w.drew 2 0 _ 0 0 [] rfl (by simp)) sv ps.length (pcells ps) (by rw [hz1]; exact hS) (by omega) (by omega)
      (by rw [hz2]; simp only [Builtin.nextslicecap, Nat.mul_zero, Nat.zero_add]; rw [if_pos (by omega)]; omega)
    refine ⟨_, _, hr, .inr ⟨w.heap.size, grownCap w (0 + ps.length) 0 98, _, by rw [Nat.zero_add], ⟨hlo, by simp⟩, by have := grownCap_ge w (0 + ps.length) 0 98; omega, grownCap_le_maxLen _ _ _ _ (by unfold maxLen; omega), Blk.new _ rfl, ?_⟩, ((Below.refl _ _).drew).alloc (Nat.le_refl _) _⟩
    intro i x hx
    have hi := (List.getElem?_eq_some_iff.1 hx).1
    obtain ⟨e1, e2⟩ := pcells_get ps i x hx
    have hl2 := length_pcells ps
    refine ⟨?_, ?_⟩
    · rw [Array.getElem?_append_left (by simp [hl2]; omega)]; simpa using e1
    · rw [Array.getElem?_append_left (by simp [hl2]; omega)]; simpa using e2
end
theorem list_cloneP {ops : Array Oper} {rest : List Oper} {o : Oper} {a : Act} {w : World} {Q : Exit → Act → World → Prop} (hgd : o.guard = none) (s x : Operand)
    (ho : o.op = .call { callee := .builtin .append, args := #[s, x], argTypes := #[33, 33] })
    (b : Nat) (hs : a.eval s = .slice (some ⟨b, 0, none⟩) 0 0) (sv : Value) (ps : List Pt) (hx : a.eval x = sv) (h : PtSl w sv ps) (hn : ps.length ≤ 1048576) (lo : Nat) (hlo : lo ≤ w.heap.size)
    (hK : ∀ v w', OwnPs w' lo w'.heap.size v ps → Below w.heap.size w w' → wpList Tryz.prog ops Q rest (a.put o.dst v) w') : wpList Tryz.prog ops Q (o :: rest) a w :=
  wpList_plain hgd fun _ hK' => by
    obtain ⟨v, w', hr, h2, h3⟩ := cloneP_run h hn b o.type hlo
    unfold Oper.wp execOp
    simp only [ho, resolve, invoke, builtin, Sem.run_bind, Sem.run_pure, Result.andThen_ok, List.map_toArray, List.map_cons, List.map_nil, hs, hx, hr]
    exact hK' _ _ (hK v w' h2 h3)
set_option maxRecDepth 100000 in
set_option maxHeartbeats 1000000 in
theorem cloneP_any (sv : Value) (ps : List Pt) (w : World) (h : PtSl w sv ps) (hn : ps.length ≤ 1048576) :
    Calls Tryz.prog 123 #[sv] w fun e w' => ∃ v, e = .returned v ∧ OwnPs w' w.heap.size w'.heap.size v ps ∧ Below w.heap.size w w' := by
  obtain ⟨a, c, rfl⟩ := h.sized
  have q22 : ∀ (w : World) (a : Option Addr) (n c n' c' : Nat), (binOp .eql 33 (.slice a n c) (.slice none n' c')).run Tryz.prog w = .ok (.bool a.isNone) w := fun w a n c n' c' => Lib.run_eql_slice_nil w _ _ a n c n' c' Tryz.underlying33
  cases a with
  | none =>
    have hz : ps = [] := by
      rcases h with ⟨_, _, _, h2⟩ | ⟨b, off, cap, h1, _⟩
      · exact h2
      · simp at h1
    subst hz
    go_enter Tryz.func123, Tryz.ntmps123
    go_wp2
    refine bodyPost_ret (v := .slice none 0 0) (by simp [results, Tryz.results123, go_sem, *]) rfl ⟨_, rfl, .inl ⟨_, _, rfl, rfl⟩, blwT⟩
  | some ad =>
    go_enter Tryz.func123, Tryz.ntmps123
    go_wp2_with ((refine list_cloneP (by rfl) _ _ (by rfl) _ (by rfl) _ ps (by rfl) (h.by blwT) hn w.heap.size (by simp; try omega) ?_; intro v w3 hO hb3; have HO := Lib.hid hO; obtain ⟨a1, c1, rfl⟩ := hO.sl.sized; clear hO))
    refine bodyPost_ret (v := .slice a1 ps.length c1) (by simp [results, Tryz.results123, go_sem, *]) rfl ⟨_, rfl, HO.out, blwT⟩
/- copyNetlist. -/
theorem OwnI.pin {w : World} {lo : Nat} {sv : Value} {zs : List Int} (h : OwnI w lo sv zs) (hne : zs ≠ []) : ∃ g, lo ≤ g ∧ g < w.heap.size ∧ OwnR w g (g + 1) sv zs := by
  rcases h with ⟨_, _, _, h⟩ | ⟨g, cap, cs, h1, h2, h3, h4, h5, h6⟩
  · exact absurd h hne
  · exact ⟨g, h2, h5.lt, .inr ⟨g, cap, cs, h1, Nat.le_refl _, Nat.lt_succ_self _, h3, h4, h5, h6⟩⟩
set_option maxRecDepth 100000 in
set_option maxHeartbeats 4000000 in
theorem copyNetlist_any (x : Nl) (v : Value) (w : World) (h : NlV w v x) (hl : x.ds.length ≤ 1000) (hpl : x.ps.length ≤ 1048576) (hpn : ∀ d ∈ x.ds, d.pins.length ≤ 1048576 ∧ d.pins ≠ []) :
    Calls Tryz.prog 76 #[v] w fun e w' => ∃ v', e = .returned v' ∧ OwnNl w' w.heap.size w'.heap.size v' x ∧ Below w.heap.size w w' := by
  obtain ⟨s1, s2, rfl, hd, hp⟩ := h
  obtain ⟨nets, ds, ps⟩ := x
  dsimp only at hd hp hl hpl hpn ⊢
  have HD := Lib.hid hd
  have HP := Lib.hid hp
  have HPN := Lib.hid hpn
  have HCL := Lib.hid (fun w h => cloneP_any s2 ps w h hpl)
  obtain ⟨a1, c1, rfl⟩ := hd.sized
  obtain ⟨a2, c2, rfl⟩ := hp.sized
  clear hd hp hpn
  go_enter Tryz.func76, Tryz.ntmps76
  go_upto_region 1 with fail
  go_cut [3] (fun s3 wx => ∃ (p : Nat) (a3 : Option Addr) (c3 lo2 hi2 : Nat), s3 = .pointer (some ⟨p, 0, none⟩) ∧ Blk wx p #[.int .i64 nets, .slice none 0 0, .slice a3 ps.length c3] 35 ∧ Blk wx w.heap.size #[.int .i64 nets, .slice a1 ds.length c1, .slice a2 ps.length c2] 35 ∧ Blk wx (w.heap.size + 1) #[.int .i64 0, .slice none 0 0, .slice none 0 0] 35 ∧ OwnPs wx lo2 hi2 (.slice a3 ps.length c3) ps ∧ (w.heap.size + 1 < p ∧ w.heap.size + 1 < lo2 ∧ hi2 ≤ wx.heap.size ∧ (p < lo2 ∨ hi2 ≤ p)) ∧ Below w.heap.size w wx)
  case first =>
    go_region_held3 ((fun w' => (Blk w' (w.heap.size) #[.int .i64 nets, .slice a1 ds.length c1, .slice a2 ps.length c2] 35 ∧ ∀ o, w'.cell? ⟨w.heap.size, o, none⟩ = (#[.int .i64 nets, .slice a1 ds.length c1, .slice a2 ps.length c2] : Array Value)[o]?) ∧ Below w.heap.size w w')) (((try (obtain ⟨⟨hS0, _⟩, hSB⟩ := hHeld)); refine ⟨Blk.both ?_, ?_⟩ <;> first | ((repeat (first | (with_reducible assumption) | (with_reducible refine Blk.drewN ?_ _) | (with_reducible refine Blk.drew ?_) | ((with_reducible refine Blk.new _ ?_); focus (first | omega | (simp; done) | (simp; omega))) | (with_reducible refine Blk.past ?_ _) | ((with_reducible refine Blk.apart ?_ _ _ _ ?_); rotate_left; focus (first | omega | (simp; done) | (simp; omega))) | (with_reducible refine Blk.by (by assumption) ?_))); done) | ((repeat (first | (with_reducible exact Below.refl _ _) | (with_reducible refine below_drewN ?_ _) | (with_reducible refine Below.drew ?_) | (with_reducible refine below_al ?_ _) | (with_reducible refine below_on (by assumption) ?_) | ((with_reducible refine Below.setCell ?_ ?_ _); rotate_left; focus (first | omega | (simp; done) | (simp; omega))) | (with_reducible assumption))); done)))
      (first | (go_at_call 123; refine (HCL.out _ (HP.out.by blwT)).mono ?_; rintro e w1 ⟨v1, rfl, hO, hb1⟩; have HO := Lib.hid hO; obtain ⟨a3, c3, rfl⟩ := hO.sl.sized; clear hO; (try (refine with_fact (p := Blk w1 (w.heap.size + 1 + 1) #[.int .i64 0, .slice none 0 0, .slice none 0 0] 35) (Blk.by hb1 ?_) ?_; (focus ((repeat (first | (with_reducible assumption) | (with_reducible refine Blk.drewN ?_ _) | (with_reducible refine Blk.drew ?_) | ((with_reducible refine Blk.new _ ?_); focus (first | omega | (simp; done) | (simp; omega))) | (with_reducible refine Blk.past ?_ _) | ((with_reducible refine Blk.apart ?_ _ _ _ ?_); rotate_left; focus (first | omega | (simp; done) | (simp; omega))) | (with_reducible refine Blk.by (by assumption) ?_))); done)); intro k3; have c3' := k3.cell; have f3' := k3.free))))
    all_goals (go_wp2_with fail; go_meet)
    all_goals have hlw := hb1.size
    all_goals simp only [World.size_alloc, World.size_drew] at hlw
    · refine ⟨_, a3, c3, w.heap.size + 1 + 1, w1.heap.size, rfl, Blk.new _ rfl, blkT, blkT, ?_, ⟨by omega, by omega, by simp, by omega⟩, blwT⟩
      exact (HO.out.by ((Below.refl _ w1).alloc (Nat.le_refl _) _)).wide (by simp) (by simp)
    · refine ⟨_, a3, c3, w.heap.size + 1 + 1 + 1, w1.heap.size, rfl, (((k3.set 0 _).set 1 _).set 2 _), blkT, blkT, ?_, ⟨by omega, by omega, by simp, by omega⟩, blwT⟩
      exact (((HO.out.past (Within.off _) (by simp)).past (Within.off _) (by simp)).past (Within.off _) (by simp)).wide (by simp) (by simp)
  case rest =>
    obtain ⟨p, a3, c3, lo2, hi2, rfl, kP, kN, kZ, hO, ⟨hp1, hp2, hp3, hp4⟩, hb⟩ := hcut
    have HO := Lib.hid hO
    have lP := kP.lt
    have hbl := hb.size
    have cN := kN.cell
    obtain ⟨B, hB⟩ : ∃ B, wc.heap.size = B := ⟨_, rfl⟩
    rw [hB] at lP hbl
    have hBl := Bld.nil wc wc.heap.size
    rw [hB] at hBl hp3
    have HO1 := Lib.hid hO
    have lPB : p < B := lP
    clear hO HO
    have HB := Lib.hid hB
    clear hB
    go_wp2
    go_loopw [15] (fun i wr => ∃ (k : Nat) (v : Value) (hi : Nat), k ≤ ds.length ∧ B ≤ hi ∧ i = .int .i64 k ∧ Bld wr B hi v (ds.take k) ∧ Blk wr p #[.int .i64 nets, v, .slice a3 ps.length c3] 35 ∧ Blk wr (w.heap.size + 1) #[.int .i64 0, .slice none 0 0, .slice none 0 0] 35 ∧ OwnPs wr lo2 hi2 (.slice a3 ps.length c3) ps ∧ Below w.heap.size w wr) (fun i _ => ds.length - (intOf i).toNat)
    case atStart => exact ⟨0, .slice none 0 0, B, Nat.zero_le _, Nat.le_refl _, rfl, hBl, kP, kZ, HO1.out, hb⟩
    case round =>
      clear kP kZ kN cN hb hBl
      obtain ⟨k, v, hi, hk, hBhi, rfl, hBl, kP, kZ, hO, hb⟩ := hrel
      have HO := Lib.hid hO
      have HBL := Lib.hid hBl
      have lP := kP.lt
      obtain ⟨av, cv, rfl⟩ := hBl.sized
      have hhi := hBl.1
      clear hO hBl
      by_cases hlt : k < ds.length
      · obtain ⟨x, hx⟩ : ∃ x, ds[k]? = some x := ⟨ds[k], List.getElem?_eq_getElem hlt⟩
        have HDS := HD.out
        rcases HDS with ⟨_, _, _, h2⟩ | ⟨b, off, cap, he, h2, h3, h4⟩
        · rw [h2] at hlt; simp at hlt
        obtain ⟨rfl, rfl⟩ : a1 = some ⟨b, off, none⟩ ∧ c1 = cap := by simpa using he
        obtain ⟨hxl, hxn⟩ := HPN.out x (List.mem_of_getElem? hx)
        obtain ⟨sx, d1, d2, d3, d4, hSx⟩ := (h4 k x hx).by hb
        have lX := lt_of_cell d1
        dsimp only at lX
        have HCD := Lib.hid (fun w h => copyDevice_any x.kind x.wd x.len sx x.pins w h hxl)
        have HSX := Lib.hid hSx
        have HX := Lib.hid hx
        have HXN := Lib.hid hxn
        have htk := List.length_take (i := k) (l := ds)
        obtain ⟨ax, cx, rfl⟩ := hSx.len
        have i1 : (0 : Int) ≤ (k : Int) := by omega
        have i2 : (k : Int) < (ds.length : Int) := by omega
        obtain ⟨wo, rfl⟩ : ∃ wo : World, wo = wr := ⟨_, rfl⟩
        have htl : (ds.take k).length = k := by rw [List.length_take]; omega
        have HTL := Lib.hid htl
        have kA : Blk (wo.alloc (.cells #[.int .i64 x.kind, .slice ax x.pins.length cx, .int .i64 x.wd, .int .i64 x.len] 62)) wo.heap.size #[.int .i64 x.kind, .slice ax x.pins.length cx, .int .i64 x.wd, .int .i64 x.len] 62 := Blk.new _ rfl
        have kP' := kP.past (.cells #[.int .i64 x.kind, .slice ax x.pins.length cx, .int .i64 x.wd, .int .i64 x.len] 62)
        have hb' := below_al hb (.cells #[.int .i64 x.kind, .slice ax x.pins.length cx, .int .i64 x.wd, .int .i64 x.len] 62)
        rw [htl] at kP' kP
        clear h4 hx hxn he hSx htk htl
        have hBL2 := HBL.out
        rw [HTL.out] at hBL2
        have HBL2 := Lib.hid hBL2
        clear hBL2
        clear HBL
        have cP : wo.cell? ⟨p, 1, none⟩ = some (.slice av k cv) := kP.cell 1
        have kP1' := kP'.drew
        go_wp2
        go_region_law
          (first | (go_simp; go_at_call 115; refine (HCD.out _ (HSX.out.by blwT)).mono ?_; rintro e w1 ⟨v1, rfl, hOI, hb1⟩; obtain ⟨fb, hf1, hf2, hOR⟩ := hOI.pin HXN.out; have HOR := Lib.hid hOR; obtain ⟨a1', c1', rfl⟩ := hOR.sl.len; clear hOR hOI; (try simp at hf1); have kP1 := Blk.by hb1 kP1'; have cP1 : w1.cell? ⟨p, 1, none⟩ = some (.slice av k cv) := kP1.cell 1; have lP1 := kP1.lt; dsimp only) | (refine step_push (by rfl) _ _ (by rfl) B hi _ (ds.take k) (by rfl) (HBL2.out.by blwT) w1.heap.size x _ fb (by rfl) (Blk.new _ rfl) (HOR.out.by ((Below.refl _ w1).alloc (Nat.le_refl _) _)) (by omega) (by omega) (by simp; omega) (by rw [HTL.out]; omega) ?_; intro a' c' w3 hBl3 hw3; have HBL3 := Lib.hid hBl3; have kP3 := hw3.blk ((Blk.by hb1 kP'.drew).past (.cells #[.int .i64 x.kind, .slice a1' x.pins.length c1', .int .i64 x.wd, .int .i64 x.len] 62)) (by omega); have cP3 : w3.cell? ⟨p, 1, none⟩ = some (.slice av k cv) := kP3.cell 1; have fP3 : w3.frozen? ⟨p, 1, none⟩ = false := kP3.free 1; have lP3 := kP3.lt; clear hBl3))
        all_goals
          have hsz3 := hw3.size
          simp only [World.size_alloc] at hsz3
          have hb3 := hw3.below (below_al (below_on hb1 hb'.drew) (.cells #[.int .i64 x.kind, .slice a1' x.pins.length c1', .int .i64 x.wd, .int .i64 x.len] 62)) (by omega)
          have kZ3 := hw3.blk ((Blk.by hb1 ((kZ.past (.cells #[.int .i64 x.kind, .slice ax x.pins.length cx, .int .i64 x.wd, .int .i64 x.len] 62)).drew)).past (.cells #[.int .i64 x.kind, .slice a1' x.pins.length c1', .int .i64 x.wd, .int .i64 x.len] 62)) (by omega)
          have hO3 := ((((HO.out.by ((Below.refl _ wo).alloc (Nat.le_refl _) (.cells #[.int .i64 x.kind, .slice ax x.pins.length cx, .int .i64 x.wd, .int .i64 x.len] 62))).by (below_of_drewN _ 1)).by hb1).by ((Below.refl _ w1).alloc (Nat.le_refl _) (.cells #[.int .i64 x.kind, .slice a1' x.pins.length c1', .int .i64 x.wd, .int .i64 x.len] 62))).past hw3 (by omega)
          have hl1 := hb1.size
          simp only [World.size_alloc, World.size_drew] at hl1
          go_wp2
          have hB4 := HBL3.out
          rw [HTL.out] at hB4
          have hW4 : Within p (p + 1) w3 (w3.setCell ⟨p, 1, none⟩ (.slice a' (k + 1) c')) := Within.off _
          have hO4 := OwnPs.past (lo := lo2) (hi := hi2) hW4 hO3 (by omega)
          refine ⟨⟨k + 1, .slice a' (k + 1) c', w3.heap.size, by omega, by omega, by go_num, ?_, kP3.set 1 _, kZ3.apart p 1 _ (by omega), hO4, hb3.setCell (by simp; omega) _⟩, by simp [intOf]; omega⟩
          rw [take_snoc_of ds k x HX.out]
          exact hB4.past hW4 (by omega)
      · obtain rfl : k = ds.length := by omega
        have hBL2 := HBL.out
        rw [List.take_length] at hBL2 kP
        have HOD := Lib.hid hBL2.own
        have c1' := kP.cell
        have c2' := kZ.cell
        have f2' := kZ.free
        have l2' := kZ.lt
        clear HBL hBL2
        go_wp2
        refine bodyPost_ret (v := .agg #[.int .i64 nets, .slice av ds.length cv, .slice a3 ps.length c3]) (by simp [results, Tryz.results76, go_sem, *]) rfl ⟨_, rfl, ⟨_, _, B, hi, lo2, hi2, rfl, ?_, ?_, ⟨hbl, by simp; omega⟩, ⟨by omega, by simp; omega⟩, .inr hp3⟩, ?_⟩
        · exact (((HOD.out.past (Within.off _) (by omega)).past (Within.off _) (by omega)).past (Within.off _) (by omega))
        · exact (((HO.out.past (Within.off _) (by omega)).past (Within.off _) (by omega)).past (Within.off _) (by omega))
        · repeat (first | (with_reducible exact hb) | ((with_reducible refine Below.setCell ?_ ?_ _); rotate_left; focus (simp; try omega)))
theorem pcells_push (ps : List Pt) (p : Pt) : pcells (ps ++ [p]) = pcells ps ++ [.string p.name, .int .i64 p.net] := by
  induction ps with
  | nil => rfl
  | cons q qs ih => simp [pcells, ih]
def BldP (w : World) (lo hi : Nat) (v : Value) (ps : List Pt) : Prop := hi ≤ w.heap.size ∧ w.ownsRow lo 98 2 v ps.length (pcells ps) ∧ (∀ g, v.ownBlock = some g → lo ≤ g ∧ g < hi)
section
variable {w w' : World} {lo hi : Nat} {v : Value} {ps : List Pt}
theorem BldP.nil (w : World) (lo : Nat) : BldP w lo w.heap.size (.slice none 0 0) [] :=
  ⟨Nat.le_refl _, World.ownsRow_nil w lo _ 2, by intro g h; cases h⟩
theorem BldP.by (hb : Below w.heap.size w w') (h : BldP w lo hi v ps) : BldP w' lo hi v ps := by
  obtain ⟨hs, h1, h3⟩ := h
  exact ⟨Nat.le_trans hs hb.size, row_same h1 (fun g hg => hb.block g (by have := h3 g hg; omega)), h3⟩
theorem BldP.past {lo' hi' : Nat} (hb : Within lo' hi' w w') (h : BldP w lo hi v ps) (hd : hi' ≤ lo ∨ hi ≤ lo') : BldP w' lo hi v ps := by
  obtain ⟨hs, h1, h3⟩ := h
  exact ⟨Nat.le_trans hs hb.size, row_same h1 (fun g hg => hb.block g (by have := h3 g hg; omega) (by have := h3 g hg; omega)), h3⟩
theorem BldP.sized (h : BldP w lo hi v ps) : ∃ a c, v = .slice a ps.length c := by
  obtain ⟨_, ⟨_, h1⟩, _⟩ := h
  rcases h1 with ⟨h1, h2⟩ | ⟨g, cap, cur, e1, _⟩
  · exact ⟨none, 0, by rw [h1, h2]⟩
  · exact ⟨_, _, e1⟩
theorem BldP.own (h : BldP w lo hi v ps) : OwnPs w lo hi v ps := by
  obtain ⟨hs, ⟨hlen, h1⟩, h3⟩ := h
  rcases h1 with ⟨h1, hn⟩ | ⟨g, cap, cur, e1, e2, e3, e4, e5, e6, e7⟩
  · exact .inl ⟨_, _, h1, List.eq_nil_of_length_eq_zero hn⟩
  · have hcur : ∀ (j : Nat) u, (pcells ps)[j]? = some u → cur[j]? = some u := by
      intro j u hu
      rw [← e7] at hu
      have hj : j < ps.length * 2 := by
        have := (List.getElem?_eq_some_iff.1 hu).1
        rw [List.length_take] at this; omega
      rw [List.getElem?_take_of_lt hj] at hu
      simpa using hu
    refine .inr ⟨g, cap, cur, e1, h3 g (by rw [e1]; rfl), e4, e5, e3, fun i x hx => ?_⟩
    obtain ⟨q0, q1⟩ := pcells_get ps i x hx
    exact ⟨hcur _ _ q0, hcur _ _ q1⟩
end
theorem step_pushP {ops : Array Oper} {o : Oper} {a : Act} {w : World} {K : Act → World → Prop} {Q : Exit → Act → World → Prop} {E : Prop} (hgd : o.guard = none) (s x : Operand)
    (ho : o.op = .call { callee := .builtin .append, args := #[s, x], argTypes := #[33, 33] })
    (lo hi : Nat) (v : Value) (ps : List Pt) (hs : a.eval s = v) (hB : BldP w lo hi v ps) (nb : Nat) (p : Pt) (hx : a.eval x = .slice (some ⟨nb, 0, none⟩) 1 1)
    (hnb : Blk w nb #[.string p.name, .int .i64 p.net] 98) (hlo : lo ≤ hi) (hn : ps.length ≤ 1000)
    (hK : ∀ a' c' w', BldP w' lo w'.heap.size (.slice a' (ps.length + 1) c') (ps ++ [p]) → Within lo hi w w' → K (a.put o.dst (.slice a' (ps.length + 1) c')) w') :
    if Region.wanted o (yielded ops a.tmps) = true then Oper.wp Tryz.prog o a w K Q else E := by
  obtain ⟨i0, hi0, hz0, hz1, hz2⟩ := info_parts infoPt
  obtain ⟨hsz, h1, h3⟩ := hB
  refine step_append_lies w hgd s x 33 ho lo 98 i0 _ 2 24 Tryz.underlying33 hi0 hz0 hz1 hz2 rfl (by decide) v ps.length _ hs h1 ⟨nb, 0, none⟩ 1 1 [.string p.name, .int .i64 p.net] hx rfl (World.news_of_block (cs := #[.string p.name, .int .i64 p.net]) hnb) ?_ (by decide) (by unfold maxLen; omega) (by omega) (by omega) w.heap.size rfl ?_
  · intro u hu
    simp at hu
    rcases hu with rfl | rfl
    · rfl
    · rfl
  · intro g cap w' hrow hgrow hg hgl
    have hW : Within lo hi w w' := grown_within hgrow h3
    refine hK (some ⟨g, 0, none⟩) cap w' ⟨Nat.le_refl _, ?_, ?_⟩ hW
    · rw [List.length_append, List.length_singleton, pcells_push]; exact hrow
    · intro g' hg'
      have : g = g' := by injection hg'
      subst this
      rcases hg with h | h
      · have := h3 g h; omega
      · omega
/- Netlists with other numbers of nets: the plain part. -/
def nmOf (names : List Int) (p : Int) : Int := names.getD p.toNat 0
def renD (names : List Int) (d : Dv) : Dv := ⟨d.kind, d.pins.map (nmOf names), d.wd, d.len⟩
def renP (names : List Int) (p : Pt) : Pt := ⟨p.name, nmOf names p.net⟩
def renS (x : Nl) (names : List Int) (nets : Int) : Nl := ⟨nets, x.ds.map (renD names), x.ps.map (renP names)⟩
def renTo (names : List Int) (zs : List Int) (k : Nat) : List Int := (zs.take k).map (nmOf names) ++ zs.drop k
theorem renTo_zero (names zs : List Int) : renTo names zs 0 = zs := by simp [renTo]
theorem renTo_all (names zs : List Int) : renTo names zs zs.length = zs.map (nmOf names) := by simp [renTo]
theorem renTo_get (names zs : List Int) (k : Nat) (z : Int) (h : zs[k]? = some z) : (renTo names zs k)[k]? = some z := by
  have hk := (List.getElem?_eq_some_iff.1 h).1
  rw [renTo, List.getElem?_append_right (by simp; omega)]
  simp
  rw [show k - min k zs.length = 0 by omega]
  simpa using h
theorem renTo_step (names zs : List Int) (k : Nat) (z : Int) (h : zs[k]? = some z) : (renTo names zs k).set k (nmOf names z) = renTo names zs (k + 1) := by
  have hk := (List.getElem?_eq_some_iff.1 h).1
  apply List.ext_getElem?
  intro i
  have e : zs[k] = z := by rw [List.getElem?_eq_getElem hk] at h; exact Option.some.inj h
  unfold renTo
  rw [take_snoc_of zs k z h]
  by_cases hi : i = k
  · subst hi
    rw [List.getElem?_set_self (by simp; omega)]
    rw [List.getElem?_append_left (by simp; omega), List.map_append, List.getElem?_append_right (by simp; omega)]
    simp
    rw [show i - min i zs.length = 0 by omega]
    rfl
  · rw [List.getElem?_set_ne (by omega)]
    by_cases hlt : i < k
    · rw [List.getElem?_append_left (by simp; omega), List.getElem?_append_left (by simp; omega), List.map_append, List.getElem?_append_left (by simp; omega)]
    · rw [List.getElem?_append_right (by simp; omega), List.getElem?_append_right (by simp; omega)]
      simp
      congr 1
      omega
def ICs (cs : Array Value) (zs : List Int) : Prop := ∀ (i : Nat) (z : Int), zs[i]? = some z → cs[i]? = some (Value.int .i64 z)
theorem ICs.set {cs : Array Value} {zs : List Int} (h : ICs cs zs) (k : Nat) (v : Int) : ICs (cs.setIfInBounds k (.int .i64 v)) (zs.set k v) := by
  intro i z hz
  have hi : i < zs.length := by have := (List.getElem?_eq_some_iff.1 hz).1; simpa using this
  have hc := h i zs[i] (List.getElem?_eq_getElem hi)
  have hs := (Array.getElem?_eq_some_iff.1 hc).1
  by_cases e : k = i
  · subst e
    rw [List.getElem?_set_self hi] at hz
    cases hz
    simp [Array.getElem?_setIfInBounds, hs]
  · rw [List.getElem?_set_ne e] at hz
    rw [Array.getElem?_setIfInBounds, if_neg e]
    exact h i z hz
theorem ICs.own {w : World} {g cap : Nat} {cs : Array Value} {zs : List Int} (h : ICs cs zs) (hB : Blk w g cs 2) (h1 : zs.length ≤ cap) (h2 : cap ≤ maxLen) : OwnR w g (g + 1) (.slice (some ⟨g, 0, none⟩) zs.length cap) zs :=
  .inr ⟨g, cap, cs, rfl, Nat.le_refl _, Nat.lt_succ_self _, h1, h2, hB, h⟩
theorem OwnR.cells {w : World} {lo hi : Nat} {sv : Value} {zs : List Int} (h : OwnR w lo hi sv zs) (hz : zs ≠ []) : ∃ g cap cs, sv = .slice (some ⟨g, 0, none⟩) zs.length cap ∧ (lo ≤ g ∧ g < hi) ∧ zs.length ≤ cap ∧ cap ≤ maxLen ∧ Blk w g cs 2 ∧ ICs cs zs := by
  rcases h with ⟨_, _, _, h⟩ | ⟨g, cap, cs, h1, h2, h2', h3, h4, h5, h6⟩
  · exact absurd h hz
  · exact ⟨g, cap, cs, h1, ⟨h2, h2'⟩, h3, h4, h5, h6⟩
/- The two pushes at a plain list of operations. -/
/- One device's pins, one port's net, turned in place. -/
theorem OwnDs.setPins {w : World} {lo hi : Nat} {sv : Value} {ds : List Dv} {k : Nat} {x : Dv} (h : OwnDs w lo hi sv ds) (hx : ds[k]? = some x) :
    ∃ (g cap : Nat) (cs : Array Value) (fb : Nat) (pv : Value), sv = .slice (some ⟨g, 0, none⟩) ds.length cap ∧ Blk w g cs 62 ∧ Cs4 cs k (.int .i64 x.kind) pv (.int .i64 x.wd) (.int .i64 x.len) ∧ OwnR w fb (fb + 1) pv x.pins ∧ (lo ≤ fb ∧ fb < hi) ∧ (lo ≤ g ∧ g < hi) ∧ fb ≠ g ∧ ds.length ≤ maxLen ∧
      ∀ w' zs, zs.length = x.pins.length → Within fb (fb + 1) w w' → OwnR w' fb (fb + 1) pv zs → OwnDs w' lo hi sv (ds.set k ⟨x.kind, zs, x.wd, x.len⟩) := by
  rcases h with ⟨_, _, _, rfl⟩ | ⟨g, cap, cs, f, h1, h2, h3, h4, h5, h6, h7⟩
  · simp at hx
  obtain ⟨⟨pv, c4, hR⟩, hf⟩ := h6 k x hx
  have hk := (List.getElem?_eq_some_iff.1 hx).1
  refine ⟨g, cap, cs, f k, pv, h1, h5, c4, hR, ⟨hf.1, hf.2.1⟩, h2, hf.2.2, by omega, fun w' zs hzl hW hR' => ?_⟩
  refine .inr ⟨g, cap, cs, f, by rw [List.length_set]; exact h1, h2, by rw [List.length_set]; exact h3, h4, hW.blk h5 (by omega), fun i y hy => ?_, fun i j hi hj hij => h7 i j (by rwa [List.length_set] at hi) (by rwa [List.length_set] at hj) hij⟩
  by_cases e : k = i
  · subst e
    rw [List.getElem?_set_self hk] at hy
    cases hy
    exact ⟨⟨pv, c4, hR'⟩, hf⟩
  · rw [List.getElem?_set_ne e] at hy
    obtain ⟨⟨pv', c4', hR2⟩, hf'⟩ := h6 i y hy
    have hi := (List.getElem?_eq_some_iff.1 hy).1
    have := h7 k i hk hi e
    exact ⟨⟨pv', c4', OwnR.past hW hR2 (by omega)⟩, hf'⟩
theorem OwnPs.setNet {w : World} {lo hi : Nat} {sv : Value} {ps : List Pt} {k : Nat} {x : Pt} (h : OwnPs w lo hi sv ps) (hx : ps[k]? = some x) :
    ∃ (g cap : Nat) (cs : Array Value), sv = .slice (some ⟨g, 0, none⟩) ps.length cap ∧ Blk w g cs 98 ∧ Cs2 cs k (.string x.name) (.int .i64 x.net) ∧ (lo ≤ g ∧ g < hi) ∧ ps.length ≤ maxLen ∧
      ∀ w' z, Blk w' g (cs.setIfInBounds (k * 2 + 1) (.int .i64 z)) 98 → OwnPs w' lo hi sv (ps.set k ⟨x.name, z⟩) := by
  rcases h with ⟨_, _, _, rfl⟩ | ⟨g, cap, cs, h1, h2, h3, h4, h5, h6⟩
  · simp at hx
  have hk := (List.getElem?_eq_some_iff.1 hx).1
  refine ⟨g, cap, cs, h1, h5, h6 k x hx, h2, by omega, fun w' z hB => ?_⟩
  refine .inr ⟨g, cap, _, by rw [List.length_set]; exact h1, h2, by rw [List.length_set]; exact h3, h4, hB, fun i y hy => ?_⟩
  obtain ⟨q0, q1⟩ := h6 k x hx
  have hs := (Array.getElem?_eq_some_iff.1 q1).1
  by_cases e : k = i
  · subst e
    rw [List.getElem?_set_self hk] at hy
    cases hy
    refine ⟨?_, ?_⟩ <;> simp only [Array.getElem?_setIfInBounds]
    · rw [if_neg (by omega)]; exact q0
    · rw [if_pos trivial, if_pos hs]
  · rw [List.getElem?_set_ne e] at hy
    obtain ⟨r0, r1⟩ := h6 i y hy
    refine ⟨?_, ?_⟩ <;> simp only [Array.getElem?_setIfInBounds]
    · rw [if_neg (by omega)]; exact r0
    · rw [if_neg (by omega)]; exact r1
section
variable {α : Type} (f : α → α)
def upTo (xs : List α) (k : Nat) : List α := (xs.take k).map f ++ xs.drop k
theorem upTo_zero (xs : List α) : upTo f xs 0 = xs := by simp [upTo]
theorem upTo_all (xs : List α) : upTo f xs xs.length = xs.map f := by simp [upTo]
theorem length_upTo (xs : List α) (k : Nat) : (upTo f xs k).length = xs.length := by simp [upTo]; omega
theorem upTo_get (xs : List α) (k : Nat) (x : α) (h : xs[k]? = some x) : (upTo f xs k)[k]? = some x := by
  have hk := (List.getElem?_eq_some_iff.1 h).1
  rw [upTo, List.getElem?_append_right (by simp; omega)]
  simp
  rw [show k - min k xs.length = 0 by omega]
  simpa using h
theorem upTo_step (xs : List α) (k : Nat) (x : α) (h : xs[k]? = some x) : (upTo f xs k).set k (f x) = upTo f xs (k + 1) := by
  have hk := (List.getElem?_eq_some_iff.1 h).1
  apply List.ext_getElem?
  intro i
  have e : xs[k] = x := by rw [List.getElem?_eq_getElem hk] at h; exact Option.some.inj h
  unfold upTo
  rw [take_snoc_of xs k x h]
  by_cases hi : i = k
  · subst hi
    rw [List.getElem?_set_self (by simp; omega)]
    rw [List.getElem?_append_left (by simp; omega), List.map_append, List.getElem?_append_right (by simp; omega)]
    simp
    rw [show i - min i xs.length = 0 by omega]
    rfl
  · rw [List.getElem?_set_ne (by omega)]
    by_cases hlt : i < k
    · rw [List.getElem?_append_left (by simp; omega), List.getElem?_append_left (by simp; omega), List.map_append, List.getElem?_append_left (by simp; omega)]
    · rw [List.getElem?_append_right (by simp; omega), List.getElem?_append_right (by simp; omega)]
      simp
      congr 1
      omega
end
def iota (n : Nat) : List Int := (List.range n).map (fun (i : Nat) => (i : Int))
theorem length_iota (n : Nat) : (iota n).length = n := by simp [iota]
theorem iota_get (n i : Nat) (h : i < n) : (iota n)[i]? = some (i : Int) := by simp [iota, h]
theorem mem_iota (n : Nat) (z : Int) : z ∈ iota n ↔ 0 ≤ z ∧ z < n := by
  simp only [iota, List.mem_map, List.mem_range]
  constructor
  · rintro ⟨i, hi, rfl⟩; omega
  · intro h; exact ⟨z.toNat, by omega, by omega⟩
theorem pairwise_iota (n : Nat) : (iota n).Pairwise (fun x y => decide (x ≤ y) = true) := by
  rw [List.pairwise_iff_getElem]
  intro i j hi hj hij
  simp [iota]; omega
theorem nodup_iota (n : Nat) : (iota n).Nodup := by
  unfold List.Nodup
  rw [List.pairwise_iff_getElem]
  intro i j hi hj hij
  simp [iota]; omega
theorem perm_of_nodup : ∀ (l r : List Int), l.Nodup → (∀ z ∈ l, z ∈ r) → r.length ≤ l.length → l.Perm r
  | [], r, _, _, h => by
    have : r = [] := List.eq_nil_of_length_eq_zero (by simpa using h)
    subst this; exact List.Perm.nil
  | a :: l, r, hn, hs, h => by
    rw [List.nodup_cons] at hn
    have ha : a ∈ r := hs a (by simp)
    have hp := List.perm_cons_erase ha
    refine (List.Perm.cons a (perm_of_nodup l (r.erase a) hn.2 (fun z hz => ?_) ?_)).trans hp.symm
    · rw [List.mem_erase_of_ne (fun e => hn.1 (by rw [← e]; exact hz))]
      exact hs z (by simp [hz])
    · rw [List.length_erase_of_mem ha]; simp at h; omega
def permB (zs : List Int) (n : Int) : Bool := decide ((zs.length : Int) = n ∧ zs.Nodup ∧ ∀ z ∈ zs, 0 ≤ z ∧ z < n)
theorem permB_iff {zs : List Int} {n : Int} : permB zs n = true ↔ ((zs.length : Int) = n ∧ zs.Nodup ∧ ∀ z ∈ zs, 0 ≤ z ∧ z < n) := by simp [permB]
theorem permB_perm {zs : List Int} {n : Int} (h : permB zs n = true) : zs.Perm (iota zs.length) := by
  obtain ⟨h1, h2, h3⟩ := permB_iff.1 h
  refine perm_of_nodup _ _ h2 (fun z hz => ?_) (by rw [length_iota]; exact Nat.le_refl _)
  rw [mem_iota, h1]; exact h3 z hz
def srt (zs : List Int) : List Int := zs.mergeSort (fun x y => decide (x ≤ y))
theorem length_srt (zs : List Int) : (srt zs).length = zs.length := by simp [srt]
theorem srt_perm (zs : List Int) : (srt zs).Perm zs := List.mergeSort_perm _ _
theorem srt_pairwise (zs : List Int) : (srt zs).Pairwise (fun x y => decide (x ≤ y) = true) :=
  List.pairwise_mergeSort (fun a b c h1 h2 => by simp at *; omega) (fun a b => by simp; omega) zs
theorem srt_of_perm {xs ys : List Int} (h : xs.Perm ys) (hy : ys.Pairwise (fun x y => decide (x ≤ y) = true)) : srt xs = ys :=
  List.Perm.eq_of_pairwise (fun a b _ _ h1 h2 => by simp at h1 h2; omega) (srt_pairwise xs) hy ((srt_perm xs).trans h)
theorem srt_permB {zs : List Int} {n : Int} (h : permB zs n = true) : srt zs = iota zs.length := srt_of_perm (permB_perm h) (pairwise_iota _)
theorem permB_srt_no {zs : List Int} {n : Int} {k : Nat} {v : Int} (hk : (srt zs)[k]? = some v) (hne : v ≠ k) : permB zs n = false := by
  cases h : permB zs n with
  | false => rfl
  | true =>
    have hl := (List.getElem?_eq_some_iff.1 hk).1
    rw [length_srt] at hl
    rw [srt_permB h, iota_get _ _ hl] at hk
    cases hk; exact absurd rfl hne
theorem permB_srt_all {zs : List Int} {n : Int} (h : ∀ (k : Nat) v, (srt zs)[k]? = some v → v = k) : permB zs n = decide ((zs.length : Int) = n) := by
  have e : srt zs = iota zs.length := by
    apply List.ext_getElem?
    intro k
    by_cases hk : k < zs.length
    · rw [iota_get _ _ hk, List.getElem?_eq_getElem (by rw [length_srt]; exact hk)]
      rw [h k _ (List.getElem?_eq_getElem (by rw [length_srt]; exact hk))]
    · rw [List.getElem?_eq_none (by rw [length_srt]; omega), List.getElem?_eq_none (by rw [length_iota]; omega)]
  by_cases hn : (zs.length : Int) = n
  · rw [decide_eq_true hn, permB_iff]
    have hp : zs.Perm (iota zs.length) := by rw [← e]; exact (srt_perm zs).symm
    refine ⟨hn, hp.nodup_iff.2 (nodup_iota _), fun z hz => ?_⟩
    have := (mem_iota _ _).1 (hp.mem_iff.1 hz)
    omega
  · rw [decide_eq_false hn]
    cases h' : permB zs n with
    | false => rfl
    | true => exact absurd (permB_iff.1 h').1 hn
theorem permB_out {zs : List Int} {n z : Int} (hz : z ∈ zs) (h : ¬ (0 ≤ z ∧ z < n)) : permB zs n = false := by
  cases h' : permB zs n with
  | false => rfl
  | true => exact absurd ((permB_iff.1 h').2.2 z hz) h
theorem permB_dup {zs : List Int} {n z : Int} {i j : Nat} (hij : i < j) (hi : zs[i]? = some z) (hj : zs[j]? = some z) : permB zs n = false := by
  cases h' : permB zs n with
  | false => rfl
  | true =>
    have h2 := (permB_iff.1 h').2.1
    unfold List.Nodup at h2
    rw [List.pairwise_iff_getElem] at h2
    obtain ⟨li, ei⟩ := List.getElem?_eq_some_iff.1 hi
    obtain ⟨lj, ej⟩ := List.getElem?_eq_some_iff.1 hj
    exact absurd (ei.trans ej.symm) (h2 i j li lj hij)
theorem permB_all {zs : List Int} {n : Int} (h1 : ∀ z ∈ zs, 0 ≤ z ∧ z < n) (h2 : ∀ (i j : Nat) z, i < j → zs[i]? = some z → zs[j]? = some z → False) : permB zs n = decide ((zs.length : Int) = n) := by
  by_cases hn : (zs.length : Int) = n
  · rw [decide_eq_true hn, permB_iff]
    refine ⟨hn, ?_, h1⟩
    unfold List.Nodup
    rw [List.pairwise_iff_getElem]
    intro i j li lj hij e
    exact h2 i j zs[i] hij (List.getElem?_eq_getElem li) (by rw [e]; exact List.getElem?_eq_getElem lj)
  · rw [decide_eq_false hn]
    cases h' : permB zs n with
    | false => rfl
    | true => exact absurd (permB_iff.1 h').1 hn
def invTo (zs : List Int) : Nat → List Int
  | 0 => List.replicate zs.length 0
  | k + 1 => (invTo zs k).set (zs.getD k 0).toNat k
def invS (zs : List Int) : List Int := invTo zs zs.length
theorem length_invTo (zs : List Int) (k : Nat) : (invTo zs k).length = zs.length := by
  induction k with
  | zero => simp [invTo]
  | succ k ih => simp [invTo, ih]
theorem length_invS (zs : List Int) : (invS zs).length = zs.length := length_invTo _ _
theorem invTo_step (zs : List Int) (k : Nat) (z : Int) (h : zs[k]? = some z) : invTo zs (k + 1) = (invTo zs k).set z.toNat k := by
  simp [invTo, List.getD, h]
theorem invTo_get {zs : List Int} {n : Int} (hp : permB zs n = true) (k i : Nat) (z : Int) (hik : i < k) (hk : k ≤ zs.length) (hz : zs[i]? = some z) : (invTo zs k)[z.toNat]? = some (i : Int) := by
  obtain ⟨h1, h2, h3⟩ := permB_iff.1 hp
  induction k with
  | zero => omega
  | succ k ih =>
    obtain ⟨y, hy⟩ : ∃ y, zs[k]? = some y := ⟨zs[k], List.getElem?_eq_getElem (by omega)⟩
    rw [invTo_step zs k y hy]
    have hzr := h3 z (List.mem_of_getElem? hz)
    have hyr := h3 y (List.mem_of_getElem? hy)
    by_cases e : i = k
    · subst e
      rw [hz] at hy; cases hy
      rw [List.getElem?_set_self (by rw [length_invTo]; omega)]
    · have hne : y.toNat ≠ z.toNat := by
        intro e'
        have : y = z := by omega
        subst this
        have := permB_dup (n := n) (show i < k by omega) hz hy
        rw [this] at hp; cases hp
      rw [List.getElem?_set_ne hne]
      exact ih (by omega) (by omega)
theorem invS_get {zs : List Int} {n : Int} (hp : permB zs n = true) (i : Nat) (z : Int) (hz : zs[i]? = some z) : (invS zs)[z.toNat]? = some (i : Int) :=
  invTo_get hp _ i z (List.getElem?_eq_some_iff.1 hz).1 (Nat.le_refl _) hz
theorem permB_has {zs : List Int} {n : Int} (hp : permB zs n = true) (k : Int) (h0 : 0 ≤ k) (h1 : k < n) : ∃ i : Nat, zs[i]? = some k := by
  have := (permB_perm hp).mem_iff (a := k)
  rw [mem_iota] at this
  have hl := (permB_iff.1 hp).1
  obtain ⟨i, hi, e⟩ := List.mem_iff_getElem.1 (this.2 ⟨h0, by omega⟩)
  exact ⟨i, by rw [List.getElem?_eq_getElem hi, e]⟩
theorem invS_inv {zs : List Int} {n : Int} (hp : permB zs n = true) (k : Nat) (hk : (k : Int) < n) : ∃ i : Nat, (invS zs)[k]? = some (i : Int) ∧ zs[i]? = some (k : Int) := by
  obtain ⟨i, hi⟩ := permB_has hp k (by omega) hk
  have := invS_get hp i k hi
  exact ⟨i, by simpa using this, hi⟩
theorem permB_invS {zs : List Int} {n : Int} (hp : permB zs n = true) : permB (invS zs) n = true := by
  obtain ⟨h1, h2, h3⟩ := permB_iff.1 hp
  have hl := length_invS zs
  have key : ∀ (k : Nat) v, (invS zs)[k]? = some v → ∃ i : Nat, v = i ∧ zs[i]? = some (k : Int) := by
    intro k v hv
    have hk := (List.getElem?_eq_some_iff.1 hv).1
    obtain ⟨i, e1, e2⟩ := invS_inv hp k (by omega)
    rw [e1] at hv; cases hv
    exact ⟨i, rfl, e2⟩
  rw [permB_all, hl, decide_eq_true h1]
  · intro z hz
    obtain ⟨k, hk, e⟩ := List.mem_iff_getElem.1 hz
    obtain ⟨i, e1, e2⟩ := key k z (by rw [List.getElem?_eq_getElem hk, e])
    have := (List.getElem?_eq_some_iff.1 e2).1
    omega
  · intro a b z hab ha hb
    obtain ⟨i, e1, e2⟩ := key a z ha
    obtain ⟨j, e3, e4⟩ := key b z hb
    have : i = j := by omega
    subst this
    rw [e2] at e4; simp at e4; omega
def thruS (zs ys : List Int) : List Int := zs.map fun z => ys.getD z.toNat 0
theorem length_thruS (zs ys : List Int) : (thruS zs ys).length = zs.length := by simp [thruS]
theorem thru_inv {zs : List Int} {n : Int} (hp : permB zs n = true) : thruS zs (invS zs) = iota zs.length := by
  apply List.ext_getElem?
  intro i
  by_cases hi : i < zs.length
  · rw [iota_get _ _ hi]
    have hz : zs[i]? = some zs[i] := List.getElem?_eq_getElem hi
    have := invS_get hp i zs[i] hz
    simp [thruS, List.getD, hz, this]
  · rw [List.getElem?_eq_none (by rw [length_thruS]; omega), List.getElem?_eq_none (by rw [length_iota]; omega)]
theorem inv_thru {zs : List Int} {n : Int} (hp : permB zs n = true) : thruS (invS zs) zs = iota zs.length := by
  apply List.ext_getElem?
  intro i
  have hl := length_invS zs
  have hn := (permB_iff.1 hp).1
  by_cases hi : i < zs.length
  · rw [iota_get _ _ hi]
    obtain ⟨j, e1, e2⟩ := invS_inv hp i (by omega)
    simp [thruS, List.getD, e1, e2]
  · rw [List.getElem?_eq_none (by rw [length_thruS, hl]; omega), List.getElem?_eq_none (by rw [length_iota]; omega)]
/- A slice of int64 that grows in memory of the call's own. -/
def icells (zs : List Int) : List Value := zs.map (Value.int .i64)
theorem icells_push (zs ys : List Int) : icells (zs ++ ys) = icells zs ++ icells ys := by simp [icells]
def BldI (w : World) (lo hi : Nat) (v : Value) (zs : List Int) : Prop := hi ≤ w.heap.size ∧ w.ownsRow lo 2 1 v zs.length (icells zs) ∧ (∀ g, v.ownBlock = some g → lo ≤ g ∧ g < hi)
section
variable {w w' : World} {lo hi : Nat} {v : Value} {zs : List Int}
theorem BldI.nil (w : World) (lo : Nat) : BldI w lo w.heap.size (.slice none 0 0) [] :=
  ⟨Nat.le_refl _, World.ownsRow_nil w lo _ 1, by intro g h; cases h⟩
theorem BldI.lit {g : Nat} {cs : Array Value} (h : Blk w g cs 2) (hcs : cs.toList = icells zs) (hm : zs.length ≤ 1048576) (hlo : lo ≤ g) (hhi : g < hi) (hs : hi ≤ w.heap.size) : BldI w lo hi (.slice (some ⟨g, 0, none⟩) zs.length zs.length) zs := by
  have hl : cs.size = zs.length := by rw [← Array.length_toList, hcs]; simp [icells]
  refine ⟨hs, ⟨by simp [icells], .inr ⟨g, zs.length, cs, rfl, hlo, h, Nat.le_refl _, by unfold maxLen; omega, by omega, ?_⟩⟩, ?_⟩
  · rw [hcs, Nat.mul_one, List.take_of_length_le (by simp [icells])]
  · intro g' hg'
    have : g = g' := by injection hg'
    omega
theorem BldI.by (hb : Below w.heap.size w w') (h : BldI w lo hi v zs) : BldI w' lo hi v zs := by
  obtain ⟨hs, h1, h3⟩ := h
  exact ⟨Nat.le_trans hs hb.size, row_same h1 (fun g hg => hb.block g (by have := h3 g hg; omega)), h3⟩
theorem BldI.past {lo' hi' : Nat} (hb : Within lo' hi' w w') (h : BldI w lo hi v zs) (hd : hi' ≤ lo ∨ hi ≤ lo') : BldI w' lo hi v zs := by
  obtain ⟨hs, h1, h3⟩ := h
  exact ⟨Nat.le_trans hs hb.size, row_same h1 (fun g hg => hb.block g (by have := h3 g hg; omega) (by have := h3 g hg; omega)), h3⟩
theorem BldI.sized (h : BldI w lo hi v zs) : ∃ a c, v = .slice a zs.length c := by
  obtain ⟨_, ⟨_, h1⟩, _⟩ := h
  rcases h1 with ⟨h1, h2⟩ | ⟨g, cap, cur, e1, _⟩
  · exact ⟨none, 0, by rw [h1, h2]⟩
  · exact ⟨_, _, e1⟩
theorem BldI.own (h : BldI w lo hi v zs) : OwnR w lo hi v zs := by
  obtain ⟨hs, ⟨hlen, h1⟩, h3⟩ := h
  rcases h1 with ⟨h1, hn⟩ | ⟨g, cap, cur, e1, e2, e3, e4, e5, e6, e7⟩
  · exact .inl ⟨_, _, h1, List.eq_nil_of_length_eq_zero hn⟩
  · have h4 := h3 g (by rw [e1]; rfl)
    refine .inr ⟨g, cap, cur, e1, h4.1, h4.2, e4, e5, e3, fun i x hx => ?_⟩
    have hi' : i < zs.length := (List.getElem?_eq_some_iff.1 hx).1
    have : (icells zs)[i]? = some (.int .i64 x) := by simp [icells, hx]
    rw [← e7, List.getElem?_take_of_lt (by omega)] at this
    simpa using this
end
theorem step_pushI {ops : Array Oper} {o : Oper} {a : Act} {w : World} {K : Act → World → Prop} {Q : Exit → Act → World → Prop} {E : Prop} (hgd : o.guard = none) (s x : Operand)
    (ho : o.op = .call { callee := .builtin .append, args := #[s, x], argTypes := #[27, 27] })
    (lo hi : Nat) (v : Value) (zs ys : List Int) (hs : a.eval s = v) (hB : BldI w lo hi v zs) (nb m : Nat) (cs : Array Value) (hx : a.eval x = .slice (some ⟨nb, 0, none⟩) m m) (hys : ys.length = m) (hm : 0 < m)
    (hnb : Blk w nb cs 2) (hcs : cs.toList = icells ys) (hlo : lo ≤ hi) (hn : zs.length + m ≤ 8000000)
    (hK : ∀ a' c' w', BldI w' lo w'.heap.size (.slice a' (zs.length + m) c') (zs ++ ys) → Within lo hi w w' → K (a.put o.dst (.slice a' (zs.length + m) c')) w') :
    if Region.wanted o (yielded ops a.tmps) = true then Oper.wp Tryz.prog o a w K Q else E := by
  obtain ⟨i0, hi0, hz0, hz1, hz2⟩ := info_parts infoI
  obtain ⟨hsz, h1, h3⟩ := hB
  refine step_append_lies w hgd s x 27 ho lo 2 i0 _ 1 8 Tryz.underlying27 hi0 hz0 hz1 hz2 rfl (by decide) v zs.length _ hs h1 ⟨nb, 0, none⟩ m m (icells ys) hx (by simp [icells, hys]) (by rw [← hcs]; exact World.news_of_block (cs := cs) hnb) ?_ hm (by unfold maxLen; omega) (by omega) (by omega) w.heap.size rfl ?_
  · intro u hu
    simp only [icells, List.mem_map] at hu
    obtain ⟨_, _, rfl⟩ := hu
    rfl
  · intro g cap w' hrow hgrow hg hgl
    have hW : Within lo hi w w' := grown_within hgrow h3
    refine hK (some ⟨g, 0, none⟩) cap w' ⟨Nat.le_refl _, ?_, ?_⟩ hW
    · rw [List.length_append, hys, icells_push]; exact hrow
    · intro g' hg'
      have : g = g' := by injection hg'
      subst this
      rcases hg with h | h
      · have := h3 g h; omega
      · omega
theorem list_pushI {ops : Array Oper} {rest : List Oper} {o : Oper} {a : Act} {w : World} {Q : Exit → Act → World → Prop} (hgd : o.guard = none) (s x : Operand)
    (ho : o.op = .call { callee := .builtin .append, args := #[s, x], argTypes := #[27, 27] })
    (lo hi : Nat) (v : Value) (zs ys : List Int) (hs : a.eval s = v) (hB : BldI w lo hi v zs) (nb m : Nat) (cs : Array Value) (hx : a.eval x = .slice (some ⟨nb, 0, none⟩) m m) (hys : ys.length = m) (hm : 0 < m)
    (hnb : Blk w nb cs 2) (hcs : cs.toList = icells ys) (hlo : lo ≤ hi) (hn : zs.length + m ≤ 8000000)
    (hK : ∀ a' c' w', BldI w' lo w'.heap.size (.slice a' (zs.length + m) c') (zs ++ ys) → Within lo hi w w' → wpList Tryz.prog ops Q rest (a.put o.dst (.slice a' (zs.length + m) c')) w') : wpList Tryz.prog ops Q (o :: rest) a w :=
  wpList_plain hgd fun K hk => by
    have h := step_pushI (ops := ops) (K := K) (Q := Q) (E := False) hgd s x ho lo hi v zs ys hs hB nb m cs hx hys hm hnb hcs hlo hn (fun a' c' w' h1 h2 => hk _ _ (hK a' c' w' h1 h2))
    rwa [if_pos (by simp [Region.wanted, hgd])] at h
theorem sgn_cases (a b : Int) : (a < b ∧ sgn a b = -1) ∨ (a = b ∧ sgn a b = 0) ∨ (b < a ∧ sgn a b = 1) := by
  rcases Int.lt_trichotomy a b with h | h | h
  · exact .inl ⟨h, sgn_lt h⟩
  · exact .inr (.inl ⟨h, sgn_eq h⟩)
  · exact .inr (.inr ⟨h, sgn_gt h⟩)
theorem lcmp_nn : lcmp [] [] = 0 := rfl
theorem lcmp_nc (b : Int) (s : List Int) : lcmp [] (b :: s) = -1 := rfl
theorem lcmp_cn (a : Int) (r : List Int) : lcmp (a :: r) [] = 1 := rfl
theorem lcmp_cc (a b : Int) (r s : List Int) : lcmp (a :: r) (b :: s) = if sgn a b = 0 then lcmp r s else sgn a b := rfl
theorem lcmp_flip : ∀ (a b : List Int), lcmp a b = - lcmp b a
  | [], [] => by simp [lcmp_nn]
  | [], _ :: _ => by rw [lcmp_nc, lcmp_cn]
  | _ :: _, [] => by rw [lcmp_nc, lcmp_cn]; rfl
  | a :: r, b :: s => by
    have ih := lcmp_flip r s
    rw [lcmp_cc, lcmp_cc]
    rcases sgn_cases a b with ⟨h, e⟩ | ⟨h, e⟩ | ⟨h, e⟩
    · rw [e, sgn_gt h]; simp
    · subst h; rw [e]; simpa using ih
    · rw [e, sgn_lt h]; simp
theorem lcmp_trans : ∀ (a b c : List Int), lcmp a b < 0 → lcmp b c < 0 → lcmp a c < 0
  | [], [], c, h, _ => by simp [lcmp_nn] at h
  | [], _ :: _, [], _, h => by simp [lcmp_cn] at h
  | [], _ :: _, _ :: _, _, _ => by simp [lcmp_nc]
  | _ :: _, [], _, h, _ => by simp [lcmp_cn] at h
  | _ :: _, _ :: _, [], _, h => by simp [lcmp_cn] at h
  | a :: r, b :: s, c :: t, h1, h2 => by
    rw [lcmp_cc] at *
    rcases sgn_cases a b with ⟨h, e⟩ | ⟨h, e⟩ | ⟨h, e⟩ <;> rcases sgn_cases b c with ⟨h', e'⟩ | ⟨h', e'⟩ | ⟨h', e'⟩ <;> rw [e] at h1 <;> rw [e'] at h2 <;> simp at h1 h2
    · rw [sgn_lt (by omega)]; simp
    · subst h'; rw [e]; simp
    · subst h; rw [e']; simp
    · subst h; rw [e']; simpa using lcmp_trans r s t h1 h2
theorem lcmp_ntrans : ∀ (a b c : List Int), 0 ≤ lcmp a b → 0 ≤ lcmp b c → 0 ≤ lcmp a c
  | [], [], c, _, h => h
  | [], _ :: _, _, h, _ => by simp [lcmp_nc] at h
  | _ :: _, [], [], _, _ => by simp [lcmp_cn]
  | _ :: _, [], _ :: _, _, h => by simp [lcmp_nc] at h
  | _ :: _, _ :: _, [], _, _ => by simp [lcmp_cn]
  | a :: r, b :: s, c :: t, h1, h2 => by
    rw [lcmp_cc] at *
    rcases sgn_cases a b with ⟨h, e⟩ | ⟨h, e⟩ | ⟨h, e⟩ <;> rcases sgn_cases b c with ⟨h', e'⟩ | ⟨h', e'⟩ | ⟨h', e'⟩ <;> rw [e] at h1 <;> rw [e'] at h2 <;> simp at h1 h2
    · subst h; rw [e']; simpa using lcmp_ntrans r s t h1 h2
    · subst h; rw [e']; simp
    · subst h'; rw [e]; simp
    · rw [sgn_gt (by omega)]; simp
theorem lcmp_self (a : List Int) : lcmp a a = 0 := (lcmp_zero a a).2 rfl
theorem lcmp_lt_of_ne {a b : List Int} (h : lcmp a b ≤ 0) (hne : a ≠ b) : lcmp a b < 0 := by
  have : lcmp a b ≠ 0 := fun e => hne ((lcmp_zero a b).1 e)
  omega
def firstAt (ls : List (List Int)) (k : Nat) : Bool := (List.range k).all fun j => decide (lcmp (ls.getD j []) (ls.getD k []) ≠ 0)
def rankTo (ls : List (List Int)) (x : List Int) (k : Nat) : Nat := (List.range k).countP fun j => firstAt ls j && decide (lcmp (ls.getD j []) x < 0)
def rankOf (ls : List (List Int)) (x : List Int) : Nat := rankTo ls x ls.length
def rankS (ls : List (List Int)) : List Int := ls.map fun x => (rankOf ls x : Int)
theorem rankTo_le (ls : List (List Int)) (x : List Int) (k : Nat) : rankTo ls x k ≤ k := by
  have := List.countP_le_length (p := fun j => firstAt ls j && decide (lcmp (ls.getD j []) x < 0)) (l := List.range k)
  simpa [rankTo] using this
theorem length_rankS (ls : List (List Int)) : (rankS ls).length = ls.length := by simp [rankS]
def fsts (ls : List (List Int)) : List (List Int) := ((List.range ls.length).filter (firstAt ls)).map fun k => ls.getD k []
theorem rankOf_fsts (ls : List (List Int)) (x : List Int) : rankOf ls x = (fsts ls).countP fun y => decide (lcmp y x < 0) := by
  unfold rankOf rankTo fsts
  rw [List.countP_map, List.countP_filter]
  congr 1
  funext j
  simp [Bool.and_comm]
theorem firstAt_iff {ls : List (List Int)} {k : Nat} : firstAt ls k = true ↔ ∀ j, j < k → ls.getD j [] ≠ ls.getD k [] := by
  simp only [firstAt, List.all_eq_true, List.mem_range, decide_eq_true_eq, ne_eq, lcmp_zero]
theorem mem_fsts {ls : List (List Int)} {x : List Int} : x ∈ fsts ls ↔ x ∈ ls := by
  simp only [fsts, List.mem_map, List.mem_filter, List.mem_range]
  constructor
  · rintro ⟨k, ⟨hk, _⟩, rfl⟩
    rw [List.getD_eq_getElem?_getD, List.getElem?_eq_getElem hk]
    exact List.getElem_mem hk
  · intro hx
    obtain ⟨k, hk, e⟩ := List.mem_iff_getElem.1 hx
    -- the least such place
    have : ∀ n k, k ≤ n → k < ls.length → ls.getD k [] = x → ∃ j, (j < ls.length ∧ firstAt ls j = true) ∧ ls.getD j [] = x := by
      intro n
      induction n with
      | zero =>
        intro k h1 h2 h3
        exact ⟨k, ⟨h2, firstAt_iff.2 (fun j hj => by omega)⟩, h3⟩
      | succ n ih =>
        intro k h1 h2 h3
        by_cases hf : firstAt ls k = true
        · exact ⟨k, ⟨h2, hf⟩, h3⟩
        · rw [firstAt_iff] at hf
          have : ∃ j, j < k ∧ ls.getD j [] = ls.getD k [] := by
            apply Classical.byContradiction
            intro hn
            exact hf (fun j hj e => hn ⟨j, hj, e⟩)
          obtain ⟨j, hj, e⟩ := this
          exact ih j (by omega) (by omega) (e.trans h3)
    exact this k k (Nat.le_refl _) hk (by rw [List.getD_eq_getElem?_getD, List.getElem?_eq_getElem hk]; exact e)
theorem nodup_fsts (ls : List (List Int)) : (fsts ls).Nodup := by
  unfold fsts List.Nodup
  rw [List.pairwise_map]
  have h : (List.range ls.length).Pairwise (fun a b => a < b) := List.pairwise_lt_range
  refine List.Pairwise.imp_of_mem ?_ (h.filter _)
  intro a b ha hb hab e
  have := firstAt_iff.1 (List.mem_filter.1 hb).2 a hab
  exact this e
theorem perm_of_mem {α : Type} [DecidableEq α] : ∀ (l r : List α), l.Nodup → r.Nodup → (∀ z, z ∈ l ↔ z ∈ r) → l.Perm r
  | [], r, _, _, h => by
    cases r with
    | nil => exact List.Perm.nil
    | cons a s => exact absurd ((h a).2 (by simp)) (by simp)
  | a :: l, r, hn, hr, h => by
    rw [List.nodup_cons] at hn
    have ha : a ∈ r := (h a).1 (by simp)
    have hp := List.perm_cons_erase ha
    have hre : (a :: r.erase a).Nodup := hp.nodup_iff.1 hr
    rw [List.nodup_cons] at hre
    refine (List.Perm.cons a (perm_of_mem l (r.erase a) hn.2 hre.2 (fun z => ?_))).trans hp.symm
    by_cases e : z = a
    · subst e; simp [hn.1, hre.1]
    · rw [List.mem_erase_of_ne e, ← h z]; simp [e]
theorem place_count : ∀ (D : List (List Int)) (x : List Int), D.Pairwise (fun a b => lcmp a b < 0) → x ∈ D → D[D.countP fun y => decide (lcmp y x < 0)]? = some x ∧ ∀ j y, j < D.countP (fun y => decide (lcmp y x < 0)) → D[j]? = some y → y ≠ x
  | [], x, _, h => by simp at h
  | d :: D, x, hp, hx => by
    rw [List.pairwise_cons] at hp
    by_cases e : d = x
    · subst e
      have hz : (d :: D).countP (fun y => decide (lcmp y d < 0)) = 0 := by
        rw [List.countP_eq_zero]
        intro y hy
        rcases List.mem_cons.1 hy with rfl | hy
        · simp [lcmp_self]
        · have := hp.1 y hy
          rw [lcmp_flip] at this
          simp; omega
      rw [hz]
      exact ⟨rfl, fun j y hj => by omega⟩
    · have hx' : x ∈ D := by
        rcases List.mem_cons.1 hx with h | h
        · exact absurd h.symm e
        · exact h
      have hd : decide (lcmp d x < 0) = true := by simpa using hp.1 x hx'
      obtain ⟨h1, h2⟩ := place_count D x hp.2 hx'
      rw [List.countP_cons_of_pos (p := fun y => decide (lcmp y x < 0)) hd]
      refine ⟨by simpa using h1, fun j y hj hy => ?_⟩
      cases j with
      | zero => simp at hy; subst hy; exact e
      | succ j => exact h2 j y (by omega) (by simpa using hy)
theorem place_rank {D ls : List (List Int)} {x : List Int} (hs : D.Pairwise (fun a b => lcmp a b < 0)) (hm : ∀ z, z ∈ D ↔ z ∈ ls) (hx : x ∈ ls) : fidx (fun y => decide (y = x)) D = rankOf ls x := by
  have hn : D.Nodup := hs.imp (fun {a b} h e => by subst e; rw [lcmp_self] at h; omega)
  have hp := perm_of_mem D (fsts ls) hn (nodup_fsts ls) (fun z => by rw [mem_fsts]; exact hm z)
  rw [rankOf_fsts, ← hp.countP_eq]
  obtain ⟨h1, h2⟩ := place_count D x hs ((hm x).2 hx)
  exact fidx_hit h1 (by simp) (fun j y hj hy => by simpa using h2 j y hj hy)
def ddpA {α : Type} [DecidableEq α] (p : α) : List α → List α
  | [] => []
  | b :: l => if b = p then ddpA b l else b :: ddpA b l
def ddp {α : Type} [DecidableEq α] : List α → List α
  | [] => []
  | a :: l => a :: ddpA a l
theorem mem_ddpA {α : Type} [DecidableEq α] (p : α) (l : List α) (z : α) : z = p ∨ z ∈ ddpA p l ↔ z = p ∨ z ∈ l := by
  induction l generalizing p with
  | nil => simp [ddpA]
  | cons b l ih =>
    unfold ddpA
    by_cases h : b = p
    · subst h
      rw [if_pos rfl, ih b]; simp
    · rw [if_neg h, List.mem_cons, List.mem_cons, ih b]
theorem mem_ddp {α : Type} [DecidableEq α] (l : List α) (z : α) : z ∈ ddp l ↔ z ∈ l := by
  cases l with
  | nil => simp [ddp]
  | cons a l => simp only [ddp, List.mem_cons]; exact mem_ddpA a l z
theorem ddpA_sorted (p : List Int) (l : List (List Int)) (h : (p :: l).Pairwise (fun a b => lcmp a b ≤ 0)) : (p :: ddpA p l).Pairwise (fun a b => lcmp a b < 0) := by
  induction l generalizing p with
  | nil => simp [ddpA]
  | cons b l ih =>
    rw [List.pairwise_cons] at h
    have hb := ih b h.2
    unfold ddpA
    by_cases e : b = p
    · subst e; rw [if_pos rfl]; exact hb
    · rw [if_neg e, List.pairwise_cons]
      have hpb : lcmp p b < 0 := lcmp_lt_of_ne (h.1 b (by simp)) (fun e' => e e'.symm)
      refine ⟨fun z hz => ?_, hb⟩
      rcases List.mem_cons.1 hz with rfl | hz
      · exact hpb
      · exact lcmp_trans p b z hpb ((List.pairwise_cons.1 hb).1 z hz)
theorem ddp_sorted {l : List (List Int)} (h : l.Pairwise (fun a b => lcmp a b ≤ 0)) : (ddp l).Pairwise (fun a b => lcmp a b < 0) := by
  cases l with
  | nil => exact List.Pairwise.nil
  | cons a l => exact ddpA_sorted a l h
/- What a walk reads of a slice of slices. -/
def LlSl (w : World) (sv : Value) (ls : List (List Int)) : Prop :=
  (∃ a c, sv = .slice a 0 c ∧ ls = []) ∨ ∃ b off cap, sv = .slice (some ⟨b, off, none⟩) ls.length cap ∧ ls.length ≤ cap ∧ cap ≤ maxLen ∧ ∀ (i : Nat) (xs : List Int), ls[i]? = some xs → ∃ s, w.cell? ⟨b, off + i, none⟩ = some s ∧ IntSl w s xs
theorem LlSl.by {w w1 : World} {sv : Value} {ls : List (List Int)} (hb : Below w.heap.size w w1) (h : LlSl w sv ls) : LlSl w1 sv ls := by
  rcases h with h | ⟨b, off, cap, h1, h2, h3, h4⟩
  · exact .inl h
  · refine .inr ⟨b, off, cap, h1, h2, h3, fun i xs hx => ?_⟩
    obtain ⟨s, a, b⟩ := h4 i xs hx
    exact ⟨s, cell_by' hb a, b.by hb⟩
theorem LlSl.sized {w : World} {sv : Value} {ls : List (List Int)} (h : LlSl w sv ls) : ∃ a c, sv = .slice a ls.length c := by
  rcases h with ⟨a, c, h1, h2⟩ | ⟨b, off, cap, h1, _⟩
  · exact ⟨a, c, by rw [h2]; exact h1⟩
  · exact ⟨_, _, h1⟩
theorem infoL : (Tryz.prog.info? 27).map (fun i => (i.zero, i.size, i.bytes)) = some (some (.slice none 0 0), 1, 24) := by kernel_rfl
theorem IntSl.old {w w' : World} {s : Value} {xs : List Int} (h : IntSl w s xs) (hb : ∀ k, k < w.heap.size → w'.heap[k]? = w.heap[k]?) : IntSl w' s xs := by
  rcases h with h | ⟨b, off, cap, h1, h2, h3, h4⟩
  · exact .inl h
  · refine .inr ⟨b, off, cap, h1, h2, h3, fun i x hx => ?_⟩
    have hc := h4 i x hx
    have hl := lt_of_cell hc
    dsimp only at hl
    rw [← hc]
    simp only [World.cell?, hb b hl]
theorem IntSl.one {w : World} {s : Value} {xs : List Int} (h : IntSl w s xs) : s.oneCell' = true := by
  rcases h with ⟨_, _, rfl, _⟩ | ⟨_, _, _, rfl, _⟩ <;> rfl
def Off (blk : Nat) (w w' : World) : Prop := ∀ k, k < w.heap.size → k ≠ blk → w'.heap[k]? = w.heap[k]?
/- slices.DeleteFunc on a slice of devices of the call's own: the plain part, and clear. -/
theorem Blk.setCells (g : Nat) {T : TypeId} : ∀ (vs : List Value) (o : Nat) (w : World) (cs : Array Value), Blk w g cs T → ∃ cs' : Array Value, Blk (w.setCells g o vs) g cs' T ∧ (∀ i, i < o → cs'[i]? = cs[i]?) ∧ Within g (g + 1) w (w.setCells g o vs)
  | [], o, w, cs, h => ⟨cs, h, fun _ _ => rfl, Within.refl _ _ _⟩
  | v :: r, o, w, cs, h => by
    obtain ⟨cs', h1, h2, h3⟩ := Blk.setCells g r (o + 1) (w.setCell ⟨g, o, none⟩ v) _ (h.set o v)
    refine ⟨cs', h1, fun i hi => ?_, (Within.off v).on h3⟩
    rw [h2 i (by omega)]
    simp [Array.getElem?_setIfInBounds, show ¬ o = i by omega]
def At4 (w : World) (cs : Array Value) (i f : Nat) (x : Dv) : Prop := ∃ pv, Cs4 cs i (.int .i64 x.kind) pv (.int .i64 x.wd) (.int .i64 x.len) ∧ OwnR w f (f + 1) pv x.pins
def DelSt (w : World) (lo hi g : Nat) (f : Nat → Nat) (xs ys : List Dv) (k : Nat) (cs : Array Value) : Prop :=
  (∃ h : Nat → Nat, (∀ i y, ys[i]? = some y → At4 w cs i (f (h i)) y ∧ (h i < k ∧ h i < xs.length) ∧ (lo ≤ f (h i) ∧ f (h i) < hi ∧ f (h i) ≠ g)) ∧ (∀ i j, i < ys.length → j < ys.length → i ≠ j → h i ≠ h j)) ∧
  (∀ i x, k ≤ i → xs[i]? = some x → At4 w cs i (f i) x ∧ (lo ≤ f i ∧ f i < hi ∧ f i ≠ g))
section
variable {w w' : World} {lo hi g k : Nat} {f : Nat → Nat} {xs ys : List Dv} {cs cs' : Array Value}
theorem Cs4.at_ {cs cs' : Array Value} {i : Nat} {a b c d : Value} (h : Cs4 cs i a b c d) (e : ∀ j, i * 4 ≤ j → j < i * 4 + 4 → cs'[j]? = cs[j]?) : Cs4 cs' i a b c d :=
  ⟨(e _ (by omega) (by omega)).trans h.1, (e _ (by omega) (by omega)).trans h.2.1, (e _ (by omega) (by omega)).trans h.2.2.1, (e _ (by omega) (by omega)).trans h.2.2.2⟩
theorem At4.at_ {i q : Nat} {x : Dv} (h : At4 w cs i q x) (e : ∀ j, i * 4 ≤ j → j < i * 4 + 4 → cs'[j]? = cs[j]?) : At4 w cs' i q x := by
  obtain ⟨pv, h1, h2⟩ := h
  exact ⟨pv, h1.at_ e, h2⟩
def set4 (cs : Array Value) (k : Nat) (a b c d : Value) : Array Value := (((cs.setIfInBounds (k * 4) a).setIfInBounds (k * 4 + 1) b).setIfInBounds (k * 4 + 2) c).setIfInBounds (k * 4 + 3) d
theorem set4_other (cs : Array Value) (k : Nat) (a b c d : Value) (j : Nat) (h : j < k * 4 ∨ k * 4 + 4 ≤ j) : (set4 cs k a b c d)[j]? = cs[j]? := by
  simp [set4, Array.getElem?_setIfInBounds, show ¬ k * 4 = j by omega, show ¬ k * 4 + 1 = j by omega, show ¬ k * 4 + 2 = j by omega, show ¬ k * 4 + 3 = j by omega]
theorem set4_same (cs : Array Value) (k : Nat) (a b c d : Value) (h : k * 4 + 3 < cs.size) : Cs4 (set4 cs k a b c d) k a b c d := by
  refine ⟨?_, ?_, ?_, ?_⟩ <;> simp [set4, Array.getElem?_setIfInBounds] <;> omega
theorem DelSt.push (h : DelSt w lo hi g f xs ys k cs) (hl : ys.length ≤ k) {x : Dv} (hx : xs[k]? = some x) {pv : Value} (hc : Cs4 cs k (.int .i64 x.kind) pv (.int .i64 x.wd) (.int .i64 x.len)) (hO : OwnR w (f k) (f k + 1) pv x.pins) :
    DelSt w lo hi g f xs (ys ++ [x]) (k + 1) (set4 cs ys.length (.int .i64 x.kind) pv (.int .i64 x.wd) (.int .i64 x.len)) := by
  obtain ⟨⟨m, h1, h2⟩, h3⟩ := h
  have hk := (List.getElem?_eq_some_iff.1 hx).1
  have hsz : ys.length * 4 + 3 < cs.size := by have := (Array.getElem?_eq_some_iff.1 hc.2.2.2).1; omega
  refine ⟨⟨fun i => if i = ys.length then k else m i, fun i y hy => ?_, fun i j hi hj hne => ?_⟩, fun i y hi hy => ?_⟩
  · dsimp only
    by_cases e : i = ys.length
    · subst e
      obtain rfl : y = x := by simpa using hy.symm
      rw [if_pos rfl]
      exact ⟨⟨pv, set4_same _ _ _ _ _ _ hsz, hO⟩, ⟨by omega, hk⟩, (h3 k y (Nat.le_refl _) hx).2⟩
    · have hi : i < ys.length := by have := (List.getElem?_eq_some_iff.1 hy).1; simp at this; omega
      rw [List.getElem?_append_left hi] at hy
      obtain ⟨a, b, c⟩ := h1 i y hy
      rw [if_neg e]
      exact ⟨a.at_ (fun j _ _ => set4_other _ _ _ _ _ _ _ (by omega)), ⟨by omega, b.2⟩, c⟩
  · simp at hi hj
    dsimp only
    have hb : ∀ i, i < ys.length → m i < k := fun i hi => (h1 i ys[i] (List.getElem?_eq_getElem hi)).2.1.1
    by_cases e : i = ys.length <;> by_cases e' : j = ys.length
    · omega
    · have := hb j (by omega); rw [if_pos e, if_neg e']; omega
    · have := hb i (by omega); rw [if_neg e, if_pos e']; omega
    · rw [if_neg e, if_neg e']; exact h2 i j (by omega) (by omega) hne
  · obtain ⟨a, b⟩ := h3 i y (by omega) hy
    exact ⟨a.at_ (fun j _ _ => set4_other _ _ _ _ _ _ _ (by omega)), b⟩
end
open Go.Sort (swp PermIn SortedIn SWO size_swp swp_get)
def tauI (i j k : Nat) : Nat := if k = i then j else if k = j then i else k
section
variable {α : Type} [Inhabited α]
def Fol (f : Nat → Nat) (d d' : Array α) : Prop := d'.size = d.size ∧ ∀ k, k < d.size → d'[k]! = d[f k]!
theorem Fol.swp {f g : Nat → Nat} {d d' : Array α} (h : Fol f d d') {i j : Nat} (hi : i < d.size) (hj : j < d.size) (hg : ∀ k, g k = f (tauI i j k)) : Fol g d (swp d' i j) := by
  refine ⟨by rw [size_swp]; exact h.1, fun k hk => ?_⟩
  rw [swp_get d' (by rw [h.1]; exact hi) (by rw [h.1]; exact hj), hg]
  unfold tauI
  by_cases h1 : k = j
  · subst h1
    by_cases h2 : k = i
    · subst h2; simp; exact h.2 _ hk
    · simp [h2]; exact h.2 _ hi
  · by_cases h2 : k = i
    · subst h2; simp [h1]; exact h.2 _ hj
    · simp [h1, h2]; exact h.2 _ hk
theorem PermIn.refl' (a b : Nat) (d : Array α) : PermIn a b d d := Go.Sort.permIn_refl d a b
theorem PermIn.on {a b : Nat} {d d' d'' : Array α} (h1 : PermIn a b d d') (h2 : PermIn a b d' d'') : PermIn a b d d'' := Go.Sort.permIn_trans d d' d'' a b h1 h2
theorem PermIn.wide {a b a' b' : Nat} {d d' : Array α} (h : PermIn a b d d') (h1 : a' ≤ a) (h2 : b ≤ b') (h3 : b' ≤ d.size) : PermIn a' b' d d' := Go.Sort.permIn_mono d d' a b a' b' h1 h2 h3 h
theorem PermIn.swp {a b i j : Nat} {d d' : Array α} (h : PermIn a b d d') (h1 : a ≤ i) (h2 : i < b) (h3 : a ≤ j) (h4 : j < b) (h5 : b ≤ d.size) : PermIn a b d (swp d' i j) :=
  PermIn.on h (Go.Sort.swp_permIn d' a b i j h1 h2 h3 h4 (by rw [h.1]; exact h5))
variable {lt : α → α → Bool}
theorem SortedIn.sub {a b a' b' : Nat} {d : Array α} (h : SortedIn lt a b d) (h1 : a ≤ a') (h2 : b' ≤ b) : SortedIn lt a' b' d := fun i j hi hij hj => h i j (by omega) hij (by omega)
theorem SortedIn.one (hS : SWO lt) {a b : Nat} (d : Array α) (h : b ≤ a + 1) : SortedIn lt a b d := fun i j hi hij hj => by omega
theorem SortedIn.le (hS : SWO lt) {a b i j : Nat} {d : Array α} (h : SortedIn lt a b d) (hi : a ≤ i) (hij : i ≤ j) (hj : j < b) : lt d[j]! d[i]! = false := by
  rcases Nat.lt_or_eq_of_le hij with h' | rfl
  · exact h i j hi h' hj
  · exact hS.irrefl _
theorem SortedIn.out {a b x y : Nat} {d d' : Array α} (h : SortedIn lt a b d) (hp : PermIn x y d d') (hd : b ≤ x ∨ y ≤ a) : SortedIn lt a b d' := fun i j hi hij hj => by
  rw [hp.2.1 i (by omega), hp.2.1 j (by omega)]; exact h i j hi hij hj
end
/-! ### devices -/
instance : Inhabited Dv := ⟨⟨0, [], 0, 0⟩⟩
def dcf (x y : Dv) : Int := devcmp x.kind y.kind x.pins y.pins x.wd y.wd x.len y.len
def dlt (x y : Dv) : Bool := decide (dcf x y < 0)
def dltP (x y : Dv × Nat) : Bool := dlt x.1 y.1
theorem or2_flip {a b c d : Int} (h1 : a = - b) (h2 : c = - d) : or2 a c = - or2 b d := by
  unfold or2; repeat' split
  all_goals omega
theorem sgn_flip (a b : Int) : sgn a b = - sgn b a := by unfold sgn; (repeat' split) <;> omega
theorem dcf_flip (x y : Dv) : dcf x y = - dcf y x := or2_flip (sgn_flip _ _) (or2_flip (lcmp_flip _ _) (or2_flip (sgn_flip _ _) (sgn_flip _ _)))
theorem or2_zero {a b : Int} : or2 a b = 0 ↔ a = 0 ∧ b = 0 := by unfold or2; split <;> omega
theorem sgn_zero {a b : Int} : sgn a b = 0 ↔ a = b := by unfold sgn; (repeat' split) <;> omega
theorem dcf_zero {x y : Dv} : dcf x y = 0 ↔ x = y := by
  unfold dcf devcmp
  rw [or2_zero, or2_zero, or2_zero, sgn_zero, sgn_zero, sgn_zero, lcmp_zero]
  constructor
  · rintro ⟨h1, h2, h3, h4⟩; cases x; cases y; simp at *; exact ⟨h1, h2, h3, h4⟩
  · rintro rfl; exact ⟨rfl, rfl, rfl, rfl⟩
theorem or2_ntrans {a b c d e f : Int} (h1 : 0 ≤ a → 0 ≤ c → 0 ≤ e) (h2 : 0 ≤ b → 0 ≤ d → 0 ≤ f) (z1 : e = 0 → 0 ≤ a → 0 ≤ c → a = 0 ∧ c = 0) (ha : 0 ≤ or2 a b) (hb : 0 ≤ or2 c d) : 0 ≤ or2 e f := by
  have pa : 0 ≤ a := by unfold or2 at ha; split at ha <;> omega
  have pc : 0 ≤ c := by unfold or2 at hb; split at hb <;> omega
  by_cases x : e = 0
  · obtain ⟨y1, y2⟩ := z1 x pa pc
    rw [y1, or2_z] at ha
    rw [y2, or2_z] at hb
    rw [x, or2_z]
    exact h2 ha hb
  · have := h1 pa pc
    rw [or2_ne x]; exact this
theorem sgn_ntrans {a b c : Int} (h1 : 0 ≤ sgn a b) (h2 : 0 ≤ sgn b c) : 0 ≤ sgn a c := by
  unfold sgn at *; repeat' split
  all_goals (repeat' split at h1)
  all_goals (repeat' split at h2)
  all_goals omega
theorem sgn_nz {a b c : Int} (h : sgn a c = 0) (h1 : 0 ≤ sgn a b) (h2 : 0 ≤ sgn b c) : sgn a b = 0 ∧ sgn b c = 0 := by
  unfold sgn at *
  repeat' split at h
  all_goals (repeat' split at h1)
  all_goals (repeat' split at h2)
  all_goals (first | omega | (constructor <;> (repeat' split) <;> omega))
theorem lcmp_nz {a b c : List Int} (h : lcmp a c = 0) (h1 : 0 ≤ lcmp a b) (h2 : 0 ≤ lcmp b c) : lcmp a b = 0 ∧ lcmp b c = 0 := by
  have e := (lcmp_zero a c).1 h
  subst e
  have := lcmp_flip a b
  omega
theorem dcf_ntrans {x y z : Dv} (h1 : 0 ≤ dcf x y) (h2 : 0 ≤ dcf y z) : 0 ≤ dcf x z :=
  or2_ntrans sgn_ntrans (or2_ntrans (lcmp_ntrans _ _ _) (or2_ntrans sgn_ntrans sgn_ntrans sgn_nz) lcmp_nz) sgn_nz h1 h2
theorem dlt_false {x y : Dv} : dlt x y = false ↔ 0 ≤ dcf x y := by simp [dlt]
theorem dlt_swo : SWO dlt where
  irrefl x := by rw [dlt_false, dcf_zero.2 rfl]; exact Int.le_refl _
  ntrans x y z h1 h2 := dlt_false.2 (dcf_ntrans (dlt_false.1 h1) (dlt_false.1 h2))
  trans x y z h1 h2 := by
    simp only [dlt, decide_eq_true_eq] at *
    have f1 := dcf_flip x y; have f2 := dcf_flip y z; have f3 := dcf_flip x z
    have a1 := @dcf_ntrans z y x (by omega) (by omega)
    by_cases e : dcf x z = 0
    · have := dcf_zero.1 e; subst this; omega
    · omega
theorem dltP_swo : SWO dltP where
  irrefl x := dlt_swo.irrefl _
  trans x y z := dlt_swo.trans _ _ _
  ntrans x y z := dlt_swo.ntrans _ _ _
def srtD (ds : List Dv) : List Dv := ds.mergeSort (fun x y => !dlt y x)
theorem srtD_perm (ds : List Dv) : (srtD ds).Perm ds := List.mergeSort_perm _ _
theorem length_srtD (ds : List Dv) : (srtD ds).length = ds.length := (srtD_perm ds).length_eq
theorem srtD_pairwise (ds : List Dv) : (srtD ds).Pairwise (fun x y => dlt y x = false) := by
  have h := List.pairwise_mergeSort (le := fun x y => !dlt y x) (fun a b c h1 h2 => by
    simp only [Bool.not_eq_true'] at *
    exact dlt_swo.ntrans _ _ _ h2 h1) (fun a b => by
    have := dcf_flip a b
    simp [dlt]; omega) ds
  exact h.imp (fun h => by simpa using h)
theorem srtD_of {ds es : List Dv} (h : es.Perm ds) (hs : es.Pairwise (fun x y => dlt y x = false)) : es = srtD ds :=
  List.Perm.eq_of_pairwise (fun a b _ _ h1 h2 => by
    rw [dlt_false] at h1 h2
    have := dcf_flip a b
    exact dcf_zero.1 (by omega)) hs (srtD_pairwise ds) (h.trans (srtD_perm ds).symm)
/- A row of devices that is put in order in place: what lies in memory. -/
open Go.Sort (swp PermIn SortedIn SWO size_swp swp_get swp_other swp_left swp_right)
def RowC (w : World) (g : Nat) (d : Array (Dv × Nat)) (cs : Array Value) : Prop := ∀ i, i < d.size → (∃ pv, Cs4 cs i (.int .i64 d[i]!.1.kind) pv (.int .i64 d[i]!.1.wd) (.int .i64 d[i]!.1.len) ∧ OwnR w d[i]!.2 (d[i]!.2 + 1) pv d[i]!.1.pins) ∧ d[i]!.2 ≠ g
def DRow (w : World) (g : Nat) (d : Array (Dv × Nat)) : Prop := ∃ cs, Blk w g cs 62 ∧ RowC w g d cs
section
variable {w w' : World} {g : Nat} {d d' : Array (Dv × Nat)} {cs : Array Value}
theorem RowC.past (hb : Within g (g + 1) w w') (h : RowC w g d cs) : RowC w' g d cs := fun i hi => by
  obtain ⟨⟨pv, a, b⟩, c⟩ := h i hi
  exact ⟨⟨pv, a, b.past hb (by omega)⟩, c⟩
theorem Within.ofBelow {lo hi : Nat} (h : Below w.heap.size w w') : Within lo hi w w' := ⟨h.os, h.tape, h.output, h.size, fun k hk _ => h.block k hk⟩
theorem DRow.by (hb : Below w.heap.size w w') (h : DRow w g d) : DRow w' g d := by
  obtain ⟨cs, a, b⟩ := h
  exact ⟨cs, Blk.by hb a, b.past (Within.ofBelow hb)⟩
theorem DRow.lt (h : DRow w g d) : g < w.heap.size := by obtain ⟨cs, a, b⟩ := h; exact a.lt
theorem RowC.swp (h : RowC w g d cs) {i j : Nat} (hi : i < d.size) (hj : j < d.size) (hij : i ≠ j) {pi pj : Value}
    (hci : Cs4 cs i (.int .i64 d[i]!.1.kind) pi (.int .i64 d[i]!.1.wd) (.int .i64 d[i]!.1.len)) (hoi : OwnR w d[i]!.2 (d[i]!.2 + 1) pi d[i]!.1.pins)
    (hcj : Cs4 cs j (.int .i64 d[j]!.1.kind) pj (.int .i64 d[j]!.1.wd) (.int .i64 d[j]!.1.len)) (hoj : OwnR w d[j]!.2 (d[j]!.2 + 1) pj d[j]!.1.pins) :
    RowC w g (swp d i j) (set4 (set4 cs i (.int .i64 d[j]!.1.kind) pj (.int .i64 d[j]!.1.wd) (.int .i64 d[j]!.1.len)) j (.int .i64 d[i]!.1.kind) pi (.int .i64 d[i]!.1.wd) (.int .i64 d[i]!.1.len)) := by
  intro k hk
  rw [size_swp] at hk
  have si := (Array.getElem?_eq_some_iff.1 hci.2.2.2).1
  have sj := (Array.getElem?_eq_some_iff.1 hcj.2.2.2).1
  have sz : ∀ (cs : Array Value) (k : Nat) (a b c d : Value), (set4 cs k a b c d).size = cs.size := fun cs k a b c d => by simp [set4]
  by_cases e1 : k = j
  · subst e1
    rw [swp_right d i k hj]
    exact ⟨⟨pi, set4_same _ _ _ _ _ _ (by rw [sz]; exact sj), hoi⟩, (h i hi).2⟩
  · by_cases e2 : k = i
    · subst e2
      rw [swp_left d k j hi hij]
      refine ⟨⟨pj, (set4_same cs k (.int .i64 d[j]!.1.kind) pj (.int .i64 d[j]!.1.wd) (.int .i64 d[j]!.1.len) si).at_ (fun q h1 h2 => set4_other _ _ _ _ _ _ _ (by omega)), hoj⟩, (h j hj).2⟩
    · rw [swp_other d i j k e2 e1]
      obtain ⟨⟨pv, a, b⟩, c⟩ := h k hk
      exact ⟨⟨pv, a.at_ (fun q h1 h2 => by rw [set4_other _ _ _ _ _ _ _ (by omega), set4_other _ _ _ _ _ _ _ (by omega)]), b⟩, c⟩
theorem getBang (d : Array (Dv × Nat)) (i : Nat) (h : i < d.size) : d[i]! = d[i] := by simp [h]
theorem list_getBang (d : Array (Dv × Nat)) (i : Nat) (p : Dv × Nat) (h : d.toList[i]? = some p) : i < d.size ∧ d[i]! = p := by
  have hi : i < d.size := by have := (List.getElem?_eq_some_iff.1 h).1; simpa using this
  refine ⟨hi, ?_⟩
  rw [getBang d i hi]
  rw [List.getElem?_eq_getElem (by simpa using hi)] at h
  simpa using h
theorem OwnDs.row {lo hi : Nat} {sv : Value} {ds : List Dv} (h : OwnDs w lo hi sv ds) (hne : ds ≠ []) :
    ∃ (g cap : Nat) (d : Array (Dv × Nat)), sv = .slice (some ⟨g, 0, none⟩) d.size cap ∧ d.size = ds.length ∧ (lo ≤ g ∧ g < hi) ∧ ds.length ≤ cap ∧ cap ≤ maxLen ∧ DRow w g d ∧ d.toList.map (·.1) = ds ∧ (d.toList.map (·.2)).Nodup ∧ (∀ p ∈ d.toList, lo ≤ p.2 ∧ p.2 < hi ∧ p.2 ≠ g) := by
  rcases h with ⟨_, _, _, h⟩ | ⟨g, cap, cs, f, h1, h2, h3, h4, h5, h6, h7⟩
  · exact absurd h hne
  · have hsz : ((List.range ds.length).map fun i => (ds.getD i default, f i)).toArray.size = ds.length := by simp
    have hget : ∀ i (hi : i < ds.length), ((List.range ds.length).map fun i => (ds.getD i default, f i)).toArray[i]! = (ds[i], f i) := by
      intro i hi
      rw [getBang _ _ (by rw [hsz]; exact hi)]
      simp [hi]
    refine ⟨g, cap, ((List.range ds.length).map fun i => (ds.getD i default, f i)).toArray, by rw [hsz]; exact h1, hsz, h2, h3, h4, ⟨cs, h5, fun i hi => ?_⟩, ?_, ?_, ?_⟩
    · rw [hsz] at hi
      rw [hget i hi]
      obtain ⟨⟨pv, a, b⟩, c⟩ := h6 i ds[i] (List.getElem?_eq_getElem hi)
      exact ⟨⟨pv, a, b⟩, c.2.2⟩
    · apply List.ext_getElem?
      intro i
      by_cases hi : i < ds.length
      · simp [hi]
      · simp [hi]
    · rw [List.nodup_iff_pairwise_ne, List.pairwise_iff_getElem]
      intro i j hi hj hij
      simp at hi hj ⊢
      exact h7 i j hi hj (by omega)
    · intro p hp
      simp at hp
      obtain ⟨i, hi, rfl⟩ := hp
      exact (h6 i ds[i] (List.getElem?_eq_getElem hi)).2
theorem DRow.own {lo hi cap : Nat} (h : DRow w g d) (hg : lo ≤ g ∧ g < hi) (h1 : d.size ≤ cap) (h2 : cap ≤ maxLen) (hn : (d.toList.map (·.2)).Nodup) (hb : ∀ p ∈ d.toList, lo ≤ p.2 ∧ p.2 < hi ∧ p.2 ≠ g) :
    OwnDs w lo hi (.slice (some ⟨g, 0, none⟩) d.size cap) (d.toList.map (·.1)) := by
  obtain ⟨cs, hB, hR⟩ := h
  refine .inr ⟨g, cap, cs, fun i => d[i]!.2, by simp, hg, by simpa using h1, h2, hB, fun i x hx => ?_, fun i j hi hj hij => ?_⟩
  · rw [List.getElem?_map] at hx
    obtain ⟨p, hp, rfl⟩ : ∃ p, d.toList[i]? = some p ∧ p.1 = x := by
      cases h : d.toList[i]? with
      | none => rw [h] at hx; simp at hx
      | some p => rw [h] at hx; exact ⟨p, rfl, by simpa using hx⟩
    obtain ⟨hi, e⟩ := list_getBang d i p hp
    obtain ⟨⟨pv, a, b⟩, c⟩ := hR i hi
    rw [e] at a b
    dsimp only
    rw [e]
    exact ⟨⟨pv, a, b⟩, hb p (List.mem_of_getElem? hp)⟩
  · simp at hi hj
    rw [List.nodup_iff_pairwise_ne, List.pairwise_iff_getElem] at hn
    dsimp only
    rw [getBang d i hi, getBang d j hj]
    rcases Nat.lt_or_gt_of_ne hij with h | h
    · have := hn i j (by simpa using hi) (by simpa using hj) h
      simpa using this
    · have := hn j i (by simpa using hj) (by simpa using hi) h
      simpa using this.symm
theorem PermIn.list (h : PermIn 0 d.size d d') : d'.toList.Perm d.toList := by
  have h3 := h.2.2
  have e1 : (d'.extract 0 d.size) = d' := by rw [← h.1]; simp
  have e2 : (d.extract 0 d.size) = d := by simp
  rwa [e1, e2] at h3
theorem SortedIn.list (h : SortedIn dltP 0 d.size d) : (d.toList.map (·.1)).Pairwise (fun x y => dlt y x = false) := by
  rw [List.pairwise_map, List.pairwise_iff_getElem]
  intro i j hi hj hij
  have := h i j (Nat.zero_le _) hij (by simpa using hj)
  rw [getBang d i (by simpa using hi), getBang d j (by simpa using hj)] at this
  simpa [dltP] using this
end
theorem swap_cells {w : World} {g : Nat} {cs : Array Value} {T : TypeId} (h : Blk w g cs T) (i j : Nat) (a b c d a' b' c' d' : Value) :
    ∃ W, W = ((((((((w.setCell ⟨g, i * 4, none⟩ a).setCell ⟨g, i * 4 + 1, none⟩ b).setCell ⟨g, i * 4 + 2, none⟩ c).setCell ⟨g, i * 4 + 3, none⟩ d).setCell ⟨g, j * 4, none⟩ a').setCell ⟨g, j * 4 + 1, none⟩ b').setCell ⟨g, j * 4 + 2, none⟩ c').setCell ⟨g, j * 4 + 3, none⟩ d').drew ∧
      Blk W g (set4 (set4 cs i a b c d) j a' b' c' d') T ∧ Within g (g + 1) w W :=
  ⟨_, rfl, ((((((((h.set _ _).set _ _).set _ _).set _ _).set _ _).set _ _).set _ _).set _ _).drew,
    (((((((((Within.off _).on (Within.off _)).on (Within.off _)).on (Within.off _)).on (Within.off _)).on (Within.off _)).on (Within.off _)).on (Within.off _)).on (Within.ofBelow ((Below.refl _ _).drew)))⟩
def DCmp (gf : Nat) (lb : Array Value) : Prop := ∀ (W : World) (x y : Dv) (sx sy : Value), IntSl W sx x.pins → IntSl W sy y.pins → Calls Tryz.prog gf (#[.agg #[.int .i64 x.kind, sx, .int .i64 x.wd, .int .i64 x.len], .agg #[.int .i64 y.kind, sy, .int .i64 y.wd, .int .i64 y.len]] ++ lb) W fun e w' => e = .returned (.int .i64 (dcf x y)) ∧ Below W.heap.size W w'
/- slices.SortStableFunc's own functions at devices: exchanging two ranges. -/
/- slices.SortStableFunc's own functions at devices: the insertion sort. -/
open Go.Sort (swp PermIn SortedIn SWO size_swp swp_get swp_other swp_left swp_right Ins)
set_option maxRecDepth 100000 in
set_option maxHeartbeats 4000000 in
theorem insSort_any (gf : Nat) (lb : Array Value) (eg : ∀ args w, (callFunc gf args).run Tryz.prog w = .ok (.enter gf args) w) (hc : DCmp gf lb) (g cap a b : Nat) (d : Array (Dv × Nat)) (w : World) (h : DRow w g d) (hab : a ≤ b) (hbd : b ≤ d.size) (hsz : d.size ≤ 1000) (hcap : d.size ≤ cap) :
    Calls Tryz.prog 200 #[.slice (some ⟨g, 0, none⟩) d.size cap, .int .i64 a, .int .i64 b, .func (.func gf) #[] lb] w fun e w' =>
      e = .returned (.tuple #[]) ∧ ∃ d', DRow w' g d' ∧ SortedIn dltP a b d' ∧ PermIn a b d d' ∧ Within g (g + 1) w w' := by
  have HR0 := Lib.hid h
  have HC := Lib.hid hc
  have HP0 := Lib.hid (PermIn.refl' a b d)
  have HS0 := Lib.hid (SortedIn.one dltP_swo (a := a) (b := a + 1) d (Nat.le_refl _))
  clear h hc
  go_enter Tryz.func200, Tryz.ntmps200
  go_wp2
  go_loopw [8] (fun vi wr => ∃ (i : Nat) (dk : Array (Dv × Nat)), a < i ∧ i ≤ b + 1 ∧ vi = .int .i64 i ∧ Hid (dk.size = d.size) ∧ Hid (DRow wr g dk) ∧ Hid (SortedIn dltP a i dk) ∧ Hid (PermIn a b d dk) ∧ Within g (g + 1) w wr) (fun vi _ => b + 1 - (intOf vi).toNat)
  case atStart => exact ⟨a + 1, d, by omega, by omega, by go_num, Lib.hid rfl, HR0, HS0, HP0, Within.refl _ _ _⟩
  case round =>
    clear HR0 HS0 HP0
    obtain ⟨i, dk, hai, hib, rfl, HS, HR, HT, HP, hW⟩ := hrel
    by_cases hlt : i < b
    · have HI0 := Lib.hid (show Ins dltP a i i dk from ⟨fun p q hp hpq hq _ hqi => HT.out p q hp hpq (by omega), fun q h1 h2 => by omega⟩)
      have i1 : (i : Int) < (b : Int) := by omega
      obtain ⟨wo, rfl⟩ : ∃ wo, wo = wr := ⟨_, rfl⟩
      go_wp2
      go_loopw [9] (fun vj wr => ∃ (j : Nat) (dj : Array (Dv × Nat)), a ≤ j ∧ j ≤ i ∧ vj = .int .i64 j ∧ Hid (dj.size = d.size) ∧ Hid (DRow wr g dj) ∧ Hid (Ins dltP a j i dj) ∧ Hid (PermIn a b d dj) ∧ Within g (g + 1) w wr) (fun vj _ => (intOf vj).toNat)
      case atStart => exact ⟨i, dk, by omega, Nat.le_refl _, rfl, HS, HR, HI0, HP, hW⟩
      case round =>
        clear HS HR HI0 HP hW HT
        obtain ⟨j, dj, haj, hji, rfl, HS, HR, HI, HP, hW⟩ := hrel
        by_cases hja : a < j
        · obtain ⟨jp, rfl⟩ : ∃ jp, j = jp + 1 := ⟨j - 1, by omega⟩
          obtain ⟨cs, hB, hRC⟩ := HR.out
          obtain ⟨⟨pi, hci, hoi⟩, _⟩ := hRC (jp + 1) (by rw [HS.out]; omega)
          obtain ⟨⟨pj, hcj, hoj⟩, _⟩ := hRC jp (by rw [HS.out]; omega)
          have HRS := Lib.hid (RowC.swp hRC (i := jp + 1) (j := jp) (by rw [HS.out]; omega) (by rw [HS.out]; omega) (by omega) hci hoi hcj hoj)
          have HPS := Lib.hid (PermIn.swp HP.out (i := jp + 1) (j := jp) (by omega) (by omega) (by omega) (by omega) hbd)
          have HSS := Lib.hid (show (swp dj (jp + 1) jp).size = d.size by rw [size_swp]; exact HS.out)
          have HIS := Lib.hid (fun hl => Ins.step HI.out hl (by omega) (by rw [HS.out]; omega))
          have HIT := Lib.hid (fun hs => Ins.stop dltP_swo HI.out (.inr hs))
          have HCL := Lib.hid (fun W h1 h2 => HC.out W dj[jp + 1]!.1 dj[jp]!.1 pi pj h1 h2)
          simp only [Nat.add_sub_cancel] at HIT
          obtain ⟨a1, c1, rfl⟩ := hoi.sl.len
          obtain ⟨a2, c2, rfl⟩ := hoj.sl.len
          have HX := Lib.hid hoi.sl
          have HY := Lib.hid hoj.sl
          generalize swp dj (jp + 1) jp = ds at HRS HPS HSS HIS
          have HLT := Lib.hid (show dltP dj[jp + 1]! dj[jp]! = decide (dcf dj[jp + 1]!.1 dj[jp]!.1 < 0) from rfl)
          generalize dj[jp + 1]! = xi at *
          generalize dj[jp]! = xj at *
          obtain ⟨⟨ki, psi, wi, li⟩, fi⟩ := xi
          obtain ⟨⟨kj, psj, wj, lj⟩, fj⟩ := xj
          dsimp only at *
          generalize dltP (⟨ki, psi, wi, li⟩, fi) (⟨kj, psj, wj, lj⟩, fj) = lt at *
          generalize dcf ⟨ki, psi, wi, li⟩ ⟨kj, psj, wj, lj⟩ = r at *
          obtain ⟨ni, hni⟩ : ∃ ni, psi.length = ni := ⟨_, rfl⟩
          obtain ⟨nj, hnj⟩ : ∃ nj, psj.length = nj := ⟨_, rfl⟩
          rw [hni] at hci HRS HCL HX
          rw [hnj] at hcj HRS HCL HY
          obtain ⟨p0, p1, p2, p3⟩ := hci
          obtain ⟨q0, q1, q2, q3⟩ := hcj
          have hBc := hB.cell
          have hBl := hB.lt
          have i0 : (0 : Int) ≤ (jp : Int) + 1 := by omega
          have i2 : (jp : Int) + 1 < (d.size : Int) := by omega
          have i3 : (jp : Int) < (d.size : Int) := by omega
          have i4 : (a : Int) < (jp : Int) + 1 := by omega
          have ei : ((jp : Int) + 1).toNat = jp + 1 := by omega
          have wjp : IntKind.i64.wrap (jp : Int) = (jp : Int) := by rw [IntKind.wrap_i64]; omega
          have HRC := Lib.hid hRC
          clear hni hnj hoi hoj hRC
          by_cases hr : r < 0
          · have HLT2 := Lib.hid (HLT.out.trans (decide_eq_true hr))
            go_wp2_with fail
            go_region_held3 (fun w' => (Blk w' g cs 62 ∧ ∀ o, w'.cell? ⟨g, o, none⟩ = cs[o]?) ∧ Below wr.heap.size wr w') (((try (obtain ⟨⟨hS0, _⟩, hSB⟩ := hHeld)); refine ⟨Blk.both ?_, ?_⟩ <;> first | ((repeat (first | (with_reducible assumption) | (with_reducible refine Blk.drewN ?_ _) | (with_reducible refine Blk.drew ?_) | ((with_reducible refine Blk.new _ ?_); focus (first | omega | (simp; done) | (simp; omega))) | (with_reducible refine Blk.past ?_ _) | ((with_reducible refine Blk.apart ?_ _ _ _ ?_); rotate_left; focus (first | omega | (simp; done) | (simp; omega))) | (with_reducible refine Blk.by (by assumption) ?_))); done) | ((repeat (first | (with_reducible exact Below.refl _ _) | (with_reducible refine below_drewN ?_ _) | (with_reducible refine Below.drew ?_) | (with_reducible refine below_al ?_ _) | (with_reducible refine below_on (by assumption) ?_) | ((with_reducible refine Below.setCell ?_ ?_ _); rotate_left; focus (first | omega | (simp; done) | (simp; omega))) | (with_reducible assumption))); done)))
              (first | (go_at_fn gf; refine (HCL.out _ (HX.out.by blwT) (HY.out.by blwT)).mono ?_; rintro e w1 ⟨rfl, hb1⟩))
            all_goals
              have hb2 : Below wr.heap.size wr w1 := blwT
              have kB := Blk.by hb2 hB
              have hBc1 := kB.cell
              have hBf1 := kB.free
              have hBl1 := kB.lt
              clear hBc hBl
              go_wp2_with fail
              go_region
              all_goals go_wp2_with fail
              obtain ⟨W8, hW8, hB8, hWW⟩ := swap_cells kB (jp + 1) jp (.int .i64 kj) (.slice a2 nj c2) (.int .i64 wj) (.int .i64 lj) (.int .i64 ki) (.slice a1 ni c1) (.int .i64 wi) (.int .i64 li)
              rw [← hW8]
              have hW9 := (Within.ofBelow (lo := g) (hi := g + 1) hb2).on hWW
              exact ⟨⟨jp, ds, by omega, by omega, by rfl, HSS, Lib.hid ⟨_, hB8, HRS.out.past hW9⟩, Lib.hid (HIS.out HLT2.out), HPS, hW.on hW9⟩, by simp [intOf]⟩
          · have HLT2 := Lib.hid (HLT.out.trans (decide_eq_false hr))
            have HR1 := HR
            go_wp2_with fail
            go_region_held3 (fun w' => (Blk w' g cs 62 ∧ ∀ o, w'.cell? ⟨g, o, none⟩ = cs[o]?) ∧ Below wr.heap.size wr w') (((try (obtain ⟨⟨hS0, _⟩, hSB⟩ := hHeld)); refine ⟨Blk.both ?_, ?_⟩ <;> first | ((repeat (first | (with_reducible assumption) | (with_reducible refine Blk.drewN ?_ _) | (with_reducible refine Blk.drew ?_) | ((with_reducible refine Blk.new _ ?_); focus (first | omega | (simp; done) | (simp; omega))) | (with_reducible refine Blk.past ?_ _) | ((with_reducible refine Blk.apart ?_ _ _ _ ?_); rotate_left; focus (first | omega | (simp; done) | (simp; omega))) | (with_reducible refine Blk.by (by assumption) ?_))); done) | ((repeat (first | (with_reducible exact Below.refl _ _) | (with_reducible refine below_drewN ?_ _) | (with_reducible refine Below.drew ?_) | (with_reducible refine below_al ?_ _) | (with_reducible refine below_on (by assumption) ?_) | ((with_reducible refine Below.setCell ?_ ?_ _); rotate_left; focus (first | omega | (simp; done) | (simp; omega))) | (with_reducible assumption))); done)))
              (first | (go_at_fn gf; refine (HCL.out _ (HX.out.by blwT) (HY.out.by blwT)).mono ?_; rintro e w1 ⟨rfl, hb1⟩))
            all_goals
              have hb2 : Below wr.heap.size wr w1 := blwT
              go_wp2_with fail
              exact ⟨⟨i + 1, dj, by omega, by omega, by go_num, HS, Lib.hid (HR.out.by hb2), Lib.hid (HIT.out HLT2.out), HP, hW.on (Within.ofBelow hb2)⟩, by simp [intOf]; omega⟩
        · obtain rfl : j = a := by omega
          have i4 : decide ((j : Int) > (j : Int)) = false := by simp
          have HIT := Lib.hid (Ins.stop dltP_swo HI.out (.inl (Nat.le_refl _)))
          go_wp2_with fail
          go_region
          all_goals
            go_wp2_with fail
            exact ⟨⟨i + 1, dj, by omega, by omega, by go_num, HS, Lib.hid (HR.out.by (below_of_drewN _ 1)), HIT, HP, hW.on (Within.ofBelow (below_of_drewN _ 1))⟩, by simp [intOf]; omega⟩
    · have i1 : ¬ (i : Int) < (b : Int) := by omega
      go_wp2
      go_end0
      exact ⟨by rfl, dk, HR.out, SortedIn.sub HT.out (Nat.le_refl _) (by omega), HP.out, hW⟩
/- slices.SortStableFunc's own functions at devices: the merge of two sorted parts, one of which has one element. -/
/- slices.SortStableFunc's own functions at devices: the merge of two sorted parts. -/
/- slices.SortStableFunc at fewer than 40 devices. -/
/- slices.SortStableFunc at fewer than 40 devices: as a whole. -/
abbrev Tr := Dv × Value × Nat
def tcell (t : Tr) : List Value := [.int .i64 t.1.kind, t.2.1, .int .i64 t.1.wd, .int .i64 t.1.len]
def tcells (L : List Tr) : List Value := L.flatMap tcell
theorem tcells_append (L M : List Tr) : tcells (L ++ M) = tcells L ++ tcells M := List.flatMap_append
theorem tcells_get (L : List Tr) (i : Nat) (t : Tr) (h : L[i]? = some t) : (tcells L)[i * 4]? = some (.int .i64 t.1.kind) ∧ (tcells L)[i * 4 + 1]? = some t.2.1 ∧ (tcells L)[i * 4 + 2]? = some (.int .i64 t.1.wd) ∧ (tcells L)[i * 4 + 3]? = some (.int .i64 t.1.len) := by
  induction L generalizing i with
  | nil => simp at h
  | cons y ys ih =>
    cases i with
    | zero => simp at h; subst h; exact ⟨rfl, rfl, rfl, rfl⟩
    | succ i =>
      simp at h
      have e : ∀ r, (tcells (y :: ys))[(i + 1) * 4 + r]? = (tcells ys)[i * 4 + r]? := by
        intro r
        show (Value.int .i64 y.1.kind :: y.2.1 :: Value.int .i64 y.1.wd :: Value.int .i64 y.1.len :: tcells ys)[(i + 1) * 4 + r]? = _
        rw [show (i + 1) * 4 + r = (i * 4 + r) + 1 + 1 + 1 + 1 by omega]
        simp only [List.getElem?_cons_succ]
      have e0 := e 0
      simp only [Nat.add_zero] at e0
      rw [e0, e 1, e 2, e 3]
      exact ih i h
def Out (w : World) (lo : Nat) (v : Value) (L : List Tr) : Prop := lo ≤ w.heap.size ∧ w.ownsRow lo 62 4 v L.length (tcells L) ∧
  (∀ t ∈ L, (OwnR w t.2.2 (t.2.2 + 1) t.2.1 t.1.pins ∧ lo ≤ t.2.2 ∧ t.2.2 < w.heap.size) ∧ v.ownBlock ≠ some t.2.2) ∧ (L.map (·.2.2)).Nodup
section
variable {w w' : World} {lo : Nat} {v : Value} {L : List Tr}
theorem Out.by (hb : Below w.heap.size w w') (h : Out w lo v L) : Out w' lo v L := by
  obtain ⟨h0, h1, h2, h3⟩ := h
  refine ⟨Nat.le_trans h0 hb.size, row_same h1 (fun g hg => hb.block g (h1.lt g hg).2), fun t ht => ?_, h3⟩
  obtain ⟨⟨a, b, c⟩, d⟩ := h2 t ht
  exact ⟨⟨OwnR.by hb a, b, Nat.lt_of_lt_of_le c hb.size⟩, d⟩
theorem Out.sized (h : Out w lo v L) : ∃ a c, v = .slice a L.length c := by
  obtain ⟨_, ⟨_, h1⟩, _⟩ := h
  rcases h1 with ⟨h1, h2⟩ | ⟨g, cap, cur, e1, _⟩
  · exact ⟨none, 0, by rw [h1, h2]⟩
  · exact ⟨_, _, e1⟩
theorem row_cur {g cap n : Nat} {cur : Array Value} {xs : List Value} (e7 : cur.toList.take (n * 4) = xs) : ∀ (j : Nat) u, xs[j]? = some u → cur[j]? = some u := by
  intro j u hu
  rw [← e7] at hu
  have hj : j < n * 4 := by
    have := (List.getElem?_eq_some_iff.1 hu).1
    rw [List.length_take] at this; omega
  rw [List.getElem?_take_of_lt hj] at hu
  simpa using hu
theorem Out.own (h : Out w lo v L) : OwnDs w lo w.heap.size v (L.map (·.1)) := by
  obtain ⟨h0, ⟨hlen, h1⟩, h2, h3⟩ := h
  rcases h1 with ⟨h1, hn⟩ | ⟨g, cap, cur, e1, e2, e3, e4, e5, e6, e7⟩
  · exact .inl ⟨_, _, h1, by rw [List.eq_nil_of_length_eq_zero hn]; rfl⟩
  · have hcur := row_cur (g := g) (cap := cap) e7
    have hgl : g < w.heap.size := (Array.getElem?_eq_some_iff.1 e3).1
    refine .inr ⟨g, cap, cur, fun i => (L.getD i default).2.2, by simpa using e1, ⟨e2, hgl⟩, by simpa using e4, e5, e3, fun i x hx => ?_, fun i j hi hj hij => ?_⟩
    · rw [List.getElem?_map] at hx
      obtain ⟨t, ht, rfl⟩ : ∃ t, L[i]? = some t ∧ t.1 = x := by
        cases h : L[i]? with
        | none => rw [h] at hx; simp at hx
        | some t => rw [h] at hx; exact ⟨t, rfl, by simpa using hx⟩
      have hgD : L.getD i default = t := by simp [ht]
      dsimp only
      rw [hgD]
      obtain ⟨⟨a, b, c⟩, d⟩ := h2 t (List.mem_of_getElem? ht)
      obtain ⟨q0, q1, q2, q3⟩ := tcells_get L i t ht
      exact ⟨⟨t.2.1, ⟨hcur _ _ q0, hcur _ _ q1, hcur _ _ q2, hcur _ _ q3⟩, a⟩, b, c, fun e => d (by rw [e1, e]; rfl)⟩
    · simp at hi hj
      have hn := List.pairwise_iff_getElem.1 (List.nodup_iff_pairwise_ne.1 h3)
      have e1 : L.getD i default = L[i] := by simp [hi]
      have e2 : L.getD j default = L[j] := by simp [hj]
      dsimp only
      rw [e1, e2]
      rcases Nat.lt_or_gt_of_ne hij with h | h
      · have := hn i j (by simpa using hi) (by simpa using hj) h
        simpa using this
      · have := hn j i (by simpa using hj) (by simpa using hi) h
        simpa using this.symm
theorem Out.one (h : Out w lo v L) : ∀ t ∈ L, t.2.1.oneCell' = true := by
  intro t ht
  obtain ⟨⟨a, b, c⟩, d⟩ := h.2.2.1 t ht
  rcases a with ⟨_, _, e, _⟩ | ⟨_, _, _, e, _⟩ <;> rw [e] <;> rfl
end
theorem step_appT {ops : Array Oper} {o : Oper} {a : Act} {w : World} {K : Act → World → Prop} {Q : Exit → Act → World → Prop} {E : Prop} (hgd : o.guard = none) (s x : Operand)
    (ho : o.op = .call { callee := .builtin .append, args := #[s, x], argTypes := #[32, 32] })
    (lo : Nat) (v : Value) (n : Nat) (xs : List Value) (hs : a.eval s = v) (h1 : w.ownsRow lo 62 4 v n xs) (p : Addr) (m c : Nat) (news : List Value) (hx : a.eval x = .slice (some p) m c)
    (hl : news.length = m * 4) (hnews : ∀ j u, news[j]? = some u → w.cell? (p.add j) = some u) (hone : ∀ u ∈ news, u.oneCell' = true) (hm : 0 < m) (hn : n + m ≤ 1000) (hlo : lo ≤ w.heap.size)
    (hK : ∀ g c w', w'.ownsRow lo 62 4 (.slice (some ⟨g, 0, none⟩) (n + m) c) (n + m) (xs ++ news) → w.grownBy w' v.ownBlock → (v.ownBlock = some g ∨ g = w.heap.size) → K (a.put o.dst (.slice (some ⟨g, 0, none⟩) (n + m) c)) w') :
    if Region.wanted o (yielded ops a.tmps) = true then Oper.wp Tryz.prog o a w K Q else E := by
  obtain ⟨i0, hi0, hz0, hz1, hz2⟩ := info_parts infoDev
  exact step_append_lies w hgd s x 32 ho lo 62 i0 _ 4 48 Tryz.underlying32 hi0 hz0 hz1 hz2 rfl (by decide) v n xs hs h1 p m c news hx hl hnews hone hm (by unfold maxLen; omega) (by omega) hlo w.heap.size rfl (fun g cap w' hrow hgrow hg _ => hK g cap w' hrow hgrow hg)
/- The reference's sorted copies of devices. -/
/- The program's SortDevices. -/
theorem dcmp_impl : DCmp 62 #[] := fun W x y sx sy hx hy => compareDevices_any x.kind x.wd x.len y.kind y.wd y.len sx sy x.pins y.pins W hx hy
/- Bounds of what SortDevices answers. -/
section
variable {P : Program} {ops : Array Oper} {Q : Exit → Act → World → Prop} {md : Region.Mode} {S : World → Prop} {l : Nat}
theorem opsL {i : Nat} {oi : Oper} (hi : ops.toList[i]? = some oi) : ops[i]? = some oi := by rw [← Array.getElem?_toList]; exact hi
theorem wpAnyE_takeL {i : Nat} {oi : Oper} {v : Value} {fuel : Nat} {listed : Array Bool} {a : Act} {w : World} (hi : ops.toList[i]? = some oi)
    (hk : (Region.noSelect ops && Region.free md ops listed i && (Region.ready md ops listed).contains i && headB md ops l listed && Region.sinkB md ops l && Region.chainB md ops l && decide (l < ops.size) && decide (i < l)) = true)
    (hQ : ∀ c a w, Q (.panic c) (a.put oi.dst v) w → Q (.panic c) a w) (hy : YieldsIf P ops S oi v a) (hS : S w)
    (h : wpAnyE P md ops Q S l fuel (listed.setIfInBounds i true) (a.put oi.dst v) w) : wpAnyE P md ops Q S l (fuel + 1) listed a w :=
  wpAnyE_take (opsL hi) hk hQ hy hS h
theorem wpAnyE_oneL {k : Nat} {o : Oper} {fuel : Nat} {listed : Array Bool} {a : Act} {w : World} (hr : Region.ready md ops listed = [k]) (ho : ops.toList[k]? = some o)
    (h : ∀ K' : Act → World → Prop, Shut (∀ a w, (k ≠ l → S w) → wpAnyE P md ops Q S l fuel (listed.setIfInBounds k true) a w → K' a w) → if Region.wanted o (yielded ops a.tmps) = true then Oper.wp P o a w K' Q else K' (a.put o.dst undef) w) :
    wpAnyE P md ops Q S l (fuel + 1) listed a w := wpAnyE_one hr (opsL ho) h
theorem wpAnyE_twoL {k k' : Nat} {o o' : Oper} {fuel : Nat} {listed : Array Bool} {a : Act} {w : World} (hr : Region.ready md ops listed = [k, k']) (ho : ops.toList[k]? = some o) (ho' : ops.toList[k']? = some o')
    (h : ∀ K' : Act → World → Prop, Shut (∀ a w, (k ≠ l → S w) → wpAnyE P md ops Q S l fuel (listed.setIfInBounds k true) a w → K' a w) → if Region.wanted o (yielded ops a.tmps) = true then Oper.wp P o a w K' Q else K' (a.put o.dst undef) w)
    (h' : ∀ K' : Act → World → Prop, Shut (∀ a w, (k' ≠ l → S w) → wpAnyE P md ops Q S l fuel (listed.setIfInBounds k' true) a w → K' a w) → if Region.wanted o' (yielded ops a.tmps) = true then Oper.wp P o' a w K' Q else K' (a.put o'.dst undef) w) :
    wpAnyE P md ops Q S l (fuel + 1) listed a w := by
  refine ⟨fun h0 => (by rw [h0] at hr; cases hr), fun i hi => ?_⟩
  rw [hr] at hi
  have hik : i = k ∨ i = k' := by simpa using hi
  rcases hik with rfl | rfl
  · exact wpOp_step (opsL ho) (fun K' hK => h K' (fun a w hS hW => hK a w ⟨hS, hW⟩))
  · exact wpOp_step (opsL ho') (fun K' hK => h' K' (fun a w hS hW => hK a w ⟨hS, hW⟩))
end
end Go.Proofs.YtifbffianbgeaaaGreat
