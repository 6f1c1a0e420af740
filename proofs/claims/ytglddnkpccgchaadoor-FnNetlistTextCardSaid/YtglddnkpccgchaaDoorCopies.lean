/- A slice of devices that grows in memory of the call's own. -/
import Derived.Test.YtglddnkpccgchaaDoorMarks
import Derived.Deep.AppendLies
import Derived.Lib.SliceRun
import Derived.Test.YtglddnkpccgchaaDoorImplNl
import Derived.Deep.DeepCutAuto
import Derived.Deep.RegionLaw
namespace Go.Proofs.YtglddnkpccgchaaDoor
open Go.RowKit
set_option linter.unusedVariables false
set_option linter.unusedSimpArgs false

def dcells : List Dv → List Value → List Value
  | d :: ds, p :: ps => .int .i64 d.kind :: p :: .int .i64 d.wd :: .int .i64 d.len :: dcells ds ps
  | _, _ => []
theorem dcells_push (ds : List Dv) (ps : List Value) (d : Dv) (p : Value) (h : ps.length = ds.length) : dcells (ds ++ [d]) (ps ++ [p]) = dcells ds ps ++ [.int .i64 d.kind, p, .int .i64 d.wd, .int .i64 d.len] := by
  induction ds generalizing ps with
  | nil => cases ps with
    | nil => rfl
    | cons => simp at h
  | cons y ys ih => cases ps with
    | nil => simp at h
    | cons q qs => simp at h; simp [dcells, ih qs h]
theorem dcells_get (ds : List Dv) (ps : List Value) (i : Nat) (d : Dv) (p : Value) (h : ds[i]? = some d) (hp : ps[i]? = some p) : (dcells ds ps)[i * 4]? = some (.int .i64 d.kind) ∧ (dcells ds ps)[i * 4 + 1]? = some p ∧ (dcells ds ps)[i * 4 + 2]? = some (.int .i64 d.wd) ∧ (dcells ds ps)[i * 4 + 3]? = some (.int .i64 d.len) := by
  induction ds generalizing ps i with
  | nil => simp at h
  | cons y ys ih => cases ps with
    | nil => simp at hp
    | cons q qs => cases i with
      | zero => simp at h hp; subst h hp; simp [dcells]
      | succ i =>
        simp at h hp
        have e : ∀ r, (dcells (y :: ys) (q :: qs))[(i + 1) * 4 + r]? = (dcells ys qs)[i * 4 + r]? := by
          intro r
          show (Value.int .i64 y.kind :: q :: Value.int .i64 y.wd :: Value.int .i64 y.len :: dcells ys qs)[(i + 1) * 4 + r]? = _
          rw [show (i + 1) * 4 + r = (i * 4 + r) + 1 + 1 + 1 + 1 by omega]
          simp only [List.getElem?_cons_succ]
        have e0 := e 0
        simp only [Nat.add_zero] at e0
        rw [e0, e 1, e 2, e 3]
        exact ih qs i h hp

/-- The slice v holds these devices, all its memory in blocks from lo on and below hi; it may grow. -/
def Bld (w : World) (lo hi : Nat) (v : Value) (ds : List Dv) : Prop := hi ≤ w.heap.size ∧ ∃ (pvs : List Value) (f : Nat → Nat), w.ownsRow lo 52 4 v ds.length (dcells ds pvs) ∧ pvs.length = ds.length ∧ (∀ g, v.ownBlock = some g → lo ≤ g ∧ g < hi) ∧
  (∀ i x pv, ds[i]? = some x → pvs[i]? = some pv → OwnR w (f i) (f i + 1) pv x.pins ∧ (lo ≤ f i ∧ f i < hi) ∧ v.ownBlock ≠ some (f i)) ∧ (∀ i j, i < ds.length → j < ds.length → i ≠ j → f i ≠ f j)
section
variable {w w' : World} {lo hi : Nat} {v : Value} {ds : List Dv}
theorem grown_within {row : Option Nat} (h : w.grownBy w' row) (hr : ∀ g, row = some g → lo ≤ g ∧ g < hi) : Within lo hi w w' :=
  ⟨h.os, h.tape, h.output, h.size, fun k hk hd => h.block k hk (fun e => by have := hr k e.symm; omega)⟩
theorem row_same {T : TypeId} {k n : Nat} {xs : List Value} (h : w.ownsRow lo T k v n xs) (hb : ∀ g, v.ownBlock = some g → w'.heap[g]? = w.heap[g]?) : w'.ownsRow lo T k v n xs := by
  obtain ⟨h1, h2⟩ := h
  refine ⟨h1, ?_⟩
  rcases h2 with h2 | ⟨g, cap, cur, e1, e2, e3, e4⟩
  · exact .inl h2
  · exact .inr ⟨g, cap, cur, e1, e2, by rw [hb g (by rw [e1]; rfl)]; exact e3, e4⟩
theorem Bld.nil (w : World) (lo : Nat) : Bld w lo w.heap.size (.slice none 0 0) [] :=
  ⟨Nat.le_refl _, [], fun _ => 0, World.ownsRow_nil w lo _ 4, rfl, (by intro g h; cases h), (by intro i x pv h; simp at h), (by intro i j h; simp at h)⟩
theorem Bld.by (hb : Below w.heap.size w w') (h : Bld w lo hi v ds) : Bld w' lo hi v ds := by
  obtain ⟨hs, pvs, f, h1, h2, h3, h4, h5⟩ := h
  refine ⟨Nat.le_trans hs hb.size, pvs, f, row_same h1 (fun g hg => hb.block g (by have := h3 g hg; omega)), h2, h3, fun i x pv hx hp => ?_, h5⟩
  obtain ⟨a, b, c⟩ := h4 i x pv hx hp
  exact ⟨OwnR.by hb a, b, c⟩
theorem Bld.past {lo' hi' : Nat} (hb : Within lo' hi' w w') (h : Bld w lo hi v ds) (hd : hi' ≤ lo ∨ hi ≤ lo') : Bld w' lo hi v ds := by
  obtain ⟨hs, pvs, f, h1, h2, h3, h4, h5⟩ := h
  refine ⟨Nat.le_trans hs hb.size, pvs, f, row_same h1 (fun g hg => hb.block g (by have := h3 g hg; omega) (by have := h3 g hg; omega)), h2, h3, fun i x pv hx hp => ?_, h5⟩
  obtain ⟨a, b, c⟩ := h4 i x pv hx hp
  exact ⟨OwnR.past hb a (by omega), b, c⟩
theorem Bld.sized (h : Bld w lo hi v ds) : ∃ a c, v = .slice a ds.length c := by
  obtain ⟨_, pvs, f, ⟨_, h1⟩, _⟩ := h
  rcases h1 with ⟨h1, h2⟩ | ⟨g, cap, cur, e1, _⟩
  · exact ⟨none, 0, by rw [h1, h2]⟩
  · exact ⟨_, _, e1⟩
theorem Bld.own (h : Bld w lo hi v ds) : OwnDs w lo hi v ds := by
  obtain ⟨hs, pvs, f, ⟨hlen, h1⟩, h2, h3, h4, h5⟩ := h
  rcases h1 with ⟨h1, hn⟩ | ⟨g, cap, cur, e1, e2, e3, e4, e5, e6, e7⟩
  · exact .inl ⟨_, _, h1, List.eq_nil_of_length_eq_zero hn⟩
  · have hcur : ∀ (j : Nat) u, (dcells ds pvs)[j]? = some u → cur[j]? = some u := by
      intro j u hu
      rw [← e7] at hu
      have hj : j < ds.length * 4 := by
        have := (List.getElem?_eq_some_iff.1 hu).1
        rw [List.length_take] at this; omega
      rw [List.getElem?_take_of_lt hj] at hu
      simpa using hu
    refine .inr ⟨g, cap, cur, f, e1, h3 g (by rw [e1]; rfl), e4, e5, e3, fun i x hx => ?_, h5⟩
    have hi : i < ds.length := (List.getElem?_eq_some_iff.1 hx).1
    obtain ⟨pv, hp⟩ : ∃ pv, pvs[i]? = some pv := ⟨pvs[i]'(by omega), List.getElem?_eq_getElem (by omega)⟩
    obtain ⟨a, b, c⟩ := h4 i x pv hx hp
    obtain ⟨q0, q1, q2, q3⟩ := dcells_get ds pvs i x pv hx hp
    refine ⟨⟨pv, ⟨hcur _ _ q0, hcur _ _ q1, hcur _ _ q2, hcur _ _ q3⟩, a⟩, b.1, b.2, fun e => c (by rw [e1, e]; rfl)⟩
end

/-- append(out, d), at a step of a region that draws its order. -/
theorem step_push {ops : Array Oper} {o : Oper} {a : Act} {w : World} {K : Act → World → Prop} {Q : Exit → Act → World → Prop} {E : Prop} (hgd : o.guard = none) (s x : Operand)
    (ho : o.op = .call { callee := .builtin .append, args := #[s, x], argTypes := #[28, 28] })
    (lo hi : Nat) (v : Value) (ds : List Dv) (hs : a.eval s = v) (hB : Bld w lo hi v ds) (nb : Nat) (d : Dv) (pv : Value) (fb : Nat) (hx : a.eval x = .slice (some ⟨nb, 0, none⟩) 1 1)
    (hnb : Blk w nb #[.int .i64 d.kind, pv, .int .i64 d.wd, .int .i64 d.len] 52) (hpv : OwnR w fb (fb + 1) pv d.pins) (hlo : lo ≤ hi) (hhi : hi ≤ fb) (hfb : fb < w.heap.size) (hn : ds.length ≤ 1000)
    (hK : ∀ a' c' w', Bld w' lo w'.heap.size (.slice a' (ds.length + 1) c') (ds ++ [d]) → Within lo hi w w' → K (a.put o.dst (.slice a' (ds.length + 1) c')) w') :
    if Region.wanted o (yielded ops a.tmps) = true then Oper.wp Tryd.prog o a w K Q else E := by
  obtain ⟨i0, hi0, hz0, hz1, hz2⟩ := info_parts infoDev
  obtain ⟨hsz, pvs, f, h1, h2, h3, h4, h5⟩ := hB
  have hone : pv.oneCell' = true := by
    rcases hpv with ⟨_, _, rfl, _⟩ | ⟨_, _, _, rfl, _⟩ <;> rfl
  refine step_append_lies w hgd s x 28 ho lo 52 i0 _ 4 48 Tryd.underlying28 hi0 hz0 hz1 hz2 rfl (by decide) v ds.length _ hs h1 ⟨nb, 0, none⟩ 1 1 [.int .i64 d.kind, pv, .int .i64 d.wd, .int .i64 d.len] hx rfl (World.news_of_block (cs := #[.int .i64 d.kind, pv, .int .i64 d.wd, .int .i64 d.len]) hnb) ?_ (by decide) (by unfold maxLen; omega) (by omega) (by omega) w.heap.size rfl ?_
  · intro u hu
    simp at hu
    rcases hu with rfl | rfl | rfl | rfl
    · rfl
    · exact hone
    · rfl
    · rfl
  · intro g cap w' hrow hgrow hg hgl
    have hW : Within lo hi w w' := grown_within hgrow h3
    refine hK (some ⟨g, 0, none⟩) cap w' ⟨Nat.le_refl _, pvs ++ [pv], fun i => if i = ds.length then fb else f i, ?_, by simp [h2], ?_, ?_, ?_⟩ hW
    · rw [List.length_append, List.length_singleton, dcells_push ds pvs d pv h2]; exact hrow
    · intro g' hg'
      have : g = g' := by injection hg'
      subst this
      rcases hg with h | h
      · have := h3 g h; omega
      · omega
    · intro i y pv' hy hp'
      by_cases hi' : i < ds.length
      · rw [List.getElem?_append_left hi'] at hy
        rw [List.getElem?_append_left (by omega)] at hp'
        obtain ⟨a1, b1, c1⟩ := h4 i y pv' hy hp'
        simp only [if_neg (show i ≠ ds.length by omega)]
        have hsep : ∀ g0, v.ownBlock = some g0 → g0 ≠ f i := fun g0 e1 e2 => c1 (by rw [e1, e2])
        refine ⟨?_, by have := hgrow.size; omega, ?_⟩
        · cases hv : v.ownBlock with
          | none => exact OwnR.by ⟨hgrow.os, hgrow.tape, hgrow.output, hgrow.size, fun k hk => hgrow.block k hk (by rw [hv]; simp)⟩ a1
          | some g0 => exact OwnR.past (grown_within (lo := g0) (hi := g0 + 1) hgrow (fun g1 e => by rw [hv] at e; cases e; omega)) a1 (by have := hsep g0 hv; omega)
        · intro e
          have : g = f i := by injection e
          rcases hg with h | h
          · exact hsep g h this
          · omega
      · have hil : i < (ds ++ [d]).length := (List.getElem?_eq_some_iff.1 hy).1
        simp at hil
        obtain rfl : i = ds.length := by omega
        rw [List.getElem?_append_right (Nat.le_refl _)] at hy
        rw [List.getElem?_append_right (by omega)] at hp'
        simp [h2] at hy hp'
        subst hy hp'
        simp only [if_true]
        refine ⟨OwnR.past hW hpv (by omega), by have := hgrow.size; omega, ?_⟩
        intro e
        have : g = fb := by injection e
        rcases hg with h | h
        · have := h3 g h; omega
        · omega
    · intro i j hi' hj' hij
      simp at hi' hj'
      by_cases e1 : i = ds.length
      · subst e1
        obtain ⟨y, hy⟩ : ∃ y, ds[j]? = some y := ⟨ds[j]'(by omega), List.getElem?_eq_getElem (by omega)⟩
        obtain ⟨p, hp⟩ : ∃ p, pvs[j]? = some p := ⟨pvs[j]'(by omega), List.getElem?_eq_getElem (by omega)⟩
        have := (h4 j y p hy hp).2.1
        simp only [if_true, if_neg (show j ≠ ds.length by omega)]
        omega
      · by_cases e2 : j = ds.length
        · subst e2
          obtain ⟨y, hy⟩ : ∃ y, ds[i]? = some y := ⟨ds[i]'(by omega), List.getElem?_eq_getElem (by omega)⟩
          obtain ⟨p, hp⟩ : ∃ p, pvs[i]? = some p := ⟨pvs[i]'(by omega), List.getElem?_eq_getElem (by omega)⟩
          have := (h4 i y p hy hp).2.1
          simp only [if_true, if_neg e1]
          omega
        · simp only [if_neg e1, if_neg e2]
          exact h5 i j (by omega) (by omega) hij
end Go.Proofs.YtglddnkpccgchaaDoor

/- Copies of slices of ports. -/
namespace Go.Proofs.YtglddnkpccgchaaDoor
open Go.RowKit
set_option linter.unusedVariables false
set_option linter.unusedSimpArgs false

def pcells : List Pt → List Value
  | p :: ps => .string p.name :: .int .i64 p.net :: pcells ps
  | [] => []
theorem length_pcells (ps : List Pt) : (pcells ps).length = ps.length * 2 := by
  induction ps with
  | nil => rfl
  | cons p ps ih => simp [pcells, ih]; omega
theorem pcells_get (ps : List Pt) (i : Nat) (p : Pt) (h : ps[i]? = some p) : (pcells ps)[i * 2]? = some (.string p.name) ∧ (pcells ps)[i * 2 + 1]? = some (.int .i64 p.net) := by
  induction ps generalizing i with
  | nil => simp at h
  | cons q qs ih => cases i with
    | zero => simp at h; subst h; simp [pcells]
    | succ i =>
      simp at h
      have e : ∀ r, (pcells (q :: qs))[(i + 1) * 2 + r]? = (pcells qs)[i * 2 + r]? := by
        intro r
        show (Value.string q.name :: Value.int .i64 q.net :: pcells qs)[(i + 1) * 2 + r]? = _
        rw [show (i + 1) * 2 + r = (i * 2 + r) + 1 + 1 by omega]
        simp only [List.getElem?_cons_succ]
      have e0 := e 0
      simp only [Nat.add_zero] at e0
      rw [e0, e 1]
      exact ih i h
theorem pcells_at (ps : List Pt) (j : Nat) (u : Value) (h : (pcells ps)[j]? = some u) : ∃ p, ps[j / 2]? = some p ∧ ((j % 2 = 0 ∧ u = .string p.name) ∨ (j % 2 = 1 ∧ u = .int .i64 p.net)) := by
  have hj : j < ps.length * 2 := by have := (List.getElem?_eq_some_iff.1 h).1; rwa [length_pcells] at this
  obtain ⟨p, hp⟩ : ∃ p, ps[j / 2]? = some p := ⟨ps[j / 2]'(by omega), List.getElem?_eq_getElem (by omega)⟩
  obtain ⟨e1, e2⟩ := pcells_get ps (j / 2) p hp
  refine ⟨p, hp, ?_⟩
  rcases Nat.mod_two_eq_zero_or_one j with hm | hm
  · left
    rw [show j / 2 * 2 = j by omega, h] at e1
    exact ⟨hm, Option.some.inj e1⟩
  · right
    rw [show j / 2 * 2 + 1 = j by omega, h] at e2
    exact ⟨hm, Option.some.inj e2⟩

section
variable {w w1 : World} {lo : Nat} {sv : Value} {ps : List Pt}
theorem src_ports (h : PtSl w sv ps) : Src Tryd.prog 2 29 sv ps.length (pcells ps) w := by
  have h1 : ∀ u ∈ pcells ps, u.oneCell' = true := by
    intro u hu
    obtain ⟨j, hj, e⟩ := List.mem_iff_getElem.1 hu
    obtain ⟨p, _, h⟩ := pcells_at ps j u (by rw [List.getElem?_eq_getElem hj, e])
    rcases h with ⟨_, rfl⟩ | ⟨_, rfl⟩ <;> rfl
  rcases h with ⟨a, c, rfl, rfl⟩ | ⟨b, off, cap, rfl, h2, h3, h4⟩
  · cases a with
    | none => exact Src.ofNil w Tryd.underlying29 c
    | some a => exact Src.ofSlice w Tryd.underlying29 a 0 c [] rfl (by simp) (by simp)
  · refine Src.ofSlice w Tryd.underlying29 _ _ _ _ (by rw [length_pcells]) (fun j u hu => ?_) h1
    obtain ⟨p, hp, hc⟩ := pcells_at ps j u hu
    obtain ⟨c1, c2⟩ := h4 _ p hp
    rw [Addr.add_lit]
    rcases hc with ⟨hm, rfl⟩ | ⟨hm, rfl⟩
    · have e : off + j / 2 * 2 = off + j := by omega
      rw [e] at c1; exact c1
    · have e : off + j / 2 * 2 + 1 = off + j := by omega
      rw [e] at c2; exact c2

theorem cloneP_run (h : PtSl w sv ps) (hn : ps.length ≤ 1048576) (b : Nat) (ty : TypeId) (hlo : lo ≤ w.heap.size) :
    ∃ v w', (Builtin.append_ #[29, 29] ty #[.slice (some ⟨b, 0, none⟩) 0 0, sv]).run Tryd.prog w = .ok v w' ∧ OwnPs w' lo w'.heap.size v ps ∧ Below w.heap.size w w' := by
  obtain ⟨i0, hi, hz0, hz1, hz2⟩ := info_parts infoPt
  have hS := src_ports h
  by_cases h0 : ps = []
  · subst h0
    have hr := run_append_room_src (P := Tryd.prog) w 29 29 ty 49 i0 Tryd.underlying29 hi b 0 0 0 sv 0 [] (by rw [hz1]; exact hS) (by omega) (by simp) (by simp)
    refine ⟨_, _, hr, .inl ⟨_, _, rfl, rfl⟩, ?_⟩
    exact Below.refl _ _
  · have hl : 0 < ps.length := List.length_pos_iff.2 h0
    have hr := run_append_grow_src (P := Tryd.prog) w 29 29 ty 49 i0 _ Tryd.underlying29 hi hz0 (some ⟨b, 0, none⟩) 0 0 [] (by rw [hz1]; exact run_firstCells_some w.drew 2 0 _ 0 0 [] rfl (by simp)) sv ps.length (pcells ps) (by rw [hz1]; exact hS) (by omega) (by omega)
      (by rw [hz2]; simp only [Builtin.nextslicecap, Nat.mul_zero, Nat.zero_add]; rw [if_pos (by omega)]; omega)
    refine ⟨_, _, hr, .inr ⟨w.heap.size, grownCap w (0 + ps.length) 0 49, _, by rw [Nat.zero_add], ⟨hlo, by simp⟩, by have := grownCap_ge w (0 + ps.length) 0 49; omega, grownCap_le_maxLen _ _ _ _ (by unfold maxLen; omega), Blk.new _ rfl, ?_⟩, ((Below.refl _ _).drew).alloc (Nat.le_refl _) _⟩
    intro i x hx
    have hi := (List.getElem?_eq_some_iff.1 hx).1
    obtain ⟨e1, e2⟩ := pcells_get ps i x hx
    have hl2 := length_pcells ps
    refine ⟨?_, ?_⟩
    · rw [Array.getElem?_append_left (by simp [hl2]; omega)]; simpa using e1
    · rw [Array.getElem?_append_left (by simp [hl2]; omega)]; simpa using e2
end

/-- At a step of a region that draws its order. -/
theorem step_cloneP {ops : Array Oper} {o : Oper} {a : Act} {w : World} {K : Act → World → Prop} {Q : Exit → Act → World → Prop} {E : Prop} (hgd : o.guard = none) (s x : Operand)
    (ho : o.op = .call { callee := .builtin .append, args := #[s, x], argTypes := #[29, 29] })
    (b : Nat) (hs : a.eval s = .slice (some ⟨b, 0, none⟩) 0 0) (sv : Value) (ps : List Pt) (hx : a.eval x = sv) (h : PtSl w sv ps) (hn : ps.length ≤ 1048576) (lo : Nat) (hlo : lo ≤ w.heap.size)
    (hK : ∀ v w', OwnPs w' lo w'.heap.size v ps → Below w.heap.size w w' → K (a.put o.dst v) w') :
    if Region.wanted o (yielded ops a.tmps) = true then Oper.wp Tryd.prog o a w K Q else E := by
  have hw : Region.wanted o (yielded ops a.tmps) = true := by simp [Region.wanted, hgd]
  rw [if_pos hw]
  obtain ⟨v, w', hr, h2, h3⟩ := cloneP_run h hn b o.type hlo
  unfold Oper.wp execOp
  simp only [ho, resolve, invoke, builtin, Sem.run_bind, Sem.run_pure, Result.andThen_ok, List.map_toArray, List.map_cons, List.map_nil, hs, hx, hr]
  exact hK v w' h2 h3
/-- At the list of a plain region's operations. -/
theorem list_cloneP {ops : Array Oper} {rest : List Oper} {o : Oper} {a : Act} {w : World} {Q : Exit → Act → World → Prop} (hgd : o.guard = none) (s x : Operand)
    (ho : o.op = .call { callee := .builtin .append, args := #[s, x], argTypes := #[29, 29] })
    (b : Nat) (hs : a.eval s = .slice (some ⟨b, 0, none⟩) 0 0) (sv : Value) (ps : List Pt) (hx : a.eval x = sv) (h : PtSl w sv ps) (hn : ps.length ≤ 1048576) (lo : Nat) (hlo : lo ≤ w.heap.size)
    (hK : ∀ v w', OwnPs w' lo w'.heap.size v ps → Below w.heap.size w w' → wpList Tryd.prog ops Q rest (a.put o.dst v) w') : wpList Tryd.prog ops Q (o :: rest) a w :=
  wpList_plain hgd fun _ hK' => by
    obtain ⟨v, w', hr, h2, h3⟩ := cloneP_run h hn b o.type hlo
    unfold Oper.wp execOp
    simp only [ho, resolve, invoke, builtin, Sem.run_bind, Sem.run_pure, Result.andThen_ok, List.map_toArray, List.map_cons, List.map_nil, hs, hx, hr]
    exact hK' _ _ (hK v w' h2 h3)

end Go.Proofs.YtglddnkpccgchaaDoor

/- copyNetlist. -/
namespace Go.Proofs.YtglddnkpccgchaaDoor
open Go.RowKit
set_option linter.unusedVariables false
set_option linter.unusedSimpArgs false

theorem OwnI.pin {w : World} {lo : Nat} {sv : Value} {zs : List Int} (h : OwnI w lo sv zs) (hne : zs ≠ []) : ∃ g, lo ≤ g ∧ g < w.heap.size ∧ OwnR w g (g + 1) sv zs := by
  rcases h with ⟨_, _, _, h⟩ | ⟨g, cap, cs, h1, h2, h3, h4, h5, h6⟩
  · exact absurd h hne
  · exact ⟨g, h2, h5.lt, .inr ⟨g, cap, cs, h1, Nat.le_refl _, Nat.lt_succ_self _, h3, h4, h5, h6⟩⟩

end Go.Proofs.YtglddnkpccgchaaDoor
