/- Contracts and plain laws, part 12, for the statement's proof. -/
import Derived.Test.YtifbffianbgeaaaGreatPkExpLaw11
import Derived.Test.YtifbffianbgeaaaGreatPkExpLawB
import Derived.Deep.AppendLies
import Derived.Deep.AppendSrc
import Derived.Deep.RegionHeldLaw
import Derived.Deep.RegionLaw
import Derived.Shelf.Abstract
import Derived.BigQuiet
namespace Go.Proofs.YtifbffianbgeaaaGreat
open Go.RowKit
set_option linter.unusedVariables false
set_option linter.unusedSimpArgs false
abbrev Tr := Dv × Value × Nat
def tcell (t : Tr) : List Value := [.int .i64 t.1.kind, t.2.1, .int .i64 t.1.wd, .int .i64 t.1.len]
def tcells (L : List Tr) : List Value := L.flatMap tcell
theorem tcells_append (L M : List Tr) : tcells (L ++ M) = tcells L ++ tcells M := List.flatMap_append
theorem length_tcells (L : List Tr) : (tcells L).length = L.length * 4 := by
  induction L with
  | nil => rfl
  | cons t L ih => show (tcell t ++ tcells L).length = _; rw [List.length_append, ih, List.length_cons]; show 4 + _ = _; omega
theorem tcells_take (L : List Tr) (q : Nat) : tcells (L.take q) = (tcells L).take (q * 4) := by
  have h1 : tcells L = tcells (L.take q) ++ tcells (L.drop q) := by rw [← tcells_append, List.take_append_drop]
  by_cases hq : q ≤ L.length
  · conv => rhs; rw [h1]
    exact (List.take_left' (by rw [length_tcells, List.length_take]; omega)).symm
  · rw [List.take_of_length_le (by omega), List.take_of_length_le (by rw [length_tcells]; omega)]
theorem tcells_drop (L : List Tr) (q : Nat) : tcells (L.drop q) = (tcells L).drop (q * 4) := by
  have h1 : tcells L = tcells (L.take q) ++ tcells (L.drop q) := by rw [← tcells_append, List.take_append_drop]
  by_cases hq : q ≤ L.length
  · conv => rhs; rw [h1]
    exact (List.drop_left' (by rw [length_tcells, List.length_take]; omega)).symm
  · rw [List.drop_eq_nil_of_le (by omega), List.drop_eq_nil_of_le (by rw [length_tcells]; omega)]
    rfl
theorem tcells_get (L : List Tr) (i : Nat) (t : Tr) (h : L[i]? = some t) : (tcells L)[i * 4]? = some (.int .i64 t.1.kind) ∧ (tcells L)[i * 4 + 1]? = some t.2.1 ∧ (tcells L)[i * 4 + 2]? = some (.int .i64 t.1.wd) ∧ (tcells L)[i * 4 + 3]? = some (.int .i64 t.1.len) := by
  induction L generalizing i with
  | nil => simp at h
  | cons y ys ih =>
    cases i with
    | zero => simp at h; subst h; exact ⟨rfl, rfl, rfl, rfl⟩
    | succ i =>
      simp at h
      have e : ∀ r, (tcells (y :: ys))[(i + 1) * 4 + r]? = (tcells ys)[i * 4 + r]? := by
        intro r
        show (Value.int .i64 y.1.kind :: y.2.1 :: Value.int .i64 y.1.wd :: Value.int .i64 y.1.len :: tcells ys)[(i + 1) * 4 + r]? = _
        rw [show (i + 1) * 4 + r = (i * 4 + r) + 1 + 1 + 1 + 1 by omega]
        simp only [List.getElem?_cons_succ]
      have e0 := e 0
      simp only [Nat.add_zero] at e0
      rw [e0, e 1, e 2, e 3]
      exact ih i h
theorem tcells_one {L : List Tr} (h : ∀ t ∈ L, t.2.1.oneCell' = true) : ∀ u ∈ tcells L, u.oneCell' = true := by
  intro u hu
  obtain ⟨t, ht, hu⟩ := List.mem_flatMap.1 hu
  simp [tcell] at hu
  rcases hu with rfl | rfl | rfl | rfl
  · rfl
  · exact h t ht
  · rfl
  · rfl
def Asc (L : List Tr) : Prop := L.Pairwise (fun x y => dlt y.1 x.1 = false)
theorem Asc.insert {L : List Tr} (h : Asc L) (x : Tr) (q : Nat) (hq : q ≤ L.length) (hl : q = 0 ∨ ∀ y, L[q - 1]? = some y → dlt x.1 y.1 = false) (hr : ∀ i y, q ≤ i → L[i]? = some y → dlt x.1 y.1 = true) : Asc (L.take q ++ (x :: L.drop q)) := by
  unfold Asc at *
  rw [List.pairwise_append]
  refine ⟨h.sublist (List.take_sublist _ _), ?_, fun a ha b hb => ?_⟩
  · rw [List.pairwise_cons]
    refine ⟨fun y hy => ?_, h.sublist (List.drop_sublist _ _)⟩
    obtain ⟨j, hj⟩ := List.mem_iff_getElem?.1 hy
    rw [List.getElem?_drop] at hj
    exact dlt_swo.asymmA (hr _ y (by omega) hj)
  · obtain ⟨i, hi⟩ := List.mem_iff_getElem?.1 ha
    have hil : i < q := by have := (List.getElem?_eq_some_iff.1 hi).1; simp at this; omega
    rw [List.getElem?_take_of_lt hil] at hi
    have hx : dlt x.1 a.1 = false := by
      rcases hl with hl | hl
      · omega
      · obtain ⟨y, hy⟩ : ∃ y, L[q - 1]? = some y := ⟨L[q - 1]'(by omega), List.getElem?_eq_getElem _⟩
        by_cases e : i = q - 1
        · subst e; exact hl a hi
        · have h1 := List.pairwise_iff_getElem.1 h i (q - 1) (by omega) (by omega) (by omega)
          obtain ⟨_, e1⟩ := List.getElem?_eq_some_iff.1 hi
          obtain ⟨_, e2⟩ := List.getElem?_eq_some_iff.1 hy
          rw [e1, e2] at h1
          exact dlt_swo.ntrans _ _ _ (hl y hy) h1
    rcases List.mem_cons.1 hb with rfl | hb
    · exact hx
    · obtain ⟨j, hj⟩ := List.mem_iff_getElem?.1 hb
      rw [List.getElem?_drop] at hj
      obtain ⟨_, e1⟩ := List.getElem?_eq_some_iff.1 hi
      obtain ⟨hj', e2⟩ := List.getElem?_eq_some_iff.1 hj
      have h1 := List.pairwise_iff_getElem.1 h i (q + j) (by omega) hj' (by omega)
      rw [e1, e2] at h1
      exact h1
theorem insert_perm {α : Type} (L : List α) (x : α) (q : Nat) : (L.take q ++ (x :: L.drop q)).Perm (L ++ [x]) := by
  have h : (L.take q ++ (x :: L.drop q)).Perm (x :: (L.take q ++ L.drop q)) := List.perm_middle
  rw [List.take_append_drop] at h
  exact h.trans (List.perm_append_comm (l₁ := [x]) (l₂ := L))
def Out (w : World) (lo : Nat) (v : Value) (L : List Tr) : Prop := lo ≤ w.heap.size ∧ w.ownsRow lo 62 4 v L.length (tcells L) ∧
  (∀ t ∈ L, (OwnR w t.2.2 (t.2.2 + 1) t.2.1 t.1.pins ∧ lo ≤ t.2.2 ∧ t.2.2 < w.heap.size) ∧ v.ownBlock ≠ some t.2.2) ∧ (L.map (·.2.2)).Nodup
section
variable {w w' : World} {lo : Nat} {v : Value} {L : List Tr}
theorem Out.by (hb : Below w.heap.size w w') (h : Out w lo v L) : Out w' lo v L := by
  obtain ⟨h0, h1, h2, h3⟩ := h
  refine ⟨Nat.le_trans h0 hb.size, row_same h1 (fun g hg => hb.block g (h1.lt g hg).2), fun t ht => ?_, h3⟩
  obtain ⟨⟨a, b, c⟩, d⟩ := h2 t ht
  exact ⟨⟨OwnR.by hb a, b, Nat.lt_of_lt_of_le c hb.size⟩, d⟩
theorem Out.sized (h : Out w lo v L) : ∃ a c, v = .slice a L.length c := by
  obtain ⟨_, ⟨_, h1⟩, _⟩ := h
  rcases h1 with ⟨h1, h2⟩ | ⟨g, cap, cur, e1, _⟩
  · exact ⟨none, 0, by rw [h1, h2]⟩
  · exact ⟨_, _, e1⟩
theorem row_cur {g cap n : Nat} {cur : Array Value} {xs : List Value} (e7 : cur.toList.take (n * 4) = xs) : ∀ (j : Nat) u, xs[j]? = some u → cur[j]? = some u := by
  intro j u hu
  rw [← e7] at hu
  have hj : j < n * 4 := by
    have := (List.getElem?_eq_some_iff.1 hu).1
    rw [List.length_take] at this; omega
  rw [List.getElem?_take_of_lt hj] at hu
  simpa using hu
theorem Out.own (h : Out w lo v L) : OwnDs w lo w.heap.size v (L.map (·.1)) := by
  obtain ⟨h0, ⟨hlen, h1⟩, h2, h3⟩ := h
  rcases h1 with ⟨h1, hn⟩ | ⟨g, cap, cur, e1, e2, e3, e4, e5, e6, e7⟩
  · exact .inl ⟨_, _, h1, by rw [List.eq_nil_of_length_eq_zero hn]; rfl⟩
  · have hcur := row_cur (g := g) (cap := cap) e7
    have hgl : g < w.heap.size := (Array.getElem?_eq_some_iff.1 e3).1
    refine .inr ⟨g, cap, cur, fun i => (L.getD i default).2.2, by simpa using e1, ⟨e2, hgl⟩, by simpa using e4, e5, e3, fun i x hx => ?_, fun i j hi hj hij => ?_⟩
    · rw [List.getElem?_map] at hx
      obtain ⟨t, ht, rfl⟩ : ∃ t, L[i]? = some t ∧ t.1 = x := by
        cases h : L[i]? with
        | none => rw [h] at hx; simp at hx
        | some t => rw [h] at hx; exact ⟨t, rfl, by simpa using hx⟩
      have hgD : L.getD i default = t := by simp [ht]
      dsimp only
      rw [hgD]
      obtain ⟨⟨a, b, c⟩, d⟩ := h2 t (List.mem_of_getElem? ht)
      obtain ⟨q0, q1, q2, q3⟩ := tcells_get L i t ht
      exact ⟨⟨t.2.1, ⟨hcur _ _ q0, hcur _ _ q1, hcur _ _ q2, hcur _ _ q3⟩, a⟩, b, c, fun e => d (by rw [e1, e]; rfl)⟩
    · simp at hi hj
      have hn := List.pairwise_iff_getElem.1 (List.nodup_iff_pairwise_ne.1 h3)
      have e1 : L.getD i default = L[i] := by simp [hi]
      have e2 : L.getD j default = L[j] := by simp [hj]
      dsimp only
      rw [e1, e2]
      rcases Nat.lt_or_gt_of_ne hij with h | h
      · have := hn i j (by simpa using hi) (by simpa using hj) h
        simpa using this
      · have := hn j i (by simpa using hj) (by simpa using hi) h
        simpa using this.symm
theorem row_news {g c n : Nat} (h1 : w.ownsRow lo 62 4 (.slice (some ⟨g, 0, none⟩) n c) n (tcells L)) (q : Nat) : ∀ (j : Nat) (u : Value), (tcells (L.drop q))[j]? = some u → w.cell? ((⟨g, q * 4, none⟩ : Addr).add j) = some u := by
  intro j u hu
  rw [tcells_drop, List.getElem?_drop] at hu
  rw [Addr.add_lit]
  have := h1.cells rfl _ _ hu
  rw [Addr.add_lit] at this
  simpa using this
theorem row_news0 {g c n : Nat} (h1 : w.ownsRow lo 62 4 (.slice (some ⟨g, 0, none⟩) n c) n (tcells L)) (q : Nat) : ∀ (j : Nat) (u : Value), (tcells (L.take q))[j]? = some u → w.cell? ((⟨g, 0, none⟩ : Addr).add j) = some u := by
  intro j u hu
  rw [tcells_take] at hu
  have hj : j < q * 4 := by
    have := (List.getElem?_eq_some_iff.1 hu).1
    rw [List.length_take] at this; omega
  rw [List.getElem?_take_of_lt hj] at hu
  exact h1.cells rfl _ _ hu
theorem Out.one (h : Out w lo v L) : ∀ t ∈ L, t.2.1.oneCell' = true := by
  intro t ht
  obtain ⟨⟨a, b, c⟩, d⟩ := h.2.2.1 t ht
  rcases a with ⟨_, _, e, _⟩ | ⟨_, _, _, e, _⟩ <;> rw [e] <;> rfl
end
theorem Out.insert {w w' : World} {lo k q f g c : Nat} {v pv : Value} {x : Dv} {L : List Tr} (h : Out w lo v L) (hk : L.length = k) (hb : Below w.heap.size w w') (hq : q ≤ k) (hf : OwnR w' f (f + 1) pv x.pins) (hf1 : w.heap.size ≤ f) (hf2 : f < w'.heap.size) (hg : w.heap.size ≤ g) (hgf : g ≠ f)
    (hr : w'.ownsRow lo 62 4 (.slice (some ⟨g, 0, none⟩) (k + 1) c) (k + 1) (tcells (L.take q) ++ (tcells [(x, pv, f)] ++ tcells (L.drop q)))) : Out w' lo (.slice (some ⟨g, 0, none⟩) (k + 1) c) (L.take q ++ ((x, pv, f) :: L.drop q)) := by
  obtain ⟨h0, h1, h2, h3⟩ := h
  have hp := insert_perm L (x, pv, f) q
  refine ⟨Nat.le_trans h0 hb.size, ?_, fun t ht => ?_, ?_⟩
  · rw [hp.length_eq, List.length_append, List.length_singleton, hk, tcells_append]
    exact hr
  · rcases List.mem_append.1 (hp.mem_iff.1 ht) with ht | ht
    · obtain ⟨⟨a, b, c⟩, d⟩ := h2 t ht
      refine ⟨⟨OwnR.by hb a, b, Nat.lt_of_lt_of_le c hb.size⟩, fun e => ?_⟩
      have : g = t.2.2 := by injection e
      omega
    · obtain rfl : t = (x, pv, f) := by simpa using ht
      refine ⟨⟨hf, Nat.le_trans h0 hf1, hf2⟩, fun e => ?_⟩
      have : g = f := by injection e
      exact hgf this
  · rw [(hp.map (·.2.2)).nodup_iff, List.map_append, List.nodup_append]
    refine ⟨h3, by simp, fun a ha b hb' => ?_⟩
    obtain ⟨t, ht, rfl⟩ := List.mem_map.1 ha
    have := (h2 t ht).1.2.2
    simp at hb'
    omega
theorem step_appT {ops : Array Oper} {o : Oper} {a : Act} {w : World} {K : Act → World → Prop} {Q : Exit → Act → World → Prop} {E : Prop} (hgd : o.guard = none) (s x : Operand)
    (ho : o.op = .call { callee := .builtin .append, args := #[s, x], argTypes := #[32, 32] })
    (lo : Nat) (v : Value) (n : Nat) (xs : List Value) (hs : a.eval s = v) (h1 : w.ownsRow lo 62 4 v n xs) (p : Addr) (m c : Nat) (news : List Value) (hx : a.eval x = .slice (some p) m c)
    (hl : news.length = m * 4) (hnews : ∀ j u, news[j]? = some u → w.cell? (p.add j) = some u) (hone : ∀ u ∈ news, u.oneCell' = true) (hm : 0 < m) (hn : n + m ≤ 1000) (hlo : lo ≤ w.heap.size)
    (hK : ∀ g c w', w'.ownsRow lo 62 4 (.slice (some ⟨g, 0, none⟩) (n + m) c) (n + m) (xs ++ news) → w.grownBy w' v.ownBlock → (v.ownBlock = some g ∨ g = w.heap.size) → K (a.put o.dst (.slice (some ⟨g, 0, none⟩) (n + m) c)) w') :
    if Region.wanted o (yielded ops a.tmps) = true then Oper.wp Tryz.prog o a w K Q else E := by
  obtain ⟨i0, hi0, hz0, hz1, hz2⟩ := info_parts infoDev
  exact step_append_lies w hgd s x 32 ho lo 62 i0 _ 4 48 Tryz.underlying32 hi0 hz0 hz1 hz2 rfl (by decide) v n xs hs h1 p m c news hx hl hnews hone hm (by unfold maxLen; omega) (by omega) hlo w.heap.size rfl (fun g cap w' hrow hgrow hg _ => hK g cap w' hrow hgrow hg)
theorem list_appT {ops : Array Oper} {rest : List Oper} {o : Oper} {a : Act} {w : World} {Q : Exit → Act → World → Prop} (hgd : o.guard = none) (s x : Operand)
    (ho : o.op = .call { callee := .builtin .append, args := #[s, x], argTypes := #[32, 32] })
    (lo : Nat) (v : Value) (n : Nat) (xs : List Value) (hs : a.eval s = v) (h1 : w.ownsRow lo 62 4 v n xs) (p : Addr) (m c : Nat) (news : List Value) (hx : a.eval x = .slice (some p) m c)
    (hl : news.length = m * 4) (hnews : ∀ j u, news[j]? = some u → w.cell? (p.add j) = some u) (hone : ∀ u ∈ news, u.oneCell' = true) (hm : 0 < m) (hn : n + m ≤ 1000) (hlo : lo ≤ w.heap.size)
    (hK : ∀ g c w', w'.ownsRow lo 62 4 (.slice (some ⟨g, 0, none⟩) (n + m) c) (n + m) (xs ++ news) → w.grownBy w' v.ownBlock → (v.ownBlock = some g ∨ g = w.heap.size) → wpList Tryz.prog ops Q rest (a.put o.dst (.slice (some ⟨g, 0, none⟩) (n + m) c)) w') : wpList Tryz.prog ops Q (o :: rest) a w :=
  wpList_plain hgd fun K hk => by
    have h := step_appT (ops := ops) (K := K) (Q := Q) (E := False) hgd s x ho lo v n xs hs h1 p m c news hx hl hnews hone hm hn hlo (fun g c w' h1 h2 h3 => hk _ _ (hK g c w' h1 h2 h3))
    rwa [if_pos (by simp [Region.wanted, hgd])] at h
theorem run_appZ (b n c : Nat) (a2 : Option Addr) (c2 : Nat) (ty : TypeId) (hn : n ≤ c) (w : World) :
    (Builtin.append_ #[32, 32] ty #[.slice (some ⟨b, 0, none⟩) n c, .slice a2 0 c2]).run Tryz.prog w = .ok (.slice (some ⟨b, 0, none⟩) n c) w := by
  obtain ⟨i0, hi0, hz0, hz1, hz2⟩ := info_parts infoDev
  have hs : Src Tryz.prog i0.size 32 (.slice a2 0 c2) 0 [] w := by
    cases a2 with
    | none => exact Src.ofNil w Tryz.underlying32 c2
    | some ad => exact Src.ofSlice w Tryz.underlying32 ad 0 c2 [] (by simp) (fun j u h => by simp at h) (fun u h => by simp at h)
  have h := run_append_room_src w 32 32 ty _ i0 Tryz.underlying32 hi0 b 0 n c (.slice a2 0 c2) 0 [] hs (by omega) (fun j hj => by simp at hj) (fun j hj => by simp at hj)
  simpa [World.setCells] using h
theorem step_appZ {ops : Array Oper} {o : Oper} {a : Act} {w : World} {K : Act → World → Prop} {Q : Exit → Act → World → Prop} {E : Prop} (hgd : o.guard = none) (s x : Operand)
    (ho : o.op = .call { callee := .builtin .append, args := #[s, x], argTypes := #[32, 32] })
    (b n c : Nat) (a2 : Option Addr) (c2 : Nat) (hs : a.eval s = .slice (some ⟨b, 0, none⟩) n c) (hx : a.eval x = .slice a2 0 c2) (hn : n ≤ c)
    (hK : K (a.put o.dst (.slice (some ⟨b, 0, none⟩) n c)) w) : if Region.wanted o (yielded ops a.tmps) = true then Oper.wp Tryz.prog o a w K Q else E := by
  have hw : Region.wanted o (yielded ops a.tmps) = true := by simp [Region.wanted, hgd]
  rw [if_pos hw]
  have hr := run_appZ b n c a2 c2 o.type hn w
  unfold Oper.wp execOp
  simp only [ho, resolve, invoke, builtin, Sem.run_bind, Sem.run_pure, Result.andThen_ok, List.map_toArray, List.map_cons, List.map_nil, hs, hx, hr]
  exact hK
theorem list_appZ {ops : Array Oper} {rest : List Oper} {o : Oper} {a : Act} {w : World} {Q : Exit → Act → World → Prop} (hgd : o.guard = none) (s x : Operand)
    (ho : o.op = .call { callee := .builtin .append, args := #[s, x], argTypes := #[32, 32] })
    (b n c : Nat) (a2 : Option Addr) (c2 : Nat) (hs : a.eval s = .slice (some ⟨b, 0, none⟩) n c) (hx : a.eval x = .slice a2 0 c2) (hn : n ≤ c)
    (hK : wpList Tryz.prog ops Q rest (a.put o.dst (.slice (some ⟨b, 0, none⟩) n c)) w) : wpList Tryz.prog ops Q (o :: rest) a w :=
  wpList_plain hgd fun K hk => by
    have h := step_appZ (ops := ops) (K := K) (Q := Q) (E := False) hgd s x ho b n c a2 c2 hs hx hn (hk _ _ hK)
    rwa [if_pos (by simp [Region.wanted, hgd])] at h
theorem row_lit {w : World} {lo g n : Nat} {L : List Tr} (h : Blk w g (tcells L).toArray 62) (hn : L.length = n) (hlo : lo ≤ g) (hl : n ≤ 1000) : w.ownsRow lo 62 4 (.slice (some ⟨g, 0, none⟩) n n) n (tcells L) := by
  subst hn
  refine ⟨length_tcells L, .inr ⟨g, L.length, (tcells L).toArray, rfl, hlo, h, Nat.le_refl _, by unfold maxLen; omega, by simp [length_tcells], ?_⟩⟩
  rw [List.take_of_length_le (by simp [length_tcells])]
/- The reference's sorted copies of devices. -/
theorem OwnI.pin0 {w : World} {lo : Nat} {sv : Value} {zs : List Int} (h : OwnI w lo sv zs) (hl : lo < w.heap.size) : ∃ g, lo ≤ g ∧ g < w.heap.size ∧ OwnR w g (g + 1) sv zs := by
  rcases h with h | ⟨g, cap, cs, h1, h2, h3, h4, h5, h6⟩
  · exact ⟨lo, Nat.le_refl _, hl, .inl h⟩
  · exact ⟨g, h2, h5.lt, .inr ⟨g, cap, cs, h1, Nat.le_refl _, Nat.lt_succ_self _, h3, h4, h5, h6⟩⟩
set_option maxRecDepth 100000 in
set_option maxHeartbeats 1000000 in
theorem own_new (kind wd len : Int) (sv : Value) (zs : List Int) (w : World) (h : IntSl w sv zs) (hn : zs.length ≤ 1048576) :
    Calls Tryz.prog 109 #[.agg #[.int .i64 kind, sv, .int .i64 wd, .int .i64 len]] w fun e w' => ∃ v, e = .returned (.agg #[.int .i64 kind, v, .int .i64 wd, .int .i64 len]) ∧ OwnI w' w.heap.size v zs ∧ Below w.heap.size w w' ∧ w.heap.size < w'.heap.size := by
  obtain ⟨a, c, rfl⟩ := h.len
  go_enter Tryz.func109, Tryz.ntmps109
  go_wp2_with fail
  go_region_held_law ((fun w' => (Blk w' (w.heap.size) #[.int .i64 kind, .slice a zs.length c, .int .i64 wd, .int .i64 len] 62 ∧ ∀ o, w'.cell? ⟨w.heap.size, o, none⟩ = (#[.int .i64 kind, .slice a zs.length c, .int .i64 wd, .int .i64 len] : Array Value)[o]?) ∧ Below w.heap.size w w')) (((try (obtain ⟨⟨hS0, _⟩, hSB⟩ := hHeld)); refine ⟨Blk.both ?_, ?_⟩ <;> first | ((repeat (first | (with_reducible assumption) | (with_reducible refine Blk.drewN ?_ _) | (with_reducible refine Blk.drew ?_) | ((with_reducible refine Blk.new _ ?_); focus (first | omega | (simp; done) | (simp; omega))) | (with_reducible refine Blk.past ?_ _) | ((with_reducible refine Blk.apart ?_ _ _ _ ?_); rotate_left; focus (first | omega | (simp; done) | (simp; omega))) | (with_reducible refine Blk.by (by assumption) ?_))); done) | ((repeat (first | (with_reducible exact Below.refl _ _) | (with_reducible refine below_drewN ?_ _) | (with_reducible refine Below.drew ?_) | (with_reducible refine below_al ?_ _) | (with_reducible refine below_on (by assumption) ?_) | ((with_reducible refine Below.setCell ?_ ?_ _); rotate_left; focus (first | omega | (simp; done) | (simp; omega))) | (with_reducible assumption))); done)))
    ((refine step_clone (by rfl) _ _ (by rfl) _ (by rfl) _ zs (by rfl) (h.by blwT) hn (w.heap.size + 2) (by simp; try omega) ?_; intro v w3 hO hb3; obtain ⟨a1, c1, rfl⟩ := hO.len; have k2 : Blk w3 (w.heap.size + 1) #[.int .i64 0, .slice none 0 0, .int .i64 0, .int .i64 0] 62 := blkT; have c2 := k2.cell; have f2 := k2.free; have l2 := k2.lt))
  go_wp2
  refine bodyPost_ret (v := .agg #[.int .i64 kind, .slice a1 zs.length c1, .int .i64 wd, .int .i64 len]) (by simp [results, Tryz.results109, go_sem, *]) rfl ⟨_, rfl, ?_, blwT, (by simp; omega)⟩
  refine OwnI.low ?_ (show w.heap.size ≤ w.heap.size + 2 by omega)
  repeat (first | (with_reducible exact hO) | ((with_reducible refine OwnI.apart ?_ _ _ _ ?_); rotate_left; focus omega))
set_option maxRecDepth 100000 in
set_option maxHeartbeats 4000000 in
theorem specSorted_len (ds : List Dv) (sv : Value) (w : World) (h : DvSl w sv ds) (hn : ds.length ≤ 400) (hpn : ∀ d ∈ ds, d.pins.length ≤ 1048576) :
    Calls Tryz.prog 102 #[sv] w fun e w' => ∃ v', e = .returned v' ∧ OwnDs w' w.heap.size w'.heap.size v' (srtD ds) ∧ Below w.heap.size w w' := by
  have HDS := Lib.hid h
  have HPN := Lib.hid hpn
  obtain ⟨a1, c1, rfl⟩ := h.sized
  clear h hpn
  go_enter Tryz.func102, Tryz.ntmps102
  go_wp2
  go_loopw [3, 4] (fun sv vi wr => ∃ (k g c : Nat) (L : List Tr), k ≤ ds.length ∧ k ≤ c ∧ vi = .int .i64 k ∧ sv = .slice (some ⟨g, 0, none⟩) k c ∧ Hid (L.length = k) ∧ Hid (Out wr w.heap.size (.slice (some ⟨g, 0, none⟩) k c) L) ∧ Hid (Asc L) ∧ Hid ((L.map (·.1)).Perm (ds.take k)) ∧ Below w.heap.size w wr) (fun _ vi _ => ds.length - (intOf vi).toNat)
  case atStart =>
    refine ⟨0, _, _, [], Nat.zero_le _, Nat.zero_le _, rfl, rfl, Lib.hid rfl, Lib.hid ⟨?_, ?_, (fun t ht => by simp at ht), by simp⟩, Lib.hid (by unfold Asc; exact List.Pairwise.nil), Lib.hid (by simp), blwT⟩
    · simp
    · exact row_lit (L := []) (Blk.new _ rfl) rfl (Nat.le_refl _) (by omega)
  case round =>
    obtain ⟨k, g, cv, L, hk, hkc, rfl, rfl, HLL, HO, HA, HP, hb⟩ := hrel
    by_cases hlt : k < ds.length
    · obtain ⟨x, hx⟩ : ∃ x, ds[k]? = some x := ⟨ds[k], List.getElem?_eq_getElem hlt⟩
      have HD := HDS.out
      rcases HD with ⟨_, _, _, h2⟩ | ⟨b, off, cap, he, h2, h3, h4⟩
      · rw [h2] at hlt; simp at hlt
      obtain ⟨rfl, rfl⟩ : a1 = some ⟨b, off, none⟩ ∧ c1 = cap := by simpa using he
      obtain ⟨sx, e1, e2, e3, e4, hSx⟩ := h4 k x hx
      have HSX := Lib.hid hSx
      have HX := Lib.hid hx
      have hxl := HPN.out x (List.mem_of_getElem? hx)
      have HOW := Lib.hid (fun w h => own_new x.kind x.wd x.len sx x.pins w h hxl)
      obtain ⟨ax, cx, rfl⟩ := hSx.len
      have i1 : (0 : Int) ≤ (k : Int) := by omega
      have i2 : (k : Int) < (ds.length : Int) := by omega
      have i2c : (k : Int) ≤ (cv : Int) := by omega
      have HE1 := Lib.hid e1
      have HE2 := Lib.hid e2
      have HE3 := Lib.hid e3
      have HE4 := Lib.hid e4
      have HQ0 := Lib.hid (show ∀ i y, k ≤ i → L[i]? = some y → dlt x y.1 = true from fun i y hi hy => by have := (List.getElem?_eq_some_iff.1 hy).1; rw [HLL.out] at this; omega)
      clear h4 hx hSx he e1 e2 e3 e4
      obtain ⟨wo, rfl⟩ : ∃ wo, wo = wr := ⟨_, rfl⟩
      go_wp2
      go_loopw [5] (fun vq wr => ∃ (q : Nat), q ≤ k ∧ vq = .int .i64 q ∧ Hid (∀ i y, q ≤ i → L[i]? = some y → dlt x y.1 = true) ∧ Hid (Out wr w.heap.size (.slice (some ⟨g, 0, none⟩) k cv) L) ∧ Below w.heap.size w wr) (fun vq _ => (intOf vq).toNat)
      case atStart => exact ⟨k, Nat.le_refl _, rfl, HQ0, HO, hb⟩
      case round =>
        clear HO hb HQ0
        obtain ⟨q, hq, rfl, HQ, HO, hb⟩ := hrel
        by_cases hq0 : 0 < q
        · obtain ⟨qp, rfl⟩ : ∃ qp, q = qp + 1 := ⟨q - 1, by omega⟩
          have d1 := cell_by' hb HE1.out
          have d2 := cell_by' hb HE2.out
          have d3 := cell_by' hb HE3.out
          have d4 := cell_by' hb HE4.out
          have hSx := HSX.out.by hb
          obtain ⟨t, ht⟩ : ∃ t, L[qp]? = some t := ⟨L[qp]'(by rw [HLL.out]; omega), List.getElem?_eq_getElem _⟩
          obtain ⟨hl0, hrow, hts, _⟩ := HO.out
          obtain ⟨⟨hot, _, _⟩, _⟩ := hts t (List.mem_of_getElem? ht)
          rw [HLL.out] at hrow
          obtain ⟨z1, z2, z3, z4⟩ := tcells_get L qp t ht
          have p1 := hrow.cells rfl _ _ z1
          have p2 := hrow.cells rfl _ _ z2
          have p3 := hrow.cells rfl _ _ z3
          have p4 := hrow.cells rfl _ _ z4
          simp only [Addr.add_lit, Nat.zero_add] at p1 p2 p3 p4
          have HT := Lib.hid ht
          have HNX := Lib.hid (show dlt x t.1 = true → ∀ i y, qp ≤ i → L[i]? = some y → dlt x y.1 = true from fun hd i y hi hy => by
            by_cases e : i = qp
            · subst e; rw [HT.out] at hy; cases hy; exact hd
            · exact HQ.out i y (by omega) hy)
          have HLT := Lib.hid (show dlt x t.1 = decide (dcf x t.1 < 0) from rfl)
          have HST := Lib.hid (show dlt x t.1 = false → ∀ y, L[qp + 1 - 1]? = some y → dlt x y.1 = false from fun hd y hy => by
            rw [Nat.add_sub_cancel, HT.out] at hy; cases hy; exact hd)
          have HCL := Lib.hid (fun W h1 h2 => specCompareDevices_any x.kind x.wd x.len t.1.kind t.1.wd t.1.len (.slice ax x.pins.length cx) t.2.1 x.pins t.1.pins W h1 h2)
          have HCF := Lib.hid (show devcmp x.kind t.1.kind x.pins t.1.pins x.wd t.1.wd x.len t.1.len = dcf x t.1 from rfl)
          rw [HCF.out] at HCL
          generalize dcf x t.1 = r at HCL HLT
          generalize dlt x t.1 = lt at HNX HLT HST
          obtain ⟨ay, cy, hty⟩ := hot.sl.len
          rw [hty] at p2 hot HCL
          have HY := Lib.hid hot.sl
          have HSW := Lib.hid hSx
          generalize t.1 = y at p1 p2 p3 p4 HCL HY
          have i3 : (0 : Int) < (qp : Int) + 1 := by omega
          have i4 : (qp : Int) < (k : Int) := by omega
          have wq : IntKind.i64.wrap (qp : Int) = (qp : Int) := by rw [IntKind.wrap_i64]; omega
          have hbl := lt_of_cell d1
          have hgl2 := lt_of_cell p1
          dsimp only at hbl hgl2
          have HSB : ∀ w' : World, Below wr.heap.size wr w' → (fun w' => w'.cell? ⟨b, off + k * 4, none⟩ = some (.int .i64 x.kind) ∧ w'.cell? ⟨b, off + k * 4 + 1, none⟩ = some (.slice ax x.pins.length cx) ∧ w'.cell? ⟨b, off + k * 4 + 2, none⟩ = some (.int .i64 x.wd) ∧ w'.cell? ⟨b, off + k * 4 + 3, none⟩ = some (.int .i64 x.len) ∧ w'.cell? ⟨g, qp * 4, none⟩ = some (.int .i64 y.kind) ∧ w'.cell? ⟨g, qp * 4 + 1, none⟩ = some (.slice ay y.pins.length cy) ∧ w'.cell? ⟨g, qp * 4 + 2, none⟩ = some (.int .i64 y.wd) ∧ w'.cell? ⟨g, qp * 4 + 3, none⟩ = some (.int .i64 y.len) ∧ Below wr.heap.size wr w') w' := fun w' hb => ⟨cell_by' hb d1, cell_by' hb d2, cell_by' hb d3, cell_by' hb d4, cell_by' hb p1, cell_by' hb p2, cell_by' hb p3, cell_by' hb p4, hb⟩
          clear ht hot hrow hts z1 z2 z3 z4 hty hSx HCF
          by_cases hr : r < 0
          · have HLT2 := Lib.hid (HLT.out.trans (decide_eq_true hr))
            go_wp2_with fail
            go_region_held3 (fun w' => w'.cell? ⟨b, off + k * 4, none⟩ = some (.int .i64 x.kind) ∧ w'.cell? ⟨b, off + k * 4 + 1, none⟩ = some (.slice ax x.pins.length cx) ∧ w'.cell? ⟨b, off + k * 4 + 2, none⟩ = some (.int .i64 x.wd) ∧ w'.cell? ⟨b, off + k * 4 + 3, none⟩ = some (.int .i64 x.len) ∧ w'.cell? ⟨g, qp * 4, none⟩ = some (.int .i64 y.kind) ∧ w'.cell? ⟨g, qp * 4 + 1, none⟩ = some (.slice ay y.pins.length cy) ∧ w'.cell? ⟨g, qp * 4 + 2, none⟩ = some (.int .i64 y.wd) ∧ w'.cell? ⟨g, qp * 4 + 3, none⟩ = some (.int .i64 y.len) ∧ Below wr.heap.size wr w') (((try (obtain ⟨_, _, _, _, _, _, _, _, hSB⟩ := hHeld)); refine HSB _ ?_; ((repeat (first | (with_reducible exact Below.refl _ _) | (with_reducible refine below_drewN ?_ _) | (with_reducible refine Below.drew ?_) | (with_reducible refine below_al ?_ _) | (with_reducible refine below_on (by assumption) ?_) | ((with_reducible refine Below.setCell ?_ ?_ _); rotate_left; focus (first | omega | (simp; done) | (simp; omega))) | (with_reducible assumption))); done)))
              (first | (go_at_call 59; refine (HCL.out _ (HSW.out.by blwT) (HY.out.by blwT)).mono ?_; rintro e w1 ⟨rfl, hb1⟩))
            all_goals
              have hb2 : Below wr.heap.size wr w1 := blwT
              go_wp2_with fail
              exact ⟨⟨qp, by omega, by rfl, Lib.hid (HNX.out HLT2.out), Lib.hid (HO.out.by hb2), below_on hb2 hb⟩, by simp [intOf]⟩
          · have HLT2 := Lib.hid (HLT.out.trans (decide_eq_false hr))
            go_wp2_with fail
            go_region_held3 (fun w' => w'.cell? ⟨b, off + k * 4, none⟩ = some (.int .i64 x.kind) ∧ w'.cell? ⟨b, off + k * 4 + 1, none⟩ = some (.slice ax x.pins.length cx) ∧ w'.cell? ⟨b, off + k * 4 + 2, none⟩ = some (.int .i64 x.wd) ∧ w'.cell? ⟨b, off + k * 4 + 3, none⟩ = some (.int .i64 x.len) ∧ w'.cell? ⟨g, qp * 4, none⟩ = some (.int .i64 y.kind) ∧ w'.cell? ⟨g, qp * 4 + 1, none⟩ = some (.slice ay y.pins.length cy) ∧ w'.cell? ⟨g, qp * 4 + 2, none⟩ = some (.int .i64 y.wd) ∧ w'.cell? ⟨g, qp * 4 + 3, none⟩ = some (.int .i64 y.len) ∧ Below wr.heap.size wr w') (((try (obtain ⟨_, _, _, _, _, _, _, _, hSB⟩ := hHeld)); refine HSB _ ?_; ((repeat (first | (with_reducible exact Below.refl _ _) | (with_reducible refine below_drewN ?_ _) | (with_reducible refine Below.drew ?_) | (with_reducible refine below_al ?_ _) | (with_reducible refine below_on (by assumption) ?_) | ((with_reducible refine Below.setCell ?_ ?_ _); rotate_left; focus (first | omega | (simp; done) | (simp; omega))) | (with_reducible assumption))); done)))
              (first | (go_at_call 59; refine (HCL.out _ (HSW.out.by blwT) (HY.out.by blwT)).mono ?_; rintro e w1 ⟨rfl, hb1⟩))
            all_goals
              have hb2 : Below wr.heap.size wr w1 := blwT
              have hb1w : Below w.heap.size w w1 := below_on hb2 hb
              have HO1 := Lib.hid (HO.out.by hb2)
              go_wp2_with fail
              have HL1 := Lib.hid (show qp + 1 = 0 ∨ ∀ y, L[qp + 1 - 1]? = some y → dlt x y.1 = false from .inr (HST.out HLT2.out))
              clear d1 d2 d3 d4 p1 p2 p3 p4 HSB HCL HNX HLT HST HSW HY HLT2 hr HO hb hbl hgl2 hb1 hb2
              obtain ⟨q, hqq⟩ : ∃ q, qp + 1 = q := ⟨_, rfl⟩
              rw [hqq] at HL1 hq HQ
              have hq1 : 0 < q := by omega
              rw [show ((qp : Int) + 1) = (q : Int) by omega]
              clear hqq i3 i4 wq
              by_cases hkq : k = q
              · rw [← hkq] at HL1 HQ ⊢
                have HQ1 := HQ
                have HKQ := Lib.hid hkq
                have hk1 : 0 < k := by omega
                clear hkq hq hq1
                have d1 := cell_by' hb1w HE1.out
                have d2 := cell_by' hb1w HE2.out
                have d3 := cell_by' hb1w HE3.out
                have d4 := cell_by' hb1w HE4.out
                have HSW := Lib.hid (HSX.out.by hb1w)
                have hbl := lt_of_cell d1
                dsimp only at hbl
                have hlo1 := hb1w.size
                go_region_law
                  (first | (go_simp; go_at_call 109; refine (HOW.out _ (HSW.out.by blwT)).mono ?_; rintro e w2 ⟨pv, rfl, hOI, hb2, hgr⟩; obtain ⟨f, hf1, hf2, hOR⟩ := hOI.pin0 hgr; have HOR := Lib.hid hOR; obtain ⟨ap, cp, rfl⟩ := hOR.sl.len; clear hOR hOI; have hf0 : w1.heap.size ≤ f := hf1; have hb21 : Below w1.heap.size w1 w2 := blwT; have HO2 := Lib.hid (HO1.out.by hb21); have hsz21 := hb21.size; dsimp only) | (refine step_appZ (by rfl) _ _ (by rfl) _ 1 1 _ _ (by rfl) (by rfl) (Nat.le_refl _) ?_))
                all_goals
                  have k3 : Blk (w2.alloc (.cells #[.int .i64 x.kind, .slice ap x.pins.length cp, .int .i64 x.wd, .int .i64 x.len] 62)) w2.heap.size #[.int .i64 x.kind, .slice ap x.pins.length cp, .int .i64 x.wd, .int .i64 x.len] 62 := Blk.new _ rfl
                  have hb3 : Below w1.heap.size w1 (w2.alloc (.cells #[.int .i64 x.kind, .slice ap x.pins.length cp, .int .i64 x.wd, .int .i64 x.len] 62)) := below_al hb21 _
                  have HR3 := Lib.hid (row_lit (lo := w.heap.size) (n := 1) (L := [(x, Value.slice ap x.pins.length cp, f)]) k3 rfl (by omega) (by omega))
                  have HF3 := Lib.hid (HOR.out.by ((Below.refl _ w2).alloc (Nat.le_refl _) (.cells #[.int .i64 x.kind, .slice ap x.pins.length cp, .int .i64 x.wd, .int .i64 x.len] 62)))
                  obtain ⟨gr, hgr0⟩ : ∃ gr, w2.heap.size = gr := ⟨_, rfl⟩
                  obtain ⟨w3, hw3⟩ : ∃ w3, w2.alloc (.cells #[.int .i64 x.kind, .slice ap x.pins.length cp, .int .i64 x.wd, .int .i64 x.len] 62) = w3 := ⟨_, rfl⟩
                  have hgr : w1.heap.size ≤ gr ∧ f < gr ∧ gr < w3.heap.size := by rw [← hw3]; simp; omega
                  rw [hgr0] at HR3 ⊢
                  rw [hw3] at hb3 HR3 HF3 ⊢
                  clear hw3 hgr0 k3
                  have HO3 := Lib.hid (HO1.out.by hb3)
                  have hb3w := below_on hb3 hb1w
                  have hsz3 := hb3.size
                  clear hb21 HO2 hsz21 HOR d1 d2 d3 d4 hbl
                  have HZ4 := Lib.hid (row_lit (lo := w.heap.size) (n := 0) (L := []) (Blk.new (w := w3) (T := 62) w3.heap.size rfl) rfl (by omega) (by omega))
                  have HRA := Lib.hid (HR3.out.kept (World.grownBy_alloc w3 (.cells #[] 62) none) (.inr (by simp [Value.ownBlock])))
                  go_wp2_with (first | (refine list_appT (by rfl) _ _ (by rfl) w.heap.size _ 0 [] (by rfl) HZ4.out ⟨g, 0, none⟩ k cv (tcells (L.take k)) (by rfl) (by rw [length_tcells, List.length_take, HLL.out]; omega) (row_news0 (by have := (HO3.out.by ((Below.refl _ w3).alloc (Nat.le_refl _) (.cells #[] 62))).2.1; rw [HLL.out] at this; exact this) k) (tcells_one (fun t ht => HO3.out.one t (List.mem_of_mem_take ht))) (by omega) (by omega) (by simp; omega) ?_; intro g4 c4 w4 hR4 hG4 hg4; simp only [Nat.zero_add, List.nil_append] at hR4; have HR4 := Lib.hid hR4; have HG4 := Lib.hid hG4; have HG4' := Lib.hid hg4; have HRB := Lib.hid (HRA.out.kept hG4 (.inr (by simp [Value.ownBlock]; omega))); have hlo4 := hG4.size; (try simp only [World.size_alloc] at hlo4); clear hR4 hG4 hg4) | (refine list_appT (by rfl) _ _ (by rfl) w.heap.size _ k _ (by rfl) HR4.out ⟨gr, 0, none⟩ 1 _ (tcells [(x, Value.slice ap x.pins.length cp, f)]) (by rfl) (by rw [length_tcells]; rfl) (fun j u hu => HRB.out.cells rfl j u hu) (tcells_one (L := [(x, Value.slice ap x.pins.length cp, f)]) (fun t ht => by obtain rfl : t = _ := List.mem_singleton.1 ht; rfl)) (by omega) (by omega) (by omega) ?_; intro g5 c5 w5 hR5 hG5 hg5; have HR5 := Lib.hid hR5; clear hR5))
                  have hg4 : w3.heap.size ≤ g4 := by
                    rcases HG4'.out with e | e
                    · have : w3.heap.size = g4 := by injection e
                      omega
                    · simp at e; omega
                  have hW4 : Within w3.heap.size (w3.heap.size + 1) (w3.alloc (.cells #[] 62)) w4 := grown_within HG4.out (fun g' e => by have : w3.heap.size = g' := (by injection e); omega)
                  have hb4 : Below w3.heap.size w3 w4 := hW4.below (below_al (Below.refl _ w3) _) (Nat.le_refl _)
                  have hW5 : Within g4 (g4 + 1) w4 w5 := grown_within hG5 (fun g' e => by have : g4 = g' := (by injection e); omega)
                  have hb5 : Below w3.heap.size w3 w5 := hW5.below hb4 (by omega)
                  have hg5' : w3.heap.size ≤ g5 := by
                    rcases hg5 with e | e
                    · have : g4 = g5 := by injection e
                      omega
                    · omega
                  have en5 : (k + 1) = k + 1 := by omega
                  have HR6 := HR5.out
                  rw [en5] at HR6
                  have hb5w := below_on hb5 hb3w
                  have hb51 := below_on hb5 hb3
                  have hfin := Out.insert (q := k) (f := f) (pv := .slice ap x.pins.length cp) (x := x) HO1.out HLL.out hb51 (by omega) (HF3.out.by hb5) (by omega) (by have := hb5.size; omega) (by omega) (by omega) (show w5.ownsRow w.heap.size 62 4 (.slice (some ⟨g5, 0, none⟩) (k + 1) c5) (k + 1) (tcells (L.take k) ++ (tcells [(x, Value.slice ap x.pins.length cp, f)] ++ tcells (L.drop k))) from by
                    have ed : L.drop k = [] := List.drop_eq_nil_of_le (by rw [HLL.out]; exact Nat.le_refl _)
                    rw [ed]
                    simpa [tcells] using HR6)
                  have hasc := HA.out.insert (x, .slice ap x.pins.length cp, f) k (by rw [HLL.out]; omega) HL1.out HQ1.out
                  have hkc5 : k + 1 ≤ c5 := by
                    rcases HR6.2 with ⟨e, _⟩ | ⟨_, _, _, e, _, _, h, _⟩
                    · cases e
                    · have : c5 = _ := (by injection e); omega
                  have hpm : ((L.take k ++ ((x, Value.slice ap x.pins.length cp, f) :: L.drop k)).map (·.1)).Perm (ds.take (k + 1)) := by
                    rw [take_snoc_of ds k x HX.out]
                    refine ((insert_perm L (x, Value.slice ap x.pins.length cp, f) k).map _).trans ?_
                    rw [List.map_append]
                    exact HP.out.append_right _
                  have hlen : (L.take k ++ ((x, Value.slice ap x.pins.length cp, f) :: L.drop k)).length = k + 1 := by rw [(insert_perm L _ k).length_eq, List.length_append, HLL.out]; rfl
                  (try rw [en5])
                  exact ⟨⟨k + 1, g5, c5, _, by omega, hkc5, by go_num, by first | rfl | (congr 1; omega), Lib.hid hlen, Lib.hid hfin, Lib.hid hasc, Lib.hid hpm, hb5w⟩, by simp [intOf]; omega⟩
              · have hqk : q < k := by omega
                have hcq : ¬ cv = q := by omega
                have iq1 : (0 : Int) ≤ (q : Int) := by omega
                have iq2 : (q : Int) ≤ (k : Int) := by omega
                have iq3 : (q : Int) ≤ (cv : Int) := by omega
                have HQ1 := HQ
                clear hkq
                have d1 := cell_by' hb1w HE1.out
                have d2 := cell_by' hb1w HE2.out
                have d3 := cell_by' hb1w HE3.out
                have d4 := cell_by' hb1w HE4.out
                have HSW := Lib.hid (HSX.out.by hb1w)
                have hbl := lt_of_cell d1
                dsimp only at hbl
                have hlo1 := hb1w.size
                go_region_law
                  (first | (go_simp; go_at_call 109; refine (HOW.out _ (HSW.out.by blwT)).mono ?_; rintro e w2 ⟨pv, rfl, hOI, hb2, hgr⟩; obtain ⟨f, hf1, hf2, hOR⟩ := hOI.pin0 hgr; have HOR := Lib.hid hOR; obtain ⟨ap, cp, rfl⟩ := hOR.sl.len; clear hOR hOI; have hf0 : w1.heap.size ≤ f := hf1; have hb21 : Below w1.heap.size w1 w2 := blwT; have HO2 := Lib.hid (HO1.out.by hb21); have hsz21 := hb21.size; dsimp only) | (refine step_appT (by rfl) _ _ (by rfl) w.heap.size _ 1 (tcells [(x, Value.slice ap x.pins.length cp, f)]) (by rfl) (row_lit (n := 1) (L := [(x, Value.slice ap x.pins.length cp, f)]) (Blk.new _ rfl) rfl (by omega) (by omega)) ⟨g, q * 4, none⟩ (k - q) (cv - q) (tcells (L.drop q)) (by rfl) (by rw [length_tcells, List.length_drop, HLL.out]) (row_news (by have := (HO2.out.by ((Below.refl _ w2).alloc (Nat.le_refl _) (.cells #[.int .i64 x.kind, .slice ap x.pins.length cp, .int .i64 x.wd, .int .i64 x.len] 62))).2.1; rw [HLL.out] at this; exact this) q) (tcells_one (fun t ht => HO2.out.one t (List.mem_of_mem_drop ht))) (by omega) (by omega) (by simp; omega) ?_; intro gr cr w3 hR3 hG3 hg3; have HR3 := Lib.hid hR3; clear hR3))
                all_goals
                  have hW3 : Within w2.heap.size (w2.heap.size + 1) (w2.alloc (.cells #[.int .i64 x.kind, .slice ap x.pins.length cp, .int .i64 x.wd, .int .i64 x.len] 62)) w3 := grown_within hG3 (fun g' e => by have : w2.heap.size = g' := (by injection e); omega)
                  have hb3 : Below w1.heap.size w1 w3 := hW3.below (below_al hb21 _) (by omega)
                  have HF3 := Lib.hid ((HOR.out.by ((Below.refl _ w2).alloc (Nat.le_refl _) (.cells #[.int .i64 x.kind, .slice ap x.pins.length cp, .int .i64 x.wd, .int .i64 x.len] 62))).past hW3 (by omega))
                  have hgr : w1.heap.size ≤ gr ∧ f < gr ∧ gr < w3.heap.size := by
                    have hlt := (HR3.out.lt gr rfl).2
                    rcases hg3 with e | e
                    · have : w2.heap.size = gr := by injection e
                      omega
                    · simp at e; omega
                  clear hG3 hg3 hW3
                  have HO3 := Lib.hid (HO1.out.by hb3)
                  have hb3w := below_on hb3 hb1w
                  have hsz3 := hb3.size
                  clear hb21 HO2 hsz21 HOR d1 d2 d3 d4 hbl
                  have HZ4 := Lib.hid (row_lit (lo := w.heap.size) (n := 0) (L := []) (Blk.new (w := w3) (T := 62) w3.heap.size rfl) rfl (by omega) (by omega))
                  have HRA := Lib.hid (HR3.out.kept (World.grownBy_alloc w3 (.cells #[] 62) none) (.inr (by simp [Value.ownBlock])))
                  go_wp2_with (first | (refine list_appT (by rfl) _ _ (by rfl) w.heap.size _ 0 [] (by rfl) HZ4.out ⟨g, 0, none⟩ q cv (tcells (L.take q)) (by rfl) (by rw [length_tcells, List.length_take, HLL.out]; omega) (row_news0 (by have := (HO3.out.by ((Below.refl _ w3).alloc (Nat.le_refl _) (.cells #[] 62))).2.1; rw [HLL.out] at this; exact this) q) (tcells_one (fun t ht => HO3.out.one t (List.mem_of_mem_take ht))) (by omega) (by omega) (by simp; omega) ?_; intro g4 c4 w4 hR4 hG4 hg4; simp only [Nat.zero_add, List.nil_append] at hR4; have HR4 := Lib.hid hR4; have HG4 := Lib.hid hG4; have HG4' := Lib.hid hg4; have HRB := Lib.hid (HRA.out.kept hG4 (.inr (by simp [Value.ownBlock]; omega))); have hlo4 := hG4.size; (try simp only [World.size_alloc] at hlo4); clear hR4 hG4 hg4) | (refine list_appT (by rfl) _ _ (by rfl) w.heap.size _ q _ (by rfl) HR4.out ⟨gr, 0, none⟩ (1 + (k - q)) _ (tcells [(x, Value.slice ap x.pins.length cp, f)] ++ tcells (L.drop q)) (by rfl) (by rw [List.length_append, length_tcells, length_tcells, List.length_drop, HLL.out]; show 1 * 4 + _ = _; omega) (fun j u hu => HRB.out.cells rfl j u hu) (fun u hu => (List.mem_append.1 hu).elim (tcells_one (L := [(x, Value.slice ap x.pins.length cp, f)]) (fun t ht => by obtain rfl : t = _ := List.mem_singleton.1 ht; rfl) u) (tcells_one (fun t ht => HO3.out.one t (List.mem_of_mem_drop ht)) u)) (by omega) (by omega) (by omega) ?_; intro g5 c5 w5 hR5 hG5 hg5; have HR5 := Lib.hid hR5; clear hR5))
                  have hg4 : w3.heap.size ≤ g4 := by
                    rcases HG4'.out with e | e
                    · have : w3.heap.size = g4 := by injection e
                      omega
                    · simp at e; omega
                  have hW4 : Within w3.heap.size (w3.heap.size + 1) (w3.alloc (.cells #[] 62)) w4 := grown_within HG4.out (fun g' e => by have : w3.heap.size = g' := (by injection e); omega)
                  have hb4 : Below w3.heap.size w3 w4 := hW4.below (below_al (Below.refl _ w3) _) (Nat.le_refl _)
                  have hW5 : Within g4 (g4 + 1) w4 w5 := grown_within hG5 (fun g' e => by have : g4 = g' := (by injection e); omega)
                  have hb5 : Below w3.heap.size w3 w5 := hW5.below hb4 (by omega)
                  have hg5' : w3.heap.size ≤ g5 := by
                    rcases hg5 with e | e
                    · have : g4 = g5 := by injection e
                      omega
                    · omega
                  have en5 : (q + (1 + (k - q))) = k + 1 := by omega
                  have HR6 := HR5.out
                  rw [en5] at HR6
                  have hb5w := below_on hb5 hb3w
                  have hb51 := below_on hb5 hb3
                  have hfin := Out.insert (q := q) (f := f) (pv := .slice ap x.pins.length cp) (x := x) HO1.out HLL.out hb51 (by omega) (HF3.out.by hb5) (by omega) (by have := hb5.size; omega) (by omega) (by omega) (show w5.ownsRow w.heap.size 62 4 (.slice (some ⟨g5, 0, none⟩) (k + 1) c5) (k + 1) (tcells (L.take q) ++ (tcells [(x, Value.slice ap x.pins.length cp, f)] ++ tcells (L.drop q))) from by
                    simpa [tcells] using HR6)
                  have hasc := HA.out.insert (x, .slice ap x.pins.length cp, f) q (by rw [HLL.out]; omega) HL1.out HQ1.out
                  have hkc5 : k + 1 ≤ c5 := by
                    rcases HR6.2 with ⟨e, _⟩ | ⟨_, _, _, e, _, _, h, _⟩
                    · cases e
                    · have : c5 = _ := (by injection e); omega
                  have hpm : ((L.take q ++ ((x, Value.slice ap x.pins.length cp, f) :: L.drop q)).map (·.1)).Perm (ds.take (k + 1)) := by
                    rw [take_snoc_of ds k x HX.out]
                    refine ((insert_perm L (x, Value.slice ap x.pins.length cp, f) q).map _).trans ?_
                    rw [List.map_append]
                    exact HP.out.append_right _
                  have hlen : (L.take q ++ ((x, Value.slice ap x.pins.length cp, f) :: L.drop q)).length = k + 1 := by rw [(insert_perm L _ q).length_eq, List.length_append, HLL.out]; rfl
                  (try rw [en5])
                  exact ⟨⟨k + 1, g5, c5, _, by omega, hkc5, by go_num, by first | rfl | (congr 1; omega), Lib.hid hlen, Lib.hid hfin, Lib.hid hasc, Lib.hid hpm, hb5w⟩, by simp [intOf]; omega⟩
        · obtain rfl : q = 0 := by omega
          have i4 : decide ((0 : Int) > 0) = false := by simp
          have HL1 := Lib.hid (show 0 = 0 ∨ ∀ y, L[0 - 1]? = some y → dlt x y.1 = false from .inl rfl)
          have HQ1 := HQ
          have hb2 : Below wr.heap.size wr wr.drew := below_of_drewN _ 1
          have hb1w := below_on hb2 hb
          have HO1 := Lib.hid (HO.out.by hb2)
          clear hb2 hq0
          go_wp2_with fail
          go_region
          all_goals go_wp2_with fail
          generalize wr.drew = w1 at *
          by_cases hkq : k = 0
          · subst hkq
            have d1 := cell_by' hb1w HE1.out
            have d2 := cell_by' hb1w HE2.out
            have d3 := cell_by' hb1w HE3.out
            have d4 := cell_by' hb1w HE4.out
            simp only [Nat.zero_mul, Nat.add_zero] at d1 d2 d3 d4
            have HSW := Lib.hid (HSX.out.by hb1w)
            have hbl := lt_of_cell d1
            dsimp only at hbl
            have hlo1 := hb1w.size
            go_region_law
              (first | (go_simp; go_at_call 109; refine (HOW.out _ (HSW.out.by blwT)).mono ?_; rintro e w2 ⟨pv, rfl, hOI, hb2, hgr⟩; obtain ⟨f, hf1, hf2, hOR⟩ := hOI.pin0 hgr; have HOR := Lib.hid hOR; obtain ⟨ap, cp, rfl⟩ := hOR.sl.len; clear hOR hOI; have hf0 : w1.heap.size ≤ f := hf1; have hb21 : Below w1.heap.size w1 w2 := blwT; have HO2 := Lib.hid (HO1.out.by hb21); have hsz21 := hb21.size; dsimp only) | (refine step_appZ (by rfl) _ _ (by rfl) _ 1 1 _ _ (by rfl) (by rfl) (Nat.le_refl _) ?_))
            all_goals
              have k3 : Blk (w2.alloc (.cells #[.int .i64 x.kind, .slice ap x.pins.length cp, .int .i64 x.wd, .int .i64 x.len] 62)) w2.heap.size #[.int .i64 x.kind, .slice ap x.pins.length cp, .int .i64 x.wd, .int .i64 x.len] 62 := Blk.new _ rfl
              have hb3 : Below w1.heap.size w1 (w2.alloc (.cells #[.int .i64 x.kind, .slice ap x.pins.length cp, .int .i64 x.wd, .int .i64 x.len] 62)) := below_al hb21 _
              have HR3 := Lib.hid (row_lit (lo := w.heap.size) (n := 1) (L := [(x, Value.slice ap x.pins.length cp, f)]) k3 rfl (by omega) (by omega))
              have HF3 := Lib.hid (HOR.out.by ((Below.refl _ w2).alloc (Nat.le_refl _) (.cells #[.int .i64 x.kind, .slice ap x.pins.length cp, .int .i64 x.wd, .int .i64 x.len] 62)))
              obtain ⟨gr, hgr0⟩ : ∃ gr, w2.heap.size = gr := ⟨_, rfl⟩
              obtain ⟨w3, hw3⟩ : ∃ w3, w2.alloc (.cells #[.int .i64 x.kind, .slice ap x.pins.length cp, .int .i64 x.wd, .int .i64 x.len] 62) = w3 := ⟨_, rfl⟩
              have hgr : w1.heap.size ≤ gr ∧ f < gr ∧ gr < w3.heap.size := by rw [← hw3]; simp; omega
              rw [hgr0] at HR3 ⊢
              rw [hw3] at hb3 HR3 HF3 ⊢
              clear hw3 hgr0 k3
              have HO3 := Lib.hid (HO1.out.by hb3)
              have hb3w := below_on hb3 hb1w
              have hsz3 := hb3.size
              clear hb21 HO2 hsz21 HOR d1 d2 d3 d4 hbl
              have HZ4 := Lib.hid (row_lit (lo := w.heap.size) (n := 0) (L := []) (Blk.new (w := w3) (T := 62) w3.heap.size rfl) rfl (by omega) (by omega))
              go_wp2_with (first | (refine list_appZ (by rfl) _ _ (by rfl) w3.heap.size 0 0 _ _ (by rfl) (by rfl) (Nat.le_refl _) ?_) | (refine list_appT (by rfl) _ _ (by rfl) w.heap.size _ 0 [] (by rfl) HZ4.out ⟨gr, 0, none⟩ 1 _ (tcells [(x, Value.slice ap x.pins.length cp, f)]) (by rfl) (by rw [length_tcells]; rfl) (fun j u hu => (HR3.out.kept (World.grownBy_alloc w3 _ none) (.inr (by simp [Value.ownBlock]))).cells rfl j u hu) (tcells_one (L := [(x, Value.slice ap x.pins.length cp, f)]) (fun t ht => by obtain rfl : t = _ := List.mem_singleton.1 ht; rfl)) (by omega) (by omega) (by simp; omega) ?_; intro g5 c5 w5 hR5 hG5 hg5; have HR5 := Lib.hid hR5; clear hR5))
              have hW5 : Within w3.heap.size (w3.heap.size + 1) (w3.alloc (.cells #[] 62)) w5 := grown_within hG5 (fun g' e => by have : w3.heap.size = g' := (by injection e); omega)
              have hb5 : Below w3.heap.size w3 w5 := hW5.below (below_al (Below.refl _ w3) _) (Nat.le_refl _)
              have hg5' : w3.heap.size ≤ g5 := by
                rcases hg5 with e | e
                · have : w3.heap.size = g5 := by injection e
                  omega
                · simp at e; omega
              have en5 : (0 + 1) = 0 + 1 := by omega
              have HR6 := HR5.out
              rw [en5] at HR6
              have hb5w := below_on hb5 hb3w
              have hb51 := below_on hb5 hb3
              have hfin := Out.insert (q := 0) (f := f) (pv := .slice ap x.pins.length cp) (x := x) HO1.out HLL.out hb51 (by omega) (HF3.out.by hb5) (by omega) (by have := hb5.size; omega) (by omega) (by omega) (show w5.ownsRow w.heap.size 62 4 (.slice (some ⟨g5, 0, none⟩) (0 + 1) c5) (0 + 1) (tcells (L.take 0) ++ (tcells [(x, Value.slice ap x.pins.length cp, f)] ++ tcells (L.drop 0))) from by
                have ed : L.drop 0 = [] := List.drop_eq_nil_of_le (by rw [HLL.out]; omega)
                rw [ed]
                simpa [tcells] using HR6)
              have hasc := HA.out.insert (x, .slice ap x.pins.length cp, f) 0 (by rw [HLL.out]; omega) (.inl rfl) HQ1.out
              have hkc5 : 0 + 1 ≤ c5 := by
                rcases HR6.2 with ⟨e, _⟩ | ⟨_, _, _, e, _, _, h, _⟩
                · cases e
                · have : c5 = _ := (by injection e); omega
              have hpm : ((L.take 0 ++ ((x, Value.slice ap x.pins.length cp, f) :: L.drop 0)).map (·.1)).Perm (ds.take (0 + 1)) := by
                rw [take_snoc_of ds 0 x HX.out]
                refine ((insert_perm L (x, Value.slice ap x.pins.length cp, f) 0).map _).trans ?_
                rw [List.map_append]
                exact HP.out.append_right _
              have hlen : (L.take 0 ++ ((x, Value.slice ap x.pins.length cp, f) :: L.drop 0)).length = 0 + 1 := by rw [(insert_perm L _ 0).length_eq, List.length_append, HLL.out]; rfl
              (try rw [en5])
              exact ⟨⟨0 + 1, g5, c5, _, by omega, hkc5, by go_num, by first | rfl | (congr 1; omega), Lib.hid hlen, Lib.hid hfin, Lib.hid hasc, Lib.hid hpm, hb5w⟩, by simp [intOf]; omega⟩
          · have hk1 : 0 < k := by omega
            have hcq : ¬ cv = 0 := by omega
            clear hkq
            have d1 := cell_by' hb1w HE1.out
            have d2 := cell_by' hb1w HE2.out
            have d3 := cell_by' hb1w HE3.out
            have d4 := cell_by' hb1w HE4.out
            have HSW := Lib.hid (HSX.out.by hb1w)
            have hbl := lt_of_cell d1
            dsimp only at hbl
            have hlo1 := hb1w.size
            go_region_law
              (first | (go_simp; go_at_call 109; refine (HOW.out _ (HSW.out.by blwT)).mono ?_; rintro e w2 ⟨pv, rfl, hOI, hb2, hgr⟩; obtain ⟨f, hf1, hf2, hOR⟩ := hOI.pin0 hgr; have HOR := Lib.hid hOR; obtain ⟨ap, cp, rfl⟩ := hOR.sl.len; clear hOR hOI; have hf0 : w1.heap.size ≤ f := hf1; have hb21 : Below w1.heap.size w1 w2 := blwT; have HO2 := Lib.hid (HO1.out.by hb21); have hsz21 := hb21.size; dsimp only) | (refine step_appT (by rfl) _ _ (by rfl) w.heap.size _ 1 (tcells [(x, Value.slice ap x.pins.length cp, f)]) (by rfl) (row_lit (n := 1) (L := [(x, Value.slice ap x.pins.length cp, f)]) (Blk.new _ rfl) rfl (by omega) (by omega)) ⟨g, 0 * 4, none⟩ (k - 0) (cv - 0) (tcells (L.drop 0)) (by rfl) (by rw [length_tcells, List.length_drop, HLL.out]) (row_news (by have := (HO2.out.by ((Below.refl _ w2).alloc (Nat.le_refl _) (.cells #[.int .i64 x.kind, .slice ap x.pins.length cp, .int .i64 x.wd, .int .i64 x.len] 62))).2.1; rw [HLL.out] at this; exact this) 0) (tcells_one (fun t ht => HO2.out.one t (List.mem_of_mem_drop ht))) (by omega) (by omega) (by simp; omega) ?_; intro gr cr w3 hR3 hG3 hg3; have HR3 := Lib.hid hR3; clear hR3))
            all_goals
              have hW3 : Within w2.heap.size (w2.heap.size + 1) (w2.alloc (.cells #[.int .i64 x.kind, .slice ap x.pins.length cp, .int .i64 x.wd, .int .i64 x.len] 62)) w3 := grown_within hG3 (fun g' e => by have : w2.heap.size = g' := (by injection e); omega)
              have hb3 : Below w1.heap.size w1 w3 := hW3.below (below_al hb21 _) (by omega)
              have HF3 := Lib.hid ((HOR.out.by ((Below.refl _ w2).alloc (Nat.le_refl _) (.cells #[.int .i64 x.kind, .slice ap x.pins.length cp, .int .i64 x.wd, .int .i64 x.len] 62))).past hW3 (by omega))
              have hgr : w1.heap.size ≤ gr ∧ f < gr ∧ gr < w3.heap.size := by
                have hlt := (HR3.out.lt gr rfl).2
                rcases hg3 with e | e
                · have : w2.heap.size = gr := by injection e
                  omega
                · simp at e; omega
              clear hG3 hg3 hW3
              have HO3 := Lib.hid (HO1.out.by hb3)
              have hb3w := below_on hb3 hb1w
              have hsz3 := hb3.size
              clear hb21 HO2 hsz21 HOR d1 d2 d3 d4 hbl
              have HZ4 := Lib.hid (row_lit (lo := w.heap.size) (n := 0) (L := []) (Blk.new (w := w3) (T := 62) w3.heap.size rfl) rfl (by omega) (by omega))
              go_wp2_with (first | (refine list_appZ (by rfl) _ _ (by rfl) w3.heap.size 0 0 _ _ (by rfl) (by rfl) (Nat.le_refl _) ?_) | (refine list_appT (by rfl) _ _ (by rfl) w.heap.size _ 0 [] (by rfl) HZ4.out ⟨gr, 0, none⟩ (1 + (k - 0)) _ (tcells [(x, Value.slice ap x.pins.length cp, f)] ++ tcells (L.drop 0)) (by rfl) (by rw [List.length_append, length_tcells, length_tcells, List.length_drop, HLL.out]; show 1 * 4 + _ = _; omega) (fun j u hu => (HR3.out.kept (World.grownBy_alloc w3 _ none) (.inr (by simp [Value.ownBlock]))).cells rfl j u hu) (fun u hu => (List.mem_append.1 hu).elim (tcells_one (L := [(x, Value.slice ap x.pins.length cp, f)]) (fun t ht => by obtain rfl : t = _ := List.mem_singleton.1 ht; rfl) u) (tcells_one (fun t ht => HO3.out.one t (List.mem_of_mem_drop ht)) u)) (by omega) (by omega) (by simp; omega) ?_; intro g5 c5 w5 hR5 hG5 hg5; have HR5 := Lib.hid hR5; clear hR5))
              have hW5 : Within w3.heap.size (w3.heap.size + 1) (w3.alloc (.cells #[] 62)) w5 := grown_within hG5 (fun g' e => by have : w3.heap.size = g' := (by injection e); omega)
              have hb5 : Below w3.heap.size w3 w5 := hW5.below (below_al (Below.refl _ w3) _) (Nat.le_refl _)
              have hg5' : w3.heap.size ≤ g5 := by
                rcases hg5 with e | e
                · have : w3.heap.size = g5 := by injection e
                  omega
                · simp at e; omega
              have en5 : (0 + (1 + (k - 0))) = k + 1 := by omega
              have HR6 := HR5.out
              rw [en5] at HR6
              have hb5w := below_on hb5 hb3w
              have hb51 := below_on hb5 hb3
              have hfin := Out.insert (q := 0) (f := f) (pv := .slice ap x.pins.length cp) (x := x) HO1.out HLL.out hb51 (by omega) (HF3.out.by hb5) (by omega) (by have := hb5.size; omega) (by omega) (by omega) (show w5.ownsRow w.heap.size 62 4 (.slice (some ⟨g5, 0, none⟩) (k + 1) c5) (k + 1) (tcells (L.take 0) ++ (tcells [(x, Value.slice ap x.pins.length cp, f)] ++ tcells (L.drop 0))) from by
                simpa [tcells] using HR6)
              have hasc := HA.out.insert (x, .slice ap x.pins.length cp, f) 0 (by rw [HLL.out]; omega) (.inl rfl) HQ1.out
              have hkc5 : k + 1 ≤ c5 := by
                rcases HR6.2 with ⟨e, _⟩ | ⟨_, _, _, e, _, _, h, _⟩
                · cases e
                · have : c5 = _ := (by injection e); omega
              have hpm : ((L.take 0 ++ ((x, Value.slice ap x.pins.length cp, f) :: L.drop 0)).map (·.1)).Perm (ds.take (k + 1)) := by
                rw [take_snoc_of ds k x HX.out]
                refine ((insert_perm L (x, Value.slice ap x.pins.length cp, f) 0).map _).trans ?_
                rw [List.map_append]
                exact HP.out.append_right _
              have hlen : (L.take 0 ++ ((x, Value.slice ap x.pins.length cp, f) :: L.drop 0)).length = k + 1 := by rw [(insert_perm L _ 0).length_eq, List.length_append, HLL.out]; rfl
              (try rw [en5])
              exact ⟨⟨k + 1, g5, c5, _, by omega, hkc5, by go_num, by first | rfl | (congr 1; omega), Lib.hid hlen, Lib.hid hfin, Lib.hid hasc, Lib.hid hpm, hb5w⟩, by simp [intOf]; omega⟩
    · obtain rfl : k = ds.length := by omega
      have e : L.map (·.1) = srtD ds := srtD_of (by have := HP.out; rwa [List.take_length] at this) (by have := HA.out; unfold Asc at this; rw [List.pairwise_map]; exact this)
      have hown := HO.out.own
      rw [e] at hown
      have i3 : ¬ (ds.length : Int) < (ds.length : Int) := by omega
      clear e
      go_wp2
      go_ret
      exact ⟨_, rfl, hown, hb⟩
theorem specSorted_any (ds : List Dv) (sv : Value) (w : World) (h : DvSl w sv ds) (hn : ds.length ≤ 400) (hpn : ∀ d ∈ ds, d.pins.length ≤ 1048576 ∧ d.pins ≠ []) :
    Calls Tryz.prog 102 #[sv] w fun e w' => ∃ v', e = .returned v' ∧ OwnDs w' w.heap.size w'.heap.size v' (srtD ds) ∧ Below w.heap.size w w' :=
  specSorted_len ds sv w h hn (fun d hd => (hpn d hd).1)
/- The program's SortDevices. -/
theorem dcmp_impl : DCmp 62 #[] := fun W x y sx sy hx hy => compareDevices_any x.kind x.wd x.len y.kind y.wd y.len sx sy x.pins y.pins W hx hy
/- Bounds of what SortDevices answers. -/
section
variable {P : Program} {ops : Array Oper} {Q : Exit → Act → World → Prop} {md : Region.Mode} {S : World → Prop} {l : Nat}
theorem opsL {i : Nat} {oi : Oper} (hi : ops.toList[i]? = some oi) : ops[i]? = some oi := by rw [← Array.getElem?_toList]; exact hi
theorem wpAnyE_takeL {i : Nat} {oi : Oper} {v : Value} {fuel : Nat} {listed : Array Bool} {a : Act} {w : World} (hi : ops.toList[i]? = some oi)
    (hk : (Region.noSelect ops && Region.free md ops listed i && (Region.ready md ops listed).contains i && headB md ops l listed && Region.sinkB md ops l && Region.chainB md ops l && decide (l < ops.size) && decide (i < l)) = true)
    (hQ : ∀ c a w, Q (.panic c) (a.put oi.dst v) w → Q (.panic c) a w) (hy : YieldsIf P ops S oi v a) (hS : S w)
    (h : wpAnyE P md ops Q S l fuel (listed.setIfInBounds i true) (a.put oi.dst v) w) : wpAnyE P md ops Q S l (fuel + 1) listed a w :=
  wpAnyE_take (opsL hi) hk hQ hy hS h
theorem wpAnyE_oneL {k : Nat} {o : Oper} {fuel : Nat} {listed : Array Bool} {a : Act} {w : World} (hr : Region.ready md ops listed = [k]) (ho : ops.toList[k]? = some o)
    (h : ∀ K' : Act → World → Prop, Shut (∀ a w, (k ≠ l → S w) → wpAnyE P md ops Q S l fuel (listed.setIfInBounds k true) a w → K' a w) → if Region.wanted o (yielded ops a.tmps) = true then Oper.wp P o a w K' Q else K' (a.put o.dst undef) w) :
    wpAnyE P md ops Q S l (fuel + 1) listed a w := wpAnyE_one hr (opsL ho) h
theorem wpAnyE_twoL {k k' : Nat} {o o' : Oper} {fuel : Nat} {listed : Array Bool} {a : Act} {w : World} (hr : Region.ready md ops listed = [k, k']) (ho : ops.toList[k]? = some o) (ho' : ops.toList[k']? = some o')
    (h : ∀ K' : Act → World → Prop, Shut (∀ a w, (k ≠ l → S w) → wpAnyE P md ops Q S l fuel (listed.setIfInBounds k true) a w → K' a w) → if Region.wanted o (yielded ops a.tmps) = true then Oper.wp P o a w K' Q else K' (a.put o.dst undef) w)
    (h' : ∀ K' : Act → World → Prop, Shut (∀ a w, (k' ≠ l → S w) → wpAnyE P md ops Q S l fuel (listed.setIfInBounds k' true) a w → K' a w) → if Region.wanted o' (yielded ops a.tmps) = true then Oper.wp P o' a w K' Q else K' (a.put o'.dst undef) w) :
    wpAnyE P md ops Q S l (fuel + 1) listed a w := by
  refine ⟨fun h0 => (by rw [h0] at hr; cases hr), fun i hi => ?_⟩
  rw [hr] at hi
  have hik : i = k ∨ i = k' := by simpa using hi
  rcases hik with rfl | rfl
  · exact wpOp_step (opsL ho) (fun K' hK => h K' (fun a w hS hW => hK a w ⟨hS, hW⟩))
  · exact wpOp_step (opsL ho') (fun K' hK => h' K' (fun a w hS hW => hK a w ⟨hS, hW⟩))
end
def ZBld (w : World) (g n c : Nat) (ds : List Dv) : Prop := w.ownsRow 0 62 4 (.slice (some ⟨g, 0, none⟩) n c) ds.length (dcells ds (ds.map fun _ => Value.slice none 0 0)) ∧ ds.length = n ∧ (∀ d ∈ ds, d.pins = []) ∧ g < w.heap.size
section
variable {w w' : World} {g n c : Nat} {ds : List Dv}
theorem ZBld.by (hb : Below w.heap.size w w') (h : ZBld w g n c ds) : ZBld w' g n c ds := by
  obtain ⟨h1, h2, h3, h4⟩ := h
  refine ⟨row_same h1 (fun g' hg' => ?_), h2, h3, Nat.lt_of_lt_of_le h4 hb.size⟩
  have : g = g' := by injection hg'
  subst this
  exact hb.block g h4
theorem ZBld.keep {g0 : Nat} (hgr : w.grownBy w' (some g0)) (hne : g ≠ g0) (h : ZBld w g n c ds) : ZBld w' g n c ds := by
  obtain ⟨h1, h2, h3, h4⟩ := h
  refine ⟨row_same h1 (fun g' hg' => ?_), h2, h3, Nat.lt_of_lt_of_le h4 hgr.size⟩
  have : g = g' := by injection hg'
  subst this
  exact hgr.block g h4 (fun e => hne (Option.some.inj e))
theorem ZBld.lit (h : Blk w g #[] 62) : ZBld w g 0 0 [] :=
  ⟨⟨rfl, .inr ⟨g, 0, #[], rfl, Nat.zero_le _, h, Nat.le_refl _, by unfold maxLen; omega, rfl, rfl⟩⟩, rfl, by simp, h.lt⟩
theorem ZBld.sl (h : ZBld w g n c ds) : DvSl w (.slice (some ⟨g, 0, none⟩) n c) ds := by
  obtain ⟨⟨hlen, h1⟩, h2, h3, h4⟩ := h
  rcases h1 with ⟨h1, hn⟩ | ⟨g', cap, cur, e1, e2, e3, e4, e5, e6, e7⟩
  · cases h1
  · obtain ⟨rfl, rfl⟩ : g = g' ∧ c = cap := by
      simp only [Value.slice.injEq, Option.some.injEq, Addr.mk.injEq, and_true] at e1
      exact ⟨e1.1, e1.2.2⟩
    refine .inr ⟨g, 0, c, by rw [h2], e4, e5, fun i x hx => ?_⟩
    have hil : i < ds.length := (List.getElem?_eq_some_iff.1 hx).1
    obtain ⟨q0, q1, q2, q3⟩ := dcells_get ds (ds.map fun _ => Value.slice none 0 0) i x (.slice none 0 0) hx (by rw [List.getElem?_map, hx]; rfl)
    have hB : Blk w g cur 62 := e3
    have at_ : ∀ j u, (dcells ds (ds.map fun _ => Value.slice none 0 0))[j]? = some u → w.cell? ⟨g, j, none⟩ = some u := fun j u hu => by
      rw [hB.cell]
      rw [← e7] at hu
      have hj : j < ds.length * 4 := by
        have := (List.getElem?_eq_some_iff.1 hu).1
        rw [List.length_take] at this; omega
      rw [List.getElem?_take_of_lt hj] at hu
      simpa using hu
    simp only [Nat.zero_add]
    exact ⟨.slice none 0 0, at_ _ _ q0, at_ _ _ q1, at_ _ _ q2, at_ _ _ q3, .inl ⟨_, _, rfl, h3 x (List.mem_of_getElem? hx)⟩⟩
end
theorem step_pushZ {ops : Array Oper} {o : Oper} {a : Act} {w : World} {K : Act → World → Prop} {Q : Exit → Act → World → Prop} {E : Prop} (hgd : o.guard = none) (s x : Operand)
    (ho : o.op = .call { callee := .builtin .append, args := #[s, x], argTypes := #[32, 32] })
    (g n c : Nat) (ds : List Dv) (hs : a.eval s = .slice (some ⟨g, 0, none⟩) n c) (h : ZBld w g n c ds) (nb : Nat) (d : Dv) (hd : d.pins = []) (hx : a.eval x = .slice (some ⟨nb, 0, none⟩) 1 1)
    (hnb : Blk w nb #[.int .i64 d.kind, .slice none 0 0, .int .i64 d.wd, .int .i64 d.len] 62) (hn : n ≤ 1000)
    (hK : ∀ g' c' w', ZBld w' g' (n + 1) c' (ds ++ [d]) → w.grownBy w' (some g) → (g' = g ∨ g' = w.heap.size) → K (a.put o.dst (.slice (some ⟨g', 0, none⟩) (n + 1) c')) w') :
    if Region.wanted o (yielded ops a.tmps) = true then Oper.wp Tryz.prog o a w K Q else E := by
  obtain ⟨i0, hi0, hz0, hz1, hz2⟩ := info_parts infoDev
  obtain ⟨h1, h2, h3, h4⟩ := h
  subst h2
  refine step_append_lies w hgd s x 32 ho 0 62 i0 _ 4 48 Tryz.underlying32 hi0 hz0 hz1 hz2 rfl (by decide) _ ds.length _ hs h1 ⟨nb, 0, none⟩ 1 1 [.int .i64 d.kind, .slice none 0 0, .int .i64 d.wd, .int .i64 d.len] hx rfl (World.news_of_block (cs := #[.int .i64 d.kind, .slice none 0 0, .int .i64 d.wd, .int .i64 d.len]) hnb) ?_ (by decide) (by unfold maxLen; omega) (by omega) (by omega) w.heap.size rfl ?_
  · intro u hu
    simp at hu
    rcases hu with rfl | rfl | rfl | rfl <;> rfl
  · intro g' cap w' hrow hgrow hg hgl
    refine hK g' cap w' ⟨?_, by rw [List.length_append, List.length_singleton], fun e he => ?_, hgl⟩ hgrow (hg.imp (fun e => (Option.some.inj e).symm) id)
    · rw [List.length_append, List.length_singleton, List.map_append, List.map_singleton, dcells_push ds _ d _ (by simp)]; exact hrow
    · rcases List.mem_append.1 he with he | he
      · exact h3 e he
      · rw [List.mem_singleton] at he; rw [he]; exact hd
theorem keep_blk {w w' : World} {b g : Nat} {cs : Array Value} {T : TypeId} (hgr : w.grownBy w' (some g)) (h : Blk w b cs T) (hne : b ≠ g) : Blk w' b cs T :=
  (hgr.block b h.lt (fun e => hne (Option.some.inj e))).trans h
theorem keep_below {a w w' : World} {g : Nat} (hgr : w.grownBy w' (some g)) (h : Below a.heap.size a w) (hg : a.heap.size ≤ g) : Below a.heap.size a w' :=
  (grown_within (lo := g) (hi := g + 1) hgr (fun k e => by injection e with e; omega)).below h hg
def IBld (w : World) (g n c : Nat) (zs : List Int) : Prop := w.ownsRow 0 2 1 (.slice (some ⟨g, 0, none⟩) n c) zs.length (icells zs) ∧ zs.length = n ∧ g < w.heap.size
section
variable {w w' : World} {g n c : Nat} {zs : List Int}
theorem IBld.by (hb : Below w.heap.size w w') (h : IBld w g n c zs) : IBld w' g n c zs := by
  obtain ⟨h1, h2, h4⟩ := h
  refine ⟨row_same h1 (fun g' hg' => ?_), h2, Nat.lt_of_lt_of_le h4 hb.size⟩
  have : g = g' := by injection hg'
  subst this
  exact hb.block g h4
theorem IBld.keep {g0 : Nat} (hgr : w.grownBy w' (some g0)) (hne : g ≠ g0) (h : IBld w g n c zs) : IBld w' g n c zs := by
  obtain ⟨h1, h2, h4⟩ := h
  refine ⟨row_same h1 (fun g' hg' => ?_), h2, Nat.lt_of_lt_of_le h4 hgr.size⟩
  have : g = g' := by injection hg'
  subst this
  exact hgr.block g h4 (fun e => hne (Option.some.inj e))
theorem IBld.lit (h : Blk w g #[] 2) : IBld w g 0 0 [] :=
  ⟨⟨rfl, .inr ⟨g, 0, #[], rfl, Nat.zero_le _, h, Nat.le_refl _, by unfold maxLen; omega, rfl, rfl⟩⟩, rfl, h.lt⟩
theorem IBld.apart {b o : Nat} {v : Value} (h : IBld w g n c zs) (hne : g ≠ b) : IBld (w.setCell ⟨b, o, none⟩ v) g n c zs := by
  obtain ⟨h1, h2, h4⟩ := h
  refine ⟨row_same h1 (fun g' hg' => ?_), h2, by simpa using h4⟩
  have : g = g' := by injection hg'
  subst this
  exact Below.heap_setCell w ⟨b, o, none⟩ v g hne
theorem IBld.bld (h : IBld w g n c zs) : BldI w g (g + 1) (.slice (some ⟨g, 0, none⟩) n c) zs := by
  obtain ⟨⟨hlen, h1⟩, h2, h4⟩ := h
  rcases h1 with ⟨h1, hn⟩ | ⟨g', cap, cur, e1, e2, e3⟩
  · cases h1
  · obtain ⟨rfl, rfl⟩ : g = g' ∧ c = cap := by
      simp only [Value.slice.injEq, Option.some.injEq, Addr.mk.injEq, and_true] at e1
      exact ⟨e1.1, e1.2.2⟩
    refine ⟨h4, ⟨hlen, .inr ⟨g, c, cur, e1, Nat.le_refl _, e3⟩⟩, fun k hk => ?_⟩
    have : g = k := by injection hk
    omega
end
theorem step_pushX {ops : Array Oper} {o : Oper} {a : Act} {w : World} {K : Act → World → Prop} {Q : Exit → Act → World → Prop} {E : Prop} (hgd : o.guard = none) (s x : Operand)
    (ho : o.op = .call { callee := .builtin .append, args := #[s, x], argTypes := #[27, 27] })
    (g n c : Nat) (zs : List Int) (hs : a.eval s = .slice (some ⟨g, 0, none⟩) n c) (h : IBld w g n c zs) (nb : Nat) (d : Int) (hx : a.eval x = .slice (some ⟨nb, 0, none⟩) 1 1)
    (hnb : Blk w nb #[.int .i64 d] 2) (hn : n ≤ 1000000)
    (hK : ∀ g' c' w', IBld w' g' (n + 1) c' (zs ++ [d]) → w.grownBy w' (some g) → (g' = g ∨ g' = w.heap.size) → K (a.put o.dst (.slice (some ⟨g', 0, none⟩) (n + 1) c')) w') :
    if Region.wanted o (yielded ops a.tmps) = true then Oper.wp Tryz.prog o a w K Q else E := by
  obtain ⟨i0, hi0, hz0, hz1, hz2⟩ := info_parts infoI
  obtain ⟨h1, h2, h4⟩ := h
  subst h2
  refine step_append_lies w hgd s x 27 ho 0 2 i0 _ 1 8 Tryz.underlying27 hi0 hz0 hz1 hz2 rfl (by decide) _ zs.length _ hs h1 ⟨nb, 0, none⟩ 1 1 [.int .i64 d] hx rfl (World.news_of_block (cs := #[.int .i64 d]) hnb) ?_ (by decide) (by unfold maxLen; omega) (by omega) (by omega) w.heap.size rfl ?_
  · intro u hu
    simp at hu
    subst hu; rfl
  · intro g' cap w' hrow hgrow hg hgl
    refine hK g' cap w' ⟨?_, by rw [List.length_append, List.length_singleton], hgl⟩ hgrow (hg.imp (fun e => (Option.some.inj e).symm) id)
    rw [List.length_append, List.length_singleton, icells_push]; exact hrow
theorem list_pushX {ops : Array Oper} {rest : List Oper} {o : Oper} {a : Act} {w : World} {Q : Exit → Act → World → Prop} (hgd : o.guard = none) (s x : Operand)
    (ho : o.op = .call { callee := .builtin .append, args := #[s, x], argTypes := #[27, 27] })
    (g n c : Nat) (zs : List Int) (hs : a.eval s = .slice (some ⟨g, 0, none⟩) n c) (h : IBld w g n c zs) (nb : Nat) (d : Int) (hx : a.eval x = .slice (some ⟨nb, 0, none⟩) 1 1)
    (hnb : Blk w nb #[.int .i64 d] 2) (hn : n ≤ 1000000)
    (hK : ∀ g' c' w', IBld w' g' (n + 1) c' (zs ++ [d]) → w.grownBy w' (some g) → (g' = g ∨ g' = w.heap.size) → wpList Tryz.prog ops Q rest (a.put o.dst (.slice (some ⟨g', 0, none⟩) (n + 1) c')) w') : wpList Tryz.prog ops Q (o :: rest) a w :=
  wpList_plain hgd fun K hk => by
    have h := step_pushX (ops := ops) (K := K) (Q := Q) (E := False) hgd s x ho g n c zs hs h nb d hx hnb hn (fun g' c' w' h1 h2 h3 => hk _ _ (hK g' c' w' h1 h2 h3))
    rwa [if_pos (by simp [Region.wanted, hgd])] at h
theorem infoBool : (Tryz.prog.info? 4).map (fun i => (i.zero, i.size, i.bytes)) = some (some (.bool false), 1, 1) := by kernel_rfl
theorem make_bools (n : Nat) (hn : n ≤ 1048576) (w : World) : ∃ cs : Array Value, cs.size = n ∧ (∀ i, i < n → cs[i]? = some (Value.bool false)) ∧ (Instr.makeSlice 124 (.int .i64 n) (.int .i64 n)).run Tryz.prog w = .ok (.slice (some ⟨w.heap.size, 0, none⟩) n n) (w.alloc (.cells cs 4)) := by
  obtain ⟨i0, hi, hz0, hz1, hz2⟩ := info_parts infoBool
  have h := run_make (P := Tryz.prog) w 124 4 i0 _ Tryz.underlying124 hi hz0 .i64 .i64 (n : Int) (n : Int) (by omega) (by omega) (by rw [hz2]; omega) (by omega)
  simp only [Int.toNat_natCast, hz1, Nat.mul_one] at h
  refine ⟨_, size_madeCells _ _, fun i hi => ?_, h⟩
  simp [madeCells, hi, Value.cells, Nat.mod_one]
def UsedB (w : World) (g n : Nat) (zs : List Int) : Prop := ∃ cs : Array Value, Blk w g cs 4 ∧ cs.size = n ∧ ∀ j : Nat, j < n → cs[j]? = some (.bool (zs.contains (j : Int)))
theorem UsedB.by {w w' : World} {g n : Nat} {zs : List Int} (hb : Below w.heap.size w w') (h : UsedB w g n zs) : UsedB w' g n zs := by
  obtain ⟨cs, a, b⟩ := h; exact ⟨cs, Blk.by hb a, b⟩
theorem UsedB.keep {w w' : World} {g g0 n : Nat} {zs : List Int} (hgr : w.grownBy w' (some g0)) (hne : g ≠ g0) (h : UsedB w g n zs) : UsedB w' g n zs := by
  obtain ⟨cs, a, b⟩ := h; exact ⟨cs, keep_blk hgr a hne, b⟩
theorem UsedB.cell {w : World} {g n j : Nat} {zs : List Int} (h : UsedB w g n zs) (hj : j < n) : w.cell? ⟨g, j, none⟩ = some (.bool (zs.contains (j : Int))) ∧ w.frozen? ⟨g, j, none⟩ = false ∧ g < w.heap.size := by
  obtain ⟨cs, a, b, c⟩ := h
  exact ⟨(a.cell j).trans (c j hj), a.free j, a.lt⟩
theorem UsedB.add {w : World} {g n k : Nat} {zs : List Int} (h : UsedB w g n zs) (hk : k < n) : UsedB (w.setCell ⟨g, k, none⟩ (.bool true)) g n (zs ++ [(k : Int)]) := by
  obtain ⟨cs, a, b, c⟩ := h
  refine ⟨_, a.set k _, by simpa using b, fun j hj => ?_⟩
  by_cases e : j = k
  · subst e
    rw [Array.getElem?_setIfInBounds_self_of_lt (by omega)]
    have : (zs ++ [(j : Int)]).contains (j : Int) = true := by simp
    rw [this]
  · rw [Array.getElem?_setIfInBounds_ne (by omega), c j hj]
    congr 2
    rw [List.contains_eq_mem, List.contains_eq_mem]
    refine decide_eq_decide.2 ⟨fun h => List.mem_append.2 (.inl h), fun h => ?_⟩
    rcases List.mem_append.1 h with h | h
    · exact h
    · rw [List.mem_singleton] at h; omega
structure Exc (E : Nat → Prop) (w w' : World) : Prop where
  os : w'.os = w.os
  tape : w'.tape = w.tape
  output : w'.output = w.output
  size : w.heap.size ≤ w'.heap.size
  block : ∀ k, k < w.heap.size → ¬ E k → w'.heap[k]? = w.heap[k]?
section
variable {E F : Nat → Prop} {a w w' : World} {lo hi : Nat}
theorem Exc.refl (E : Nat → Prop) (w : World) : Exc E w w := ⟨rfl, rfl, rfl, Nat.le_refl _, fun _ _ _ => rfl⟩
theorem Exc.ofBelow (h : Below w.heap.size w w') : Exc E w w' := ⟨h.os, h.tape, h.output, h.size, fun k hk _ => h.block k hk⟩
theorem Exc.ofWithin (h : Within lo hi w w') (hE : ∀ k, lo ≤ k → k < hi → E k) : Exc E w w' := ⟨h.os, h.tape, h.output, h.size, fun k hk hn => h.block k hk (by
  rcases Nat.lt_or_ge k lo with h1 | h1
  · exact .inl h1
  · rcases Nat.lt_or_ge k hi with h2 | h2
    · exact absurd (hE k h1 h2) hn
    · exact .inr h2)⟩
theorem Exc.mono (h : Exc E w w') (hE : ∀ k, k < w.heap.size → E k → F k) : Exc F w w' := ⟨h.os, h.tape, h.output, h.size, fun k hk hn => h.block k hk (fun e => hn (hE k hk e))⟩
theorem Exc.on (h : Exc E a w) (h' : Exc E w w') : Exc E a w' :=
  ⟨h'.os.trans h.os, h'.tape.trans h.tape, h'.output.trans h.output, Nat.le_trans h.size h'.size, fun k hk hn => (h'.block k (Nat.lt_of_lt_of_le hk h.size) hn).trans (h.block k hk hn)⟩
theorem Exc.thn (h : Exc E a w) (h' : Exc F w w') (hE : ∀ k, k < a.heap.size → F k → E k) : Exc E a w' :=
  ⟨h'.os.trans h.os, h'.tape.trans h.tape, h'.output.trans h.output, Nat.le_trans h.size h'.size, fun k hk hn => (h'.block k (Nat.lt_of_lt_of_le hk h.size) (fun e => hn (hE k hk e))).trans (h.block k hk hn)⟩
theorem Exc.set (h : Exc E a w) (g o : Nat) (v : Value) (hg : g < a.heap.size → E g) : Exc E a (w.setCell ⟨g, o, none⟩ v) :=
  ⟨h.os, h.tape, h.output, by simp [World.setCell]; exact h.size, fun k hk hn => (Below.heap_setCell w ⟨g, o, none⟩ v k (fun e => by subst e; exact hn (hg hk))).trans (h.block k hk hn)⟩
theorem Exc.alloc (h : Exc E a w) (o : Obj) : Exc E a (w.alloc o) :=
  ⟨h.os, h.tape, h.output, by have := h.size; simp; omega, fun k hk hn => (Below.heap_alloc w o k (by have := h.size; omega)).trans (h.block k hk hn)⟩
theorem Exc.drew (h : Exc E a w) : Exc E a w.drew := ⟨h.os, h.tape, h.output, h.size, h.block⟩
theorem Exc.drewN (h : Exc E a w) (n : Nat) : Exc E a (w.drewN n) := ⟨h.os, h.tape, h.output, h.size, h.block⟩
theorem Exc.below (h : Exc E w w') (hb : Below a.heap.size a w) (hE : ∀ k, k < a.heap.size → ¬ E k) : Below a.heap.size a w' :=
  hb.trans ⟨h.os, h.tape, h.output, h.size, fun k hk => h.block k (Nat.lt_of_lt_of_le hk hb.size) (hE k hk)⟩
theorem Exc.blk {f : Nat} {cs : Array Value} {T : TypeId} (h : Exc E w w') (hf : Blk w f cs T) (hne : ¬ E f) : Blk w' f cs T := (h.block f hf.lt hne).trans hf
variable {sv : Value} {zs : List Int}
theorem OwnR.exc (h : Exc E w w') (hO : OwnR w lo hi sv zs) (hE : ∀ k, lo ≤ k → k < hi → ¬ E k) : OwnR w' lo hi sv zs := by
  rcases hO with e | ⟨g, cap, cs, h1, h2, h2', h3, h4, h5, h6⟩
  · exact .inl e
  · exact .inr ⟨g, cap, cs, h1, h2, h2', h3, h4, h.blk h5 (hE g h2 h2'), h6⟩
theorem OwnDs.exc {ds : List Dv} (h : Exc E w w') (hO : OwnDs w lo hi sv ds) (hE : ∀ k, lo ≤ k → k < hi → ¬ E k) : OwnDs w' lo hi sv ds := by
  rcases hO with e | ⟨g, cap, cs, f, h1, h2, h3, h4, h5, h6, h7⟩
  · exact .inl e
  · refine .inr ⟨g, cap, cs, f, h1, h2, h3, h4, h.blk h5 (hE g h2.1 h2.2), fun i x hx => ?_, h7⟩
    obtain ⟨⟨pv, a, b⟩, c⟩ := h6 i x hx
    exact ⟨⟨pv, a, OwnR.exc h b (fun k h1 h2 => hE k (by omega) (by omega))⟩, c⟩
theorem BldI.exc (h : Exc E w w') (hO : BldI w lo hi sv zs) (hE : ∀ k, lo ≤ k → k < hi → ¬ E k) : BldI w' lo hi sv zs := by
  obtain ⟨hs, h1, h3⟩ := hO
  exact ⟨Nat.le_trans hs h.size, row_same h1 (fun g hg => h.block g (by have := h3 g hg; omega) (hE g (h3 g hg).1 (h3 g hg).2)), h3⟩
theorem UsedB.exc {g n : Nat} (h : Exc E w w') (hO : UsedB w g n zs) (hE : ¬ E g) : UsedB w' g n zs := by
  obtain ⟨cs, a, b⟩ := hO; exact ⟨cs, h.blk a hE, b⟩
theorem BldI.cut {k : Nat} {g c : Nat} {ys : List Int} (h : BldI w lo hi (.slice (some ⟨g, 0, none⟩) (zs ++ ys).length c) (zs ++ ys)) (hk : zs.length = k) : BldI w lo hi (.slice (some ⟨g, 0, none⟩) k c) zs := by
  subst hk
  obtain ⟨hs, ⟨h1, h2⟩, h3⟩ := h
  refine ⟨hs, ⟨by simp [icells], ?_⟩, h3⟩
  rcases h2 with ⟨h2, _⟩ | ⟨g', cap, cur, e1, e2, e3, e4, e5, e6, e7⟩
  · cases h2
  · simp only [Value.slice.injEq, Option.some.injEq, Addr.mk.injEq, and_true] at e1
    obtain ⟨rfl, _, rfl⟩ := e1
    rw [List.length_append] at e4 e7
    refine .inr ⟨g, c, cur, rfl, e2, e3, by omega, e5, by omega, ?_⟩
    have := congrArg (List.take (zs.length * 1)) e7
    rw [List.take_take, icells_push, List.take_left' (by simp [icells])] at this
    rw [← this]
    congr 1
    omega
def LlIn (w : World) (lo hi : Nat) (v : Value) (ls : List (List Int)) : Prop :=
  ∃ (N : Nat) (cs : Array Value), v = .slice (some ⟨N, 0, none⟩) ls.length ls.length ∧ (lo ≤ N ∧ N < hi) ∧ Blk w N cs 27 ∧ ls.length ≤ 1000 ∧ ∀ (j : Nat) xs, ls[j]? = some xs → ∃ s, cs[j]? = some s ∧ OwnR w lo hi s xs
theorem LlIn.exc {v : Value} {ls : List (List Int)} (h : Exc E w w') (hO : LlIn w lo hi v ls) (hE : ∀ k, lo ≤ k → k < hi → ¬ E k) : LlIn w' lo hi v ls := by
  obtain ⟨N, cs, h1, h2, h3, h4, h5⟩ := hO
  refine ⟨N, cs, h1, h2, h.blk h3 (hE N h2.1 h2.2), h4, fun j xs hx => ?_⟩
  obtain ⟨s, a, b⟩ := h5 j xs hx
  exact ⟨s, a, OwnR.exc h b hE⟩
theorem LlIn.by {v : Value} {ls : List (List Int)} (h : Below w.heap.size w w') (hO : LlIn w lo hi v ls) : LlIn w' lo hi v ls := hO.exc (E := fun _ => False) (Exc.ofBelow h) (fun _ _ _ e => e)
theorem LlIn.row {v : Value} {ls : List (List Int)} {j : Nat} {xs : List Int} (hO : LlIn w lo hi v ls) (h : ls[j]? = some xs) : ∃ N s, v = .slice (some ⟨N, 0, none⟩) ls.length ls.length ∧ w.cell? ⟨N, j, none⟩ = some s ∧ IntSl w s xs ∧ N < w.heap.size := by
  obtain ⟨N, cs, h1, h2, h3, h4, h5⟩ := hO
  obtain ⟨s, a, b⟩ := h5 j xs h
  exact ⟨N, s, h1, (h3.cell j).trans a, b.sl, h3.lt⟩
theorem OwnDs.atE {ds : List Dv} {i : Nat} {x : Dv} (h : OwnDs w lo hi sv ds) (hx : ds[i]? = some x) : ∃ g cap f pv, sv = .slice (some ⟨g, 0, none⟩) ds.length cap ∧ g < w.heap.size ∧ w.cell? ⟨g, i * 4, none⟩ = some (.int .i64 x.kind) ∧ w.cell? ⟨g, i * 4 + 1, none⟩ = some pv ∧ w.cell? ⟨g, i * 4 + 2, none⟩ = some (.int .i64 x.wd) ∧ w.cell? ⟨g, i * 4 + 3, none⟩ = some (.int .i64 x.len) ∧ OwnR w f (f + 1) pv x.pins ∧ lo ≤ f ∧ f < hi := by
  rcases h with ⟨_, _, _, rfl⟩ | ⟨g, cap, cs, f, h1, h2, h3, h4, h5, h6, h7⟩
  · simp at hx
  · obtain ⟨⟨pv, ⟨e1, e2, e3, e4⟩, b⟩, c⟩ := h6 i x hx
    have hc := h5.cell
    exact ⟨g, cap, f i, pv, h1, h5.lt, (hc _).trans e1, (hc _).trans e2, (hc _).trans e3, (hc _).trans e4, b, c.1, c.2.1⟩
end
def RB (w : World) (g n c : Nat) (L : List Tr) : Prop := w.ownsRow 0 62 4 (.slice (some ⟨g, 0, none⟩) n c) n (tcells L) ∧ L.length = n ∧ g < w.heap.size ∧ ∀ t ∈ L, OwnR w t.2.2 (t.2.2 + 1) t.2.1 t.1.pins ∧ t.2.2 < w.heap.size ∧ t.2.2 ≠ g
section
variable {w w' : World} {g n c : Nat} {L : List Tr}
theorem RB.exc {E : Nat → Prop} (h : Exc E w w') (hR : RB w g n c L) (hg : ¬ E g) (hE : ∀ t ∈ L, ¬ E t.2.2) : RB w' g n c L := by
  obtain ⟨h1, h2, h3, h4⟩ := hR
  refine ⟨row_same h1 (fun g' hg' => ?_), h2, Nat.lt_of_lt_of_le h3 h.size, fun t ht => ?_⟩
  · have : g = g' := by injection hg'
    subst this
    exact h.block g h3 hg
  · obtain ⟨a, b, c⟩ := h4 t ht
    exact ⟨OwnR.exc h a (fun k h1 h2 e => hE t ht ((show k = t.2.2 by omega) ▸ e)), Nat.lt_of_lt_of_le b h.size, c⟩
theorem RB.by (hb : Below w.heap.size w w') (hR : RB w g n c L) : RB w' g n c L := hR.exc (E := fun _ => False) (Exc.ofBelow hb) (fun e => e) (fun _ _ e => e)
theorem grown_exc {g0 : Nat} (h : w.grownBy w' (some g0)) : Exc (fun k => k = g0) w w' := ⟨h.os, h.tape, h.output, h.size, fun k hk hn => h.block k hk (fun e => hn (Option.some.inj e))⟩
theorem RB.lit (h : Blk w g #[] 62) : RB w g 0 0 [] :=
  ⟨⟨rfl, .inr ⟨g, 0, #[], rfl, Nat.zero_le _, h, Nat.le_refl _, by unfold maxLen; omega, rfl, rfl⟩⟩, rfl, h.lt, by simp⟩
theorem RB.one (h : RB w g n c L) : ∀ t ∈ L, t.2.1.oneCell' = true := by
  intro t ht
  obtain ⟨a, b⟩ := h.2.2.2 t ht
  rcases a with ⟨_, _, e, _⟩ | ⟨_, _, _, e, _⟩ <;> rw [e] <;> rfl
theorem RB.cells (h : RB w g n c L) : ∃ cur, Blk w g cur 62 ∧ n ≤ c ∧ c ≤ maxLen ∧ ∀ (j : Nat) u, (tcells L)[j]? = some u → cur[j]? = some u := by
  obtain ⟨⟨h0, h1⟩, h2, h3, h4⟩ := h
  rcases h1 with ⟨h1, _⟩ | ⟨g', cap, cur, e1, e2, e3, e4, e5, e6, e7⟩
  · cases h1
  · simp only [Value.slice.injEq, Option.some.injEq, Addr.mk.injEq, and_true] at e1
    obtain ⟨rfl, _, rfl⟩ := e1
    exact ⟨cur, e3, e4, e5, row_cur (g := g) (cap := c) e7⟩
theorem RB.row (h : RB w g n c L) : DRow w g (L.map fun t => (t.1, t.2.2)).toArray := by
  obtain ⟨cur, hB, _, _, hc⟩ := h.cells
  refine ⟨cur, hB, fun i hi => ?_⟩
  have hil : i < L.length := by simpa using hi
  have ht : L[i]? = some L[i] := List.getElem?_eq_getElem hil
  have hbang : (L.map fun t => (t.1, t.2.2)).toArray[i]! = (L[i].1, L[i].2.2) := by
    rw [getBang _ _ hi]
    simp
  rw [hbang]
  obtain ⟨a, b, d⟩ := h.2.2.2 _ (List.mem_of_getElem? ht)
  obtain ⟨q0, q1, q2, q3⟩ := tcells_get L i _ ht
  exact ⟨⟨_, ⟨hc _ _ q0, hc _ _ q1, hc _ _ q2, hc _ _ q3⟩, a⟩, d⟩
theorem RB.push {x : Dv} {pv : Value} {f g' c' : Nat} (h : RB w g n c L) (hx : OwnR w f (f + 1) pv x.pins) (hf : f < w.heap.size) (hfg : f ≠ g)
    (h1 : w'.ownsRow 0 62 4 (.slice (some ⟨g', 0, none⟩) (n + 1) c') (n + 1) (tcells L ++ [.int .i64 x.kind, pv, .int .i64 x.wd, .int .i64 x.len])) (h2 : w.grownBy w' (some g)) (h3 : g' = g ∨ g' = w.heap.size) (hg' : g' < w'.heap.size) : RB w' g' (n + 1) c' (L ++ [(x, pv, f)]) := by
  obtain ⟨e1, e2, e3, e4⟩ := h
  have hE := grown_exc h2
  refine ⟨by rw [tcells_append]; exact h1, by rw [List.length_append, e2]; rfl, hg', fun t ht => ?_⟩
  rcases List.mem_append.1 ht with ht | ht
  · obtain ⟨a, b, c⟩ := e4 t ht
    exact ⟨OwnR.exc hE a (fun k h1 h2 (e : k = g) => c (by omega)), Nat.lt_of_lt_of_le b hE.size, by omega⟩
  · obtain rfl : t = (x, pv, f) := by simpa using ht
    exact ⟨OwnR.exc hE hx (fun k h1 h2 (e : k = g) => hfg (by dsimp only at h1 h2; omega)), Nat.lt_of_lt_of_le hf hE.size, by dsimp only; omega⟩
end
theorem step_pushR {ops : Array Oper} {o : Oper} {a : Act} {w : World} {K : Act → World → Prop} {Q : Exit → Act → World → Prop} {E : Prop} (hgd : o.guard = none) (s x : Operand)
    (ho : o.op = .call { callee := .builtin .append, args := #[s, x], argTypes := #[32, 32] })
    (g n c : Nat) (L : List Tr) (hs : a.eval s = .slice (some ⟨g, 0, none⟩) n c) (h : RB w g n c L) (nb : Nat) (d : Dv) (pv : Value) (f : Nat) (hx : a.eval x = .slice (some ⟨nb, 0, none⟩) 1 1)
    (hnb : Blk w nb #[.int .i64 d.kind, pv, .int .i64 d.wd, .int .i64 d.len] 62) (hd : OwnR w f (f + 1) pv d.pins) (hf : f < w.heap.size) (hfg : f ≠ g) (hn : n + 1 ≤ 1000)
    (hK : ∀ g' c' w', RB w' g' (n + 1) c' (L ++ [(d, pv, f)]) → w.grownBy w' (some g) → (g' = g ∨ g' = w.heap.size) → K (a.put o.dst (.slice (some ⟨g', 0, none⟩) (n + 1) c')) w') :
    if Region.wanted o (yielded ops a.tmps) = true then Oper.wp Tryz.prog o a w K Q else E := by
  have hone : pv.oneCell' = true := by rcases hd with ⟨_, _, e, _⟩ | ⟨_, _, _, e, _⟩ <;> rw [e] <;> rfl
  refine step_appT hgd s x ho 0 _ n _ hs h.1 ⟨nb, 0, none⟩ 1 1 [.int .i64 d.kind, pv, .int .i64 d.wd, .int .i64 d.len] hx rfl (World.news_of_block (cs := #[.int .i64 d.kind, pv, .int .i64 d.wd, .int .i64 d.len]) hnb) ?_ (by decide) hn (Nat.zero_le _) ?_
  · intro u hu
    simp at hu
    rcases hu with rfl | rfl | rfl | rfl
    · rfl
    · exact hone
    · rfl
    · rfl
  · intro g' c' w' h1 h2 h3
    have h3' : g' = g ∨ g' = w.heap.size := h3.imp (fun e => (Option.some.inj e).symm) id
    exact hK g' c' w' (h.push hd hf hfg h1 h2 h3' (h1.lt g' rfl).2) h2 h3'
theorem list_pushR {ops : Array Oper} {rest : List Oper} {o : Oper} {a : Act} {w : World} {Q : Exit → Act → World → Prop} (hgd : o.guard = none) (s x : Operand)
    (ho : o.op = .call { callee := .builtin .append, args := #[s, x], argTypes := #[32, 32] })
    (g n c : Nat) (L : List Tr) (hs : a.eval s = .slice (some ⟨g, 0, none⟩) n c) (h : RB w g n c L) (nb : Nat) (d : Dv) (pv : Value) (f : Nat) (hx : a.eval x = .slice (some ⟨nb, 0, none⟩) 1 1)
    (hnb : Blk w nb #[.int .i64 d.kind, pv, .int .i64 d.wd, .int .i64 d.len] 62) (hd : OwnR w f (f + 1) pv d.pins) (hf : f < w.heap.size) (hfg : f ≠ g) (hn : n + 1 ≤ 1000)
    (hK : ∀ g' c' w', RB w' g' (n + 1) c' (L ++ [(d, pv, f)]) → w.grownBy w' (some g) → (g' = g ∨ g' = w.heap.size) → wpList Tryz.prog ops Q rest (a.put o.dst (.slice (some ⟨g', 0, none⟩) (n + 1) c')) w') : wpList Tryz.prog ops Q (o :: rest) a w :=
  wpList_plain hgd fun K hk => by
    have h := step_pushR (ops := ops) (K := K) (Q := Q) (E := False) hgd s x ho g n c L hs h nb d pv f hx hnb hd hf hfg hn (fun g' c' w' h1 h2 h3 => hk _ _ (hK g' c' w' h1 h2 h3))
    rwa [if_pos (by simp [Region.wanted, hgd])] at h
open Go.Sort (swp PermIn SortedIn SWO size_swp swp_get swp_other swp_left swp_right Ins)
set_option maxRecDepth 100000 in
set_option maxHeartbeats 2000000 in
theorem max_any (sv : Value) (zs : List Int) (w : World) (h : IntSl w sv zs) (hne : zs ≠ []) (hl : zs.length ≤ 1000) :
    Calls Tryz.prog 158 #[sv] w fun e w' => ∃ m, e = .returned (.int .i64 m) ∧ m ∈ zs ∧ (∀ z ∈ zs, z ≤ m) ∧ w = w' := by
  have H := Lib.hid h
  obtain ⟨n, hn⟩ : ∃ n, zs.length = n := ⟨_, rfl⟩
  have hpos : 0 < n := by
    rcases Nat.eq_zero_or_pos n with e | e
    · exact absurd (List.eq_nil_of_length_eq_zero (by omega)) hne
    · exact e
  rcases h with ⟨_, _, _, h2⟩ | ⟨b, off, cap, rfl, _, _, h4⟩
  · exact absurd h2 hne
  have H4 := Lib.hid h4
  have HN := Lib.hid hn
  rw [hn] at hl ⊢
  obtain ⟨z0, hz0⟩ : ∃ z, zs[0]? = some z := ⟨_, List.getElem?_eq_getElem (by omega)⟩
  have c0 := h4 0 z0 hz0
  rw [Nat.add_zero] at c0
  have HZ0 := Lib.hid hz0
  have i0 : ¬ (n : Int) < 1 := by omega
  have i1 : (0 : Int) < (n : Int) := by omega
  have i2 : decide (0 < n) = true := decide_eq_true hpos
  clear h4 hn hne hz0 H
  go_enter Tryz.func158, Tryz.ntmps158
  go_wp2
  go_loopw [3, 4] (fun mv iv wr => ∃ (i : Nat) (m : Int), 1 ≤ i ∧ i ≤ n ∧ mv = .int .i64 m ∧ iv = .int .i64 (i : Int) ∧ Hid (m ∈ zs) ∧ Hid (∀ (j : Nat) z, j < i → zs[j]? = some z → z ≤ m) ∧ w = wr) (fun _ iv _ => n - (intOf iv).toNat)
  case atStart =>
    refine ⟨1, z0, Nat.le_refl _, by omega, rfl, rfl, Lib.hid (List.mem_of_getElem? HZ0.out), Lib.hid (fun j z hj hz => ?_), rfl⟩
    obtain rfl : j = 0 := by omega
    rw [HZ0.out] at hz
    injection hz with hz
    omega
  case round =>
    clear c0 i0 i1 i2
    obtain ⟨i, m, hi1, hi2, rfl, rfl, HM, HA, rfl⟩ := hrel
    by_cases hlt : i < n
    · obtain ⟨z, hz⟩ : ∃ z, zs[i]? = some z := ⟨_, List.getElem?_eq_getElem (by rw [HN.out]; exact hlt)⟩
      have c1 := H4.out i z hz
      have HZ := Lib.hid hz
      have j1 : (i : Int) < (n : Int) := by omega
      have j2 : decide (i < n) = true := decide_eq_true hlt
      clear hz
      have HT := Lib.hid (show (if m < z then z else m) ∈ zs ∧ ∀ (j : Nat) y, j < i + 1 → zs[j]? = some y → y ≤ (if m < z then z else m) from by
        refine ⟨?_, fun j y hj hy => ?_⟩
        · split
          · exact List.mem_of_getElem? HZ.out
          · exact HM.out
        · by_cases e : j = i
          · subst e
            rw [HZ.out] at hy
            injection hy with hy
            split <;> omega
          · have := HA.out j y (by omega) hy
            split <;> omega)
      go_wp2
      exact ⟨⟨i + 1, _, by omega, by omega, rfl, by go_num, Lib.hid (by first | exact HT.out.1 | (rw [show max m z = if m < z then z else m by split <;> omega]; exact HT.out.1)), Lib.hid (by first | exact HT.out.2 | (rw [show max m z = if m < z then z else m by split <;> omega]; exact HT.out.2)), by first | trivial | rfl⟩, by simp [intOf]; omega⟩
    · obtain rfl : n = i := by omega
      have j1 : ¬ (n : Int) < (n : Int) := by omega
      go_wp2
      go_ret
      refine ⟨m, rfl, HM.out, fun z hz => ?_, rfl⟩
      obtain ⟨j, hj, rfl⟩ := List.mem_iff_getElem.1 hz
      exact HA.out j _ (by rw [← HN.out]; exact hj) (List.getElem?_eq_getElem hj)
set_option maxRecDepth 100000 in
set_option maxHeartbeats 2000000 in
theorem containsI_any (sv : Value) (zs : List Int) (k : Int) (w : World) (h : IntSl w sv zs) (hl : zs.length ≤ 1000) :
    Calls Tryz.prog 95 #[sv, .int .i64 k] w fun e w' => e = .returned (.bool (zs.contains k)) ∧ w = w' := by
  obtain ⟨R, hR⟩ : ∃ R, zs.contains k = R := ⟨_, rfl⟩
  rw [hR]
  have HRR := Lib.hid hR
  clear hR
  have hI : Calls Tryz.prog 135 #[sv, .int .i64 k] w fun e w' => (∃ q : Int, e = .returned (.int .i64 q) ∧ decide (0 ≤ q) = R) ∧ w = w' := by
    have H := Lib.hid h
    obtain ⟨a, c, rfl⟩ := h.len
    obtain ⟨n, hn⟩ : ∃ n, zs.length = n := ⟨_, rfl⟩
    rw [hn] at H hl ⊢
    have HN := Lib.hid hn
    have HTK := Lib.hid (show zs.take n = zs from by rw [← hn]; exact List.take_length)
    clear h hn
    go_enter Tryz.func135, Tryz.ntmps135
    go_wp2
    go_loopw [8] (fun iv wr => ∃ i : Nat, i ≤ n ∧ iv = .int .i64 (i : Int) ∧ Hid ((zs.take i).contains k = false) ∧ w = wr) (fun iv _ => n - (intOf iv).toNat)
    case atStart => exact ⟨0, Nat.zero_le _, rfl, Lib.hid (by simp), rfl⟩
    case round =>
      obtain ⟨i, hi, rfl, HF, rfl⟩ := hrel
      by_cases hlt : i < n
      · obtain ⟨z, hz⟩ : ∃ z, zs[i]? = some z := ⟨_, List.getElem?_eq_getElem (by rw [HN.out]; exact hlt)⟩
        have HCS := Lib.hid (show (zs.take (i + 1)).contains k = (z == k) from by
          rw [take_snoc_of zs i z hz]
          have hF := HF.out
          cases hzk : (z == k) with
          | true =>
            rw [List.contains_eq_mem]
            exact decide_eq_true (List.mem_append.2 (.inr (by rw [eq_of_beq hzk]; simp)))
          | false =>
            rw [List.contains_eq_mem] at hF ⊢
            refine decide_eq_false (fun q => ?_)
            rcases List.mem_append.1 q with q | q
            · exact of_decide_eq_false hF q
            · rw [List.mem_singleton] at q; rw [q] at hzk; simp at hzk)
        have HIN := Lib.hid (show z = k → R = true from fun e => by
          rw [← HRR.out, List.contains_eq_mem]
          exact decide_eq_true (by rw [← e]; exact List.mem_of_getElem? hz))
        obtain ⟨nb, no, nc, hen, ln, cns⟩ := H.out.nm (by rw [HN.out]; omega)
        obtain ⟨rfl, rfl⟩ : a = some ⟨nb, no, none⟩ ∧ c = nc := by
          simp only [Value.slice.injEq] at hen
          exact ⟨hen.1, hen.2.2⟩
        have cz := cns i (by rw [HN.out]; exact hlt)
        have e5 : nmOf zs (i : Int) = z := by unfold nmOf; rw [Int.toNat_natCast, List.getD_eq_getElem?_getD, hz]; rfl
        rw [e5] at cz
        have i1 : (i : Int) < (n : Int) := by omega
        have i2 : decide (i < n) = true := decide_eq_true hlt
        clear hen cns e5 hz
        cases hzk : (k == z) with
        | true =>
          have HZ := Lib.hid (HIN.out (eq_of_beq hzk).symm)
          obtain rfl := eq_of_beq hzk
          go_wp2
          go_ret
          exact ⟨⟨_, rfl, by rw [HZ.out]; simp⟩, by first | trivial | rfl⟩
        | false =>
          have hzk' : (z == k) = false := by
            rw [beq_eq_false_iff_ne] at hzk ⊢
            exact fun e => hzk e.symm
          rw [hzk'] at HCS
          go_wp2
          exact ⟨⟨i + 1, by omega, by go_num, HCS, by first | trivial | rfl⟩, by simp [intOf]; omega⟩
      · obtain rfl : n = i := by omega
        have i1 : ¬ (n : Int) < (n : Int) := by omega
        rw [HTK.out] at HF
        have HZ := Lib.hid (show R = false from by rw [← HRR.out]; exact HF.out)
        go_wp2
        go_ret
        exact ⟨⟨_, rfl, by rw [HZ.out]; simp⟩, by first | trivial | rfl⟩
  have HI := Lib.hid hI
  obtain ⟨a, c, rfl⟩ := h.len
  generalize zs.length = n at *
  clear h hI
  go_enter Tryz.func95, Tryz.ntmps95
  go_wp2_with fail
  refine HI.out.mono ?_
  rintro e w1 ⟨⟨q, rfl, hq⟩, rfl⟩
  have HQ := Lib.hid hq
  by_cases hq0 : 0 ≤ q
  · have HR := Lib.hid (show R = true from by rw [← hq]; exact decide_eq_true hq0)
    have e1 : (0 : Int) ≤ q := hq0
    clear hq
    go_wp2
    go_ret
    exact ⟨ret_bool (by rw [HR.out]), rfl⟩
  · have HR := Lib.hid (show R = false from by rw [← hq]; exact decide_eq_false hq0)
    clear hq
    go_wp2
    go_ret
    exact ⟨ret_bool (by rw [HR.out]; exact decide_eq_false (by omega)), rfl⟩
theorem DRow.sl {w : World} {g cap : Nat} {d : Array (Dv × Nat)} (h : DRow w g d) (h1 : d.size ≤ cap) (h2 : cap ≤ maxLen) : DvSl w (.slice (some ⟨g, 0, none⟩) d.size cap) (d.toList.map (·.1)) := by
  obtain ⟨cs, hB, hR⟩ := h
  refine .inr ⟨g, 0, cap, by simp, by simpa using h1, h2, fun i x hx => ?_⟩
  rw [List.getElem?_map] at hx
  obtain ⟨p, hp, rfl⟩ : ∃ p, d.toList[i]? = some p ∧ p.1 = x := by
    cases h : d.toList[i]? with
    | none => rw [h] at hx; simp at hx
    | some t => rw [h] at hx; exact ⟨t, rfl, by simpa using hx⟩
  obtain ⟨hi, hb⟩ := list_getBang d i p hp
  obtain ⟨⟨pv, ⟨q0, q1, q2, q3⟩, a⟩, c⟩ := hR i hi
  rw [hb] at q0 q2 q3 a
  have hc := hB.cell
  simp only [Nat.zero_add]
  exact ⟨pv, (hc _).trans q0, (hc _).trans q1, (hc _).trans q2, (hc _).trans q3, a.sl⟩
set_option maxRecDepth 100000 in
set_option maxHeartbeats 2000000 in
theorem pdqD_any (gf : Nat) (lb : Array Value) (eg : ∀ args w, (callFunc gf args).run Tryz.prog w = .ok (.enter gf args) w) (hc : DCmp gf lb) (g cap : Nat) (lim : Int) (d : Array (Dv × Nat)) (w : World) (h : DRow w g d) (hsz : d.size ≤ 12) (hcap : d.size ≤ cap) :
    Calls Tryz.prog 179 #[.slice (some ⟨g, 0, none⟩) d.size cap, .int .i64 0, .int .i64 d.size, .int .i64 lim, .func (.func gf) #[] lb] w fun e w' =>
      e = .returned (.tuple #[]) ∧ ∃ d', DRow w' g d' ∧ SortedIn dltP 0 d.size d' ∧ PermIn 0 d.size d d' ∧ Within g (g + 1) w w' := by
  have HI := Lib.hid (insSort_any gf lb eg hc g cap 0 d.size d w h (Nat.zero_le _) (Nat.le_refl _) (by omega) hcap)
  have i1 : (d.size : Int) ≤ 12 := by omega
  clear h
  generalize d.size = n at *
  go_enter Tryz.func179, Tryz.ntmps179
  go_wp2
  refine wp_loop_rounds 1 ?_
  rw [rounds_succ]
  go_wp2_with (go_at_call 200; refine HI.out.mono ?_; rintro e w1 ⟨rfl, hR1⟩)
  refine bodyPost_ret (v := .tuple #[]) (by simp [results, Tryz.results179, go_sem, *]) rfl ⟨rfl, hR1⟩
set_option maxRecDepth 100000 in
set_option maxHeartbeats 2000000 in
theorem lenB_any (s : Nat) (hs : s ≤ 255) (w : World) :
    Calls Tryz.prog 165 #[.int .u64 (s : Int)] w fun e w' => (∃ q : Int, e = .returned (.int .i64 q)) ∧ w = w' := by
  have HL := Lib.hid (fun w => len64_any s hs w)
  go_enter Tryz.func165, Tryz.ntmps165
  go_wp2_with fail
  refine (HL.out _).mono ?_
  rintro e w1 ⟨⟨q, rfl⟩, rfl⟩
  go_wp2
  go_ret
  exact ⟨⟨q, rfl⟩, by first | trivial | rfl⟩
theorem DRow.exc {E : Nat → Prop} {w w' : World} {g : Nat} {d : Array (Dv × Nat)} (h : Exc E w w') (hR : DRow w g d) (hg : ¬ E g) (hE : ∀ k ∈ d.toList.map (·.2), ¬ E k) : DRow w' g d := by
  obtain ⟨cs, hB, hC⟩ := hR
  refine ⟨cs, h.blk hB hg, fun i hi => ?_⟩
  obtain ⟨⟨pv, a, b⟩, c⟩ := hC i hi
  refine ⟨⟨pv, a, OwnR.exc h b (fun k h1 h2 => ?_)⟩, c⟩
  obtain rfl : k = d[i]!.2 := by omega
  refine hE _ (List.mem_map.2 ⟨d[i]!, ?_, rfl⟩)
  rw [getBang d i hi]
  simp
set_option maxRecDepth 100000 in
set_option maxHeartbeats 2000000 in
theorem sortFuncD_any (gf : Nat) (lb : Array Value) (eg : ∀ args w, (callFunc gf args).run Tryz.prog w = .ok (.enter gf args) w) (hc : DCmp gf lb) (g n c : Nat) (L : List Tr) (w : World) (h : RB w g n c L) (hn : n ≤ 12) :
    Calls Tryz.prog 160 #[.slice (some ⟨g, 0, none⟩) n c, .func (.func gf) #[] lb] w fun e w' =>
      e = .returned (.tuple #[]) ∧ (∃ d', DRow w' g d' ∧ d'.size = n ∧ d'.toList.map (·.1) = srtD (L.map (·.1)) ∧ ∀ k ∈ d'.toList.map (·.2), k ∈ L.map (·.2.2)) ∧ Within g (g + 1) w w' := by
  obtain ⟨cur, _, hnc, hcm, _⟩ := h.cells
  have hrow := h.row
  have hsz : (L.map fun t => (t.1, t.2.2)).toArray.size = n := by simp [h.2.1]
  have HS := Lib.hid (fun lim w (hR : DRow w g (L.map fun t => (t.1, t.2.2)).toArray) => pdqD_any gf lb eg hc g c lim _ w hR (by rw [hsz]; exact hn) (by rw [hsz]; exact hnc))
  have HF := Lib.hid (show ∀ d' : Array (Dv × Nat), SortedIn dltP 0 (L.map fun t => (t.1, t.2.2)).toArray.size d' → PermIn 0 (L.map fun t => (t.1, t.2.2)).toArray.size (L.map fun t => (t.1, t.2.2)).toArray d' → d'.size = n ∧ d'.toList.map (·.1) = srtD (L.map (·.1)) ∧ ∀ k ∈ d'.toList.map (·.2), k ∈ L.map (·.2.2) from fun d' hs hp => by
    have hP := PermIn.list hp
    have hz := hp.1
    rw [← hz] at hs
    have e1 : (L.map fun t => (t.1, t.2.2)).toArray.toList.map (·.1) = L.map (·.1) := by simp
    have e2 : (L.map fun t => (t.1, t.2.2)).toArray.toList.map (·.2) = L.map (·.2.2) := by simp
    refine ⟨by rw [hz, hsz], srtD_of (by rw [← e1]; exact hP.map _) (SortedIn.list hs), fun k hk => ?_⟩
    rw [← e2]
    exact (hP.map (·.2)).mem_iff.1 hk)
  have HR := Lib.hid hrow
  generalize (L.map fun t => (t.1, t.2.2)).toArray = d at *
  have HB := Lib.hid (fun w => lenB_any n (by omega) w)
  subst hsz
  have i1 : d.size ≤ 12 := hn
  clear h hrow hnc hcm
  obtain ⟨z, hz⟩ : ∃ z, d.size = z := ⟨_, rfl⟩
  rw [hz] at HS HF HB i1 ⊢
  clear hz hn
  go_enter Tryz.func160, Tryz.ntmps160
  go_wp2_with fail
  refine (HB.out _).mono ?_
  rintro e w1 ⟨⟨q, rfl⟩, rfl⟩
  go_wp2_with fail
  refine (HS.out q _ HR.out).mono ?_
  rintro e w1 ⟨rfl, d', hR1, hS1, hP1, hW1⟩
  obtain ⟨f1, f2, f3⟩ := HF.out d' hS1 hP1
  have HO := Lib.hid (show (∃ d', DRow w1 g d' ∧ d'.size = z ∧ d'.toList.map (·.1) = srtD (L.map (·.1)) ∧ ∀ k ∈ d'.toList.map (·.2), k ∈ L.map (·.2.2)) ∧ Within g (g + 1) w w1 from ⟨⟨d', hR1, f1, f2, f3⟩, hW1⟩)
  clear hR1 hS1 hP1 hW1 f1 f2 f3
  go_wp2
  go_end0
  exact ⟨by rfl, HO.out⟩
def innTo (ds : List Dv) (names : List Int) (k : Nat) : List Dv := ((ds.take k).filter (inD names)).map fun d => nzD (renD names d)
theorem innTo_step {ds : List Dv} (names : List Int) {k : Nat} {d : Dv} (h : ds[k]? = some d) : innTo ds names (k + 1) = innTo ds names k ++ (if inD names d = true then [nzD (renD names d)] else []) := by
  unfold innTo
  rw [take_snoc_of ds k d h, List.filter_append, List.map_append]
  congr 1
  by_cases q : inD names d = true
  · rw [if_pos q, List.filter_cons_of_pos q]; rfl
  · rw [if_neg q, List.filter_cons_of_neg q]; rfl
theorem innTo_len (ds : List Dv) (names : List Int) (k : Nat) : (innTo ds names k).length ≤ k := by
  unfold innTo
  rw [List.length_map]
  have := List.length_filter_le (inD names) (ds.take k)
  have := List.length_take_le k ds
  omega
theorem innTo_all (ds : List Dv) (names : List Int) : srtD (innTo ds names ds.length) = innerS ds names := by
  unfold innTo innerS; rw [List.take_length]
def inTo (names pins : List Int) (j : Nat) : Bool := (pins.take j).all fun p => decide (0 ≤ nmOf names p)
theorem inTo_step (names : List Int) {pins : List Int} {j : Nat} {p : Int} (h : pins[j]? = some p) : inTo names pins (j + 1) = (inTo names pins j && decide (0 ≤ nmOf names p)) := by
  unfold inTo
  rw [take_snoc_of pins j p h, List.all_append]; simp
theorem inTo_all (names : List Int) (d : Dv) : inTo names d.pins d.pins.length = inD names d := by
  unfold inTo inD; rw [List.take_length]
def negTo (n k : Nat) : List Int := List.replicate k (-1) ++ List.replicate (n - k) 0
theorem negTo_zero (n : Nat) : negTo n 0 = List.replicate n 0 := by unfold negTo; simp
theorem negTo_all (n : Nat) : negTo n n = List.replicate n (-1) := by unfold negTo; simp
theorem negTo_step {n k : Nat} (h : k < n) : (negTo n k).set k (-1) = negTo n (k + 1) := by
  unfold negTo
  rw [List.set_append_right _ _ (by simp)]
  simp only [List.length_replicate, Nat.sub_self]
  rw [show n - k = (n - (k + 1)) + 1 by omega, List.replicate_succ, List.set_cons_zero, List.replicate_succ' (n := k), List.append_assoc]
  rfl
theorem srTo_next {g : Nat → List (List Int)} {one : Bool} {k : Nat} (h : ¬ (one && decide (0 < (srTo g one k).length)) = true) : srTo g one (k + 1) = srTo g one k ++ g k := by
  show (if _ then _ else _) = _
  rw [if_neg h]
def srcB (x y : Nl) (col : Nat → Nat → Bool) (n : Nat) (one : Bool) (r : Nat) (nets : List Int) : List (List Int) := if fitB x y nets = true then srch (fitB x y) col n one r nets else []
theorem srcB_succ (x y : Nl) (col : Nat → Nat → Bool) (n : Nat) (one : Bool) (r : Nat) (nets : List Int) (h : fitB x y nets = true) :
    srcB x y col n one (r + 1) nets = srTo (fun k => if (col nets.length k && !nets.contains (k : Int)) = true then srcB x y col n one r (nets ++ [(k : Int)]) else []) one n := by
  unfold srcB
  rw [if_pos h]
  show srTo _ one n = _
  congr 1
  funext k
  by_cases q : (col nets.length k && !nets.contains (k : Int)) = true
  · rw [if_pos q]
    simp only [Bool.and_eq_true] at q
    by_cases f : fitB x y (nets ++ [(k : Int)]) = true
    · rw [if_pos (by rw [q.1, q.2, f]; rfl), if_pos f]
    · rw [if_neg (by rw [q.1, q.2]; simpa using f), if_neg f]
  · rw [if_neg q, if_neg (fun h => q (by
      simp only [Bool.and_eq_true] at h ⊢
      exact ⟨h.1, h.2.1⟩))]
end Go.Proofs.YtifbffianbgeaaaGreat
