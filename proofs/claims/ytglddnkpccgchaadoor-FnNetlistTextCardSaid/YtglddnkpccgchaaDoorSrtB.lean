/- Rows of devices that are made by insertion: the plain part, the rows in memory, the laws of their appends. -/
import Derived.Test.YtglddnkpccgchaaDoorCopies
import Derived.Test.YtglddnkpccgchaaDoorCmps
import Derived.Test.YtglddnkpccgchaaDoorNorms
import Derived.Deep.RegionHeldLaw
import Derived.Deep.RegionLaw
import Derived.Test.YtglddnkpccgchaaDoorSpecNl
import Derived.Test.YtglddnkpccgchaaDoorSrtA
import Derived.Deep.AppendLies
import Derived.Deep.AppendSrc
import Derived.Test.YtglddnkpccgchaaDoorImplNl
import Derived.Test.YtglddnkpccgchaaDoorNls
import Derived.Test.YtglddnkpccgchaaDoorMarks
namespace Go.Proofs.YtglddnkpccgchaaDoor
open Go.RowKit
set_option linter.unusedVariables false
set_option linter.unusedSimpArgs false

/-- A device, its pins' slice, the block of the pins. -/
abbrev Tr := Dv × Value × Nat
def tcell (t : Tr) : List Value := [.int .i64 t.1.kind, t.2.1, .int .i64 t.1.wd, .int .i64 t.1.len]
def tcells (L : List Tr) : List Value := L.flatMap tcell
theorem tcells_append (L M : List Tr) : tcells (L ++ M) = tcells L ++ tcells M := List.flatMap_append
theorem length_tcells (L : List Tr) : (tcells L).length = L.length * 4 := by
  induction L with
  | nil => rfl
  | cons t L ih => show (tcell t ++ tcells L).length = _; rw [List.length_append, ih, List.length_cons]; show 4 + _ = _; omega
theorem tcells_take (L : List Tr) (q : Nat) : tcells (L.take q) = (tcells L).take (q * 4) := by
  have h1 : tcells L = tcells (L.take q) ++ tcells (L.drop q) := by rw [← tcells_append, List.take_append_drop]
  by_cases hq : q ≤ L.length
  · conv => rhs; rw [h1]
    exact (List.take_left' (by rw [length_tcells, List.length_take]; omega)).symm
  · rw [List.take_of_length_le (by omega), List.take_of_length_le (by rw [length_tcells]; omega)]
theorem tcells_drop (L : List Tr) (q : Nat) : tcells (L.drop q) = (tcells L).drop (q * 4) := by
  have h1 : tcells L = tcells (L.take q) ++ tcells (L.drop q) := by rw [← tcells_append, List.take_append_drop]
  by_cases hq : q ≤ L.length
  · conv => rhs; rw [h1]
    exact (List.drop_left' (by rw [length_tcells, List.length_take]; omega)).symm
  · rw [List.drop_eq_nil_of_le (by omega), List.drop_eq_nil_of_le (by rw [length_tcells]; omega)]
    rfl
theorem tcells_get (L : List Tr) (i : Nat) (t : Tr) (h : L[i]? = some t) : (tcells L)[i * 4]? = some (.int .i64 t.1.kind) ∧ (tcells L)[i * 4 + 1]? = some t.2.1 ∧ (tcells L)[i * 4 + 2]? = some (.int .i64 t.1.wd) ∧ (tcells L)[i * 4 + 3]? = some (.int .i64 t.1.len) := by
  induction L generalizing i with
  | nil => simp at h
  | cons y ys ih =>
    cases i with
    | zero => simp at h; subst h; exact ⟨rfl, rfl, rfl, rfl⟩
    | succ i =>
      simp at h
      have e : ∀ r, (tcells (y :: ys))[(i + 1) * 4 + r]? = (tcells ys)[i * 4 + r]? := by
        intro r
        show (Value.int .i64 y.1.kind :: y.2.1 :: Value.int .i64 y.1.wd :: Value.int .i64 y.1.len :: tcells ys)[(i + 1) * 4 + r]? = _
        rw [show (i + 1) * 4 + r = (i * 4 + r) + 1 + 1 + 1 + 1 by omega]
        simp only [List.getElem?_cons_succ]
      have e0 := e 0
      simp only [Nat.add_zero] at e0
      rw [e0, e 1, e 2, e 3]
      exact ih i h
theorem tcells_one {L : List Tr} (h : ∀ t ∈ L, t.2.1.oneCell' = true) : ∀ u ∈ tcells L, u.oneCell' = true := by
  intro u hu
  obtain ⟨t, ht, hu⟩ := List.mem_flatMap.1 hu
  simp [tcell] at hu
  rcases hu with rfl | rfl | rfl | rfl
  · rfl
  · exact h t ht
  · rfl
  · rfl

/-- The order of a list of triples. -/
def Asc (L : List Tr) : Prop := L.Pairwise (fun x y => dlt y.1 x.1 = false)
/-- One more at its place. -/
theorem Asc.insert {L : List Tr} (h : Asc L) (x : Tr) (q : Nat) (hq : q ≤ L.length) (hl : q = 0 ∨ ∀ y, L[q - 1]? = some y → dlt x.1 y.1 = false) (hr : ∀ i y, q ≤ i → L[i]? = some y → dlt x.1 y.1 = true) : Asc (L.take q ++ (x :: L.drop q)) := by
  unfold Asc at *
  rw [List.pairwise_append]
  refine ⟨h.sublist (List.take_sublist _ _), ?_, fun a ha b hb => ?_⟩
  · rw [List.pairwise_cons]
    refine ⟨fun y hy => ?_, h.sublist (List.drop_sublist _ _)⟩
    obtain ⟨j, hj⟩ := List.mem_iff_getElem?.1 hy
    rw [List.getElem?_drop] at hj
    exact dlt_swo.asymmA (hr _ y (by omega) hj)
  · obtain ⟨i, hi⟩ := List.mem_iff_getElem?.1 ha
    have hil : i < q := by have := (List.getElem?_eq_some_iff.1 hi).1; simp at this; omega
    rw [List.getElem?_take_of_lt hil] at hi
    have hx : dlt x.1 a.1 = false := by
      rcases hl with hl | hl
      · omega
      · obtain ⟨y, hy⟩ : ∃ y, L[q - 1]? = some y := ⟨L[q - 1]'(by omega), List.getElem?_eq_getElem _⟩
        by_cases e : i = q - 1
        · subst e; exact hl a hi
        · have h1 := List.pairwise_iff_getElem.1 h i (q - 1) (by omega) (by omega) (by omega)
          obtain ⟨_, e1⟩ := List.getElem?_eq_some_iff.1 hi
          obtain ⟨_, e2⟩ := List.getElem?_eq_some_iff.1 hy
          rw [e1, e2] at h1
          exact dlt_swo.ntrans _ _ _ (hl y hy) h1
    rcases List.mem_cons.1 hb with rfl | hb
    · exact hx
    · obtain ⟨j, hj⟩ := List.mem_iff_getElem?.1 hb
      rw [List.getElem?_drop] at hj
      obtain ⟨_, e1⟩ := List.getElem?_eq_some_iff.1 hi
      obtain ⟨hj', e2⟩ := List.getElem?_eq_some_iff.1 hj
      have h1 := List.pairwise_iff_getElem.1 h i (q + j) (by omega) hj' (by omega)
      rw [e1, e2] at h1
      exact h1
theorem insert_perm {α : Type} (L : List α) (x : α) (q : Nat) : (L.take q ++ (x :: L.drop q)).Perm (L ++ [x]) := by
  have h : (L.take q ++ (x :: L.drop q)).Perm (x :: (L.take q ++ L.drop q)) := List.perm_middle
  rw [List.take_append_drop] at h
  exact h.trans (List.perm_append_comm (l₁ := [x]) (l₂ := L))

/-- A row that is made by insertion: its cells in a block of one's own, each device's pins in another. -/
def Out (w : World) (lo : Nat) (v : Value) (L : List Tr) : Prop := lo ≤ w.heap.size ∧ w.ownsRow lo 52 4 v L.length (tcells L) ∧
  (∀ t ∈ L, (OwnR w t.2.2 (t.2.2 + 1) t.2.1 t.1.pins ∧ lo ≤ t.2.2 ∧ t.2.2 < w.heap.size) ∧ v.ownBlock ≠ some t.2.2) ∧ (L.map (·.2.2)).Nodup
section
variable {w w' : World} {lo : Nat} {v : Value} {L : List Tr}
theorem Out.by (hb : Below w.heap.size w w') (h : Out w lo v L) : Out w' lo v L := by
  obtain ⟨h0, h1, h2, h3⟩ := h
  refine ⟨Nat.le_trans h0 hb.size, row_same h1 (fun g hg => hb.block g (h1.lt g hg).2), fun t ht => ?_, h3⟩
  obtain ⟨⟨a, b, c⟩, d⟩ := h2 t ht
  exact ⟨⟨OwnR.by hb a, b, Nat.lt_of_lt_of_le c hb.size⟩, d⟩
theorem Out.sized (h : Out w lo v L) : ∃ a c, v = .slice a L.length c := by
  obtain ⟨_, ⟨_, h1⟩, _⟩ := h
  rcases h1 with ⟨h1, h2⟩ | ⟨g, cap, cur, e1, _⟩
  · exact ⟨none, 0, by rw [h1, h2]⟩
  · exact ⟨_, _, e1⟩
theorem row_cur {g cap n : Nat} {cur : Array Value} {xs : List Value} (e7 : cur.toList.take (n * 4) = xs) : ∀ (j : Nat) u, xs[j]? = some u → cur[j]? = some u := by
  intro j u hu
  rw [← e7] at hu
  have hj : j < n * 4 := by
    have := (List.getElem?_eq_some_iff.1 hu).1
    rw [List.length_take] at this; omega
  rw [List.getElem?_take_of_lt hj] at hu
  simpa using hu
theorem Out.own (h : Out w lo v L) : OwnDs w lo w.heap.size v (L.map (·.1)) := by
  obtain ⟨h0, ⟨hlen, h1⟩, h2, h3⟩ := h
  rcases h1 with ⟨h1, hn⟩ | ⟨g, cap, cur, e1, e2, e3, e4, e5, e6, e7⟩
  · exact .inl ⟨_, _, h1, by rw [List.eq_nil_of_length_eq_zero hn]; rfl⟩
  · have hcur := row_cur (g := g) (cap := cap) e7
    have hgl : g < w.heap.size := (Array.getElem?_eq_some_iff.1 e3).1
    refine .inr ⟨g, cap, cur, fun i => (L.getD i default).2.2, by simpa using e1, ⟨e2, hgl⟩, by simpa using e4, e5, e3, fun i x hx => ?_, fun i j hi hj hij => ?_⟩
    · rw [List.getElem?_map] at hx
      obtain ⟨t, ht, rfl⟩ : ∃ t, L[i]? = some t ∧ t.1 = x := by
        cases h : L[i]? with
        | none => rw [h] at hx; simp at hx
        | some t => rw [h] at hx; exact ⟨t, rfl, by simpa using hx⟩
      have hgD : L.getD i default = t := by simp [ht]
      dsimp only
      rw [hgD]
      obtain ⟨⟨a, b, c⟩, d⟩ := h2 t (List.mem_of_getElem? ht)
      obtain ⟨q0, q1, q2, q3⟩ := tcells_get L i t ht
      exact ⟨⟨t.2.1, ⟨hcur _ _ q0, hcur _ _ q1, hcur _ _ q2, hcur _ _ q3⟩, a⟩, b, c, fun e => d (by rw [e1, e]; rfl)⟩
    · simp at hi hj
      have hn := List.pairwise_iff_getElem.1 (List.nodup_iff_pairwise_ne.1 h3)
      have e1 : L.getD i default = L[i] := by simp [hi]
      have e2 : L.getD j default = L[j] := by simp [hj]
      dsimp only
      rw [e1, e2]
      rcases Nat.lt_or_gt_of_ne hij with h | h
      · have := hn i j (by simpa using hi) (by simpa using hj) h
        simpa using this
      · have := hn j i (by simpa using hj) (by simpa using hi) h
        simpa using this.symm
/-- The cells of a row, from an element on. -/
theorem row_news {g c n : Nat} (h1 : w.ownsRow lo 52 4 (.slice (some ⟨g, 0, none⟩) n c) n (tcells L)) (q : Nat) : ∀ (j : Nat) (u : Value), (tcells (L.drop q))[j]? = some u → w.cell? ((⟨g, q * 4, none⟩ : Addr).add j) = some u := by
  intro j u hu
  rw [tcells_drop, List.getElem?_drop] at hu
  rw [Addr.add_lit]
  have := h1.cells rfl _ _ hu
  rw [Addr.add_lit] at this
  simpa using this
theorem row_news0 {g c n : Nat} (h1 : w.ownsRow lo 52 4 (.slice (some ⟨g, 0, none⟩) n c) n (tcells L)) (q : Nat) : ∀ (j : Nat) (u : Value), (tcells (L.take q))[j]? = some u → w.cell? ((⟨g, 0, none⟩ : Addr).add j) = some u := by
  intro j u hu
  rw [tcells_take] at hu
  have hj : j < q * 4 := by
    have := (List.getElem?_eq_some_iff.1 hu).1
    rw [List.length_take] at this; omega
  rw [List.getElem?_take_of_lt hj] at hu
  exact h1.cells rfl _ _ hu
theorem Out.one (h : Out w lo v L) : ∀ t ∈ L, t.2.1.oneCell' = true := by
  intro t ht
  obtain ⟨⟨a, b, c⟩, d⟩ := h.2.2.1 t ht
  rcases a with ⟨_, _, e, _⟩ | ⟨_, _, _, e, _⟩ <;> rw [e] <;> rfl
end

/-- One device more, at its place, in a row of its own. -/
theorem Out.insert {w w' : World} {lo k q f g c : Nat} {v pv : Value} {x : Dv} {L : List Tr} (h : Out w lo v L) (hk : L.length = k) (hb : Below w.heap.size w w') (hq : q ≤ k) (hf : OwnR w' f (f + 1) pv x.pins) (hf1 : w.heap.size ≤ f) (hf2 : f < w'.heap.size) (hg : w.heap.size ≤ g) (hgf : g ≠ f)
    (hr : w'.ownsRow lo 52 4 (.slice (some ⟨g, 0, none⟩) (k + 1) c) (k + 1) (tcells (L.take q) ++ (tcells [(x, pv, f)] ++ tcells (L.drop q)))) : Out w' lo (.slice (some ⟨g, 0, none⟩) (k + 1) c) (L.take q ++ ((x, pv, f) :: L.drop q)) := by
  obtain ⟨h0, h1, h2, h3⟩ := h
  have hp := insert_perm L (x, pv, f) q
  refine ⟨Nat.le_trans h0 hb.size, ?_, fun t ht => ?_, ?_⟩
  · rw [hp.length_eq, List.length_append, List.length_singleton, hk, tcells_append]
    exact hr
  · rcases List.mem_append.1 (hp.mem_iff.1 ht) with ht | ht
    · obtain ⟨⟨a, b, c⟩, d⟩ := h2 t ht
      refine ⟨⟨OwnR.by hb a, b, Nat.lt_of_lt_of_le c hb.size⟩, fun e => ?_⟩
      have : g = t.2.2 := by injection e
      omega
    · obtain rfl : t = (x, pv, f) := by simpa using ht
      refine ⟨⟨hf, Nat.le_trans h0 hf1, hf2⟩, fun e => ?_⟩
      have : g = f := by injection e
      exact hgf this
  · rw [(hp.map (·.2.2)).nodup_iff, List.map_append, List.nodup_append]
    refine ⟨h3, by simp, fun a ha b hb' => ?_⟩
    obtain ⟨t, ht, rfl⟩ := List.mem_map.1 ha
    have := (h2 t ht).1.2.2
    simp at hb'
    omega

/-- append(v, row..), at a step of a region that draws its order. -/
theorem step_appT {ops : Array Oper} {o : Oper} {a : Act} {w : World} {K : Act → World → Prop} {Q : Exit → Act → World → Prop} {E : Prop} (hgd : o.guard = none) (s x : Operand)
    (ho : o.op = .call { callee := .builtin .append, args := #[s, x], argTypes := #[28, 28] })
    (lo : Nat) (v : Value) (n : Nat) (xs : List Value) (hs : a.eval s = v) (h1 : w.ownsRow lo 52 4 v n xs) (p : Addr) (m c : Nat) (news : List Value) (hx : a.eval x = .slice (some p) m c)
    (hl : news.length = m * 4) (hnews : ∀ j u, news[j]? = some u → w.cell? (p.add j) = some u) (hone : ∀ u ∈ news, u.oneCell' = true) (hm : 0 < m) (hn : n + m ≤ 1000) (hlo : lo ≤ w.heap.size)
    (hK : ∀ g c w', w'.ownsRow lo 52 4 (.slice (some ⟨g, 0, none⟩) (n + m) c) (n + m) (xs ++ news) → w.grownBy w' v.ownBlock → (v.ownBlock = some g ∨ g = w.heap.size) → K (a.put o.dst (.slice (some ⟨g, 0, none⟩) (n + m) c)) w') :
    if Region.wanted o (yielded ops a.tmps) = true then Oper.wp Tryd.prog o a w K Q else E := by
  obtain ⟨i0, hi0, hz0, hz1, hz2⟩ := info_parts infoDev
  exact step_append_lies w hgd s x 28 ho lo 52 i0 _ 4 48 Tryd.underlying28 hi0 hz0 hz1 hz2 rfl (by decide) v n xs hs h1 p m c news hx hl hnews hone hm (by unfold maxLen; omega) (by omega) hlo w.heap.size rfl (fun g cap w' hrow hgrow hg _ => hK g cap w' hrow hgrow hg)
theorem list_appT {ops : Array Oper} {rest : List Oper} {o : Oper} {a : Act} {w : World} {Q : Exit → Act → World → Prop} (hgd : o.guard = none) (s x : Operand)
    (ho : o.op = .call { callee := .builtin .append, args := #[s, x], argTypes := #[28, 28] })
    (lo : Nat) (v : Value) (n : Nat) (xs : List Value) (hs : a.eval s = v) (h1 : w.ownsRow lo 52 4 v n xs) (p : Addr) (m c : Nat) (news : List Value) (hx : a.eval x = .slice (some p) m c)
    (hl : news.length = m * 4) (hnews : ∀ j u, news[j]? = some u → w.cell? (p.add j) = some u) (hone : ∀ u ∈ news, u.oneCell' = true) (hm : 0 < m) (hn : n + m ≤ 1000) (hlo : lo ≤ w.heap.size)
    (hK : ∀ g c w', w'.ownsRow lo 52 4 (.slice (some ⟨g, 0, none⟩) (n + m) c) (n + m) (xs ++ news) → w.grownBy w' v.ownBlock → (v.ownBlock = some g ∨ g = w.heap.size) → wpList Tryd.prog ops Q rest (a.put o.dst (.slice (some ⟨g, 0, none⟩) (n + m) c)) w') : wpList Tryd.prog ops Q (o :: rest) a w :=
  wpList_plain hgd fun K hk => by
    have h := step_appT (ops := ops) (K := K) (Q := Q) (E := False) hgd s x ho lo v n xs hs h1 p m c news hx hl hnews hone hm hn hlo (fun g c w' h1 h2 h3 => hk _ _ (hK g c w' h1 h2 h3))
    rwa [if_pos (by simp [Region.wanted, hgd])] at h
theorem run_appZ (b n c : Nat) (a2 : Option Addr) (c2 : Nat) (ty : TypeId) (hn : n ≤ c) (w : World) :
    (Builtin.append_ #[28, 28] ty #[.slice (some ⟨b, 0, none⟩) n c, .slice a2 0 c2]).run Tryd.prog w = .ok (.slice (some ⟨b, 0, none⟩) n c) w := by
  obtain ⟨i0, hi0, hz0, hz1, hz2⟩ := info_parts infoDev
  have hs : Src Tryd.prog i0.size 28 (.slice a2 0 c2) 0 [] w := by
    cases a2 with
    | none => exact Src.ofNil w Tryd.underlying28 c2
    | some ad => exact Src.ofSlice w Tryd.underlying28 ad 0 c2 [] (by simp) (fun j u h => by simp at h) (fun u h => by simp at h)
  have h := run_append_room_src w 28 28 ty _ i0 Tryd.underlying28 hi0 b 0 n c (.slice a2 0 c2) 0 [] hs (by omega) (fun j hj => by simp at hj) (fun j hj => by simp at hj)
  simpa [World.setCells] using h
/-- append(v, nothing..). -/
theorem step_appZ {ops : Array Oper} {o : Oper} {a : Act} {w : World} {K : Act → World → Prop} {Q : Exit → Act → World → Prop} {E : Prop} (hgd : o.guard = none) (s x : Operand)
    (ho : o.op = .call { callee := .builtin .append, args := #[s, x], argTypes := #[28, 28] })
    (b n c : Nat) (a2 : Option Addr) (c2 : Nat) (hs : a.eval s = .slice (some ⟨b, 0, none⟩) n c) (hx : a.eval x = .slice a2 0 c2) (hn : n ≤ c)
    (hK : K (a.put o.dst (.slice (some ⟨b, 0, none⟩) n c)) w) : if Region.wanted o (yielded ops a.tmps) = true then Oper.wp Tryd.prog o a w K Q else E := by
  have hw : Region.wanted o (yielded ops a.tmps) = true := by simp [Region.wanted, hgd]
  rw [if_pos hw]
  have hr := run_appZ b n c a2 c2 o.type hn w
  unfold Oper.wp execOp
  simp only [ho, resolve, invoke, builtin, Sem.run_bind, Sem.run_pure, Result.andThen_ok, List.map_toArray, List.map_cons, List.map_nil, hs, hx, hr]
  exact hK
theorem list_appZ {ops : Array Oper} {rest : List Oper} {o : Oper} {a : Act} {w : World} {Q : Exit → Act → World → Prop} (hgd : o.guard = none) (s x : Operand)
    (ho : o.op = .call { callee := .builtin .append, args := #[s, x], argTypes := #[28, 28] })
    (b n c : Nat) (a2 : Option Addr) (c2 : Nat) (hs : a.eval s = .slice (some ⟨b, 0, none⟩) n c) (hx : a.eval x = .slice a2 0 c2) (hn : n ≤ c)
    (hK : wpList Tryd.prog ops Q rest (a.put o.dst (.slice (some ⟨b, 0, none⟩) n c)) w) : wpList Tryd.prog ops Q (o :: rest) a w :=
  wpList_plain hgd fun K hk => by
    have h := step_appZ (ops := ops) (K := K) (Q := Q) (E := False) hgd s x ho b n c a2 c2 hs hx hn (hk _ _ hK)
    rwa [if_pos (by simp [Region.wanted, hgd])] at h
/-- A literal row. -/
theorem row_lit {w : World} {lo g n : Nat} {L : List Tr} (h : Blk w g (tcells L).toArray 52) (hn : L.length = n) (hlo : lo ≤ g) (hl : n ≤ 1000) : w.ownsRow lo 52 4 (.slice (some ⟨g, 0, none⟩) n n) n (tcells L) := by
  subst hn
  refine ⟨length_tcells L, .inr ⟨g, L.length, (tcells L).toArray, rfl, hlo, h, Nat.le_refl _, by unfold maxLen; omega, by simp [length_tcells], ?_⟩⟩
  rw [List.take_of_length_le (by simp [length_tcells])]
end Go.Proofs.YtglddnkpccgchaaDoor

/- The program's SortDevices. -/
namespace Go.Proofs.YtglddnkpccgchaaDoor
open Go.RowKit
set_option linter.unusedVariables false
set_option linter.unusedSimpArgs false

/-- A netlist with its devices in order. -/
def sortS (x : Nl) : Nl := ⟨x.nets, srtD x.ds, x.ps⟩
def soS (x : Nl) : Nl := if nlB x = true then sortS x else ⟨0, [], []⟩
theorem soS_no {x : Nl} (h : nlB x = false) : soS x = ⟨0, [], []⟩ := by simp [soS, h]
theorem soS_yes {x : Nl} (h : nlB x = true) : soS x = sortS x := by simp [soS, h]

theorem ownNl_nil (w : World) (lo hi : Nat) (h : lo ≤ hi) : OwnNl w lo hi (.agg #[.int .i64 0, .slice none 0 0, .slice none 0 0]) ⟨0, [], []⟩ :=
  ⟨_, _, lo, hi, hi, hi, rfl, .inl ⟨_, _, rfl, rfl⟩, .inl ⟨_, _, rfl, rfl⟩, ⟨Nat.le_refl _, Nat.le_refl _⟩, ⟨h, Nat.le_refl _⟩, .inl (Nat.le_refl _)⟩
end Go.Proofs.YtglddnkpccgchaaDoor

/- Bounds of what SortDevices answers. -/
namespace Go.Proofs.YtglddnkpccgchaaDoor
open Go.RowKit
set_option linter.unusedVariables false
theorem dsum_perm {ds es : List Dv} (h : ds.Perm es) : dsum ds = dsum es := by
  induction h with
  | nil => rfl
  | cons x _ ih => simp [dsum, ih]
  | swap x y l => simp [dsum]; omega
  | trans _ _ ih1 ih2 => exact ih1.trans ih2
theorem soS_bounds {x : Nl} (h : ∀ d ∈ x.ds, d.pins.length ≤ 1048576) (hb : nlSize x.ds x.ps ≤ 1048576) : (∀ d ∈ (soS x).ds, d.pins.length ≤ 1048576) ∧ nsum (soS x) ≤ 4000000 := by
  have hx := nsum_le hb
  cases hv : nlB x with
  | false => rw [soS_no hv]; exact ⟨fun d hd => by simp at hd, by simp [nsum, dsum]⟩
  | true =>
    rw [soS_yes hv]
    refine ⟨fun d hd => h d ((srtD_perm x.ds).mem_iff.1 hd), ?_⟩
    have := dsum_perm (srtD_perm x.ds)
    unfold nsum sortS at *
    dsimp only
    rw [this]
    omega
end Go.Proofs.YtglddnkpccgchaaDoor
