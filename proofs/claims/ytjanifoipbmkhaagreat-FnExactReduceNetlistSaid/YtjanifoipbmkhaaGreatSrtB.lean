/- Rows of devices that are made by insertion: the plain part, the rows in memory, the laws of their appends. -/
import Derived.Test.YtjanifoipbmkhaaGreatSrtA
import Derived.Test.YtjanifoipbmkhaaGreatCopies
import Derived.Deep.AppendLies
import Derived.Deep.AppendSrc
import Derived.Test.YtjanifoipbmkhaaGreatCmps
import Derived.Test.YtjanifoipbmkhaaGreatNorms
import Derived.Deep.RegionHeldLaw
import Derived.Deep.RegionLaw
import Derived.Test.YtjanifoipbmkhaaGreatImplNl
import Derived.Test.YtjanifoipbmkhaaGreatSpecNl
import Derived.Test.YtjanifoipbmkhaaGreatNls
import Derived.Test.YtjanifoipbmkhaaGreatNlOwns
namespace Go.Proofs.YtjanifoipbmkhaaGreat
open Go.RowKit
set_option linter.unusedVariables false
set_option linter.unusedSimpArgs false

/-- A device, its pins' slice, the block of the pins. -/
abbrev Tr := Dv × Value × Nat
def tcell (t : Tr) : List Value := [.int .i64 t.1.kind, t.2.1, .int .i64 t.1.wd, .int .i64 t.1.len]
def tcells (L : List Tr) : List Value := L.flatMap tcell
theorem tcells_append (L M : List Tr) : tcells (L ++ M) = tcells L ++ tcells M := List.flatMap_append
theorem length_tcells (L : List Tr) : (tcells L).length = L.length * 4 := by
  induction L with
  | nil => rfl
  | cons t L ih => show (tcell t ++ tcells L).length = _; rw [List.length_append, ih, List.length_cons]; show 4 + _ = _; omega
theorem tcells_take (L : List Tr) (q : Nat) : tcells (L.take q) = (tcells L).take (q * 4) := by
  have h1 : tcells L = tcells (L.take q) ++ tcells (L.drop q) := by rw [← tcells_append, List.take_append_drop]
  by_cases hq : q ≤ L.length
  · conv => rhs; rw [h1]
    exact (List.take_left' (by rw [length_tcells, List.length_take]; omega)).symm
  · rw [List.take_of_length_le (by omega), List.take_of_length_le (by rw [length_tcells]; omega)]
theorem tcells_drop (L : List Tr) (q : Nat) : tcells (L.drop q) = (tcells L).drop (q * 4) := by
  have h1 : tcells L = tcells (L.take q) ++ tcells (L.drop q) := by rw [← tcells_append, List.take_append_drop]
  by_cases hq : q ≤ L.length
  · conv => rhs; rw [h1]
    exact (List.drop_left' (by rw [length_tcells, List.length_take]; omega)).symm
  · rw [List.drop_eq_nil_of_le (by omega), List.drop_eq_nil_of_le (by rw [length_tcells]; omega)]
    rfl
theorem tcells_get (L : List Tr) (i : Nat) (t : Tr) (h : L[i]? = some t) : (tcells L)[i * 4]? = some (.int .i64 t.1.kind) ∧ (tcells L)[i * 4 + 1]? = some t.2.1 ∧ (tcells L)[i * 4 + 2]? = some (.int .i64 t.1.wd) ∧ (tcells L)[i * 4 + 3]? = some (.int .i64 t.1.len) := by
  induction L generalizing i with
  | nil => simp at h
  | cons y ys ih =>
    cases i with
    | zero => simp at h; subst h; exact ⟨rfl, rfl, rfl, rfl⟩
    | succ i =>
      simp at h
      have e : ∀ r, (tcells (y :: ys))[(i + 1) * 4 + r]? = (tcells ys)[i * 4 + r]? := by
        intro r
        show (Value.int .i64 y.1.kind :: y.2.1 :: Value.int .i64 y.1.wd :: Value.int .i64 y.1.len :: tcells ys)[(i + 1) * 4 + r]? = _
        rw [show (i + 1) * 4 + r = (i * 4 + r) + 1 + 1 + 1 + 1 by omega]
        simp only [List.getElem?_cons_succ]
      have e0 := e 0
      simp only [Nat.add_zero] at e0
      rw [e0, e 1, e 2, e 3]
      exact ih i h
theorem tcells_one {L : List Tr} (h : ∀ t ∈ L, t.2.1.oneCell' = true) : ∀ u ∈ tcells L, u.oneCell' = true := by
  intro u hu
  obtain ⟨t, ht, hu⟩ := List.mem_flatMap.1 hu
  simp [tcell] at hu
  rcases hu with rfl | rfl | rfl | rfl
  · rfl
  · exact h t ht
  · rfl
  · rfl

/-- The order of a list of triples. -/
def Asc (L : List Tr) : Prop := L.Pairwise (fun x y => dlt y.1 x.1 = false)
/-- One more at its place. -/
theorem Asc.insert {L : List Tr} (h : Asc L) (x : Tr) (q : Nat) (hq : q ≤ L.length) (hl : q = 0 ∨ ∀ y, L[q - 1]? = some y → dlt x.1 y.1 = false) (hr : ∀ i y, q ≤ i → L[i]? = some y → dlt x.1 y.1 = true) : Asc (L.take q ++ (x :: L.drop q)) := by
  unfold Asc at *
  rw [List.pairwise_append]
  refine ⟨h.sublist (List.take_sublist _ _), ?_, fun a ha b hb => ?_⟩
  · rw [List.pairwise_cons]
    refine ⟨fun y hy => ?_, h.sublist (List.drop_sublist _ _)⟩
    obtain ⟨j, hj⟩ := List.mem_iff_getElem?.1 hy
    rw [List.getElem?_drop] at hj
    exact dlt_swo.asymmA (hr _ y (by omega) hj)
  · obtain ⟨i, hi⟩ := List.mem_iff_getElem?.1 ha
    have hil : i < q := by have := (List.getElem?_eq_some_iff.1 hi).1; simp at this; omega
    rw [List.getElem?_take_of_lt hil] at hi
    have hx : dlt x.1 a.1 = false := by
      rcases hl with hl | hl
      · omega
      · obtain ⟨y, hy⟩ : ∃ y, L[q - 1]? = some y := ⟨L[q - 1]'(by omega), List.getElem?_eq_getElem _⟩
        by_cases e : i = q - 1
        · subst e; exact hl a hi
        · have h1 := List.pairwise_iff_getElem.1 h i (q - 1) (by omega) (by omega) (by omega)
          obtain ⟨_, e1⟩ := List.getElem?_eq_some_iff.1 hi
          obtain ⟨_, e2⟩ := List.getElem?_eq_some_iff.1 hy
          rw [e1, e2] at h1
          exact dlt_swo.ntrans _ _ _ (hl y hy) h1
    rcases List.mem_cons.1 hb with rfl | hb
    · exact hx
    · obtain ⟨j, hj⟩ := List.mem_iff_getElem?.1 hb
      rw [List.getElem?_drop] at hj
      obtain ⟨_, e1⟩ := List.getElem?_eq_some_iff.1 hi
      obtain ⟨hj', e2⟩ := List.getElem?_eq_some_iff.1 hj
      have h1 := List.pairwise_iff_getElem.1 h i (q + j) (by omega) hj' (by omega)
      rw [e1, e2] at h1
      exact h1
theorem insert_perm {α : Type} (L : List α) (x : α) (q : Nat) : (L.take q ++ (x :: L.drop q)).Perm (L ++ [x]) := by
  have h : (L.take q ++ (x :: L.drop q)).Perm (x :: (L.take q ++ L.drop q)) := List.perm_middle
  rw [List.take_append_drop] at h
  exact h.trans (List.perm_append_comm (l₁ := [x]) (l₂ := L))

/-- A row that is made by insertion: its cells in a block of one's own, each device's pins in another. -/
def Out (w : World) (lo : Nat) (v : Value) (L : List Tr) : Prop := lo ≤ w.heap.size ∧ w.ownsRow lo 46 4 v L.length (tcells L) ∧
  (∀ t ∈ L, (OwnR w t.2.2 (t.2.2 + 1) t.2.1 t.1.pins ∧ lo ≤ t.2.2 ∧ t.2.2 < w.heap.size) ∧ v.ownBlock ≠ some t.2.2) ∧ (L.map (·.2.2)).Nodup
section
variable {w w' : World} {lo : Nat} {v : Value} {L : List Tr}
theorem Out.by (hb : Below w.heap.size w w') (h : Out w lo v L) : Out w' lo v L := by
  obtain ⟨h0, h1, h2, h3⟩ := h
  refine ⟨Nat.le_trans h0 hb.size, row_same h1 (fun g hg => hb.block g (h1.lt g hg).2), fun t ht => ?_, h3⟩
  obtain ⟨⟨a, b, c⟩, d⟩ := h2 t ht
  exact ⟨⟨OwnR.by hb a, b, Nat.lt_of_lt_of_le c hb.size⟩, d⟩
theorem Out.sized (h : Out w lo v L) : ∃ a c, v = .slice a L.length c := by
  obtain ⟨_, ⟨_, h1⟩, _⟩ := h
  rcases h1 with ⟨h1, h2⟩ | ⟨g, cap, cur, e1, _⟩
  · exact ⟨none, 0, by rw [h1, h2]⟩
  · exact ⟨_, _, e1⟩
theorem row_cur {g cap n : Nat} {cur : Array Value} {xs : List Value} (e7 : cur.toList.take (n * 4) = xs) : ∀ (j : Nat) u, xs[j]? = some u → cur[j]? = some u := by
  intro j u hu
  rw [← e7] at hu
  have hj : j < n * 4 := by
    have := (List.getElem?_eq_some_iff.1 hu).1
    rw [List.length_take] at this; omega
  rw [List.getElem?_take_of_lt hj] at hu
  simpa using hu
theorem Out.own (h : Out w lo v L) : OwnDs w lo w.heap.size v (L.map (·.1)) := by
  obtain ⟨h0, ⟨hlen, h1⟩, h2, h3⟩ := h
  rcases h1 with ⟨h1, hn⟩ | ⟨g, cap, cur, e1, e2, e3, e4, e5, e6, e7⟩
  · exact .inl ⟨_, _, h1, by rw [List.eq_nil_of_length_eq_zero hn]; rfl⟩
  · have hcur := row_cur (g := g) (cap := cap) e7
    have hgl : g < w.heap.size := (Array.getElem?_eq_some_iff.1 e3).1
    refine .inr ⟨g, cap, cur, fun i => (L.getD i default).2.2, by simpa using e1, ⟨e2, hgl⟩, by simpa using e4, e5, e3, fun i x hx => ?_, fun i j hi hj hij => ?_⟩
    · rw [List.getElem?_map] at hx
      obtain ⟨t, ht, rfl⟩ : ∃ t, L[i]? = some t ∧ t.1 = x := by
        cases h : L[i]? with
        | none => rw [h] at hx; simp at hx
        | some t => rw [h] at hx; exact ⟨t, rfl, by simpa using hx⟩
      have hgD : L.getD i default = t := by simp [ht]
      dsimp only
      rw [hgD]
      obtain ⟨⟨a, b, c⟩, d⟩ := h2 t (List.mem_of_getElem? ht)
      obtain ⟨q0, q1, q2, q3⟩ := tcells_get L i t ht
      exact ⟨⟨t.2.1, ⟨hcur _ _ q0, hcur _ _ q1, hcur _ _ q2, hcur _ _ q3⟩, a⟩, b, c, fun e => d (by rw [e1, e]; rfl)⟩
    · simp at hi hj
      have hn := List.pairwise_iff_getElem.1 (List.nodup_iff_pairwise_ne.1 h3)
      have e1 : L.getD i default = L[i] := by simp [hi]
      have e2 : L.getD j default = L[j] := by simp [hj]
      dsimp only
      rw [e1, e2]
      rcases Nat.lt_or_gt_of_ne hij with h | h
      · have := hn i j (by simpa using hi) (by simpa using hj) h
        simpa using this
      · have := hn j i (by simpa using hj) (by simpa using hi) h
        simpa using this.symm
/-- The cells of a row, from an element on. -/
theorem row_news {g c n : Nat} (h1 : w.ownsRow lo 46 4 (.slice (some ⟨g, 0, none⟩) n c) n (tcells L)) (q : Nat) : ∀ (j : Nat) (u : Value), (tcells (L.drop q))[j]? = some u → w.cell? ((⟨g, q * 4, none⟩ : Addr).add j) = some u := by
  intro j u hu
  rw [tcells_drop, List.getElem?_drop] at hu
  rw [Addr.add_lit]
  have := h1.cells rfl _ _ hu
  rw [Addr.add_lit] at this
  simpa using this
theorem row_news0 {g c n : Nat} (h1 : w.ownsRow lo 46 4 (.slice (some ⟨g, 0, none⟩) n c) n (tcells L)) (q : Nat) : ∀ (j : Nat) (u : Value), (tcells (L.take q))[j]? = some u → w.cell? ((⟨g, 0, none⟩ : Addr).add j) = some u := by
  intro j u hu
  rw [tcells_take] at hu
  have hj : j < q * 4 := by
    have := (List.getElem?_eq_some_iff.1 hu).1
    rw [List.length_take] at this; omega
  rw [List.getElem?_take_of_lt hj] at hu
  exact h1.cells rfl _ _ hu
theorem Out.one (h : Out w lo v L) : ∀ t ∈ L, t.2.1.oneCell' = true := by
  intro t ht
  obtain ⟨⟨a, b, c⟩, d⟩ := h.2.2.1 t ht
  rcases a with ⟨_, _, e, _⟩ | ⟨_, _, _, e, _⟩ <;> rw [e] <;> rfl
end

/-- One device more, at its place, in a row of its own. -/
theorem Out.insert {w w' : World} {lo k q f g c : Nat} {v pv : Value} {x : Dv} {L : List Tr} (h : Out w lo v L) (hk : L.length = k) (hb : Below w.heap.size w w') (hq : q ≤ k) (hf : OwnR w' f (f + 1) pv x.pins) (hf1 : w.heap.size ≤ f) (hf2 : f < w'.heap.size) (hg : w.heap.size ≤ g) (hgf : g ≠ f)
    (hr : w'.ownsRow lo 46 4 (.slice (some ⟨g, 0, none⟩) (k + 1) c) (k + 1) (tcells (L.take q) ++ (tcells [(x, pv, f)] ++ tcells (L.drop q)))) : Out w' lo (.slice (some ⟨g, 0, none⟩) (k + 1) c) (L.take q ++ ((x, pv, f) :: L.drop q)) := by
  obtain ⟨h0, h1, h2, h3⟩ := h
  have hp := insert_perm L (x, pv, f) q
  refine ⟨Nat.le_trans h0 hb.size, ?_, fun t ht => ?_, ?_⟩
  · rw [hp.length_eq, List.length_append, List.length_singleton, hk, tcells_append]
    exact hr
  · rcases List.mem_append.1 (hp.mem_iff.1 ht) with ht | ht
    · obtain ⟨⟨a, b, c⟩, d⟩ := h2 t ht
      refine ⟨⟨OwnR.by hb a, b, Nat.lt_of_lt_of_le c hb.size⟩, fun e => ?_⟩
      have : g = t.2.2 := by injection e
      omega
    · obtain rfl : t = (x, pv, f) := by simpa using ht
      refine ⟨⟨hf, Nat.le_trans h0 hf1, hf2⟩, fun e => ?_⟩
      have : g = f := by injection e
      exact hgf this
  · rw [(hp.map (·.2.2)).nodup_iff, List.map_append, List.nodup_append]
    refine ⟨h3, by simp, fun a ha b hb' => ?_⟩
    obtain ⟨t, ht, rfl⟩ := List.mem_map.1 ha
    have := (h2 t ht).1.2.2
    simp at hb'
    omega

/-- append(v, row..), at a step of a region that draws its order. -/
theorem step_appT {ops : Array Oper} {o : Oper} {a : Act} {w : World} {K : Act → World → Prop} {Q : Exit → Act → World → Prop} {E : Prop} (hgd : o.guard = none) (s x : Operand)
    (ho : o.op = .call { callee := .builtin .append, args := #[s, x], argTypes := #[27, 27] })
    (lo : Nat) (v : Value) (n : Nat) (xs : List Value) (hs : a.eval s = v) (h1 : w.ownsRow lo 46 4 v n xs) (p : Addr) (m c : Nat) (news : List Value) (hx : a.eval x = .slice (some p) m c)
    (hl : news.length = m * 4) (hnews : ∀ j u, news[j]? = some u → w.cell? (p.add j) = some u) (hone : ∀ u ∈ news, u.oneCell' = true) (hm : 0 < m) (hn : n + m ≤ 1000) (hlo : lo ≤ w.heap.size)
    (hK : ∀ g c w', w'.ownsRow lo 46 4 (.slice (some ⟨g, 0, none⟩) (n + m) c) (n + m) (xs ++ news) → w.grownBy w' v.ownBlock → (v.ownBlock = some g ∨ g = w.heap.size) → K (a.put o.dst (.slice (some ⟨g, 0, none⟩) (n + m) c)) w') :
    if Region.wanted o (yielded ops a.tmps) = true then Oper.wp Tryz.prog o a w K Q else E := by
  obtain ⟨i0, hi0, hz0, hz1, hz2⟩ := info_parts infoDev
  exact step_append_lies w hgd s x 27 ho lo 46 i0 _ 4 48 Tryz.underlying27 hi0 hz0 hz1 hz2 rfl (by decide) v n xs hs h1 p m c news hx hl hnews hone hm (by unfold maxLen; omega) (by omega) hlo w.heap.size rfl (fun g cap w' hrow hgrow hg _ => hK g cap w' hrow hgrow hg)
theorem list_appT {ops : Array Oper} {rest : List Oper} {o : Oper} {a : Act} {w : World} {Q : Exit → Act → World → Prop} (hgd : o.guard = none) (s x : Operand)
    (ho : o.op = .call { callee := .builtin .append, args := #[s, x], argTypes := #[27, 27] })
    (lo : Nat) (v : Value) (n : Nat) (xs : List Value) (hs : a.eval s = v) (h1 : w.ownsRow lo 46 4 v n xs) (p : Addr) (m c : Nat) (news : List Value) (hx : a.eval x = .slice (some p) m c)
    (hl : news.length = m * 4) (hnews : ∀ j u, news[j]? = some u → w.cell? (p.add j) = some u) (hone : ∀ u ∈ news, u.oneCell' = true) (hm : 0 < m) (hn : n + m ≤ 1000) (hlo : lo ≤ w.heap.size)
    (hK : ∀ g c w', w'.ownsRow lo 46 4 (.slice (some ⟨g, 0, none⟩) (n + m) c) (n + m) (xs ++ news) → w.grownBy w' v.ownBlock → (v.ownBlock = some g ∨ g = w.heap.size) → wpList Tryz.prog ops Q rest (a.put o.dst (.slice (some ⟨g, 0, none⟩) (n + m) c)) w') : wpList Tryz.prog ops Q (o :: rest) a w :=
  wpList_plain hgd fun K hk => by
    have h := step_appT (ops := ops) (K := K) (Q := Q) (E := False) hgd s x ho lo v n xs hs h1 p m c news hx hl hnews hone hm hn hlo (fun g c w' h1 h2 h3 => hk _ _ (hK g c w' h1 h2 h3))
    rwa [if_pos (by simp [Region.wanted, hgd])] at h
theorem run_appZ (b n c : Nat) (a2 : Option Addr) (c2 : Nat) (ty : TypeId) (hn : n ≤ c) (w : World) :
    (Builtin.append_ #[27, 27] ty #[.slice (some ⟨b, 0, none⟩) n c, .slice a2 0 c2]).run Tryz.prog w = .ok (.slice (some ⟨b, 0, none⟩) n c) w := by
  obtain ⟨i0, hi0, hz0, hz1, hz2⟩ := info_parts infoDev
  have hs : Src Tryz.prog i0.size 27 (.slice a2 0 c2) 0 [] w := by
    cases a2 with
    | none => exact Src.ofNil w Tryz.underlying27 c2
    | some ad => exact Src.ofSlice w Tryz.underlying27 ad 0 c2 [] (by simp) (fun j u h => by simp at h) (fun u h => by simp at h)
  have h := run_append_room_src w 27 27 ty _ i0 Tryz.underlying27 hi0 b 0 n c (.slice a2 0 c2) 0 [] hs (by omega) (fun j hj => by simp at hj) (fun j hj => by simp at hj)
  simpa [World.setCells] using h
/-- append(v, nothing..). -/
theorem step_appZ {ops : Array Oper} {o : Oper} {a : Act} {w : World} {K : Act → World → Prop} {Q : Exit → Act → World → Prop} {E : Prop} (hgd : o.guard = none) (s x : Operand)
    (ho : o.op = .call { callee := .builtin .append, args := #[s, x], argTypes := #[27, 27] })
    (b n c : Nat) (a2 : Option Addr) (c2 : Nat) (hs : a.eval s = .slice (some ⟨b, 0, none⟩) n c) (hx : a.eval x = .slice a2 0 c2) (hn : n ≤ c)
    (hK : K (a.put o.dst (.slice (some ⟨b, 0, none⟩) n c)) w) : if Region.wanted o (yielded ops a.tmps) = true then Oper.wp Tryz.prog o a w K Q else E := by
  have hw : Region.wanted o (yielded ops a.tmps) = true := by simp [Region.wanted, hgd]
  rw [if_pos hw]
  have hr := run_appZ b n c a2 c2 o.type hn w
  unfold Oper.wp execOp
  simp only [ho, resolve, invoke, builtin, Sem.run_bind, Sem.run_pure, Result.andThen_ok, List.map_toArray, List.map_cons, List.map_nil, hs, hx, hr]
  exact hK
theorem list_appZ {ops : Array Oper} {rest : List Oper} {o : Oper} {a : Act} {w : World} {Q : Exit → Act → World → Prop} (hgd : o.guard = none) (s x : Operand)
    (ho : o.op = .call { callee := .builtin .append, args := #[s, x], argTypes := #[27, 27] })
    (b n c : Nat) (a2 : Option Addr) (c2 : Nat) (hs : a.eval s = .slice (some ⟨b, 0, none⟩) n c) (hx : a.eval x = .slice a2 0 c2) (hn : n ≤ c)
    (hK : wpList Tryz.prog ops Q rest (a.put o.dst (.slice (some ⟨b, 0, none⟩) n c)) w) : wpList Tryz.prog ops Q (o :: rest) a w :=
  wpList_plain hgd fun K hk => by
    have h := step_appZ (ops := ops) (K := K) (Q := Q) (E := False) hgd s x ho b n c a2 c2 hs hx hn (hk _ _ hK)
    rwa [if_pos (by simp [Region.wanted, hgd])] at h
/-- A literal row. -/
theorem row_lit {w : World} {lo g n : Nat} {L : List Tr} (h : Blk w g (tcells L).toArray 46) (hn : L.length = n) (hlo : lo ≤ g) (hl : n ≤ 1000) : w.ownsRow lo 46 4 (.slice (some ⟨g, 0, none⟩) n n) n (tcells L) := by
  subst hn
  refine ⟨length_tcells L, .inr ⟨g, L.length, (tcells L).toArray, rfl, hlo, h, Nat.le_refl _, by unfold maxLen; omega, by simp [length_tcells], ?_⟩⟩
  rw [List.take_of_length_le (by simp [length_tcells])]
end Go.Proofs.YtjanifoipbmkhaaGreat

/- The reference's sorted copies of devices. -/
namespace Go.Proofs.YtjanifoipbmkhaaGreat
open Go.RowKit
set_option linter.unusedVariables false
set_option linter.unusedSimpArgs false

theorem OwnI.pin0 {w : World} {lo : Nat} {sv : Value} {zs : List Int} (h : OwnI w lo sv zs) (hl : lo < w.heap.size) : ∃ g, lo ≤ g ∧ g < w.heap.size ∧ OwnR w g (g + 1) sv zs := by
  rcases h with h | ⟨g, cap, cs, h1, h2, h3, h4, h5, h6⟩
  · exact ⟨lo, Nat.le_refl _, hl, .inl h⟩
  · exact ⟨g, h2, h5.lt, .inr ⟨g, cap, cs, h1, Nat.le_refl _, Nat.lt_succ_self _, h3, h4, h5, h6⟩⟩

set_option maxRecDepth 100000 in
set_option maxHeartbeats 4000000 in
theorem specSorted_any (ds : List Dv) (sv : Value) (w : World) (h : DvSl w sv ds) (hn : ds.length ≤ 400) (hpn : ∀ d ∈ ds, d.pins.length ≤ 1048576 ∧ d.pins ≠ []) :
    Calls Tryz.prog 51 #[sv] w fun e w' => ∃ v', e = .returned v' ∧ OwnDs w' w.heap.size w'.heap.size v' (srtD ds) ∧ Below w.heap.size w w' := by
  have HDS := Lib.hid h
  have HPN := Lib.hid hpn
  obtain ⟨a1, c1, rfl⟩ := h.sized
  clear h hpn
  go_enter Tryz.func51, Tryz.ntmps51
  go_wp2
  go_loopw [3, 4] (fun sv vi wr => ∃ (k g c : Nat) (L : List Tr), k ≤ ds.length ∧ k ≤ c ∧ vi = .int .i64 k ∧ sv = .slice (some ⟨g, 0, none⟩) k c ∧ Hid (L.length = k) ∧ Hid (Out wr w.heap.size (.slice (some ⟨g, 0, none⟩) k c) L) ∧ Hid (Asc L) ∧ Hid ((L.map (·.1)).Perm (ds.take k)) ∧ Below w.heap.size w wr) (fun _ vi _ => ds.length - (intOf vi).toNat)
  case atStart =>
    refine ⟨0, _, _, [], Nat.zero_le _, Nat.zero_le _, rfl, rfl, Lib.hid rfl, Lib.hid ⟨?_, ?_, (fun t ht => by simp at ht), by simp⟩, Lib.hid (by unfold Asc; exact List.Pairwise.nil), Lib.hid (by simp), (by ((repeat (first | (with_reducible exact Below.refl _ _) | (with_reducible refine below_drewN ?_ _) | (with_reducible refine Below.drew ?_) | (with_reducible refine below_al ?_ _) | (with_reducible refine below_on (by assumption) ?_) | ((with_reducible refine Below.setCell ?_ ?_ _); rotate_left; focus (first | omega | (simp; done) | (simp; omega))) | (with_reducible assumption))); done))⟩
    · simp
    · exact row_lit (L := []) (Blk.new _ rfl) rfl (Nat.le_refl _) (by omega)
  case round =>
    obtain ⟨k, g, cv, L, hk, hkc, rfl, rfl, HLL, HO, HA, HP, hb⟩ := hrel
    by_cases hlt : k < ds.length
    · obtain ⟨x, hx⟩ : ∃ x, ds[k]? = some x := ⟨ds[k], List.getElem?_eq_getElem hlt⟩
      have HD := HDS.out
      rcases HD with ⟨_, _, _, h2⟩ | ⟨b, off, cap, he, h2, h3, h4⟩
      · rw [h2] at hlt; simp at hlt
      obtain ⟨rfl, rfl⟩ : a1 = some ⟨b, off, none⟩ ∧ c1 = cap := by simpa using he
      obtain ⟨sx, e1, e2, e3, e4, hSx⟩ := h4 k x hx
      have HSX := Lib.hid hSx
      have HX := Lib.hid hx
      obtain ⟨hxl, hxn⟩ := HPN.out x (List.mem_of_getElem? hx)
      have HXN := Lib.hid hxn
      have HOW := Lib.hid (fun w h => own_any x.kind x.wd x.len sx x.pins w h hxl)
      obtain ⟨ax, cx, rfl⟩ := hSx.len
      have i1 : (0 : Int) ≤ (k : Int) := by omega
      have i2 : (k : Int) < (ds.length : Int) := by omega
      have i2c : (k : Int) ≤ (cv : Int) := by omega
      have HE1 := Lib.hid e1
      have HE2 := Lib.hid e2
      have HE3 := Lib.hid e3
      have HE4 := Lib.hid e4
      have HQ0 := Lib.hid (show ∀ i y, k ≤ i → L[i]? = some y → dlt x y.1 = true from fun i y hi hy => by have := (List.getElem?_eq_some_iff.1 hy).1; rw [HLL.out] at this; omega)
      clear h4 hx hSx he e1 e2 e3 e4 hxn
      obtain ⟨wo, rfl⟩ : ∃ wo, wo = wr := ⟨_, rfl⟩
      go_wp2
      go_loopw [5] (fun vq wr => ∃ (q : Nat), q ≤ k ∧ vq = .int .i64 q ∧ Hid (∀ i y, q ≤ i → L[i]? = some y → dlt x y.1 = true) ∧ Hid (Out wr w.heap.size (.slice (some ⟨g, 0, none⟩) k cv) L) ∧ Below w.heap.size w wr) (fun vq _ => (intOf vq).toNat)
      case atStart => exact ⟨k, Nat.le_refl _, rfl, HQ0, HO, hb⟩
      case round =>
        clear HO hb HQ0
        obtain ⟨q, hq, rfl, HQ, HO, hb⟩ := hrel
        by_cases hq0 : 0 < q
        · obtain ⟨qp, rfl⟩ : ∃ qp, q = qp + 1 := ⟨q - 1, by omega⟩
          have d1 := cell_by' hb HE1.out
          have d2 := cell_by' hb HE2.out
          have d3 := cell_by' hb HE3.out
          have d4 := cell_by' hb HE4.out
          have hSx := HSX.out.by hb
          obtain ⟨t, ht⟩ : ∃ t, L[qp]? = some t := ⟨L[qp]'(by rw [HLL.out]; omega), List.getElem?_eq_getElem _⟩
          obtain ⟨hl0, hrow, hts, _⟩ := HO.out
          obtain ⟨⟨hot, _, _⟩, _⟩ := hts t (List.mem_of_getElem? ht)
          rw [HLL.out] at hrow
          obtain ⟨z1, z2, z3, z4⟩ := tcells_get L qp t ht
          have p1 := hrow.cells rfl _ _ z1
          have p2 := hrow.cells rfl _ _ z2
          have p3 := hrow.cells rfl _ _ z3
          have p4 := hrow.cells rfl _ _ z4
          simp only [Addr.add_lit, Nat.zero_add] at p1 p2 p3 p4
          have HT := Lib.hid ht
          have HNX := Lib.hid (show dlt x t.1 = true → ∀ i y, qp ≤ i → L[i]? = some y → dlt x y.1 = true from fun hd i y hi hy => by
            by_cases e : i = qp
            · subst e; rw [HT.out] at hy; cases hy; exact hd
            · exact HQ.out i y (by omega) hy)
          have HLT := Lib.hid (show dlt x t.1 = decide (dcf x t.1 < 0) from rfl)
          have HST := Lib.hid (show dlt x t.1 = false → ∀ y, L[qp + 1 - 1]? = some y → dlt x y.1 = false from fun hd y hy => by
            rw [Nat.add_sub_cancel, HT.out] at hy; cases hy; exact hd)
          have HCL := Lib.hid (fun W h1 h2 => specCompareDevices_any x.kind x.wd x.len t.1.kind t.1.wd t.1.len (.slice ax x.pins.length cx) t.2.1 x.pins t.1.pins W h1 h2)
          have HCF := Lib.hid (show devcmp x.kind t.1.kind x.pins t.1.pins x.wd t.1.wd x.len t.1.len = dcf x t.1 from rfl)
          rw [HCF.out] at HCL
          generalize dcf x t.1 = r at HCL HLT
          generalize dlt x t.1 = lt at HNX HLT HST
          obtain ⟨ay, cy, hty⟩ := hot.sl.len
          rw [hty] at p2 hot HCL
          have HY := Lib.hid hot.sl
          have HSW := Lib.hid hSx
          generalize t.1 = y at p1 p2 p3 p4 HCL HY
          have i3 : (0 : Int) < (qp : Int) + 1 := by omega
          have i4 : (qp : Int) < (k : Int) := by omega
          have wq : IntKind.i64.wrap (qp : Int) = (qp : Int) := by rw [IntKind.wrap_i64]; omega
          have hbl := lt_of_cell d1
          have hgl2 := lt_of_cell p1
          dsimp only at hbl hgl2
          have HSB : ∀ w' : World, Below wr.heap.size wr w' → (fun w' => w'.cell? ⟨b, off + k * 4, none⟩ = some (.int .i64 x.kind) ∧ w'.cell? ⟨b, off + k * 4 + 1, none⟩ = some (.slice ax x.pins.length cx) ∧ w'.cell? ⟨b, off + k * 4 + 2, none⟩ = some (.int .i64 x.wd) ∧ w'.cell? ⟨b, off + k * 4 + 3, none⟩ = some (.int .i64 x.len) ∧ w'.cell? ⟨g, qp * 4, none⟩ = some (.int .i64 y.kind) ∧ w'.cell? ⟨g, qp * 4 + 1, none⟩ = some (.slice ay y.pins.length cy) ∧ w'.cell? ⟨g, qp * 4 + 2, none⟩ = some (.int .i64 y.wd) ∧ w'.cell? ⟨g, qp * 4 + 3, none⟩ = some (.int .i64 y.len) ∧ Below wr.heap.size wr w') w' := fun w' hb => ⟨cell_by' hb d1, cell_by' hb d2, cell_by' hb d3, cell_by' hb d4, cell_by' hb p1, cell_by' hb p2, cell_by' hb p3, cell_by' hb p4, hb⟩
          clear ht hot hrow hts z1 z2 z3 z4 hty hSx HCF
          by_cases hr : r < 0
          · have HLT2 := Lib.hid (HLT.out.trans (decide_eq_true hr))
            go_wp2_with fail
            go_region_held3 (fun w' => w'.cell? ⟨b, off + k * 4, none⟩ = some (.int .i64 x.kind) ∧ w'.cell? ⟨b, off + k * 4 + 1, none⟩ = some (.slice ax x.pins.length cx) ∧ w'.cell? ⟨b, off + k * 4 + 2, none⟩ = some (.int .i64 x.wd) ∧ w'.cell? ⟨b, off + k * 4 + 3, none⟩ = some (.int .i64 x.len) ∧ w'.cell? ⟨g, qp * 4, none⟩ = some (.int .i64 y.kind) ∧ w'.cell? ⟨g, qp * 4 + 1, none⟩ = some (.slice ay y.pins.length cy) ∧ w'.cell? ⟨g, qp * 4 + 2, none⟩ = some (.int .i64 y.wd) ∧ w'.cell? ⟨g, qp * 4 + 3, none⟩ = some (.int .i64 y.len) ∧ Below wr.heap.size wr w') (((try (obtain ⟨_, _, _, _, _, _, _, _, hSB⟩ := hHeld)); refine HSB _ ?_; ((repeat (first | (with_reducible exact Below.refl _ _) | (with_reducible refine below_drewN ?_ _) | (with_reducible refine Below.drew ?_) | (with_reducible refine below_al ?_ _) | (with_reducible refine below_on (by assumption) ?_) | ((with_reducible refine Below.setCell ?_ ?_ _); rotate_left; focus (first | omega | (simp; done) | (simp; omega))) | (with_reducible assumption))); done)))
              (first | (go_at_call 85; refine (HCL.out _ (HSW.out.by (by ((repeat (first | (with_reducible exact Below.refl _ _) | (with_reducible refine below_drewN ?_ _) | (with_reducible refine Below.drew ?_) | (with_reducible refine below_al ?_ _) | (with_reducible refine below_on (by assumption) ?_) | ((with_reducible refine Below.setCell ?_ ?_ _); rotate_left; focus (first | omega | (simp; done) | (simp; omega))) | (with_reducible assumption))); done))) (HY.out.by (by ((repeat (first | (with_reducible exact Below.refl _ _) | (with_reducible refine below_drewN ?_ _) | (with_reducible refine Below.drew ?_) | (with_reducible refine below_al ?_ _) | (with_reducible refine below_on (by assumption) ?_) | ((with_reducible refine Below.setCell ?_ ?_ _); rotate_left; focus (first | omega | (simp; done) | (simp; omega))) | (with_reducible assumption))); done)))).mono ?_; rintro e w1 ⟨rfl, hb1⟩))
            all_goals
              have hb2 : Below wr.heap.size wr w1 := (by ((repeat (first | (with_reducible exact Below.refl _ _) | (with_reducible refine below_drewN ?_ _) | (with_reducible refine Below.drew ?_) | (with_reducible refine below_al ?_ _) | (with_reducible refine below_on (by assumption) ?_) | ((with_reducible refine Below.setCell ?_ ?_ _); rotate_left; focus (first | omega | (simp; done) | (simp; omega))) | (with_reducible assumption))); done))
              go_wp2_with fail
              exact ⟨⟨qp, by omega, by rfl, Lib.hid (HNX.out HLT2.out), Lib.hid (HO.out.by hb2), below_on hb2 hb⟩, by simp [intOf]⟩
          · have HLT2 := Lib.hid (HLT.out.trans (decide_eq_false hr))
            go_wp2_with fail
            go_region_held3 (fun w' => w'.cell? ⟨b, off + k * 4, none⟩ = some (.int .i64 x.kind) ∧ w'.cell? ⟨b, off + k * 4 + 1, none⟩ = some (.slice ax x.pins.length cx) ∧ w'.cell? ⟨b, off + k * 4 + 2, none⟩ = some (.int .i64 x.wd) ∧ w'.cell? ⟨b, off + k * 4 + 3, none⟩ = some (.int .i64 x.len) ∧ w'.cell? ⟨g, qp * 4, none⟩ = some (.int .i64 y.kind) ∧ w'.cell? ⟨g, qp * 4 + 1, none⟩ = some (.slice ay y.pins.length cy) ∧ w'.cell? ⟨g, qp * 4 + 2, none⟩ = some (.int .i64 y.wd) ∧ w'.cell? ⟨g, qp * 4 + 3, none⟩ = some (.int .i64 y.len) ∧ Below wr.heap.size wr w') (((try (obtain ⟨_, _, _, _, _, _, _, _, hSB⟩ := hHeld)); refine HSB _ ?_; ((repeat (first | (with_reducible exact Below.refl _ _) | (with_reducible refine below_drewN ?_ _) | (with_reducible refine Below.drew ?_) | (with_reducible refine below_al ?_ _) | (with_reducible refine below_on (by assumption) ?_) | ((with_reducible refine Below.setCell ?_ ?_ _); rotate_left; focus (first | omega | (simp; done) | (simp; omega))) | (with_reducible assumption))); done)))
              (first | (go_at_call 85; refine (HCL.out _ (HSW.out.by (by ((repeat (first | (with_reducible exact Below.refl _ _) | (with_reducible refine below_drewN ?_ _) | (with_reducible refine Below.drew ?_) | (with_reducible refine below_al ?_ _) | (with_reducible refine below_on (by assumption) ?_) | ((with_reducible refine Below.setCell ?_ ?_ _); rotate_left; focus (first | omega | (simp; done) | (simp; omega))) | (with_reducible assumption))); done))) (HY.out.by (by ((repeat (first | (with_reducible exact Below.refl _ _) | (with_reducible refine below_drewN ?_ _) | (with_reducible refine Below.drew ?_) | (with_reducible refine below_al ?_ _) | (with_reducible refine below_on (by assumption) ?_) | ((with_reducible refine Below.setCell ?_ ?_ _); rotate_left; focus (first | omega | (simp; done) | (simp; omega))) | (with_reducible assumption))); done)))).mono ?_; rintro e w1 ⟨rfl, hb1⟩))
            all_goals
              have hb2 : Below wr.heap.size wr w1 := (by ((repeat (first | (with_reducible exact Below.refl _ _) | (with_reducible refine below_drewN ?_ _) | (with_reducible refine Below.drew ?_) | (with_reducible refine below_al ?_ _) | (with_reducible refine below_on (by assumption) ?_) | ((with_reducible refine Below.setCell ?_ ?_ _); rotate_left; focus (first | omega | (simp; done) | (simp; omega))) | (with_reducible assumption))); done))
              have hb1w : Below w.heap.size w w1 := below_on hb2 hb
              have HO1 := Lib.hid (HO.out.by hb2)
              go_wp2_with fail
              have HL1 := Lib.hid (show qp + 1 = 0 ∨ ∀ y, L[qp + 1 - 1]? = some y → dlt x y.1 = false from .inr (HST.out HLT2.out))
              clear d1 d2 d3 d4 p1 p2 p3 p4 HSB HCL HNX HLT HST HSW HY HLT2 hr HO hb hbl hgl2 hb1 hb2
              obtain ⟨q, hqq⟩ : ∃ q, qp + 1 = q := ⟨_, rfl⟩
              rw [hqq] at HL1 hq HQ
              have hq1 : 0 < q := by omega
              rw [show ((qp : Int) + 1) = (q : Int) by omega]
              clear hqq i3 i4 wq
              by_cases hkq : k = q
              · rw [← hkq] at HL1 HQ ⊢
                have HQ1 := HQ
                have HKQ := Lib.hid hkq
                have hk1 : 0 < k := by omega
                clear hkq hq hq1
                have d1 := cell_by' hb1w HE1.out
                have d2 := cell_by' hb1w HE2.out
                have d3 := cell_by' hb1w HE3.out
                have d4 := cell_by' hb1w HE4.out
                have HSW := Lib.hid (HSX.out.by hb1w)
                have hbl := lt_of_cell d1
                dsimp only at hbl
                have hlo1 := hb1w.size
                go_region_law
                  (first | (go_simp; go_at_call 42; refine (HOW.out _ (HSW.out.by (by ((repeat (first | (with_reducible exact Below.refl _ _) | (with_reducible refine below_drewN ?_ _) | (with_reducible refine Below.drew ?_) | (with_reducible refine below_al ?_ _) | (with_reducible refine below_on (by assumption) ?_) | ((with_reducible refine Below.setCell ?_ ?_ _); rotate_left; focus (first | omega | (simp; done) | (simp; omega))) | (with_reducible assumption))); done)))).mono ?_; rintro e w2 ⟨pv, rfl, hOI, hb2⟩; obtain ⟨f, hf1, hf2, hOR⟩ := hOI.pin HXN.out; have HOR := Lib.hid hOR; obtain ⟨ap, cp, rfl⟩ := hOR.sl.len; clear hOR hOI; have hf0 : w1.heap.size ≤ f := hf1; have hb21 : Below w1.heap.size w1 w2 := (by ((repeat (first | (with_reducible exact Below.refl _ _) | (with_reducible refine below_drewN ?_ _) | (with_reducible refine Below.drew ?_) | (with_reducible refine below_al ?_ _) | (with_reducible refine below_on (by assumption) ?_) | ((with_reducible refine Below.setCell ?_ ?_ _); rotate_left; focus (first | omega | (simp; done) | (simp; omega))) | (with_reducible assumption))); done)); have HO2 := Lib.hid (HO1.out.by hb21); have hsz21 := hb21.size; dsimp only) | (refine step_appZ (by rfl) _ _ (by rfl) _ 1 1 _ _ (by rfl) (by rfl) (Nat.le_refl _) ?_))
                all_goals
                  have k3 : Blk (w2.alloc (.cells #[.int .i64 x.kind, .slice ap x.pins.length cp, .int .i64 x.wd, .int .i64 x.len] 46)) w2.heap.size #[.int .i64 x.kind, .slice ap x.pins.length cp, .int .i64 x.wd, .int .i64 x.len] 46 := Blk.new _ rfl
                  have hb3 : Below w1.heap.size w1 (w2.alloc (.cells #[.int .i64 x.kind, .slice ap x.pins.length cp, .int .i64 x.wd, .int .i64 x.len] 46)) := below_al hb21 _
                  have HR3 := Lib.hid (row_lit (lo := w.heap.size) (n := 1) (L := [(x, Value.slice ap x.pins.length cp, f)]) k3 rfl (by omega) (by omega))
                  have HF3 := Lib.hid (HOR.out.by ((Below.refl _ w2).alloc (Nat.le_refl _) (.cells #[.int .i64 x.kind, .slice ap x.pins.length cp, .int .i64 x.wd, .int .i64 x.len] 46)))
                  obtain ⟨gr, hgr0⟩ : ∃ gr, w2.heap.size = gr := ⟨_, rfl⟩
                  obtain ⟨w3, hw3⟩ : ∃ w3, w2.alloc (.cells #[.int .i64 x.kind, .slice ap x.pins.length cp, .int .i64 x.wd, .int .i64 x.len] 46) = w3 := ⟨_, rfl⟩
                  have hgr : w1.heap.size ≤ gr ∧ f < gr ∧ gr < w3.heap.size := by rw [← hw3]; simp; omega
                  rw [hgr0] at HR3 ⊢
                  rw [hw3] at hb3 HR3 HF3 ⊢
                  clear hw3 hgr0 k3
                  have HO3 := Lib.hid (HO1.out.by hb3)
                  have hb3w := below_on hb3 hb1w
                  have hsz3 := hb3.size
                  clear hb21 HO2 hsz21 HOR d1 d2 d3 d4 hbl
                  have HZ4 := Lib.hid (row_lit (lo := w.heap.size) (n := 0) (L := []) (Blk.new (w := w3) (T := 46) w3.heap.size rfl) rfl (by omega) (by omega))
                  have HRA := Lib.hid (HR3.out.kept (World.grownBy_alloc w3 (.cells #[] 46) none) (.inr (by simp [Value.ownBlock])))
                  go_wp2_with (first | (refine list_appT (by rfl) _ _ (by rfl) w.heap.size _ 0 [] (by rfl) HZ4.out ⟨g, 0, none⟩ k cv (tcells (L.take k)) (by rfl) (by rw [length_tcells, List.length_take, HLL.out]; omega) (row_news0 (by have := (HO3.out.by ((Below.refl _ w3).alloc (Nat.le_refl _) (.cells #[] 46))).2.1; rw [HLL.out] at this; exact this) k) (tcells_one (fun t ht => HO3.out.one t (List.mem_of_mem_take ht))) (by omega) (by omega) (by simp; omega) ?_; intro g4 c4 w4 hR4 hG4 hg4; simp only [Nat.zero_add, List.nil_append] at hR4; have HR4 := Lib.hid hR4; have HG4 := Lib.hid hG4; have HG4' := Lib.hid hg4; have HRB := Lib.hid (HRA.out.kept hG4 (.inr (by simp [Value.ownBlock]; omega))); have hlo4 := hG4.size; (try simp only [World.size_alloc] at hlo4); clear hR4 hG4 hg4) | (refine list_appT (by rfl) _ _ (by rfl) w.heap.size _ k _ (by rfl) HR4.out ⟨gr, 0, none⟩ 1 _ (tcells [(x, Value.slice ap x.pins.length cp, f)]) (by rfl) (by rw [length_tcells]; rfl) (fun j u hu => HRB.out.cells rfl j u hu) (tcells_one (L := [(x, Value.slice ap x.pins.length cp, f)]) (fun t ht => by obtain rfl : t = _ := List.mem_singleton.1 ht; rfl)) (by omega) (by omega) (by omega) ?_; intro g5 c5 w5 hR5 hG5 hg5; have HR5 := Lib.hid hR5; clear hR5))
                  have hg4 : w3.heap.size ≤ g4 := by
                    rcases HG4'.out with e | e
                    · have : w3.heap.size = g4 := by injection e
                      omega
                    · simp at e; omega
                  have hW4 : Within w3.heap.size (w3.heap.size + 1) (w3.alloc (.cells #[] 46)) w4 := grown_within HG4.out (fun g' e => by have : w3.heap.size = g' := (by injection e); omega)
                  have hb4 : Below w3.heap.size w3 w4 := hW4.below (below_al (Below.refl _ w3) _) (Nat.le_refl _)
                  have hW5 : Within g4 (g4 + 1) w4 w5 := grown_within hG5 (fun g' e => by have : g4 = g' := (by injection e); omega)
                  have hb5 : Below w3.heap.size w3 w5 := hW5.below hb4 (by omega)
                  have hg5' : w3.heap.size ≤ g5 := by
                    rcases hg5 with e | e
                    · have : g4 = g5 := by injection e
                      omega
                    · omega
                  have en5 : (k + 1) = k + 1 := by omega
                  have HR6 := HR5.out
                  rw [en5] at HR6
                  have hb5w := below_on hb5 hb3w
                  have hb51 := below_on hb5 hb3
                  have hfin := Out.insert (q := k) (f := f) (pv := .slice ap x.pins.length cp) (x := x) HO1.out HLL.out hb51 (by omega) (HF3.out.by hb5) (by omega) (by have := hb5.size; omega) (by omega) (by omega) (show w5.ownsRow w.heap.size 46 4 (.slice (some ⟨g5, 0, none⟩) (k + 1) c5) (k + 1) (tcells (L.take k) ++ (tcells [(x, Value.slice ap x.pins.length cp, f)] ++ tcells (L.drop k))) from by
                    have ed : L.drop k = [] := List.drop_eq_nil_of_le (by rw [HLL.out]; exact Nat.le_refl _)
                    rw [ed]
                    simpa [tcells] using HR6)
                  have hasc := HA.out.insert (x, .slice ap x.pins.length cp, f) k (by rw [HLL.out]; omega) HL1.out HQ1.out
                  have hkc5 : k + 1 ≤ c5 := by
                    rcases HR6.2 with ⟨e, _⟩ | ⟨_, _, _, e, _, _, h, _⟩
                    · cases e
                    · have : c5 = _ := (by injection e); omega
                  have hpm : ((L.take k ++ ((x, Value.slice ap x.pins.length cp, f) :: L.drop k)).map (·.1)).Perm (ds.take (k + 1)) := by
                    rw [take_snoc_of ds k x HX.out]
                    refine ((insert_perm L (x, Value.slice ap x.pins.length cp, f) k).map _).trans ?_
                    rw [List.map_append]
                    exact HP.out.append_right _
                  have hlen : (L.take k ++ ((x, Value.slice ap x.pins.length cp, f) :: L.drop k)).length = k + 1 := by rw [(insert_perm L _ k).length_eq, List.length_append, HLL.out]; rfl
                  (try rw [en5])
                  exact ⟨⟨k + 1, g5, c5, _, by omega, hkc5, by go_num, by first | rfl | (congr 1; omega), Lib.hid hlen, Lib.hid hfin, Lib.hid hasc, Lib.hid hpm, hb5w⟩, by simp [intOf]; omega⟩
              · have hqk : q < k := by omega
                have hcq : ¬ cv = q := by omega
                have iq1 : (0 : Int) ≤ (q : Int) := by omega
                have iq2 : (q : Int) ≤ (k : Int) := by omega
                have iq3 : (q : Int) ≤ (cv : Int) := by omega
                have HQ1 := HQ
                clear hkq
                have d1 := cell_by' hb1w HE1.out
                have d2 := cell_by' hb1w HE2.out
                have d3 := cell_by' hb1w HE3.out
                have d4 := cell_by' hb1w HE4.out
                have HSW := Lib.hid (HSX.out.by hb1w)
                have hbl := lt_of_cell d1
                dsimp only at hbl
                have hlo1 := hb1w.size
                go_region_law
                  (first | (go_simp; go_at_call 42; refine (HOW.out _ (HSW.out.by (by ((repeat (first | (with_reducible exact Below.refl _ _) | (with_reducible refine below_drewN ?_ _) | (with_reducible refine Below.drew ?_) | (with_reducible refine below_al ?_ _) | (with_reducible refine below_on (by assumption) ?_) | ((with_reducible refine Below.setCell ?_ ?_ _); rotate_left; focus (first | omega | (simp; done) | (simp; omega))) | (with_reducible assumption))); done)))).mono ?_; rintro e w2 ⟨pv, rfl, hOI, hb2⟩; obtain ⟨f, hf1, hf2, hOR⟩ := hOI.pin HXN.out; have HOR := Lib.hid hOR; obtain ⟨ap, cp, rfl⟩ := hOR.sl.len; clear hOR hOI; have hf0 : w1.heap.size ≤ f := hf1; have hb21 : Below w1.heap.size w1 w2 := (by ((repeat (first | (with_reducible exact Below.refl _ _) | (with_reducible refine below_drewN ?_ _) | (with_reducible refine Below.drew ?_) | (with_reducible refine below_al ?_ _) | (with_reducible refine below_on (by assumption) ?_) | ((with_reducible refine Below.setCell ?_ ?_ _); rotate_left; focus (first | omega | (simp; done) | (simp; omega))) | (with_reducible assumption))); done)); have HO2 := Lib.hid (HO1.out.by hb21); have hsz21 := hb21.size; dsimp only) | (refine step_appT (by rfl) _ _ (by rfl) w.heap.size _ 1 (tcells [(x, Value.slice ap x.pins.length cp, f)]) (by rfl) (row_lit (n := 1) (L := [(x, Value.slice ap x.pins.length cp, f)]) (Blk.new _ rfl) rfl (by omega) (by omega)) ⟨g, q * 4, none⟩ (k - q) (cv - q) (tcells (L.drop q)) (by rfl) (by rw [length_tcells, List.length_drop, HLL.out]) (row_news (by have := (HO2.out.by ((Below.refl _ w2).alloc (Nat.le_refl _) (.cells #[.int .i64 x.kind, .slice ap x.pins.length cp, .int .i64 x.wd, .int .i64 x.len] 46))).2.1; rw [HLL.out] at this; exact this) q) (tcells_one (fun t ht => HO2.out.one t (List.mem_of_mem_drop ht))) (by omega) (by omega) (by simp; omega) ?_; intro gr cr w3 hR3 hG3 hg3; have HR3 := Lib.hid hR3; clear hR3))
                all_goals
                  have hW3 : Within w2.heap.size (w2.heap.size + 1) (w2.alloc (.cells #[.int .i64 x.kind, .slice ap x.pins.length cp, .int .i64 x.wd, .int .i64 x.len] 46)) w3 := grown_within hG3 (fun g' e => by have : w2.heap.size = g' := (by injection e); omega)
                  have hb3 : Below w1.heap.size w1 w3 := hW3.below (below_al hb21 _) (by omega)
                  have HF3 := Lib.hid ((HOR.out.by ((Below.refl _ w2).alloc (Nat.le_refl _) (.cells #[.int .i64 x.kind, .slice ap x.pins.length cp, .int .i64 x.wd, .int .i64 x.len] 46))).past hW3 (by omega))
                  have hgr : w1.heap.size ≤ gr ∧ f < gr ∧ gr < w3.heap.size := by
                    have hlt := (HR3.out.lt gr rfl).2
                    rcases hg3 with e | e
                    · have : w2.heap.size = gr := by injection e
                      omega
                    · simp at e; omega
                  clear hG3 hg3 hW3
                  have HO3 := Lib.hid (HO1.out.by hb3)
                  have hb3w := below_on hb3 hb1w
                  have hsz3 := hb3.size
                  clear hb21 HO2 hsz21 HOR d1 d2 d3 d4 hbl
                  have HZ4 := Lib.hid (row_lit (lo := w.heap.size) (n := 0) (L := []) (Blk.new (w := w3) (T := 46) w3.heap.size rfl) rfl (by omega) (by omega))
                  have HRA := Lib.hid (HR3.out.kept (World.grownBy_alloc w3 (.cells #[] 46) none) (.inr (by simp [Value.ownBlock])))
                  go_wp2_with (first | (refine list_appT (by rfl) _ _ (by rfl) w.heap.size _ 0 [] (by rfl) HZ4.out ⟨g, 0, none⟩ q cv (tcells (L.take q)) (by rfl) (by rw [length_tcells, List.length_take, HLL.out]; omega) (row_news0 (by have := (HO3.out.by ((Below.refl _ w3).alloc (Nat.le_refl _) (.cells #[] 46))).2.1; rw [HLL.out] at this; exact this) q) (tcells_one (fun t ht => HO3.out.one t (List.mem_of_mem_take ht))) (by omega) (by omega) (by simp; omega) ?_; intro g4 c4 w4 hR4 hG4 hg4; simp only [Nat.zero_add, List.nil_append] at hR4; have HR4 := Lib.hid hR4; have HG4 := Lib.hid hG4; have HG4' := Lib.hid hg4; have HRB := Lib.hid (HRA.out.kept hG4 (.inr (by simp [Value.ownBlock]; omega))); have hlo4 := hG4.size; (try simp only [World.size_alloc] at hlo4); clear hR4 hG4 hg4) | (refine list_appT (by rfl) _ _ (by rfl) w.heap.size _ q _ (by rfl) HR4.out ⟨gr, 0, none⟩ (1 + (k - q)) _ (tcells [(x, Value.slice ap x.pins.length cp, f)] ++ tcells (L.drop q)) (by rfl) (by rw [List.length_append, length_tcells, length_tcells, List.length_drop, HLL.out]; show 1 * 4 + _ = _; omega) (fun j u hu => HRB.out.cells rfl j u hu) (fun u hu => (List.mem_append.1 hu).elim (tcells_one (L := [(x, Value.slice ap x.pins.length cp, f)]) (fun t ht => by obtain rfl : t = _ := List.mem_singleton.1 ht; rfl) u) (tcells_one (fun t ht => HO3.out.one t (List.mem_of_mem_drop ht)) u)) (by omega) (by omega) (by omega) ?_; intro g5 c5 w5 hR5 hG5 hg5; have HR5 := Lib.hid hR5; clear hR5))
                  have hg4 : w3.heap.size ≤ g4 := by
                    rcases HG4'.out with e | e
                    · have : w3.heap.size = g4 := by injection e
                      omega
                    · simp at e; omega
                  have hW4 : Within w3.heap.size (w3.heap.size + 1) (w3.alloc (.cells #[] 46)) w4 := grown_within HG4.out (fun g' e => by have : w3.heap.size = g' := (by injection e); omega)
                  have hb4 : Below w3.heap.size w3 w4 := hW4.below (below_al (Below.refl _ w3) _) (Nat.le_refl _)
                  have hW5 : Within g4 (g4 + 1) w4 w5 := grown_within hG5 (fun g' e => by have : g4 = g' := (by injection e); omega)
                  have hb5 : Below w3.heap.size w3 w5 := hW5.below hb4 (by omega)
                  have hg5' : w3.heap.size ≤ g5 := by
                    rcases hg5 with e | e
                    · have : g4 = g5 := by injection e
                      omega
                    · omega
                  have en5 : (q + (1 + (k - q))) = k + 1 := by omega
                  have HR6 := HR5.out
                  rw [en5] at HR6
                  have hb5w := below_on hb5 hb3w
                  have hb51 := below_on hb5 hb3
                  have hfin := Out.insert (q := q) (f := f) (pv := .slice ap x.pins.length cp) (x := x) HO1.out HLL.out hb51 (by omega) (HF3.out.by hb5) (by omega) (by have := hb5.size; omega) (by omega) (by omega) (show w5.ownsRow w.heap.size 46 4 (.slice (some ⟨g5, 0, none⟩) (k + 1) c5) (k + 1) (tcells (L.take q) ++ (tcells [(x, Value.slice ap x.pins.length cp, f)] ++ tcells (L.drop q))) from by
                    simpa [tcells] using HR6)
                  have hasc := HA.out.insert (x, .slice ap x.pins.length cp, f) q (by rw [HLL.out]; omega) HL1.out HQ1.out
                  have hkc5 : k + 1 ≤ c5 := by
                    rcases HR6.2 with ⟨e, _⟩ | ⟨_, _, _, e, _, _, h, _⟩
                    · cases e
                    · have : c5 = _ := (by injection e); omega
                  have hpm : ((L.take q ++ ((x, Value.slice ap x.pins.length cp, f) :: L.drop q)).map (·.1)).Perm (ds.take (k + 1)) := by
                    rw [take_snoc_of ds k x HX.out]
                    refine ((insert_perm L (x, Value.slice ap x.pins.length cp, f) q).map _).trans ?_
                    rw [List.map_append]
                    exact HP.out.append_right _
                  have hlen : (L.take q ++ ((x, Value.slice ap x.pins.length cp, f) :: L.drop q)).length = k + 1 := by rw [(insert_perm L _ q).length_eq, List.length_append, HLL.out]; rfl
                  (try rw [en5])
                  exact ⟨⟨k + 1, g5, c5, _, by omega, hkc5, by go_num, by first | rfl | (congr 1; omega), Lib.hid hlen, Lib.hid hfin, Lib.hid hasc, Lib.hid hpm, hb5w⟩, by simp [intOf]; omega⟩
        · obtain rfl : q = 0 := by omega
          have i4 : decide ((0 : Int) > 0) = false := by simp
          have HL1 := Lib.hid (show 0 = 0 ∨ ∀ y, L[0 - 1]? = some y → dlt x y.1 = false from .inl rfl)
          have HQ1 := HQ
          have hb2 : Below wr.heap.size wr wr.drew := below_of_drewN _ 1
          have hb1w := below_on hb2 hb
          have HO1 := Lib.hid (HO.out.by hb2)
          clear hb2 hq0
          go_wp2_with fail
          go_region
          all_goals go_wp2_with fail
          generalize wr.drew = w1 at *
          by_cases hkq : k = 0
          · subst hkq
            have d1 := cell_by' hb1w HE1.out
            have d2 := cell_by' hb1w HE2.out
            have d3 := cell_by' hb1w HE3.out
            have d4 := cell_by' hb1w HE4.out
            simp only [Nat.zero_mul, Nat.add_zero] at d1 d2 d3 d4
            have HSW := Lib.hid (HSX.out.by hb1w)
            have hbl := lt_of_cell d1
            dsimp only at hbl
            have hlo1 := hb1w.size
            go_region_law
              (first | (go_simp; go_at_call 42; refine (HOW.out _ (HSW.out.by (by ((repeat (first | (with_reducible exact Below.refl _ _) | (with_reducible refine below_drewN ?_ _) | (with_reducible refine Below.drew ?_) | (with_reducible refine below_al ?_ _) | (with_reducible refine below_on (by assumption) ?_) | ((with_reducible refine Below.setCell ?_ ?_ _); rotate_left; focus (first | omega | (simp; done) | (simp; omega))) | (with_reducible assumption))); done)))).mono ?_; rintro e w2 ⟨pv, rfl, hOI, hb2⟩; obtain ⟨f, hf1, hf2, hOR⟩ := hOI.pin HXN.out; have HOR := Lib.hid hOR; obtain ⟨ap, cp, rfl⟩ := hOR.sl.len; clear hOR hOI; have hf0 : w1.heap.size ≤ f := hf1; have hb21 : Below w1.heap.size w1 w2 := (by ((repeat (first | (with_reducible exact Below.refl _ _) | (with_reducible refine below_drewN ?_ _) | (with_reducible refine Below.drew ?_) | (with_reducible refine below_al ?_ _) | (with_reducible refine below_on (by assumption) ?_) | ((with_reducible refine Below.setCell ?_ ?_ _); rotate_left; focus (first | omega | (simp; done) | (simp; omega))) | (with_reducible assumption))); done)); have HO2 := Lib.hid (HO1.out.by hb21); have hsz21 := hb21.size; dsimp only) | (refine step_appZ (by rfl) _ _ (by rfl) _ 1 1 _ _ (by rfl) (by rfl) (Nat.le_refl _) ?_))
            all_goals
              have k3 : Blk (w2.alloc (.cells #[.int .i64 x.kind, .slice ap x.pins.length cp, .int .i64 x.wd, .int .i64 x.len] 46)) w2.heap.size #[.int .i64 x.kind, .slice ap x.pins.length cp, .int .i64 x.wd, .int .i64 x.len] 46 := Blk.new _ rfl
              have hb3 : Below w1.heap.size w1 (w2.alloc (.cells #[.int .i64 x.kind, .slice ap x.pins.length cp, .int .i64 x.wd, .int .i64 x.len] 46)) := below_al hb21 _
              have HR3 := Lib.hid (row_lit (lo := w.heap.size) (n := 1) (L := [(x, Value.slice ap x.pins.length cp, f)]) k3 rfl (by omega) (by omega))
              have HF3 := Lib.hid (HOR.out.by ((Below.refl _ w2).alloc (Nat.le_refl _) (.cells #[.int .i64 x.kind, .slice ap x.pins.length cp, .int .i64 x.wd, .int .i64 x.len] 46)))
              obtain ⟨gr, hgr0⟩ : ∃ gr, w2.heap.size = gr := ⟨_, rfl⟩
              obtain ⟨w3, hw3⟩ : ∃ w3, w2.alloc (.cells #[.int .i64 x.kind, .slice ap x.pins.length cp, .int .i64 x.wd, .int .i64 x.len] 46) = w3 := ⟨_, rfl⟩
              have hgr : w1.heap.size ≤ gr ∧ f < gr ∧ gr < w3.heap.size := by rw [← hw3]; simp; omega
              rw [hgr0] at HR3 ⊢
              rw [hw3] at hb3 HR3 HF3 ⊢
              clear hw3 hgr0 k3
              have HO3 := Lib.hid (HO1.out.by hb3)
              have hb3w := below_on hb3 hb1w
              have hsz3 := hb3.size
              clear hb21 HO2 hsz21 HOR d1 d2 d3 d4 hbl
              have HZ4 := Lib.hid (row_lit (lo := w.heap.size) (n := 0) (L := []) (Blk.new (w := w3) (T := 46) w3.heap.size rfl) rfl (by omega) (by omega))
              go_wp2_with (first | (refine list_appZ (by rfl) _ _ (by rfl) w3.heap.size 0 0 _ _ (by rfl) (by rfl) (Nat.le_refl _) ?_) | (refine list_appT (by rfl) _ _ (by rfl) w.heap.size _ 0 [] (by rfl) HZ4.out ⟨gr, 0, none⟩ 1 _ (tcells [(x, Value.slice ap x.pins.length cp, f)]) (by rfl) (by rw [length_tcells]; rfl) (fun j u hu => (HR3.out.kept (World.grownBy_alloc w3 _ none) (.inr (by simp [Value.ownBlock]))).cells rfl j u hu) (tcells_one (L := [(x, Value.slice ap x.pins.length cp, f)]) (fun t ht => by obtain rfl : t = _ := List.mem_singleton.1 ht; rfl)) (by omega) (by omega) (by simp; omega) ?_; intro g5 c5 w5 hR5 hG5 hg5; have HR5 := Lib.hid hR5; clear hR5))
              have hW5 : Within w3.heap.size (w3.heap.size + 1) (w3.alloc (.cells #[] 46)) w5 := grown_within hG5 (fun g' e => by have : w3.heap.size = g' := (by injection e); omega)
              have hb5 : Below w3.heap.size w3 w5 := hW5.below (below_al (Below.refl _ w3) _) (Nat.le_refl _)
              have hg5' : w3.heap.size ≤ g5 := by
                rcases hg5 with e | e
                · have : w3.heap.size = g5 := by injection e
                  omega
                · simp at e; omega
              have en5 : (0 + 1) = 0 + 1 := by omega
              have HR6 := HR5.out
              rw [en5] at HR6
              have hb5w := below_on hb5 hb3w
              have hb51 := below_on hb5 hb3
              have hfin := Out.insert (q := 0) (f := f) (pv := .slice ap x.pins.length cp) (x := x) HO1.out HLL.out hb51 (by omega) (HF3.out.by hb5) (by omega) (by have := hb5.size; omega) (by omega) (by omega) (show w5.ownsRow w.heap.size 46 4 (.slice (some ⟨g5, 0, none⟩) (0 + 1) c5) (0 + 1) (tcells (L.take 0) ++ (tcells [(x, Value.slice ap x.pins.length cp, f)] ++ tcells (L.drop 0))) from by
                have ed : L.drop 0 = [] := List.drop_eq_nil_of_le (by rw [HLL.out]; omega)
                rw [ed]
                simpa [tcells] using HR6)
              have hasc := HA.out.insert (x, .slice ap x.pins.length cp, f) 0 (by rw [HLL.out]; omega) (.inl rfl) HQ1.out
              have hkc5 : 0 + 1 ≤ c5 := by
                rcases HR6.2 with ⟨e, _⟩ | ⟨_, _, _, e, _, _, h, _⟩
                · cases e
                · have : c5 = _ := (by injection e); omega
              have hpm : ((L.take 0 ++ ((x, Value.slice ap x.pins.length cp, f) :: L.drop 0)).map (·.1)).Perm (ds.take (0 + 1)) := by
                rw [take_snoc_of ds 0 x HX.out]
                refine ((insert_perm L (x, Value.slice ap x.pins.length cp, f) 0).map _).trans ?_
                rw [List.map_append]
                exact HP.out.append_right _
              have hlen : (L.take 0 ++ ((x, Value.slice ap x.pins.length cp, f) :: L.drop 0)).length = 0 + 1 := by rw [(insert_perm L _ 0).length_eq, List.length_append, HLL.out]; rfl
              (try rw [en5])
              exact ⟨⟨0 + 1, g5, c5, _, by omega, hkc5, by go_num, by first | rfl | (congr 1; omega), Lib.hid hlen, Lib.hid hfin, Lib.hid hasc, Lib.hid hpm, hb5w⟩, by simp [intOf]; omega⟩
          · have hk1 : 0 < k := by omega
            have hcq : ¬ cv = 0 := by omega
            clear hkq
            have d1 := cell_by' hb1w HE1.out
            have d2 := cell_by' hb1w HE2.out
            have d3 := cell_by' hb1w HE3.out
            have d4 := cell_by' hb1w HE4.out
            have HSW := Lib.hid (HSX.out.by hb1w)
            have hbl := lt_of_cell d1
            dsimp only at hbl
            have hlo1 := hb1w.size
            go_region_law
              (first | (go_simp; go_at_call 42; refine (HOW.out _ (HSW.out.by (by ((repeat (first | (with_reducible exact Below.refl _ _) | (with_reducible refine below_drewN ?_ _) | (with_reducible refine Below.drew ?_) | (with_reducible refine below_al ?_ _) | (with_reducible refine below_on (by assumption) ?_) | ((with_reducible refine Below.setCell ?_ ?_ _); rotate_left; focus (first | omega | (simp; done) | (simp; omega))) | (with_reducible assumption))); done)))).mono ?_; rintro e w2 ⟨pv, rfl, hOI, hb2⟩; obtain ⟨f, hf1, hf2, hOR⟩ := hOI.pin HXN.out; have HOR := Lib.hid hOR; obtain ⟨ap, cp, rfl⟩ := hOR.sl.len; clear hOR hOI; have hf0 : w1.heap.size ≤ f := hf1; have hb21 : Below w1.heap.size w1 w2 := (by ((repeat (first | (with_reducible exact Below.refl _ _) | (with_reducible refine below_drewN ?_ _) | (with_reducible refine Below.drew ?_) | (with_reducible refine below_al ?_ _) | (with_reducible refine below_on (by assumption) ?_) | ((with_reducible refine Below.setCell ?_ ?_ _); rotate_left; focus (first | omega | (simp; done) | (simp; omega))) | (with_reducible assumption))); done)); have HO2 := Lib.hid (HO1.out.by hb21); have hsz21 := hb21.size; dsimp only) | (refine step_appT (by rfl) _ _ (by rfl) w.heap.size _ 1 (tcells [(x, Value.slice ap x.pins.length cp, f)]) (by rfl) (row_lit (n := 1) (L := [(x, Value.slice ap x.pins.length cp, f)]) (Blk.new _ rfl) rfl (by omega) (by omega)) ⟨g, 0 * 4, none⟩ (k - 0) (cv - 0) (tcells (L.drop 0)) (by rfl) (by rw [length_tcells, List.length_drop, HLL.out]) (row_news (by have := (HO2.out.by ((Below.refl _ w2).alloc (Nat.le_refl _) (.cells #[.int .i64 x.kind, .slice ap x.pins.length cp, .int .i64 x.wd, .int .i64 x.len] 46))).2.1; rw [HLL.out] at this; exact this) 0) (tcells_one (fun t ht => HO2.out.one t (List.mem_of_mem_drop ht))) (by omega) (by omega) (by simp; omega) ?_; intro gr cr w3 hR3 hG3 hg3; have HR3 := Lib.hid hR3; clear hR3))
            all_goals
              have hW3 : Within w2.heap.size (w2.heap.size + 1) (w2.alloc (.cells #[.int .i64 x.kind, .slice ap x.pins.length cp, .int .i64 x.wd, .int .i64 x.len] 46)) w3 := grown_within hG3 (fun g' e => by have : w2.heap.size = g' := (by injection e); omega)
              have hb3 : Below w1.heap.size w1 w3 := hW3.below (below_al hb21 _) (by omega)
              have HF3 := Lib.hid ((HOR.out.by ((Below.refl _ w2).alloc (Nat.le_refl _) (.cells #[.int .i64 x.kind, .slice ap x.pins.length cp, .int .i64 x.wd, .int .i64 x.len] 46))).past hW3 (by omega))
              have hgr : w1.heap.size ≤ gr ∧ f < gr ∧ gr < w3.heap.size := by
                have hlt := (HR3.out.lt gr rfl).2
                rcases hg3 with e | e
                · have : w2.heap.size = gr := by injection e
                  omega
                · simp at e; omega
              clear hG3 hg3 hW3
              have HO3 := Lib.hid (HO1.out.by hb3)
              have hb3w := below_on hb3 hb1w
              have hsz3 := hb3.size
              clear hb21 HO2 hsz21 HOR d1 d2 d3 d4 hbl
              have HZ4 := Lib.hid (row_lit (lo := w.heap.size) (n := 0) (L := []) (Blk.new (w := w3) (T := 46) w3.heap.size rfl) rfl (by omega) (by omega))
              go_wp2_with (first | (refine list_appZ (by rfl) _ _ (by rfl) w3.heap.size 0 0 _ _ (by rfl) (by rfl) (Nat.le_refl _) ?_) | (refine list_appT (by rfl) _ _ (by rfl) w.heap.size _ 0 [] (by rfl) HZ4.out ⟨gr, 0, none⟩ (1 + (k - 0)) _ (tcells [(x, Value.slice ap x.pins.length cp, f)] ++ tcells (L.drop 0)) (by rfl) (by rw [List.length_append, length_tcells, length_tcells, List.length_drop, HLL.out]; show 1 * 4 + _ = _; omega) (fun j u hu => (HR3.out.kept (World.grownBy_alloc w3 _ none) (.inr (by simp [Value.ownBlock]))).cells rfl j u hu) (fun u hu => (List.mem_append.1 hu).elim (tcells_one (L := [(x, Value.slice ap x.pins.length cp, f)]) (fun t ht => by obtain rfl : t = _ := List.mem_singleton.1 ht; rfl) u) (tcells_one (fun t ht => HO3.out.one t (List.mem_of_mem_drop ht)) u)) (by omega) (by omega) (by simp; omega) ?_; intro g5 c5 w5 hR5 hG5 hg5; have HR5 := Lib.hid hR5; clear hR5))
              have hW5 : Within w3.heap.size (w3.heap.size + 1) (w3.alloc (.cells #[] 46)) w5 := grown_within hG5 (fun g' e => by have : w3.heap.size = g' := (by injection e); omega)
              have hb5 : Below w3.heap.size w3 w5 := hW5.below (below_al (Below.refl _ w3) _) (Nat.le_refl _)
              have hg5' : w3.heap.size ≤ g5 := by
                rcases hg5 with e | e
                · have : w3.heap.size = g5 := by injection e
                  omega
                · simp at e; omega
              have en5 : (0 + (1 + (k - 0))) = k + 1 := by omega
              have HR6 := HR5.out
              rw [en5] at HR6
              have hb5w := below_on hb5 hb3w
              have hb51 := below_on hb5 hb3
              have hfin := Out.insert (q := 0) (f := f) (pv := .slice ap x.pins.length cp) (x := x) HO1.out HLL.out hb51 (by omega) (HF3.out.by hb5) (by omega) (by have := hb5.size; omega) (by omega) (by omega) (show w5.ownsRow w.heap.size 46 4 (.slice (some ⟨g5, 0, none⟩) (k + 1) c5) (k + 1) (tcells (L.take 0) ++ (tcells [(x, Value.slice ap x.pins.length cp, f)] ++ tcells (L.drop 0))) from by
                simpa [tcells] using HR6)
              have hasc := HA.out.insert (x, .slice ap x.pins.length cp, f) 0 (by rw [HLL.out]; omega) (.inl rfl) HQ1.out
              have hkc5 : k + 1 ≤ c5 := by
                rcases HR6.2 with ⟨e, _⟩ | ⟨_, _, _, e, _, _, h, _⟩
                · cases e
                · have : c5 = _ := (by injection e); omega
              have hpm : ((L.take 0 ++ ((x, Value.slice ap x.pins.length cp, f) :: L.drop 0)).map (·.1)).Perm (ds.take (k + 1)) := by
                rw [take_snoc_of ds k x HX.out]
                refine ((insert_perm L (x, Value.slice ap x.pins.length cp, f) 0).map _).trans ?_
                rw [List.map_append]
                exact HP.out.append_right _
              have hlen : (L.take 0 ++ ((x, Value.slice ap x.pins.length cp, f) :: L.drop 0)).length = k + 1 := by rw [(insert_perm L _ 0).length_eq, List.length_append, HLL.out]; rfl
              (try rw [en5])
              exact ⟨⟨k + 1, g5, c5, _, by omega, hkc5, by go_num, by first | rfl | (congr 1; omega), Lib.hid hlen, Lib.hid hfin, Lib.hid hasc, Lib.hid hpm, hb5w⟩, by simp [intOf]; omega⟩
    · obtain rfl : k = ds.length := by omega
      have e : L.map (·.1) = srtD ds := srtD_of (by have := HP.out; rwa [List.take_length] at this) (by have := HA.out; unfold Asc at this; rw [List.pairwise_map]; exact this)
      have hown := HO.out.own
      rw [e] at hown
      have i3 : ¬ (ds.length : Int) < (ds.length : Int) := by omega
      clear e
      go_wp2
      go_ret
      exact ⟨_, rfl, hown, hb⟩
end Go.Proofs.YtjanifoipbmkhaaGreat

/- The program's SortDevices. -/
namespace Go.Proofs.YtjanifoipbmkhaaGreat
open Go.RowKit
set_option linter.unusedVariables false
set_option linter.unusedSimpArgs false

/-- A netlist with its devices in order. -/
def sortS (x : Nl) : Nl := ⟨x.nets, srtD x.ds, x.ps⟩
def soS (x : Nl) : Nl := if nlB x = true then sortS x else ⟨0, [], []⟩
theorem soS_no {x : Nl} (h : nlB x = false) : soS x = ⟨0, [], []⟩ := by simp [soS, h]
theorem soS_yes {x : Nl} (h : nlB x = true) : soS x = sortS x := by simp [soS, h]

theorem ownNl_nil (w : World) (lo hi : Nat) (h : lo ≤ hi) : OwnNl w lo hi (.agg #[.int .i64 0, .slice none 0 0, .slice none 0 0]) ⟨0, [], []⟩ :=
  ⟨_, _, lo, hi, hi, hi, rfl, .inl ⟨_, _, rfl, rfl⟩, .inl ⟨_, _, rfl, rfl⟩, ⟨Nat.le_refl _, Nat.le_refl _⟩, ⟨h, Nat.le_refl _⟩, .inl (Nat.le_refl _)⟩
theorem dcmp_impl : DCmp 73 #[] := fun W x y sx sy hx hy => compareDevices_any x.kind x.wd x.len y.kind y.wd y.len sx sy x.pins y.pins W hx hy

set_option maxRecDepth 100000 in
set_option maxHeartbeats 4000000 in
theorem implSorted_any (x : Nl) (v : Value) (w : World) (h : NlV w v x) (hl : x.ds.length < 40) (hpl : x.ps.length ≤ 1048576) (hpn : ∀ d ∈ x.ds, d.pins.length ≤ 1048576 ∧ d.pins ≠ []) :
    Calls Tryz.prog 29 #[v] w fun e w' => ∃ v', e = .returned v' ∧ OwnNl w' w.heap.size w'.heap.size v' (sortS x) ∧ Below w.heap.size w w' := by
  have HN := Lib.hid h
  have HCP := Lib.hid (fun v w h => copyNetlist_any x v w h (by omega) hpl hpn)
  have HDL := Lib.hid (fun lo hi sv w (h : OwnDs w lo hi sv x.ds) => sortStableD_any 73 #[] (fun _ _ => rfl) dcmp_impl lo hi sv x.ds w h hl)
  obtain ⟨a, c, a', c', rfl⟩ := h.sized
  obtain ⟨nets, ds, ps⟩ := x
  dsimp only [sortS] at HN HCP HDL hl hpl ⊢
  have hsl : (srtD ds).length = ds.length := length_srtD ds
  have HSL := Lib.hid hsl
  clear h hpn hsl
  go_enter Tryz.func29, Tryz.ntmps29
  go_wp2_with fail
  refine (HCP.out _ _ (HN.out.by (by ((repeat (first | (with_reducible exact Below.refl _ _) | (with_reducible refine below_drewN ?_ _) | (with_reducible refine Below.drew ?_) | (with_reducible refine below_al ?_ _) | (with_reducible refine below_on (by assumption) ?_) | ((with_reducible refine Below.setCell ?_ ?_ _); rotate_left; focus (first | omega | (simp; done) | (simp; omega))) | (with_reducible assumption))); done)))).mono ?_
  rintro e w2 ⟨v2, rfl, hO, hb2⟩
  obtain ⟨s1, s2, lo1, hi1, lo2, hi2, rfl, hOD, hOP, hi1', hi2', hap⟩ := hO
  have k1 : Blk w2 (w.heap.size + 1) #[.int .i64 0, .slice none 0 0, .slice none 0 0] 30 := (by ((repeat (first | (with_reducible assumption) | (with_reducible refine Blk.drewN ?_ _) | (with_reducible refine Blk.drew ?_) | ((with_reducible refine Blk.new _ ?_); focus (first | omega | (simp; done) | (simp; omega))) | (with_reducible refine Blk.past ?_ _) | ((with_reducible refine Blk.apart ?_ _ _ _ ?_); rotate_left; focus (first | omega | (simp; done) | (simp; omega))) | (with_reducible refine Blk.by (by assumption) ?_))); done))
  have hB2 : Below w.heap.size w w2 := (by ((repeat (first | (with_reducible exact Below.refl _ _) | (with_reducible refine below_drewN ?_ _) | (with_reducible refine Below.drew ?_) | (with_reducible refine below_al ?_ _) | (with_reducible refine below_on (by assumption) ?_) | ((with_reducible refine Below.setCell ?_ ?_ _); rotate_left; focus (first | omega | (simp; done) | (simp; omega))) | (with_reducible assumption))); done))
  have hsz2 := hb2.size
  simp only [World.size_alloc] at hsz2 hi1' hi2'
  obtain ⟨a1, c1, rfl⟩ := hOD.sl.sized
  obtain ⟨a2, c2, rfl⟩ := hOP.sl.sized
  dsimp only at hOD hOP
  have HOD := Lib.hid hOD
  have HOP := Lib.hid hOP
  clear hb2 hOD hOP HN HCP
  have c1' := k1.cell
  have l1 := k1.lt
  go_wp2_with (go_at_call 72; refine (HDL.out lo1 hi1 _ _ (HOD.out.by (by ((repeat (first | (with_reducible exact Below.refl _ _) | (with_reducible refine below_drewN ?_ _) | (with_reducible refine Below.drew ?_) | (with_reducible refine below_al ?_ _) | (with_reducible refine below_on (by assumption) ?_) | ((with_reducible refine Below.setCell ?_ ?_ _); rotate_left; focus (first | omega | (simp; done) | (simp; omega))) | (with_reducible assumption))); done)))).mono ?_; rintro e w3 ⟨rfl, hO3, hw3⟩; have k3 : Blk w3 w2.heap.size #[.int .i64 nets, .slice a1 ds.length c1, .slice a2 ps.length c2] 30 := hw3.blk (Blk.new _ rfl) (by omega); have k1' := hw3.blk (k1.past _) (by omega); have c3' := k3.cell; have f3' := k3.free; have c1'' := k1'.cell; have f1'' := k1'.free; have hne : ¬ w2.heap.size = w.heap.size + 1 := (by omega))
  have hsz3 := hw3.size
  simp only [World.size_alloc] at hsz3
  have hB3 : Below w.heap.size w w3 := hw3.below (below_al hB2 (.cells #[.int .i64 nets, .slice a1 ds.length c1, .slice a2 ps.length c2] 30)) (by omega)
  have hOP3 := (HOP.out.by ((Below.refl _ w2).alloc (Nat.le_refl _) (.cells #[.int .i64 nets, .slice a1 ds.length c1, .slice a2 ps.length c2] 30))).past hw3 (by omega)
  refine bodyPost_ret (v := .agg #[.int .i64 nets, .slice a1 ds.length c1, .slice a2 ps.length c2]) (by simp [results, Tryz.results29, go_sem, *]) rfl ⟨_, rfl, ⟨_, _, lo1, hi1, lo2, hi2, rfl, ?_, ?_, ⟨by omega, by simp; omega⟩, ⟨by omega, by simp; omega⟩, hap⟩, ?_⟩
  · exact (((hO3.past (Within.off _) (by omega)).past (Within.off _) (by omega)).past (Within.off _) (by omega))
  · exact (((hOP3.past (Within.off _) (by omega)).past (Within.off _) (by omega)).past (Within.off _) (by omega))
  · repeat (first | (with_reducible exact hB3) | ((with_reducible refine Below.setCell ?_ ?_ _); rotate_left; focus (simp; try omega)))

end Go.Proofs.YtjanifoipbmkhaaGreat

/- The reference's SortDevices. -/
namespace Go.Proofs.YtjanifoipbmkhaaGreat
open Go.RowKit
set_option linter.unusedVariables false
set_option linter.unusedSimpArgs false

set_option maxRecDepth 100000 in
set_option maxHeartbeats 4000000 in
theorem specSort_any (x : Nl) (v : Value) (w : World) (h : NlV w v x) (hok : ∀ p ∈ x.ps, p.ok) (hnn : Fits x.nets) :
    Calls Tryz.prog 19 #[v] w fun e w' => ∃ v', e = .returned v' ∧ OwnNl w' w.heap.size w'.heap.size v' (soS x) ∧ Below w.heap.size w w' := by
  have HV := Lib.hid (fun v w h => specNl_any x v w h hok hnn)
  have HN := Lib.hid h
  cases hv : nlB x with
  | false =>
    rw [soS_no hv]
    rw [hv] at HV
    obtain ⟨a, c, a', c', rfl⟩ := h.sized
    clear h hok hv
    go_enter Tryz.func19, Tryz.ntmps19
    go_wp2_with (go_at_call 13; refine (HV.out _ _ (HN.out.by (by ((repeat (first | (with_reducible exact Below.refl _ _) | (with_reducible refine below_drewN ?_ _) | (with_reducible refine Below.drew ?_) | (with_reducible refine below_al ?_ _) | (with_reducible refine below_on (by assumption) ?_) | ((with_reducible refine Below.setCell ?_ ?_ _); rotate_left; focus (first | omega | (simp; done) | (simp; omega))) | (with_reducible assumption))); done)))).mono ?_; rintro e w1 ⟨rfl, hb1⟩; have k1 : Blk w1 (w.heap.size + 1) #[.int .i64 0, .slice none 0 0, .slice none 0 0] 30 := (by ((repeat (first | (with_reducible assumption) | (with_reducible refine Blk.drewN ?_ _) | (with_reducible refine Blk.drew ?_) | ((with_reducible refine Blk.new _ ?_); focus (first | omega | (simp; done) | (simp; omega))) | (with_reducible refine Blk.past ?_ _) | ((with_reducible refine Blk.apart ?_ _ _ _ ?_); rotate_left; focus (first | omega | (simp; done) | (simp; omega))) | (with_reducible refine Blk.by (by assumption) ?_))); done)); have f1 := k1.free; have c1 := k1.cell; have l1 := k1.lt)
    exact bodyPost_ret (v := .agg #[.int .i64 0, .slice none 0 0, .slice none 0 0]) (by simp [results, Tryz.results19, go_sem, *]) rfl ⟨_, rfl, ownNl_nil _ _ _ (by simp; omega), (by ((repeat (first | (with_reducible exact Below.refl _ _) | (with_reducible refine below_drewN ?_ _) | (with_reducible refine Below.drew ?_) | (with_reducible refine below_al ?_ _) | (with_reducible refine below_on (by assumption) ?_) | ((with_reducible refine Below.setCell ?_ ?_ _); rotate_left; focus (first | omega | (simp; done) | (simp; omega))) | (with_reducible assumption))); done))⟩
  | true =>
    rw [soS_yes hv]
    rw [hv] at HV
    obtain ⟨_, hl24, hp8, hdv, _⟩ := nlB_facts hv
    obtain ⟨s1, s2, rfl, hd, hp⟩ := h
    have HSO := Lib.hid (fun w h => specSorted_any x.ds s1 w h (by omega) (fun d hd => by have h1 := (dvB_pins (hdv d hd)).1; have h2 := (dvB_pins (hdv d hd)).2.1; exact ⟨by omega, fun e => by rw [e] at h2; simp at h2⟩))
    obtain ⟨nets, ds, ps⟩ := x
    dsimp only [sortS] at hd hp HN HV HSO hl24 hp8 ⊢
    have HSL := Lib.hid (length_srtD ds)
    have HD := Lib.hid hd
    have HP := Lib.hid hp
    obtain ⟨a1, c1, rfl⟩ := hd.sized
    obtain ⟨a2, c2, rfl⟩ := hp.sized
    clear hd hp hok hv hdv
    go_enter Tryz.func19, Tryz.ntmps19
    go_wp2_with fail
    refine (HV.out _ _ (HN.out.by (by ((repeat (first | (with_reducible exact Below.refl _ _) | (with_reducible refine below_drewN ?_ _) | (with_reducible refine Below.drew ?_) | (with_reducible refine below_al ?_ _) | (with_reducible refine below_on (by assumption) ?_) | ((with_reducible refine Below.setCell ?_ ?_ _); rotate_left; focus (first | omega | (simp; done) | (simp; omega))) | (with_reducible assumption))); done)))).mono ?_
    rintro e w1 ⟨rfl, hb1⟩
    have kN : Blk w1 w.heap.size #[.int .i64 nets, .slice a1 ds.length c1, .slice a2 ps.length c2] 30 := (by ((repeat (first | (with_reducible assumption) | (with_reducible refine Blk.drewN ?_ _) | (with_reducible refine Blk.drew ?_) | ((with_reducible refine Blk.new _ ?_); focus (first | omega | (simp; done) | (simp; omega))) | (with_reducible refine Blk.past ?_ _) | ((with_reducible refine Blk.apart ?_ _ _ _ ?_); rotate_left; focus (first | omega | (simp; done) | (simp; omega))) | (with_reducible refine Blk.by (by assumption) ?_))); done))
    have kZ : Blk w1 (w.heap.size + 1) #[.int .i64 0, .slice none 0 0, .slice none 0 0] 30 := (by ((repeat (first | (with_reducible assumption) | (with_reducible refine Blk.drewN ?_ _) | (with_reducible refine Blk.drew ?_) | ((with_reducible refine Blk.new _ ?_); focus (first | omega | (simp; done) | (simp; omega))) | (with_reducible refine Blk.past ?_ _) | ((with_reducible refine Blk.apart ?_ _ _ _ ?_); rotate_left; focus (first | omega | (simp; done) | (simp; omega))) | (with_reducible refine Blk.by (by assumption) ?_))); done))
    have hb : Below w.heap.size w w1 := (by ((repeat (first | (with_reducible exact Below.refl _ _) | (with_reducible refine below_drewN ?_ _) | (with_reducible refine Below.drew ?_) | (with_reducible refine below_al ?_ _) | (with_reducible refine below_on (by assumption) ?_) | ((with_reducible refine Below.setCell ?_ ?_ _); rotate_left; focus (first | omega | (simp; done) | (simp; omega))) | (with_reducible assumption))); done))
    have HDW := Lib.hid (HD.out.by hb)
    have HPW := Lib.hid (HP.out.by hb)
    clear hb1
    have lN := kN.lt
    have lZ := kZ.lt
    have cN := kN.cell
    go_wp2_with fail
    go_region_held_law ((fun w' => (Blk w' (w.heap.size) #[.int .i64 nets, .slice a1 ds.length c1, .slice a2 ps.length c2] 30 ∧ ∀ o, w'.cell? ⟨w.heap.size, o, none⟩ = (#[.int .i64 nets, .slice a1 ds.length c1, .slice a2 ps.length c2] : Array Value)[o]?) ∧ Below w.heap.size w w')) (((try (obtain ⟨⟨hS0, _⟩, hSB⟩ := hHeld)); refine ⟨Blk.both ?_, ?_⟩ <;> first | ((repeat (first | (with_reducible assumption) | (with_reducible refine Blk.drewN ?_ _) | (with_reducible refine Blk.drew ?_) | ((with_reducible refine Blk.new _ ?_); focus (first | omega | (simp; done) | (simp; omega))) | (with_reducible refine Blk.past ?_ _) | ((with_reducible refine Blk.apart ?_ _ _ _ ?_); rotate_left; focus (first | omega | (simp; done) | (simp; omega))) | (with_reducible refine Blk.by (by assumption) ?_))); done) | ((repeat (first | (with_reducible exact Below.refl _ _) | (with_reducible refine below_drewN ?_ _) | (with_reducible refine Below.drew ?_) | (with_reducible refine below_al ?_ _) | (with_reducible refine below_on (by assumption) ?_) | ((with_reducible refine Below.setCell ?_ ?_ _); rotate_left; focus (first | omega | (simp; done) | (simp; omega))) | (with_reducible assumption))); done)))
      (first | (go_simp; go_at_call 51; refine (HSO.out _ (HDW.out.by (by ((repeat (first | (with_reducible exact Below.refl _ _) | (with_reducible refine below_drewN ?_ _) | (with_reducible refine Below.drew ?_) | (with_reducible refine below_al ?_ _) | (with_reducible refine below_on (by assumption) ?_) | ((with_reducible refine Below.setCell ?_ ?_ _); rotate_left; focus (first | omega | (simp; done) | (simp; omega))) | (with_reducible assumption))); done)))).mono ?_; rintro e w2 ⟨v2, rfl, hO, hb2⟩; have HO := Lib.hid hO; obtain ⟨a3, c3, rfl⟩ := hO.sl.sized; clear hO; (refine with_fact (p := Blk w2 w.heap.size #[.int .i64 nets, .slice a1 ds.length c1, .slice a2 ps.length c2] 30) (Blk.by hb2 ?_) ?_; (focus ((repeat (first | (with_reducible assumption) | (with_reducible refine Blk.drewN ?_ _) | (with_reducible refine Blk.drew ?_) | ((with_reducible refine Blk.new _ ?_); focus (first | omega | (simp; done) | (simp; omega))) | (with_reducible refine Blk.past ?_ _) | ((with_reducible refine Blk.apart ?_ _ _ _ ?_); rotate_left; focus (first | omega | (simp; done) | (simp; omega))) | (with_reducible refine Blk.by (by assumption) ?_))); done)); intro kN2; have lN2 := kN2.lt; have cN2 := kN2.cell); (refine with_fact (p := Blk w2 (w.heap.size + 1) #[.int .i64 0, .slice none 0 0, .slice none 0 0] 30) (Blk.by hb2 ?_) ?_; (focus ((repeat (first | (with_reducible assumption) | (with_reducible refine Blk.drewN ?_ _) | (with_reducible refine Blk.drew ?_) | ((with_reducible refine Blk.new _ ?_); focus (first | omega | (simp; done) | (simp; omega))) | (with_reducible refine Blk.past ?_ _) | ((with_reducible refine Blk.apart ?_ _ _ _ ?_); rotate_left; focus (first | omega | (simp; done) | (simp; omega))) | (with_reducible refine Blk.by (by assumption) ?_))); done)); intro kZ2); have hb2' : Below w1.heap.size w1 w2 := (by ((repeat (first | (with_reducible exact Below.refl _ _) | (with_reducible refine below_drewN ?_ _) | (with_reducible refine Below.drew ?_) | (with_reducible refine below_al ?_ _) | (with_reducible refine below_on (by assumption) ?_) | ((with_reducible refine Below.setCell ?_ ?_ _); rotate_left; focus (first | omega | (simp; done) | (simp; omega))) | (with_reducible assumption))); done)); dsimp only) | (refine step_cloneP (by rfl) _ _ (by rfl) _ (by rfl) _ ps (by rfl) (HPW.out.by (by ((repeat (first | (with_reducible exact Below.refl _ _) | (with_reducible refine below_drewN ?_ _) | (with_reducible refine Below.drew ?_) | (with_reducible refine below_al ?_ _) | (with_reducible refine below_on (by assumption) ?_) | ((with_reducible refine Below.setCell ?_ ?_ _); rotate_left; focus (first | omega | (simp; done) | (simp; omega))) | (with_reducible assumption))); done))) (by omega) _ (Nat.le_refl _) ?_; intro v3 w3 hP hb3; have HP3 := Lib.hid hP; obtain ⟨a4, c4, rfl⟩ := hP.sl.sized; clear hP; (refine with_fact (p := Blk w3 (w.heap.size + 1) #[.int .i64 0, .slice none 0 0, .slice none 0 0] 30) (Blk.by hb3 ?_) ?_; (focus ((repeat (first | (with_reducible assumption) | (with_reducible refine Blk.drewN ?_ _) | (with_reducible refine Blk.drew ?_) | ((with_reducible refine Blk.new _ ?_); focus (first | omega | (simp; done) | (simp; omega))) | (with_reducible refine Blk.past ?_ _) | ((with_reducible refine Blk.apart ?_ _ _ _ ?_); rotate_left; focus (first | omega | (simp; done) | (simp; omega))) | (with_reducible refine Blk.by (by assumption) ?_))); done)); intro kZ3; have cZ3 := kZ3.cell; have fZ3 := kZ3.free; have lZ3 := kZ3.lt)))
    all_goals (go_wp2_with fail)
    all_goals
      have hs2 := hb2.size
      have hs3 := hb3.size
      simp only [World.size_alloc, World.size_drew] at hs2 hs3
      have hw3 : Below w2.heap.size w2 w3 := (by ((repeat (first | (with_reducible exact Below.refl _ _) | (with_reducible refine below_drewN ?_ _) | (with_reducible refine Below.drew ?_) | (with_reducible refine below_al ?_ _) | (with_reducible refine below_on (by assumption) ?_) | ((with_reducible refine Below.setCell ?_ ?_ _); rotate_left; focus (first | omega | (simp; done) | (simp; omega))) | (with_reducible assumption))); done))
      have hB3 : Below w.heap.size w w3 := below_on hw3 (below_on hb2' hb)
      have hO3 := HO.out.by hw3
      refine bodyPost_ret (v := .agg #[.int .i64 nets, .slice a3 (srtD ds).length c3, .slice a4 ps.length c4]) (by simp [results, Tryz.results19, go_sem, *]) rfl ⟨_, rfl, ⟨_, _, _, _, _, _, rfl, (((hO3.past (Within.off _) (.inr ?_)).past (Within.off _) (.inr ?_)).past (Within.off _) (.inr ?_)), (((HP3.out.past (Within.off _) (.inr ?_)).past (Within.off _) (.inr ?_)).past (Within.off _) (.inr ?_)), ⟨?_, ?_⟩, ⟨?_, ?_⟩, .inl ?_⟩, ?_⟩
      all_goals first | (simp; done) | (simp; omega) | omega | (repeat (first | (with_reducible exact hB3) | ((with_reducible refine Below.setCell ?_ ?_ _); rotate_left; focus (simp; try omega))))
end Go.Proofs.YtjanifoipbmkhaaGreat

/- Bounds of what SortDevices answers. -/
namespace Go.Proofs.YtjanifoipbmkhaaGreat
open Go.RowKit
set_option linter.unusedVariables false
theorem dsum_perm {ds es : List Dv} (h : ds.Perm es) : dsum ds = dsum es := by
  induction h with
  | nil => rfl
  | cons x _ ih => simp [dsum, ih]
  | swap x y l => simp [dsum]; omega
  | trans _ _ ih1 ih2 => exact ih1.trans ih2
theorem soS_bounds {x : Nl} (h : ∀ d ∈ x.ds, d.pins.length ≤ 1048576) (hb : nlSize x.ds x.ps ≤ 1048576) : (∀ d ∈ (soS x).ds, d.pins.length ≤ 1048576) ∧ nsum (soS x) ≤ 4000000 := by
  have hx := nsum_le hb
  cases hv : nlB x with
  | false => rw [soS_no hv]; exact ⟨fun d hd => by simp at hd, by simp [nsum, dsum]⟩
  | true =>
    rw [soS_yes hv]
    refine ⟨fun d hd => h d ((srtD_perm x.ds).mem_iff.1 hd), ?_⟩
    have := dsum_perm (srtD_perm x.ds)
    unfold nsum sortS at *
    dsimp only
    rw [this]
    omega
end Go.Proofs.YtjanifoipbmkhaaGreat
