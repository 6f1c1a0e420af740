/- Rows of devices and of ports that are copied and grow: what a reader sees of them. -/
import Derived.Test.YtglddnkpccgchaaDoorSrtB
import Derived.Test.YtglddnkpccgchaaDoorBldg
namespace Go.Proofs.YtglddnkpccgchaaDoor
open Go.RowKit
set_option linter.unusedVariables false
set_option linter.unusedSimpArgs false

/-- The cells of a row of devices; the pins are read in world w0. -/
def DvL (w0 : World) (xs : List Value) (ds : List Dv) : Prop := xs.length = ds.length * 4 ∧ ∀ (i : Nat) x, ds[i]? = some x → ∃ pv, xs[i * 4]? = some (.int .i64 x.kind) ∧ xs[i * 4 + 1]? = some pv ∧ xs[i * 4 + 2]? = some (.int .i64 x.wd) ∧ xs[i * 4 + 3]? = some (.int .i64 x.len) ∧ IntSl w0 pv x.pins
theorem DvL.one {w0 : World} {xs : List Value} {ds : List Dv} (h : DvL w0 xs ds) : ∀ u ∈ xs, u.oneCell' = true := by
  intro u hu
  obtain ⟨j, hj, e⟩ := List.getElem_of_mem hu
  have hj2 : j < ds.length * 4 := by rw [← h.1]; exact hj
  obtain ⟨pv, u1, u2, u3, u4, u5⟩ := h.2 (j / 4) (ds[j / 4]'(by omega)) (List.getElem?_eq_getElem _)
  have hx : xs[j]? = some u := by rw [List.getElem?_eq_getElem hj, e]
  have hr : j = j / 4 * 4 ∨ j = j / 4 * 4 + 1 ∨ j = j / 4 * 4 + 2 ∨ j = j / 4 * 4 + 3 := by omega
  rcases hr with hr | hr | hr | hr
  · rw [hr, u1] at hx; cases hx; rfl
  · rw [hr, u2] at hx; cases hx; exact u5.one
  · rw [hr, u3] at hx; cases hx; rfl
  · rw [hr, u4] at hx; cases hx; rfl
theorem DvL.nil (w0 : World) : DvL w0 [] [] := ⟨rfl, fun i x h => by simp at h⟩
theorem DvL.push {w0 : World} {xs : List Value} {ds : List Dv} (h : DvL w0 xs ds) (d : Dv) (pv : Value) (hp : IntSl w0 pv d.pins) : DvL w0 (xs ++ [.int .i64 d.kind, pv, .int .i64 d.wd, .int .i64 d.len]) (ds ++ [d]) := by
  refine ⟨by simp [h.1]; omega, fun i x hx => ?_⟩
  by_cases hi : i < ds.length
  · rw [List.getElem?_append_left hi] at hx
    obtain ⟨pv, u1, u2, u3, u4, u5⟩ := h.2 i x hx
    have hl := h.1
    exact ⟨pv, by rw [List.getElem?_append_left (by omega)]; exact u1, by rw [List.getElem?_append_left (by omega)]; exact u2, by rw [List.getElem?_append_left (by omega)]; exact u3, by rw [List.getElem?_append_left (by omega)]; exact u4, u5⟩
  · have hi2 : i = ds.length := by
      have := (List.getElem?_eq_some_iff.1 hx).1
      simp at this
      omega
    subst hi2
    rw [List.getElem?_append_right (Nat.le_refl _)] at hx
    simp at hx
    subst hx
    have hl := h.1
    exact ⟨pv, by rw [List.getElem?_append_right (by omega), hl]; simp, by rw [List.getElem?_append_right (by omega), hl]; simp, by rw [List.getElem?_append_right (by omega), hl]; simp, by rw [List.getElem?_append_right (by omega), hl]; simp, hp⟩
/-- What is read as devices lies in cells. -/
theorem DvSl.rows {w0 : World} {b off n c : Nat} {ds : List Dv} (h : DvSl w0 (.slice (some ⟨b, off, none⟩) n c) ds) (h0 : ds ≠ []) : n = ds.length ∧ ∃ xs, DvL w0 xs ds ∧ ∀ (j : Nat) u, xs[j]? = some u → w0.cell? ((⟨b, off, none⟩ : Addr).add j) = some u := by
  rcases h with ⟨_, _, _, e⟩ | ⟨b', off', cap, e1, e2, e3, hel⟩
  · exact absurd e h0
  · simp only [Value.slice.injEq, Option.some.injEq, Addr.mk.injEq, and_true] at e1
    obtain ⟨⟨rfl, rfl⟩, rfl, rfl⟩ := e1
    have get : ∀ (j : Nat), j < ds.length * 4 → ((List.range (ds.length * 4)).map fun j => (w0.cell? ⟨b, off + j, none⟩).getD .nilIface)[j]? = some ((w0.cell? ⟨b, off + j, none⟩).getD .nilIface) := fun j hj => by
      rw [List.getElem?_map, List.getElem?_range hj]; rfl
    refine ⟨rfl, (List.range (ds.length * 4)).map fun j => (w0.cell? ⟨b, off + j, none⟩).getD .nilIface, ⟨by simp, fun i x hx => ?_⟩, fun j u hu => ?_⟩
    · have hi := (List.getElem?_eq_some_iff.1 hx).1
      obtain ⟨pv, u1, u2, u3, u4, u5⟩ := hel i x hx
      refine ⟨pv, ?_, ?_, ?_, ?_, u5⟩
      · rw [get _ (by omega), u1]; rfl
      · rw [get _ (by omega), show off + (i * 4 + 1) = off + i * 4 + 1 by omega, u2]; rfl
      · rw [get _ (by omega), show off + (i * 4 + 2) = off + i * 4 + 2 by omega, u3]; rfl
      · rw [get _ (by omega), show off + (i * 4 + 3) = off + i * 4 + 3 by omega, u4]; rfl
    · have hj : j < ds.length * 4 := by have := (List.getElem?_eq_some_iff.1 hu).1; simpa using this
      rw [get j hj] at hu
      rw [Addr.add_lit]
      obtain ⟨pv, u1, u2, u3, u4, u5⟩ := hel (j / 4) (ds[j / 4]'(by omega)) (List.getElem?_eq_getElem _)
      have hr : j = j / 4 * 4 ∨ j = j / 4 * 4 + 1 ∨ j = j / 4 * 4 + 2 ∨ j = j / 4 * 4 + 3 := by omega
      have : ∃ z, w0.cell? ⟨b, off + j, none⟩ = some z := by
        rcases hr with hr | hr | hr | hr
        · exact ⟨_, by rw [hr]; exact u1⟩
        · exact ⟨_, by rw [hr, show off + (j / 4 * 4 + 1) = off + j / 4 * 4 + 1 by omega]; exact u2⟩
        · exact ⟨_, by rw [hr, show off + (j / 4 * 4 + 2) = off + j / 4 * 4 + 2 by omega]; exact u3⟩
        · exact ⟨_, by rw [hr, show off + (j / 4 * 4 + 3) = off + j / 4 * 4 + 3 by omega]; exact u4⟩
      obtain ⟨z, hz⟩ := this
      rw [hz] at hu ⊢
      exact hu
/-- A row of one's own is read as devices. -/
theorem row_sl {w0 w : World} {lo : Nat} {v : Value} {xs : List Value} {ds : List Dv} (h : w.ownsRow lo 52 4 v ds.length xs) (hx : DvL w0 xs ds) (hb : Below w0.heap.size w0 w) : DvSl w v ds := by
  obtain ⟨hlen, h1⟩ := h
  rcases h1 with ⟨h1, hn⟩ | ⟨g, cap, cur, e1, e2, e3, e4, e5, e6, e7⟩
  · exact .inl ⟨_, _, h1, List.eq_nil_of_length_eq_zero hn⟩
  · refine .inr ⟨g, 0, cap, e1, e4, e5, fun i x hxi => ?_⟩
    obtain ⟨pv, u1, u2, u3, u4, u5⟩ := hx.2 i x hxi
    have hc := Blk.cell e3
    have hcur := row_cur (g := g) (cap := cap) e7
    rw [Nat.zero_add]
    exact ⟨pv, by rw [hc]; exact hcur _ _ u1, by rw [hc]; exact hcur _ _ u2, by rw [hc]; exact hcur _ _ u3, by rw [hc]; exact hcur _ _ u4, u5.by hb⟩

/-- append([]Device{}, devices...), at a step of a region that draws its order. -/
theorem step_catD {ops : Array Oper} {o : Oper} {a : Act} {w : World} {K : Act → World → Prop} {Q : Exit → Act → World → Prop} {E : Prop} (hgd : o.guard = none) (s x : Operand)
    (ho : o.op = .call { callee := .builtin .append, args := #[s, x], argTypes := #[28, 28] })
    (w0 : World) (b lo : Nat) (sv : Value) (ds : List Dv) (hs : a.eval s = .slice (some ⟨b, 0, none⟩) 0 0) (hx : a.eval x = sv) (hb : Blk w b #[] 52) (h : DvSl w0 sv ds) (hbw : Below w0.heap.size w0 w) (hlo : lo ≤ b) (hn : ds.length ≤ 100)
    (hK : ∀ a' c' xs w', w'.ownsRow lo 52 4 (.slice a' ds.length c') ds.length xs → DvL w0 xs ds → w.grownBy w' (some b) → K (a.put o.dst (.slice a' ds.length c')) w') :
    if Region.wanted o (yielded ops a.tmps) = true then Oper.wp Tryd.prog o a w K Q else E := by
  have hrow : w.ownsRow lo 52 4 (.slice (some ⟨b, 0, none⟩) 0 0) 0 [] := ⟨rfl, .inr ⟨b, 0, #[], rfl, hlo, hb, Nat.le_refl _, by unfold maxLen; omega, rfl, rfl⟩⟩
  by_cases h0 : ds = []
  · subst h0
    obtain ⟨a2, c2, rfl⟩ := h.sized
    refine step_appZ hgd s x ho b 0 0 a2 c2 hs hx (Nat.le_refl _) ?_
    exact hK _ _ [] w hrow (DvL.nil w0) ⟨rfl, rfl, rfl, Nat.le_refl _, fun _ _ _ => rfl⟩
  · have h2 := h
    rcases h2 with ⟨_, _, _, e⟩ | ⟨b', off', cap, e1, e2, e3, hel⟩
    · exact absurd e h0
    subst e1
    obtain ⟨_, xs, hd, hnews⟩ := h.rows h0
    have hlen := hd.1
    refine step_appT hgd s x ho lo _ 0 [] hs hrow ⟨b', off', none⟩ ds.length cap xs hx hlen (fun j u hu => cell_by' hbw (hnews j u hu)) hd.one (List.length_pos_iff.2 h0) (by omega) (by have := hb.lt; omega) ?_
    intro g c w' hr hg hgb
    rw [Nat.zero_add] at hr ⊢
    exact hK _ _ xs w' hr hd hg
/-- append(row, d): one device more. -/
theorem step_oneD {ops : Array Oper} {o : Oper} {a : Act} {w : World} {K : Act → World → Prop} {Q : Exit → Act → World → Prop} {E : Prop} (hgd : o.guard = none) (s x : Operand)
    (ho : o.op = .call { callee := .builtin .append, args := #[s, x], argTypes := #[28, 28] })
    (w0 : World) (lo nb n : Nat) (v pv : Value) (xs : List Value) (ds : List Dv) (d : Dv) (hs : a.eval s = v) (hx : a.eval x = .slice (some ⟨nb, 0, none⟩) 1 1) (hr : w.ownsRow lo 52 4 v n xs) (hl : ds.length = n) (hd : DvL w0 xs ds) (hp : IntSl w0 pv d.pins)
    (hb : Blk w nb #[.int .i64 d.kind, pv, .int .i64 d.wd, .int .i64 d.len] 52) (hlo : lo ≤ w.heap.size) (hn : n ≤ 100)
    (hK : ∀ a' c' xs' w', w'.ownsRow lo 52 4 (.slice a' (n + 1) c') (n + 1) xs' → DvL w0 xs' (ds ++ [d]) → w.grownBy w' v.ownBlock → K (a.put o.dst (.slice a' (n + 1) c')) w') :
    if Region.wanted o (yielded ops a.tmps) = true then Oper.wp Tryd.prog o a w K Q else E := by
  refine step_appT hgd s x ho lo v n xs hs hr ⟨nb, 0, none⟩ 1 1 [.int .i64 d.kind, pv, .int .i64 d.wd, .int .i64 d.len] hx rfl (World.news_of_block (cs := #[.int .i64 d.kind, pv, .int .i64 d.wd, .int .i64 d.len]) hb) (fun u hu => by
    simp at hu
    rcases hu with rfl | rfl | rfl | rfl
    · rfl
    · exact hp.one
    · rfl
    · rfl) (by decide) (by omega) hlo ?_
  intro g c w' hr' hg _
  exact hK _ _ _ w' hr' (hd.push d pv hp) hg
set_option maxRecDepth 100000 in
/-- append([]Port{}, ports...). -/
theorem step_catP {ops : Array Oper} {o : Oper} {a : Act} {w : World} {K : Act → World → Prop} {Q : Exit → Act → World → Prop} {E : Prop} (hgd : o.guard = none) (s x : Operand)
    (ho : o.op = .call { callee := .builtin .append, args := #[s, x], argTypes := #[29, 29] })
    (b lo : Nat) (sv : Value) (ps : List Pt) (hs : a.eval s = .slice (some ⟨b, 0, none⟩) 0 0) (hx : a.eval x = sv) (hb : Blk w b #[] 49) (h : PtSl w sv ps) (hlo : lo ≤ b) (hn : ps.length ≤ 100)
    (hK : ∀ a' c' w', w'.ownsRow lo 49 2 (.slice a' ps.length c') ps.length (pcells ps) → w.grownBy w' (some b) → K (a.put o.dst (.slice a' ps.length c')) w') :
    if Region.wanted o (yielded ops a.tmps) = true then Oper.wp Tryd.prog o a w K Q else E := by
  have hrow : w.ownsRow lo 49 2 (.slice (some ⟨b, 0, none⟩) 0 0) 0 [] := ⟨rfl, .inr ⟨b, 0, #[], rfl, hlo, hb, Nat.le_refl _, by unfold maxLen; omega, rfl, rfl⟩⟩
  obtain ⟨i0, hi0, hz0, hz1, hz2⟩ := info_parts infoPt
  by_cases h0 : ps = []
  · subst h0
    obtain ⟨a2, c2, rfl⟩ : ∃ a c, sv = .slice a 0 c := h.sized
    have hw : Region.wanted o (yielded ops a.tmps) = true := by simp [Region.wanted, hgd]
    rw [if_pos hw]
    have hS : Src Tryd.prog i0.size 29 (.slice a2 0 c2) 0 [] w := by
      cases a2 with
      | none => exact Src.ofNil w Tryd.underlying29 c2
      | some ad => exact Src.ofSlice w Tryd.underlying29 ad 0 c2 [] (by simp) (fun j u h => by simp at h) (fun u h => by simp at h)
    have hr : (Builtin.append_ #[29, 29] o.type #[.slice (some ⟨b, 0, none⟩) 0 0, .slice a2 0 c2]).run Tryd.prog w = .ok (.slice (some ⟨b, 0, none⟩) 0 0) w := by
      have h := run_append_room_src (P := Tryd.prog) w 29 29 o.type _ i0 Tryd.underlying29 hi0 b 0 0 0 (.slice a2 0 c2) 0 [] hS (by omega) (fun j hj => by simp at hj) (fun j hj => by simp at hj)
      simpa [World.setCells] using h
    unfold Oper.wp execOp
    simp only [ho, resolve, invoke, builtin, Sem.run_bind, Sem.run_pure, Result.andThen_ok, List.map_toArray, List.map_cons, List.map_nil, hs, hx, hr]
    have hk := hK (some ⟨b, 0, none⟩) 0 w hrow ⟨rfl, rfl, rfl, Nat.le_refl _, fun _ _ _ => rfl⟩
    exact hk
  · rcases h with ⟨_, _, _, e⟩ | ⟨b', off', cap, e1, e2, e3, hel⟩
    · exact absurd e h0
    subst e1
    refine step_append_lies w hgd s x 29 ho lo 49 i0 _ 2 24 Tryd.underlying29 hi0 hz0 hz1 hz2 rfl (by decide) _ 0 [] hs hrow ⟨b', off', none⟩ ps.length cap (pcells ps) hx (length_pcells ps) ?_ ?_ (List.length_pos_iff.2 h0) (by unfold maxLen; omega) (by omega) (by have := hb.lt; omega) w.heap.size rfl ?_
    · intro j u hu
      rw [Addr.add_lit]
      obtain ⟨p, hp, hc⟩ := pcells_at ps j u hu
      obtain ⟨q1, q2⟩ := hel (j / 2) p hp
      rcases hc with ⟨hj, rfl⟩ | ⟨hj, rfl⟩
      · rw [show off' + j = off' + j / 2 * 2 by omega]; exact q1
      · rw [show off' + j = off' + j / 2 * 2 + 1 by omega]; exact q2
    · intro u hu
      obtain ⟨j, hj, e⟩ := List.getElem_of_mem hu
      obtain ⟨p, _, h⟩ := pcells_at ps j u (by rw [List.getElem?_eq_getElem hj, e])
      rcases h with ⟨_, rfl⟩ | ⟨_, rfl⟩ <;> rfl
    · intro g cap' w' hr hg _ _
      rw [Nat.zero_add] at hr ⊢
      exact hK _ _ w' hr hg
set_option maxRecDepth 100000 in
/-- append(row, p): one port more. -/
theorem step_oneP {ops : Array Oper} {o : Oper} {a : Act} {w : World} {K : Act → World → Prop} {Q : Exit → Act → World → Prop} {E : Prop} (hgd : o.guard = none) (s x : Operand)
    (ho : o.op = .call { callee := .builtin .append, args := #[s, x], argTypes := #[29, 29] })
    (lo nb n : Nat) (v : Value) (ps : List Pt) (p : Pt) (hs : a.eval s = v) (hx : a.eval x = .slice (some ⟨nb, 0, none⟩) 1 1) (hr : w.ownsRow lo 49 2 v n (pcells ps))
    (hb : Blk w nb #[.string p.name, .int .i64 p.net] 49) (hlo : lo ≤ w.heap.size) (hn : n ≤ 100)
    (hK : ∀ a' c' w', w'.ownsRow lo 49 2 (.slice a' (n + 1) c') (n + 1) (pcells (ps ++ [p])) → w.grownBy w' v.ownBlock → K (a.put o.dst (.slice a' (n + 1) c')) w') :
    if Region.wanted o (yielded ops a.tmps) = true then Oper.wp Tryd.prog o a w K Q else E := by
  obtain ⟨i0, hi0, hz0, hz1, hz2⟩ := info_parts infoPt
  refine step_append_lies w hgd s x 29 ho lo 49 i0 _ 2 24 Tryd.underlying29 hi0 hz0 hz1 hz2 rfl (by decide) v n _ hs hr ⟨nb, 0, none⟩ 1 1 [.string p.name, .int .i64 p.net] hx rfl (World.news_of_block (cs := #[.string p.name, .int .i64 p.net]) hb) ?_ (by decide) (by unfold maxLen; omega) (by omega) hlo w.heap.size rfl ?_
  · intro u hu
    simp at hu
    rcases hu with rfl | rfl
    · rfl
    · rfl
  · intro g cap' w' hr' hg _ _
    rw [← pcells_push] at hr'
    exact hK _ _ w' hr' hg
/-- A row of ports is read. -/
theorem prow_sl {w : World} {lo n : Nat} {v : Value} {ps : List Pt} (h : w.ownsRow lo 49 2 v n (pcells ps)) (hl : ps.length = n) : PtSl w v ps := by
  subst hl
  obtain ⟨hlen, h1⟩ := h
  rcases h1 with ⟨h1, hn⟩ | ⟨g, cap, cur, e1, e2, e3, e4, e5, e6, e7⟩
  · exact .inl ⟨_, _, h1, List.eq_nil_of_length_eq_zero hn⟩
  · refine .inr ⟨g, 0, cap, e1, e4, e5, fun i x hxi => ?_⟩
    have hc := Blk.cell e3
    rw [Nat.zero_add]
    obtain ⟨q1, q2⟩ := pcells_get ps i x hxi
    have hcur : ∀ (j : Nat) u, (pcells ps)[j]? = some u → cur[j]? = some u := fun j u hu => by
      rw [← e7] at hu
      have hj := (List.getElem?_eq_some_iff.1 hu).1
      rw [List.length_take] at hj
      rw [List.getElem?_take_of_lt (by omega)] at hu
      simpa using hu
    exact ⟨by rw [hc]; exact hcur _ _ q1, by rw [hc]; exact hcur _ _ q2⟩
end Go.Proofs.YtglddnkpccgchaaDoor
