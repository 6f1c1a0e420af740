/- A slice of ports that grows in memory of the call's own. -/
import Derived.Test.YtglddnkpccgchaaDoorCopies
import Derived.Test.YtglddnkpccgchaaDoorValid0
namespace Go.Proofs.YtglddnkpccgchaaDoor
open Go.RowKit
set_option linter.unusedVariables false
set_option linter.unusedSimpArgs false

theorem pcells_push (ps : List Pt) (p : Pt) : pcells (ps ++ [p]) = pcells ps ++ [.string p.name, .int .i64 p.net] := by
  induction ps with
  | nil => rfl
  | cons q qs ih => simp [pcells, ih]
/-- The slice v holds these ports, all its memory in blocks from lo on and below hi; it may grow. -/
def BldP (w : World) (lo hi : Nat) (v : Value) (ps : List Pt) : Prop := hi ≤ w.heap.size ∧ w.ownsRow lo 49 2 v ps.length (pcells ps) ∧ (∀ g, v.ownBlock = some g → lo ≤ g ∧ g < hi)
section
variable {w w' : World} {lo hi : Nat} {v : Value} {ps : List Pt}
theorem BldP.nil (w : World) (lo : Nat) : BldP w lo w.heap.size (.slice none 0 0) [] :=
  ⟨Nat.le_refl _, World.ownsRow_nil w lo _ 2, by intro g h; cases h⟩
theorem BldP.by (hb : Below w.heap.size w w') (h : BldP w lo hi v ps) : BldP w' lo hi v ps := by
  obtain ⟨hs, h1, h3⟩ := h
  exact ⟨Nat.le_trans hs hb.size, row_same h1 (fun g hg => hb.block g (by have := h3 g hg; omega)), h3⟩
theorem BldP.past {lo' hi' : Nat} (hb : Within lo' hi' w w') (h : BldP w lo hi v ps) (hd : hi' ≤ lo ∨ hi ≤ lo') : BldP w' lo hi v ps := by
  obtain ⟨hs, h1, h3⟩ := h
  exact ⟨Nat.le_trans hs hb.size, row_same h1 (fun g hg => hb.block g (by have := h3 g hg; omega) (by have := h3 g hg; omega)), h3⟩
theorem BldP.sized (h : BldP w lo hi v ps) : ∃ a c, v = .slice a ps.length c := by
  obtain ⟨_, ⟨_, h1⟩, _⟩ := h
  rcases h1 with ⟨h1, h2⟩ | ⟨g, cap, cur, e1, _⟩
  · exact ⟨none, 0, by rw [h1, h2]⟩
  · exact ⟨_, _, e1⟩
theorem BldP.own (h : BldP w lo hi v ps) : OwnPs w lo hi v ps := by
  obtain ⟨hs, ⟨hlen, h1⟩, h3⟩ := h
  rcases h1 with ⟨h1, hn⟩ | ⟨g, cap, cur, e1, e2, e3, e4, e5, e6, e7⟩
  · exact .inl ⟨_, _, h1, List.eq_nil_of_length_eq_zero hn⟩
  · have hcur : ∀ (j : Nat) u, (pcells ps)[j]? = some u → cur[j]? = some u := by
      intro j u hu
      rw [← e7] at hu
      have hj : j < ps.length * 2 := by
        have := (List.getElem?_eq_some_iff.1 hu).1
        rw [List.length_take] at this; omega
      rw [List.getElem?_take_of_lt hj] at hu
      simpa using hu
    refine .inr ⟨g, cap, cur, e1, h3 g (by rw [e1]; rfl), e4, e5, e3, fun i x hx => ?_⟩
    obtain ⟨q0, q1⟩ := pcells_get ps i x hx
    exact ⟨hcur _ _ q0, hcur _ _ q1⟩
end

/-- append(out, p), at a step of a region that draws its order. -/
theorem step_pushP {ops : Array Oper} {o : Oper} {a : Act} {w : World} {K : Act → World → Prop} {Q : Exit → Act → World → Prop} {E : Prop} (hgd : o.guard = none) (s x : Operand)
    (ho : o.op = .call { callee := .builtin .append, args := #[s, x], argTypes := #[29, 29] })
    (lo hi : Nat) (v : Value) (ps : List Pt) (hs : a.eval s = v) (hB : BldP w lo hi v ps) (nb : Nat) (p : Pt) (hx : a.eval x = .slice (some ⟨nb, 0, none⟩) 1 1)
    (hnb : Blk w nb #[.string p.name, .int .i64 p.net] 49) (hlo : lo ≤ hi) (hn : ps.length ≤ 1000)
    (hK : ∀ a' c' w', BldP w' lo w'.heap.size (.slice a' (ps.length + 1) c') (ps ++ [p]) → Within lo hi w w' → K (a.put o.dst (.slice a' (ps.length + 1) c')) w') :
    if Region.wanted o (yielded ops a.tmps) = true then Oper.wp Tryd.prog o a w K Q else E := by
  obtain ⟨i0, hi0, hz0, hz1, hz2⟩ := info_parts infoPt
  obtain ⟨hsz, h1, h3⟩ := hB
  refine step_append_lies w hgd s x 29 ho lo 49 i0 _ 2 24 Tryd.underlying29 hi0 hz0 hz1 hz2 rfl (by decide) v ps.length _ hs h1 ⟨nb, 0, none⟩ 1 1 [.string p.name, .int .i64 p.net] hx rfl (World.news_of_block (cs := #[.string p.name, .int .i64 p.net]) hnb) ?_ (by decide) (by unfold maxLen; omega) (by omega) (by omega) w.heap.size rfl ?_
  · intro u hu
    simp at hu
    rcases hu with rfl | rfl
    · rfl
    · rfl
  · intro g cap w' hrow hgrow hg hgl
    have hW : Within lo hi w w' := grown_within hgrow h3
    refine hK (some ⟨g, 0, none⟩) cap w' ⟨Nat.le_refl _, ?_, ?_⟩ hW
    · rw [List.length_append, List.length_singleton, pcells_push]; exact hrow
    · intro g' hg'
      have : g = g' := by injection hg'
      subst this
      rcases hg with h | h
      · have := h3 g h; omega
      · omega
end Go.Proofs.YtglddnkpccgchaaDoor

/- Netlists with other numbers of nets: the plain part. -/
namespace Go.Proofs.YtglddnkpccgchaaDoor
open Go.RowKit
set_option linter.unusedVariables false
set_option linter.unusedSimpArgs false

/-- The name of net p. -/
def nmOf (names : List Int) (p : Int) : Int := names.getD p.toNat 0
def renD (names : List Int) (d : Dv) : Dv := ⟨d.kind, d.pins.map (nmOf names), d.wd, d.len⟩
def renP (names : List Int) (p : Pt) : Pt := ⟨p.name, nmOf names p.net⟩
def renS (x : Nl) (names : List Int) (nets : Int) : Nl := ⟨nets, x.ds.map (renD names), x.ps.map (renP names)⟩
/-- The first k of zs renamed, the others as they were. -/
def renTo (names : List Int) (zs : List Int) (k : Nat) : List Int := (zs.take k).map (nmOf names) ++ zs.drop k
theorem renTo_zero (names zs : List Int) : renTo names zs 0 = zs := by simp [renTo]
theorem renTo_all (names zs : List Int) : renTo names zs zs.length = zs.map (nmOf names) := by simp [renTo]
theorem length_renTo (names zs : List Int) (k : Nat) : (renTo names zs k).length = zs.length := by simp [renTo]; omega
theorem renTo_get (names zs : List Int) (k : Nat) (z : Int) (h : zs[k]? = some z) : (renTo names zs k)[k]? = some z := by
  have hk := (List.getElem?_eq_some_iff.1 h).1
  rw [renTo, List.getElem?_append_right (by simp; omega)]
  simp
  rw [show k - min k zs.length = 0 by omega]
  simpa using h
theorem renTo_step (names zs : List Int) (k : Nat) (z : Int) (h : zs[k]? = some z) : (renTo names zs k).set k (nmOf names z) = renTo names zs (k + 1) := by
  have hk := (List.getElem?_eq_some_iff.1 h).1
  apply List.ext_getElem?
  intro i
  have e : zs[k] = z := by rw [List.getElem?_eq_getElem hk] at h; exact Option.some.inj h
  unfold renTo
  rw [take_snoc_of zs k z h]
  by_cases hi : i = k
  · subst hi
    rw [List.getElem?_set_self (by simp; omega)]
    rw [List.getElem?_append_left (by simp; omega), List.map_append, List.getElem?_append_right (by simp; omega)]
    simp
    rw [show i - min i zs.length = 0 by omega]
    rfl
  · rw [List.getElem?_set_ne (by omega)]
    by_cases hlt : i < k
    · rw [List.getElem?_append_left (by simp; omega), List.getElem?_append_left (by simp; omega), List.map_append, List.getElem?_append_left (by simp; omega)]
    · rw [List.getElem?_append_right (by simp; omega), List.getElem?_append_right (by simp; omega)]
      simp
      congr 1
      omega
theorem take_map_snoc {α β : Type} (f : α → β) (xs : List α) (k : Nat) (x : α) (h : xs[k]? = some x) : (xs.take (k + 1)).map f = (xs.take k).map f ++ [f x] := by
  rw [take_snoc_of xs k x h]; simp
/-- The cells cs hold these numbers. -/
def ICs (cs : Array Value) (zs : List Int) : Prop := ∀ (i : Nat) (z : Int), zs[i]? = some z → cs[i]? = some (Value.int .i64 z)
theorem ICs.set {cs : Array Value} {zs : List Int} (h : ICs cs zs) (k : Nat) (v : Int) : ICs (cs.setIfInBounds k (.int .i64 v)) (zs.set k v) := by
  intro i z hz
  have hi : i < zs.length := by have := (List.getElem?_eq_some_iff.1 hz).1; simpa using this
  have hc := h i zs[i] (List.getElem?_eq_getElem hi)
  have hs := (Array.getElem?_eq_some_iff.1 hc).1
  by_cases e : k = i
  · subst e
    rw [List.getElem?_set_self hi] at hz
    cases hz
    simp [Array.getElem?_setIfInBounds, hs]
  · rw [List.getElem?_set_ne e] at hz
    rw [Array.getElem?_setIfInBounds, if_neg e]
    exact h i z hz
theorem ICs.own {w : World} {g cap : Nat} {cs : Array Value} {zs : List Int} (h : ICs cs zs) (hB : Blk w g cs 2) (h1 : zs.length ≤ cap) (h2 : cap ≤ maxLen) : OwnR w g (g + 1) (.slice (some ⟨g, 0, none⟩) zs.length cap) zs :=
  .inr ⟨g, cap, cs, rfl, Nat.le_refl _, Nat.lt_succ_self _, h1, h2, hB, h⟩
theorem OwnR.cells {w : World} {lo hi : Nat} {sv : Value} {zs : List Int} (h : OwnR w lo hi sv zs) (hz : zs ≠ []) : ∃ g cap cs, sv = .slice (some ⟨g, 0, none⟩) zs.length cap ∧ (lo ≤ g ∧ g < hi) ∧ zs.length ≤ cap ∧ cap ≤ maxLen ∧ Blk w g cs 2 ∧ ICs cs zs := by
  rcases h with ⟨_, _, _, h⟩ | ⟨g, cap, cs, h1, h2, h2', h3, h4, h5, h6⟩
  · exact absurd h hz
  · exact ⟨g, cap, cs, h1, ⟨h2, h2'⟩, h3, h4, h5, h6⟩
end Go.Proofs.YtglddnkpccgchaaDoor

/- The two pushes at a plain list of operations. -/
namespace Go.Proofs.YtglddnkpccgchaaDoor
open Go.RowKit
set_option linter.unusedVariables false

theorem list_push {ops : Array Oper} {rest : List Oper} {o : Oper} {a : Act} {w : World} {Q : Exit → Act → World → Prop} (hgd : o.guard = none) (s x : Operand)
    (ho : o.op = .call { callee := .builtin .append, args := #[s, x], argTypes := #[28, 28] })
    (lo hi : Nat) (v : Value) (ds : List Dv) (hs : a.eval s = v) (hB : Bld w lo hi v ds) (nb : Nat) (d : Dv) (pv : Value) (fb : Nat) (hx : a.eval x = .slice (some ⟨nb, 0, none⟩) 1 1)
    (hnb : Blk w nb #[.int .i64 d.kind, pv, .int .i64 d.wd, .int .i64 d.len] 52) (hpv : OwnR w fb (fb + 1) pv d.pins) (hlo : lo ≤ hi) (hhi : hi ≤ fb) (hfb : fb < w.heap.size) (hn : ds.length ≤ 1000)
    (hK : ∀ a' c' w', Bld w' lo w'.heap.size (.slice a' (ds.length + 1) c') (ds ++ [d]) → Within lo hi w w' → wpList Tryd.prog ops Q rest (a.put o.dst (.slice a' (ds.length + 1) c')) w') : wpList Tryd.prog ops Q (o :: rest) a w :=
  wpList_plain hgd fun K hk => by
    have h := step_push (ops := ops) (K := K) (Q := Q) (E := False) hgd s x ho lo hi v ds hs hB nb d pv fb hx hnb hpv hlo hhi hfb hn (fun a' c' w' h1 h2 => hk _ _ (hK a' c' w' h1 h2))
    rwa [if_pos (by simp [Region.wanted, hgd])] at h
end Go.Proofs.YtglddnkpccgchaaDoor

/- One device's pins, one port's net, turned in place. -/
namespace Go.Proofs.YtglddnkpccgchaaDoor
open Go.RowKit
set_option linter.unusedVariables false
set_option linter.unusedSimpArgs false

/-- A device of one's own: what the walk reads of it; its pins may be turned in place. -/
theorem OwnDs.setPins {w : World} {lo hi : Nat} {sv : Value} {ds : List Dv} {k : Nat} {x : Dv} (h : OwnDs w lo hi sv ds) (hx : ds[k]? = some x) :
    ∃ (g cap : Nat) (cs : Array Value) (fb : Nat) (pv : Value), sv = .slice (some ⟨g, 0, none⟩) ds.length cap ∧ Blk w g cs 52 ∧ Cs4 cs k (.int .i64 x.kind) pv (.int .i64 x.wd) (.int .i64 x.len) ∧ OwnR w fb (fb + 1) pv x.pins ∧ (lo ≤ fb ∧ fb < hi) ∧ (lo ≤ g ∧ g < hi) ∧ fb ≠ g ∧ ds.length ≤ maxLen ∧
      ∀ w' zs, zs.length = x.pins.length → Within fb (fb + 1) w w' → OwnR w' fb (fb + 1) pv zs → OwnDs w' lo hi sv (ds.set k ⟨x.kind, zs, x.wd, x.len⟩) := by
  rcases h with ⟨_, _, _, rfl⟩ | ⟨g, cap, cs, f, h1, h2, h3, h4, h5, h6, h7⟩
  · simp at hx
  obtain ⟨⟨pv, c4, hR⟩, hf⟩ := h6 k x hx
  have hk := (List.getElem?_eq_some_iff.1 hx).1
  refine ⟨g, cap, cs, f k, pv, h1, h5, c4, hR, ⟨hf.1, hf.2.1⟩, h2, hf.2.2, by omega, fun w' zs hzl hW hR' => ?_⟩
  refine .inr ⟨g, cap, cs, f, by rw [List.length_set]; exact h1, h2, by rw [List.length_set]; exact h3, h4, hW.blk h5 (by omega), fun i y hy => ?_, fun i j hi hj hij => h7 i j (by rwa [List.length_set] at hi) (by rwa [List.length_set] at hj) hij⟩
  by_cases e : k = i
  · subst e
    rw [List.getElem?_set_self hk] at hy
    cases hy
    exact ⟨⟨pv, c4, hR'⟩, hf⟩
  · rw [List.getElem?_set_ne e] at hy
    obtain ⟨⟨pv', c4', hR2⟩, hf'⟩ := h6 i y hy
    have hi := (List.getElem?_eq_some_iff.1 hy).1
    have := h7 k i hk hi e
    exact ⟨⟨pv', c4', OwnR.past hW hR2 (by omega)⟩, hf'⟩
/-- A port of one's own. -/
theorem OwnPs.setNet {w : World} {lo hi : Nat} {sv : Value} {ps : List Pt} {k : Nat} {x : Pt} (h : OwnPs w lo hi sv ps) (hx : ps[k]? = some x) :
    ∃ (g cap : Nat) (cs : Array Value), sv = .slice (some ⟨g, 0, none⟩) ps.length cap ∧ Blk w g cs 49 ∧ Cs2 cs k (.string x.name) (.int .i64 x.net) ∧ (lo ≤ g ∧ g < hi) ∧ ps.length ≤ maxLen ∧
      ∀ w' z, Blk w' g (cs.setIfInBounds (k * 2 + 1) (.int .i64 z)) 49 → OwnPs w' lo hi sv (ps.set k ⟨x.name, z⟩) := by
  rcases h with ⟨_, _, _, rfl⟩ | ⟨g, cap, cs, h1, h2, h3, h4, h5, h6⟩
  · simp at hx
  have hk := (List.getElem?_eq_some_iff.1 hx).1
  refine ⟨g, cap, cs, h1, h5, h6 k x hx, h2, by omega, fun w' z hB => ?_⟩
  refine .inr ⟨g, cap, _, by rw [List.length_set]; exact h1, h2, by rw [List.length_set]; exact h3, h4, hB, fun i y hy => ?_⟩
  obtain ⟨q0, q1⟩ := h6 k x hx
  have hs := (Array.getElem?_eq_some_iff.1 q1).1
  by_cases e : k = i
  · subst e
    rw [List.getElem?_set_self hk] at hy
    cases hy
    refine ⟨?_, ?_⟩ <;> simp only [Array.getElem?_setIfInBounds]
    · rw [if_neg (by omega)]; exact q0
    · rw [if_pos trivial, if_pos hs]
  · rw [List.getElem?_set_ne e] at hy
    obtain ⟨r0, r1⟩ := h6 i y hy
    refine ⟨?_, ?_⟩ <;> simp only [Array.getElem?_setIfInBounds]
    · rw [if_neg (by omega)]; exact r0
    · rw [if_neg (by omega)]; exact r1
section
variable {α : Type} (f : α → α)
def upTo (xs : List α) (k : Nat) : List α := (xs.take k).map f ++ xs.drop k
theorem upTo_zero (xs : List α) : upTo f xs 0 = xs := by simp [upTo]
theorem upTo_all (xs : List α) : upTo f xs xs.length = xs.map f := by simp [upTo]
theorem length_upTo (xs : List α) (k : Nat) : (upTo f xs k).length = xs.length := by simp [upTo]; omega
theorem upTo_get (xs : List α) (k : Nat) (x : α) (h : xs[k]? = some x) : (upTo f xs k)[k]? = some x := by
  have hk := (List.getElem?_eq_some_iff.1 h).1
  rw [upTo, List.getElem?_append_right (by simp; omega)]
  simp
  rw [show k - min k xs.length = 0 by omega]
  simpa using h
theorem upTo_step (xs : List α) (k : Nat) (x : α) (h : xs[k]? = some x) : (upTo f xs k).set k (f x) = upTo f xs (k + 1) := by
  have hk := (List.getElem?_eq_some_iff.1 h).1
  apply List.ext_getElem?
  intro i
  have e : xs[k] = x := by rw [List.getElem?_eq_getElem hk] at h; exact Option.some.inj h
  unfold upTo
  rw [take_snoc_of xs k x h]
  by_cases hi : i = k
  · subst hi
    rw [List.getElem?_set_self (by simp; omega)]
    rw [List.getElem?_append_left (by simp; omega), List.map_append, List.getElem?_append_right (by simp; omega)]
    simp
    rw [show i - min i xs.length = 0 by omega]
    rfl
  · rw [List.getElem?_set_ne (by omega)]
    by_cases hlt : i < k
    · rw [List.getElem?_append_left (by simp; omega), List.getElem?_append_left (by simp; omega), List.map_append, List.getElem?_append_left (by simp; omega)]
    · rw [List.getElem?_append_right (by simp; omega), List.getElem?_append_right (by simp; omega)]
      simp
      congr 1
      omega
end
end Go.Proofs.YtglddnkpccgchaaDoor
