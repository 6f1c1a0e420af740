/- Devices of one's own that are put into their normal form one behind another: what lies in memory. -/
import Derived.Test.YtjanifoipbmkhaaGreatSrtA
import Derived.Test.YtjanifoipbmkhaaGreatRedM
import Derived.Test.YtjanifoipbmkhaaGreatMarkX
namespace Go.Proofs.YtjanifoipbmkhaaGreat
open Go.RowKit
open Go.Sort (swp PermIn SortedIn SWO size_swp swp_get swp_other swp_left swp_right)
set_option linter.unusedVariables false
set_option linter.unusedSimpArgs false

/-- The first k normal, the others as they were. -/
def nrmTo (ds : List Dv) (k : Nat) : List Dv := (ds.take k).map normD ++ ds.drop k
theorem nrmTo_zero (ds : List Dv) : nrmTo ds 0 = ds := by simp [nrmTo]
theorem nrmTo_all (ds : List Dv) : nrmTo ds ds.length = ds.map normD := by simp [nrmTo]
theorem length_nrmTo (ds : List Dv) (k : Nat) : (nrmTo ds k).length = ds.length := by simp [nrmTo]; omega
theorem nrmTo_get (ds : List Dv) (k : Nat) (x : Dv) (h : ds[k]? = some x) : (nrmTo ds k)[k]? = some x := by
  have hk := (List.getElem?_eq_some_iff.1 h).1
  unfold nrmTo
  rw [List.getElem?_append_right (by simp; omega)]
  simp
  rw [show k - min k ds.length = 0 by omega]
  simpa using h
theorem nrmTo_step (ds : List Dv) (k : Nat) (x : Dv) (h : ds[k]? = some x) : (nrmTo ds k).set k (normD x) = nrmTo ds (k + 1) := by
  have hk := (List.getElem?_eq_some_iff.1 h).1
  unfold nrmTo
  rw [take_snoc_of ds k x h, List.map_append, List.set_append_right _ _ (by simp; omega)]
  simp
  have e : ds.drop k = x :: ds.drop (k + 1) := by
    obtain ⟨hlt, e⟩ := List.getElem?_eq_some_iff.1 h
    rw [List.drop_eq_getElem_cons hlt, e]
  rw [show k - min k ds.length = 0 by omega, e]
  simp
def NrmRow (w : World) (lo g : Nat) (ds : List Dv) (k : Nat) : Prop := lo ≤ g ∧ ∃ d : Array (Dv × Nat), DRow w g d ∧ d.toList.map (·.1) = nrmTo ds k ∧ (d.toList.map (·.2)).Nodup ∧ ∀ p ∈ d.toList, lo ≤ p.2 ∧ p.2 < w.heap.size ∧ p.2 ≠ g
section
variable {w w1 : World} {lo g k : Nat} {ds : List Dv}
theorem NrmRow.by (hb : Below w.heap.size w w1) (h : NrmRow w lo g ds k) : NrmRow w1 lo g ds k := by
  obtain ⟨h0, d, a, b, c, e⟩ := h
  exact ⟨h0, d, a.by hb, b, c, fun p hp => ⟨(e p hp).1, Nat.lt_of_lt_of_le (e p hp).2.1 hb.size, (e p hp).2.2⟩⟩
theorem NrmRow.lt (h : NrmRow w lo g ds k) : g < w.heap.size := by obtain ⟨_, d, a, _⟩ := h; exact a.lt
theorem NrmRow.get (h : NrmRow w lo g ds k) {x : Dv} (hx : ds[k]? = some x) : ∃ (cs : Array Value) (pv : Value), Blk w g cs 46 ∧ Cs4 cs k (.int .i64 x.kind) pv (.int .i64 x.wd) (.int .i64 x.len) ∧ IntSl w pv x.pins := by
  obtain ⟨_, d, ⟨cs, hB, hR⟩, b, c, e⟩ := h
  have hg : (d.toList.map (·.1))[k]? = some x := by rw [b]; exact nrmTo_get ds k x hx
  rw [List.getElem?_map] at hg
  obtain ⟨p, hp, he⟩ : ∃ p, d.toList[k]? = some p ∧ p.1 = x := by
    cases h : d.toList[k]? with
    | none => rw [h] at hg; simp at hg
    | some p => rw [h] at hg; exact ⟨p, rfl, by simpa using hg⟩
  obtain ⟨hi, e1⟩ := list_getBang d k p hp
  obtain ⟨⟨pv, a1, a2⟩, a3⟩ := hR k hi
  rw [e1, he] at a1 a2
  exact ⟨cs, pv, hB, a1, a2.sl⟩
theorem RowC.put {d : Array (Dv × Nat)} {cs : Array Value} (h : RowC w g d cs) {i : Nat} (hi : i < d.size) {x : Dv} {pv : Value} {fb : Nat} (hO : OwnR w fb (fb + 1) pv x.pins) (hfb : fb ≠ g) :
    RowC w g (d.setIfInBounds i (x, fb)) (set4 cs i (.int .i64 x.kind) pv (.int .i64 x.wd) (.int .i64 x.len)) := by
  intro k hk
  rw [Array.size_setIfInBounds] at hk
  obtain ⟨⟨p0, c0, _⟩, _⟩ := h i hi
  have sz := (Array.getElem?_eq_some_iff.1 c0.2.2.2).1
  by_cases e : k = i
  · subst e
    have e1 : (d.setIfInBounds k (x, fb))[k]! = (x, fb) := by simp [hi]
    rw [e1]
    exact ⟨⟨pv, set4_same _ _ _ _ _ _ sz, hO⟩, hfb⟩
  · have e1 : (d.setIfInBounds i (x, fb))[k]! = d[k]! := by
      have hk' : k < (d.setIfInBounds i (x, fb)).size := by simpa using hk
      rw [getBang _ k hk', getBang _ k hk]
      exact Array.getElem_setIfInBounds_ne hk (by omega)
    rw [e1]
    obtain ⟨⟨pv', a, b⟩, c⟩ := h k hk
    exact ⟨⟨pv', a.at_ (fun q h1 h2 => set4_other _ _ _ _ _ _ _ (by omega)), b⟩, c⟩
/-- One more normal: four stores. -/
theorem NrmRow.step (h : NrmRow w lo g ds k) (hb : Below w.heap.size w w1) {x : Dv} (hx : ds[k]? = some x) {pv : Value} {fb : Nat} (h1 : w.heap.size ≤ fb) (h2 : fb < w1.heap.size) (hO : OwnR w1 fb (fb + 1) pv (normD x).pins) (hlo : lo ≤ w.heap.size) :
    ∃ W, W = (((w1.setCell ⟨g, k * 4, none⟩ (.int .i64 x.kind)).setCell ⟨g, k * 4 + 1, none⟩ pv).setCell ⟨g, k * 4 + 2, none⟩ (.int .i64 x.wd)).setCell ⟨g, k * 4 + 3, none⟩ (.int .i64 x.len) ∧ NrmRow W lo g ds (k + 1) ∧ Within g (g + 1) w1 W := by
  have hgl := h.lt
  obtain ⟨h0, d, ⟨cs, hB, hR⟩, b, c, e⟩ := h
  have hdl : d.size = ds.length := by have := congrArg List.length b; simpa [length_nrmTo] using this
  have hk := (List.getElem?_eq_some_iff.1 hx).1
  have hB1 := Blk.by hb hB
  have hW : Within g (g + 1) w1 ((((w1.setCell ⟨g, k * 4, none⟩ (.int .i64 x.kind)).setCell ⟨g, k * 4 + 1, none⟩ pv).setCell ⟨g, k * 4 + 2, none⟩ (.int .i64 x.wd)).setCell ⟨g, k * 4 + 3, none⟩ (.int .i64 x.len)) := (((Within.off _).on (Within.off _)).on (Within.off _)).on (Within.off _)
  have hR1 := (hR.past (Within.ofBelow (lo := g) (hi := g + 1) hb)).past hW
  have hO1 := hO.past hW (by omega)
  have e1 : (d.setIfInBounds k (normD x, fb)).toList = d.toList.set k (normD x, fb) := by simp
  refine ⟨_, rfl, ⟨h0, d.setIfInBounds k (normD x, fb), ⟨_, (((hB1.set _ _).set _ _).set _ _).set _ _, RowC.put hR1 (x := normD x) (by omega) hO1 (by omega)⟩, ?_, ?_, ?_⟩, hW⟩
  · rw [e1, List.map_set, b]
    exact nrmTo_step ds k x hx
  · rw [e1, List.map_set]
    rw [List.nodup_iff_pairwise_ne] at c ⊢
    rw [List.pairwise_iff_getElem] at c ⊢
    intro i j hi hj hij
    simp only [List.length_set, List.length_map, Array.length_toList] at hi hj
    have old : ∀ q (hq : q < d.size), (d.toList.map (·.2))[q]'(by simpa using hq) < w.heap.size := fun q hq => by
      have := e d.toList[q] (List.getElem_mem (by simpa using hq))
      simpa using this.2.1
    simp only [List.getElem_set]
    split
    · split
      · omega
      · have := old j hj; omega
    · split
      · have := old i hi; omega
      · exact c i j (by simpa using hi) (by simpa using hj) hij
  · intro p hp
    rw [e1] at hp
    have hsz := hW.size
    rcases List.mem_or_eq_of_mem_set hp with hp | rfl
    · obtain ⟨q1, q2, q3⟩ := e p hp
      exact ⟨q1, by have := hb.size; omega, q3⟩
    · exact ⟨by show lo ≤ fb; omega, by show fb < _; omega, by show fb ≠ g; omega⟩
theorem NrmRow.start {hi : Nat} {sv : Value} (h : OwnDs w lo hi sv ds) (hhi : hi ≤ w.heap.size) (hne : ds ≠ []) : ∃ g cap, sv = .slice (some ⟨g, 0, none⟩) ds.length cap ∧ g < hi ∧ ds.length ≤ cap ∧ cap ≤ maxLen ∧ NrmRow w lo g ds 0 := by
  obtain ⟨g, cap, d, h1, h2, h3, h4, h5, h6, h7, h8, h9⟩ := h.row hne
  rw [h2] at h1
  exact ⟨g, cap, h1, h3.2, h4, h5, h3.1, d, h6, by rw [nrmTo_zero]; exact h7, h8, fun p hp => ⟨(h9 p hp).1, by have := (h9 p hp).2.1; omega, (h9 p hp).2.2⟩⟩
theorem NrmRow.done {cap : Nat} (h : NrmRow w lo g ds ds.length) (h1 : ds.length ≤ cap) (h2 : cap ≤ maxLen) : OwnDs w lo w.heap.size (.slice (some ⟨g, 0, none⟩) ds.length cap) (ds.map normD) := by
  have hgl := h.lt
  obtain ⟨h0, d, a, b, c, e⟩ := h
  have hdl : d.size = ds.length := by have := congrArg List.length b; simpa [length_nrmTo] using this
  rw [nrmTo_all] at b
  rw [← b, ← hdl]
  exact a.own ⟨h0, hgl⟩ (by omega) h2 c e
end
/-- The same, of a slice that may be empty. -/
def NrmSt (w : World) (l1 h1 : Nat) (sv : Value) (ds : List Dv) (k : Nat) : Prop := (∃ a c, sv = .slice a 0 c ∧ ds = []) ∨ ∃ g cap, sv = .slice (some ⟨g, 0, none⟩) ds.length cap ∧ (l1 ≤ g ∧ g < h1) ∧ ds.length ≤ cap ∧ cap ≤ maxLen ∧ NrmRow w l1 g ds k
theorem NrmSt.start {w : World} {l1 h1 : Nat} {sv : Value} {ds : List Dv} (h : OwnDs w l1 h1 sv ds) (hhi : h1 ≤ w.heap.size) : NrmSt w l1 h1 sv ds 0 := by
  by_cases hne : ds = []
  · subst hne
    obtain ⟨a, c, rfl⟩ := h.sl.sized
    exact .inl ⟨a, c, rfl, rfl⟩
  · obtain ⟨g, cap, e, g1, g2, g3, g4⟩ := NrmRow.start h hhi hne
    exact .inr ⟨g, cap, e, ⟨g4.1, g1⟩, g2, g3, g4⟩
theorem NrmSt.by {w w1 : World} {l1 h1 k : Nat} {sv : Value} {ds : List Dv} (hb : Below w.heap.size w w1) (h : NrmSt w l1 h1 sv ds k) : NrmSt w1 l1 h1 sv ds k := by
  rcases h with h | ⟨g, cap, e, g1, g2, g3, g4⟩
  · exact .inl h
  · exact .inr ⟨g, cap, e, g1, g2, g3, g4.by hb⟩
theorem NrmSt.done {w : World} {l1 h1 : Nat} {sv : Value} {ds : List Dv} (h : NrmSt w l1 h1 sv ds ds.length) : OwnDs w l1 w.heap.size sv (ds.map normD) := by
  rcases h with ⟨a, c, e, h⟩ | ⟨g, cap, e, g1, g2, g3, g4⟩
  · subst h; exact .inl ⟨a, c, e, rfl⟩
  · rw [e]; exact g4.done g2 g3
/-- A netlist all of whose memory lies in blocks from m on. -/
def NlA (m : Nat) (w : World) (v : Value) (x : Nl) : Prop := ∃ s1 s2, v = .agg #[.int .i64 x.nets, s1, s2] ∧ (∃ lo hi, m ≤ lo ∧ OwnDs w lo hi s1 x.ds) ∧ ∃ lo hi, m ≤ lo ∧ OwnPs w lo hi s2 x.ps
section
variable {m : Nat} {w w' : World} {v : Value} {x : Nl}
theorem NlA.nl (h : NlA m w v x) : NlV w v x := by
  obtain ⟨s1, s2, e, ⟨l1, h1, r1, o1⟩, l2, h2, r2, o2⟩ := h
  exact ⟨s1, s2, e, o1.sl, o2.sl⟩
theorem NlA.by (hb : Below w.heap.size w w') (h : NlA m w v x) : NlA m w' v x := by
  obtain ⟨s1, s2, e, ⟨l1, h1, r1, o1⟩, l2, h2, r2, o2⟩ := h
  exact ⟨s1, s2, e, ⟨l1, h1, r1, o1.by hb⟩, l2, h2, r2, o2.by hb⟩
theorem NlA.past {lo hi : Nat} (hw : Within lo hi w w') (h : NlA m w v x) (hh : hi ≤ m) : NlA m w' v x := by
  obtain ⟨s1, s2, e, ⟨l1, h1, r1, o1⟩, l2, h2, r2, o2⟩ := h
  exact ⟨s1, s2, e, ⟨l1, h1, r1, o1.past hw (by omega)⟩, l2, h2, r2, o2.past hw (by omega)⟩
theorem NlA.low {m' : Nat} (h : NlA m w v x) (hm : m' ≤ m) : NlA m' w v x := by
  obtain ⟨s1, s2, e, ⟨l1, h1, r1, o1⟩, l2, h2, r2, o2⟩ := h
  exact ⟨s1, s2, e, ⟨l1, h1, by omega, o1⟩, l2, h2, by omega, o2⟩
theorem OwnNl.a {lo hi : Nat} (h : OwnNl w lo hi v x) : NlA lo w v x := by
  obtain ⟨s1, s2, l1, h1, l2, h2, e, a, b, c, d, f⟩ := h
  exact ⟨s1, s2, e, ⟨l1, h1, c.1, a⟩, l2, h2, d.1, b⟩
theorem OwnNlX.a {lo hi : Nat} (h : OwnNlX w lo hi v x) : NlA lo w v x := by
  obtain ⟨s1, s2, P, e, a, b, c⟩ := h
  exact ⟨s1, s2, e, ⟨lo, hi, Nat.le_refl _, a.ods⟩, P, P + 1, c.1, b⟩
theorem NlA.sized (h : NlA m w v x) : ∃ a c a' c', v = .agg #[.int .i64 x.nets, .slice a x.ds.length c, .slice a' x.ps.length c'] := h.nl.sized
end
/-- Three stores into a struct of three cells. -/
theorem three_cells {w : World} {T : Nat} {a b c a' b' c' : Value} {ty : TypeId} (h : Blk w T #[a, b, c] ty) : ∃ W, W = ((w.setCell ⟨T, 0, none⟩ a').setCell ⟨T, 1, none⟩ b').setCell ⟨T, 2, none⟩ c' ∧ Blk W T #[a', b', c'] ty ∧ Within T (T + 1) w W :=
  ⟨_, rfl, ((h.set 0 a').set 1 b').set 2 c', ((Within.off _).on (Within.off _)).on (Within.off _)⟩
end Go.Proofs.YtjanifoipbmkhaaGreat
