/- Devices of one's own that are put into their normal form one behind another: what lies in memory. -/
import Derived.Test.YtdljbmfmmlcmmaaSrtA
import Derived.Test.YtdljbmfmmlcmmaaRedMs
import Derived.Test.YtdljbmfmmlcmmaaMarks
import Derived.Test.YtdljbmfmmlcmmaaIsRed
import Derived.Test.YtdljbmfmmlcmmaaMpMo
import Derived.Test.YtdljbmfmmlcmmaaRems
import Derived.Test.YtdljbmfmmlcmmaaSrtB
import Derived.Test.YtdljbmfmmlcmmaaRens
import Derived.Test.YtdljbmfmmlcmmaaCopies
import Derived.Test.YtdljbmfmmlcmmaaNormI
import Derived.Deep.LoopGhost
import Derived.Deep.DeepCutAuto
import Derived.Deep.RegionHeldLaw
import Derived.Test.YtdljbmfmmlcmmaaNls
namespace Go.Proofs.Ytdljbmfmmlcmmaa
open Go.RowKit
open Go.Sort (swp PermIn SortedIn SWO size_swp swp_get swp_other swp_left swp_right)
set_option linter.unusedVariables false
set_option linter.unusedSimpArgs false

/-- The first k normal, the others as they were. -/
def nrmTo (ds : List Dv) (k : Nat) : List Dv := (ds.take k).map normD ++ ds.drop k
theorem nrmTo_zero (ds : List Dv) : nrmTo ds 0 = ds := by simp [nrmTo]
theorem nrmTo_all (ds : List Dv) : nrmTo ds ds.length = ds.map normD := by simp [nrmTo]
theorem length_nrmTo (ds : List Dv) (k : Nat) : (nrmTo ds k).length = ds.length := by simp [nrmTo]; omega
theorem nrmTo_get (ds : List Dv) (k : Nat) (x : Dv) (h : ds[k]? = some x) : (nrmTo ds k)[k]? = some x := by
  have hk := (List.getElem?_eq_some_iff.1 h).1
  unfold nrmTo
  rw [List.getElem?_append_right (by simp; omega)]
  simp
  rw [show k - min k ds.length = 0 by omega]
  simpa using h
theorem nrmTo_step (ds : List Dv) (k : Nat) (x : Dv) (h : ds[k]? = some x) : (nrmTo ds k).set k (normD x) = nrmTo ds (k + 1) := by
  have hk := (List.getElem?_eq_some_iff.1 h).1
  unfold nrmTo
  rw [take_snoc_of ds k x h, List.map_append, List.set_append_right _ _ (by simp; omega)]
  simp
  have e : ds.drop k = x :: ds.drop (k + 1) := by
    obtain ⟨hlt, e⟩ := List.getElem?_eq_some_iff.1 h
    rw [List.drop_eq_getElem_cons hlt, e]
  rw [show k - min k ds.length = 0 by omega, e]
  simp
def NrmRow (w : World) (lo g : Nat) (ds : List Dv) (k : Nat) : Prop := lo ≤ g ∧ ∃ d : Array (Dv × Nat), DRow w g d ∧ d.toList.map (·.1) = nrmTo ds k ∧ (d.toList.map (·.2)).Nodup ∧ ∀ p ∈ d.toList, lo ≤ p.2 ∧ p.2 < w.heap.size ∧ p.2 ≠ g
section
variable {w w1 : World} {lo g k : Nat} {ds : List Dv}
theorem NrmRow.by (hb : Below w.heap.size w w1) (h : NrmRow w lo g ds k) : NrmRow w1 lo g ds k := by
  obtain ⟨h0, d, a, b, c, e⟩ := h
  exact ⟨h0, d, a.by hb, b, c, fun p hp => ⟨(e p hp).1, Nat.lt_of_lt_of_le (e p hp).2.1 hb.size, (e p hp).2.2⟩⟩
theorem NrmRow.lt (h : NrmRow w lo g ds k) : g < w.heap.size := by obtain ⟨_, d, a, _⟩ := h; exact a.lt
theorem NrmRow.get (h : NrmRow w lo g ds k) {x : Dv} (hx : ds[k]? = some x) : ∃ (cs : Array Value) (pv : Value), Blk w g cs 35 ∧ Cs4 cs k (.int .i64 x.kind) pv (.int .i64 x.wd) (.int .i64 x.len) ∧ IntSl w pv x.pins := by
  obtain ⟨_, d, ⟨cs, hB, hR⟩, b, c, e⟩ := h
  have hg : (d.toList.map (·.1))[k]? = some x := by rw [b]; exact nrmTo_get ds k x hx
  rw [List.getElem?_map] at hg
  obtain ⟨p, hp, he⟩ : ∃ p, d.toList[k]? = some p ∧ p.1 = x := by
    cases h : d.toList[k]? with
    | none => rw [h] at hg; simp at hg
    | some p => rw [h] at hg; exact ⟨p, rfl, by simpa using hg⟩
  obtain ⟨hi, e1⟩ := list_getBang d k p hp
  obtain ⟨⟨pv, a1, a2⟩, a3⟩ := hR k hi
  rw [e1, he] at a1 a2
  exact ⟨cs, pv, hB, a1, a2.sl⟩
theorem RowC.put {d : Array (Dv × Nat)} {cs : Array Value} (h : RowC w g d cs) {i : Nat} (hi : i < d.size) {x : Dv} {pv : Value} {fb : Nat} (hO : OwnR w fb (fb + 1) pv x.pins) (hfb : fb ≠ g) :
    RowC w g (d.setIfInBounds i (x, fb)) (set4 cs i (.int .i64 x.kind) pv (.int .i64 x.wd) (.int .i64 x.len)) := by
  intro k hk
  rw [Array.size_setIfInBounds] at hk
  obtain ⟨⟨p0, c0, _⟩, _⟩ := h i hi
  have sz := (Array.getElem?_eq_some_iff.1 c0.2.2.2).1
  by_cases e : k = i
  · subst e
    have e1 : (d.setIfInBounds k (x, fb))[k]! = (x, fb) := by simp [hi]
    rw [e1]
    exact ⟨⟨pv, set4_same _ _ _ _ _ _ sz, hO⟩, hfb⟩
  · have e1 : (d.setIfInBounds i (x, fb))[k]! = d[k]! := by
      have hk' : k < (d.setIfInBounds i (x, fb)).size := by simpa using hk
      rw [getBang _ k hk', getBang _ k hk]
      exact Array.getElem_setIfInBounds_ne hk (by omega)
    rw [e1]
    obtain ⟨⟨pv', a, b⟩, c⟩ := h k hk
    exact ⟨⟨pv', a.at_ (fun q h1 h2 => set4_other _ _ _ _ _ _ _ (by omega)), b⟩, c⟩
/-- One more normal: four stores. -/
theorem NrmRow.step (h : NrmRow w lo g ds k) (hb : Below w.heap.size w w1) {x : Dv} (hx : ds[k]? = some x) {pv : Value} {fb : Nat} (h1 : w.heap.size ≤ fb) (h2 : fb < w1.heap.size) (hO : OwnR w1 fb (fb + 1) pv (normD x).pins) (hlo : lo ≤ w.heap.size) :
    ∃ W, W = (((w1.setCell ⟨g, k * 4, none⟩ (.int .i64 x.kind)).setCell ⟨g, k * 4 + 1, none⟩ pv).setCell ⟨g, k * 4 + 2, none⟩ (.int .i64 x.wd)).setCell ⟨g, k * 4 + 3, none⟩ (.int .i64 x.len) ∧ NrmRow W lo g ds (k + 1) ∧ Within g (g + 1) w1 W := by
  have hgl := h.lt
  obtain ⟨h0, d, ⟨cs, hB, hR⟩, b, c, e⟩ := h
  have hdl : d.size = ds.length := by have := congrArg List.length b; simpa [length_nrmTo] using this
  have hk := (List.getElem?_eq_some_iff.1 hx).1
  have hB1 := Blk.by hb hB
  have hW : Within g (g + 1) w1 ((((w1.setCell ⟨g, k * 4, none⟩ (.int .i64 x.kind)).setCell ⟨g, k * 4 + 1, none⟩ pv).setCell ⟨g, k * 4 + 2, none⟩ (.int .i64 x.wd)).setCell ⟨g, k * 4 + 3, none⟩ (.int .i64 x.len)) := (((Within.off _).on (Within.off _)).on (Within.off _)).on (Within.off _)
  have hR1 := (hR.past (Within.ofBelow (lo := g) (hi := g + 1) hb)).past hW
  have hO1 := hO.past hW (by omega)
  have e1 : (d.setIfInBounds k (normD x, fb)).toList = d.toList.set k (normD x, fb) := by simp
  refine ⟨_, rfl, ⟨h0, d.setIfInBounds k (normD x, fb), ⟨_, (((hB1.set _ _).set _ _).set _ _).set _ _, RowC.put hR1 (x := normD x) (by omega) hO1 (by omega)⟩, ?_, ?_, ?_⟩, hW⟩
  · rw [e1, List.map_set, b]
    exact nrmTo_step ds k x hx
  · rw [e1, List.map_set]
    rw [List.nodup_iff_pairwise_ne] at c ⊢
    rw [List.pairwise_iff_getElem] at c ⊢
    intro i j hi hj hij
    simp only [List.length_set, List.length_map, Array.length_toList] at hi hj
    have old : ∀ q (hq : q < d.size), (d.toList.map (·.2))[q]'(by simpa using hq) < w.heap.size := fun q hq => by
      have := e d.toList[q] (List.getElem_mem (by simpa using hq))
      simpa using this.2.1
    simp only [List.getElem_set]
    split
    · split
      · omega
      · have := old j hj; omega
    · split
      · have := old i hi; omega
      · exact c i j (by simpa using hi) (by simpa using hj) hij
  · intro p hp
    rw [e1] at hp
    have hsz := hW.size
    rcases List.mem_or_eq_of_mem_set hp with hp | rfl
    · obtain ⟨q1, q2, q3⟩ := e p hp
      exact ⟨q1, by have := hb.size; omega, q3⟩
    · exact ⟨by show lo ≤ fb; omega, by show fb < _; omega, by show fb ≠ g; omega⟩
theorem NrmRow.start {hi : Nat} {sv : Value} (h : OwnDs w lo hi sv ds) (hhi : hi ≤ w.heap.size) (hne : ds ≠ []) : ∃ g cap, sv = .slice (some ⟨g, 0, none⟩) ds.length cap ∧ g < hi ∧ ds.length ≤ cap ∧ cap ≤ maxLen ∧ NrmRow w lo g ds 0 := by
  obtain ⟨g, cap, d, h1, h2, h3, h4, h5, h6, h7, h8, h9⟩ := h.row hne
  rw [h2] at h1
  exact ⟨g, cap, h1, h3.2, h4, h5, h3.1, d, h6, by rw [nrmTo_zero]; exact h7, h8, fun p hp => ⟨(h9 p hp).1, by have := (h9 p hp).2.1; omega, (h9 p hp).2.2⟩⟩
theorem NrmRow.done {cap : Nat} (h : NrmRow w lo g ds ds.length) (h1 : ds.length ≤ cap) (h2 : cap ≤ maxLen) : OwnDs w lo w.heap.size (.slice (some ⟨g, 0, none⟩) ds.length cap) (ds.map normD) := by
  have hgl := h.lt
  obtain ⟨h0, d, a, b, c, e⟩ := h
  have hdl : d.size = ds.length := by have := congrArg List.length b; simpa [length_nrmTo] using this
  rw [nrmTo_all] at b
  rw [← b, ← hdl]
  exact a.own ⟨h0, hgl⟩ (by omega) h2 c e
end
/-- The same, of a slice that may be empty. -/
def NrmSt (w : World) (l1 h1 : Nat) (sv : Value) (ds : List Dv) (k : Nat) : Prop := (∃ a c, sv = .slice a 0 c ∧ ds = []) ∨ ∃ g cap, sv = .slice (some ⟨g, 0, none⟩) ds.length cap ∧ (l1 ≤ g ∧ g < h1) ∧ ds.length ≤ cap ∧ cap ≤ maxLen ∧ NrmRow w l1 g ds k
theorem NrmSt.start {w : World} {l1 h1 : Nat} {sv : Value} {ds : List Dv} (h : OwnDs w l1 h1 sv ds) (hhi : h1 ≤ w.heap.size) : NrmSt w l1 h1 sv ds 0 := by
  by_cases hne : ds = []
  · subst hne
    obtain ⟨a, c, rfl⟩ := h.sl.sized
    exact .inl ⟨a, c, rfl, rfl⟩
  · obtain ⟨g, cap, e, g1, g2, g3, g4⟩ := NrmRow.start h hhi hne
    exact .inr ⟨g, cap, e, ⟨g4.1, g1⟩, g2, g3, g4⟩
theorem NrmSt.by {w w1 : World} {l1 h1 k : Nat} {sv : Value} {ds : List Dv} (hb : Below w.heap.size w w1) (h : NrmSt w l1 h1 sv ds k) : NrmSt w1 l1 h1 sv ds k := by
  rcases h with h | ⟨g, cap, e, g1, g2, g3, g4⟩
  · exact .inl h
  · exact .inr ⟨g, cap, e, g1, g2, g3, g4.by hb⟩
theorem NrmSt.done {w : World} {l1 h1 : Nat} {sv : Value} {ds : List Dv} (h : NrmSt w l1 h1 sv ds ds.length) : OwnDs w l1 w.heap.size sv (ds.map normD) := by
  rcases h with ⟨a, c, e, h⟩ | ⟨g, cap, e, g1, g2, g3, g4⟩
  · subst h; exact .inl ⟨a, c, e, rfl⟩
  · rw [e]; exact g4.done g2 g3
/-- A netlist all of whose memory lies in blocks from m on. -/
def NlA (m : Nat) (w : World) (v : Value) (x : Nl) : Prop := ∃ s1 s2, v = .agg #[.int .i64 x.nets, s1, s2] ∧ (∃ lo hi, m ≤ lo ∧ OwnDs w lo hi s1 x.ds) ∧ ∃ lo hi, m ≤ lo ∧ OwnPs w lo hi s2 x.ps
section
variable {m : Nat} {w w' : World} {v : Value} {x : Nl}
theorem NlA.nl (h : NlA m w v x) : NlV w v x := by
  obtain ⟨s1, s2, e, ⟨l1, h1, r1, o1⟩, l2, h2, r2, o2⟩ := h
  exact ⟨s1, s2, e, o1.sl, o2.sl⟩
theorem NlA.by (hb : Below w.heap.size w w') (h : NlA m w v x) : NlA m w' v x := by
  obtain ⟨s1, s2, e, ⟨l1, h1, r1, o1⟩, l2, h2, r2, o2⟩ := h
  exact ⟨s1, s2, e, ⟨l1, h1, r1, o1.by hb⟩, l2, h2, r2, o2.by hb⟩
theorem NlA.past {lo hi : Nat} (hw : Within lo hi w w') (h : NlA m w v x) (hh : hi ≤ m) : NlA m w' v x := by
  obtain ⟨s1, s2, e, ⟨l1, h1, r1, o1⟩, l2, h2, r2, o2⟩ := h
  exact ⟨s1, s2, e, ⟨l1, h1, r1, o1.past hw (by omega)⟩, l2, h2, r2, o2.past hw (by omega)⟩
theorem NlA.low {m' : Nat} (h : NlA m w v x) (hm : m' ≤ m) : NlA m' w v x := by
  obtain ⟨s1, s2, e, ⟨l1, h1, r1, o1⟩, l2, h2, r2, o2⟩ := h
  exact ⟨s1, s2, e, ⟨l1, h1, by omega, o1⟩, l2, h2, by omega, o2⟩
theorem OwnNl.a {lo hi : Nat} (h : OwnNl w lo hi v x) : NlA lo w v x := by
  obtain ⟨s1, s2, l1, h1, l2, h2, e, a, b, c, d, f⟩ := h
  exact ⟨s1, s2, e, ⟨l1, h1, c.1, a⟩, l2, h2, d.1, b⟩
theorem OwnNlX.a {lo hi : Nat} (h : OwnNlX w lo hi v x) : NlA lo w v x := by
  obtain ⟨s1, s2, P, e, a, b, c⟩ := h
  exact ⟨s1, s2, e, ⟨lo, hi, Nat.le_refl _, a.ods⟩, P, P + 1, c.1, b⟩
theorem NlA.sized (h : NlA m w v x) : ∃ a c a' c', v = .agg #[.int .i64 x.nets, .slice a x.ds.length c, .slice a' x.ps.length c'] := h.nl.sized
end
/-- Three stores into a struct of three cells. -/
theorem three_cells {w : World} {T : Nat} {a b c a' b' c' : Value} {ty : TypeId} (h : Blk w T #[a, b, c] ty) : ∃ W, W = ((w.setCell ⟨T, 0, none⟩ a').setCell ⟨T, 1, none⟩ b').setCell ⟨T, 2, none⟩ c' ∧ Blk W T #[a', b', c'] ty ∧ Within T (T + 1) w W :=
  ⟨_, rfl, ((h.set 0 a').set 1 b').set 2 c', ((Within.off _).on (Within.off _)).on (Within.off _)⟩
end Go.Proofs.Ytdljbmfmmlcmmaa

/- ReduceNetlist, the program's. -/
namespace Go.Proofs.Ytdljbmfmmlcmmaa
open Go.RowKit
set_option linter.unusedVariables false
set_option linter.unusedSimpArgs false

set_option maxRecDepth 100000 in
set_option maxHeartbeats 2000000 in
theorem implRd_no (x : Nl) (v : Value) (w : World) (h : NlV w v x) (hok : ∀ p ∈ x.ps, p.ok) (hnn : Fits x.nets) (hv : nlB x = false) :
    Calls Try.prog 13 #[v] w fun e w' => ∃ v', e = .returned (.tuple #[v', .int .i64 (rdC x)]) ∧ OwnNl w' w.heap.size w'.heap.size v' (rdS x) ∧ Below w.heap.size w w' := by
  rw [(rd_no hv).1, (rd_no hv).2]
  have HV := Lib.hid (fun v w h => implNl_any x v w h hok hnn)
  rw [hv] at HV
  have HN := Lib.hid h
  obtain ⟨a, c, a', c', rfl⟩ := h.sized
  clear h hok hv
  go_enter Try.func13, Try.ntmps13
  go_wp2_with (go_at_call 19; refine (HV.out _ _ (HN.out.by (by ((repeat (first | (with_reducible exact Below.refl _ _) | (with_reducible refine below_drewN ?_ _) | (with_reducible refine Below.drew ?_) | (with_reducible refine below_al ?_ _) | (with_reducible refine below_on (by assumption) ?_) | ((with_reducible refine Below.setCell ?_ ?_ _); rotate_left; focus (first | omega | (simp; done) | (simp; omega))) | (with_reducible assumption))); done)))).mono ?_; rintro e w1 ⟨rfl, hb1⟩; have k1 : Blk w1 (w.heap.size + 1) #[.int .i64 0, .slice none 0 0, .slice none 0 0] 27 := (by ((repeat (first | (with_reducible assumption) | (with_reducible refine Blk.drewN ?_ _) | (with_reducible refine Blk.drew ?_) | ((with_reducible refine Blk.new _ ?_); focus (first | omega | (simp; done) | (simp; omega))) | (with_reducible refine Blk.past ?_ _) | ((with_reducible refine Blk.apart ?_ _ _ _ ?_); rotate_left; focus (first | omega | (simp; done) | (simp; omega))) | (with_reducible refine Blk.by (by assumption) ?_))); done)); have f1 := k1.free; have c1 := k1.cell; have l1 := k1.lt)
  exact bodyPost_ret (v := .tuple #[.agg #[.int .i64 0, .slice none 0 0, .slice none 0 0], .int .i64 1]) (by simp [results, Try.results13, go_sem, *]) rfl ⟨_, rfl, ownNl_nil _ _ _ (by simp; omega), (by ((repeat (first | (with_reducible exact Below.refl _ _) | (with_reducible refine below_drewN ?_ _) | (with_reducible refine Below.drew ?_) | (with_reducible refine below_al ?_ _) | (with_reducible refine below_on (by assumption) ?_) | ((with_reducible refine Below.setCell ?_ ?_ _); rotate_left; focus (first | omega | (simp; done) | (simp; omega))) | (with_reducible assumption))); done))⟩

set_option maxRecDepth 100000 in
set_option maxHeartbeats 8000000 in
theorem implRd_yes (x : Nl) (v : Value) (w : World) (h : NlV w v x) (hok : ∀ p ∈ x.ps, p.ok) (hnn : Fits x.nets) (hv : nlB x = true) :
    Calls Try.prog 13 #[v] w fun e w' => ∃ v', e = .returned (.tuple #[v', .int .i64 (rdC x)]) ∧ OwnNl w' w.heap.size w'.heap.size v' (rdS x) ∧ Below w.heap.size w w' := by
  have HV := Lib.hid (fun v w h => implNl_any x v w h hok hnn)
  rw [hv] at HV
  have HN := Lib.hid h
  obtain ⟨_, hl24, hp8, hdv, _⟩ := nlB_facts hv
  have HCP := Lib.hid (fun v w h => copyNetlist_any x v w h (by omega) (by omega) (fun d hd => by have h1 := (dvB_pins (hdv d hd)).1; have h2 := (dvB_pins (hdv d hd)).2.1; exact ⟨by omega, fun e => by rw [e] at h2; simp at h2⟩))
  have HRM := Lib.hid (fun (y : Nl) v w h (h1 : y.nets = x.nets) (h2 : y.ps = x.ps) => implRm_any y v w h (by rw [h2]; exact hok) (by rw [h1]; exact hnn))
  have HNP := Lib.hid (fun (y : Nl) v w h (h1 : y.nets = x.nets) (h2 : y.ps = x.ps) hv => nextPair_any y v w h (by rw [h2]; exact hok) (by rw [h1]; exact hnn) hv)
  have HMP := Lib.hid (fun (y : Nl) i j v w h (h1 : y.nets = x.nets) (h2 : y.ps = x.ps) => implMp_any y i j v w h (by rw [h2]; exact hok) (by rw [h1]; exact hnn))
  have HVX := Lib.hid hv
  obtain ⟨a, c, a', c', rfl⟩ := h.sized
  clear h hok hv hdv
  go_enter Try.func13, Try.ntmps13
  go_wp2_with fail
  refine (HV.out _ _ (HN.out.by (by ((repeat (first | (with_reducible exact Below.refl _ _) | (with_reducible refine below_drewN ?_ _) | (with_reducible refine Below.drew ?_) | (with_reducible refine below_al ?_ _) | (with_reducible refine below_on (by assumption) ?_) | ((with_reducible refine Below.setCell ?_ ?_ _); rotate_left; focus (first | omega | (simp; done) | (simp; omega))) | (with_reducible assumption))); done)))).mono ?_
  rintro e w1 ⟨rfl, hb1⟩
  have k0 : Blk w1 w.heap.size #[.int .i64 x.nets, .slice a x.ds.length c, .slice a' x.ps.length c'] 27 := (by ((repeat (first | (with_reducible assumption) | (with_reducible refine Blk.drewN ?_ _) | (with_reducible refine Blk.drew ?_) | ((with_reducible refine Blk.new _ ?_); focus (first | omega | (simp; done) | (simp; omega))) | (with_reducible refine Blk.past ?_ _) | ((with_reducible refine Blk.apart ?_ _ _ _ ?_); rotate_left; focus (first | omega | (simp; done) | (simp; omega))) | (with_reducible refine Blk.by (by assumption) ?_))); done))
  have k1 : Blk w1 (w.heap.size + 1) #[.int .i64 0, .slice none 0 0, .slice none 0 0] 27 := (by ((repeat (first | (with_reducible assumption) | (with_reducible refine Blk.drewN ?_ _) | (with_reducible refine Blk.drew ?_) | ((with_reducible refine Blk.new _ ?_); focus (first | omega | (simp; done) | (simp; omega))) | (with_reducible refine Blk.past ?_ _) | ((with_reducible refine Blk.apart ?_ _ _ _ ?_); rotate_left; focus (first | omega | (simp; done) | (simp; omega))) | (with_reducible refine Blk.by (by assumption) ?_))); done))
  have hB1 : Below w.heap.size w w1 := (by ((repeat (first | (with_reducible exact Below.refl _ _) | (with_reducible refine below_drewN ?_ _) | (with_reducible refine Below.drew ?_) | (with_reducible refine below_al ?_ _) | (with_reducible refine below_on (by assumption) ?_) | ((with_reducible refine Below.setCell ?_ ?_ _); rotate_left; focus (first | omega | (simp; done) | (simp; omega))) | (with_reducible assumption))); done))
  have c0 := k0.cell
  have l1 := k1.lt
  clear hb1
  go_wp2_with fail
  refine (HCP.out _ _ (HN.out.by hB1)).mono ?_
  rintro e w2 ⟨v2, rfl, hO, hb2⟩
  have hsz2 := hb2.size
  have HO := Lib.hid hO.a
  obtain ⟨a1, c1, a2, c2, rfl⟩ := hO.nl.sized
  have k12 := Blk.by hb2 k1
  have hB2 := below_on hb2 hB1
  clear c0 k0 hb2 hO HN HCP HV
  obtain ⟨T, hT⟩ : ∃ T, w2.heap.size = T := ⟨_, rfl⟩
  obtain ⟨w3, hw3⟩ : ∃ z, z = w2.alloc (.cells #[.int .i64 x.nets, .slice a1 x.ds.length c1, .slice a2 x.ps.length c2] 27) := ⟨_, rfl⟩
  have hal : Below w2.heap.size w2 w3 := by rw [hw3]; exact (Below.refl _ w2).alloc (Nat.le_refl _) _
  have kT3 : Blk w3 T #[.int .i64 x.nets, .slice a1 x.ds.length c1, .slice a2 x.ps.length c2] 27 := by rw [hw3]; exact Blk.new _ hT.symm
  have kZ3 := Blk.by hal k12
  have hB3 := below_on hal hB2
  have hO3 := HO.out.by hal
  have hT1 : w.heap.size + 1 < T := by omega
  go_upto_region 4 with fail
  rw [← hw3]
  (try rw [hT])
  have HO3 := Lib.hid hO3.nl
  have HX0 := Lib.hid (show nlB x = true ∧ x.nets = x.nets ∧ x.ps = x.ps ∧ redF x = redF x from ⟨HVX.out, rfl, rfl, rfl⟩)
  clear hw3 hal hO3 HO hB2 k12 hsz2 hB1 l1 k1 hT
  go_loopg [5] (x.ds.length) (fun gk vp wr => ∃ (y : Nl) (b1 : Option Addr) (d1 : Nat) (b2 : Option Addr) (d2 : Nat), Hid (y.ds.length ≤ gk) ∧ Hid (nlB y = true ∧ y.nets = x.nets ∧ y.ps = x.ps ∧ redF y = redF x) ∧ Blk wr T #[.int .i64 x.nets, .slice b1 y.ds.length d1, .slice b2 x.ps.length d2] 27 ∧ Hid (NlV wr (.agg #[.int .i64 x.nets, .slice b1 y.ds.length d1, .slice b2 x.ps.length d2]) y) ∧ Blk wr (w.heap.size + 1) #[.int .i64 0, .slice none 0 0, .slice none 0 0] 27 ∧ Below w.heap.size w wr)
  case atStart => exact ⟨x, a1, c1, a2, c2, Lib.hid (Nat.le_refl _), HX0, kT3, HO3, kZ3, hB3⟩
  case round =>
    clear HX0 kT3 HO3 kZ3 hB3
    obtain ⟨y, b1, d1, b2, d2, HG, HY, kT, HNY, kZ, hb⟩ := hrel
    have cT := kT.cell
    have lT := kT.lt
    go_wp2_with fail
    refine (HRM.out y _ _ HNY.out HY.out.2.1 HY.out.2.2.1).mono ?_
    rintro e4 w4 ⟨v4, rfl, hO4, hb4⟩
    have hzf : nlB (rmS y) = true ∧ (rmS y).nets = x.nets ∧ (rmS y).ps = x.ps ∧ (rmS y).ds.length ≤ y.ds.length := ⟨rmS_valid HY.out.1, (rmS_same HY.out.1).1.trans HY.out.2.1, (rmS_same HY.out.1).2.trans HY.out.2.2.1, rmS_len y⟩
    have HRS := Lib.hid (fun h => HY.out.2.2.2.symm.trans (redF_stop (x := y) h))
    have HRE1 := Lib.hid (fun h h' => HY.out.2.2.2.symm.trans (redF_err (x := y) h h'))
    have HRG := Lib.hid (fun h h' => HY.out.2.2.2.symm.trans (redF_go (x := y) h h'))
    have HGL := Lib.hid (Nat.le_trans hzf.2.2.2 HG.out)
    obtain ⟨z, hz⟩ : ∃ z, rmS y = z := ⟨_, rfl⟩
    rw [hz] at hzf hO4 HRS HRE1 HRG HGL
    obtain ⟨b3, d3, b4, d4, rfl⟩ := hO4.nl.sized
    rw [hzf.2.1, hzf.2.2.1] at hO4
    rw [hzf.2.1, hzf.2.2.1]
    have HZF := Lib.hid hzf
    have kT4 := Blk.by hb4 kT
    have kZ4 := Blk.by hb4 kZ
    have hb4w := below_on hb4 hb
    have c4 := kT4.cell
    have f4 := kT4.free
    have l4 := kT4.lt
    have hTw : T < wr.heap.size := lT
    have HO4 := Lib.hid hO4
    clear cT lT hO4 hzf hz kT kZ hb HNY HY HG
    go_upto_region 5 with fail
    obtain ⟨w5, hw5, kT5, hW5⟩ := three_cells kT4 (a' := .int .i64 x.nets) (b' := .slice b3 z.ds.length d3) (c' := .slice b4 x.ps.length d4)
    rw [← hw5]
    have HO5 := Lib.hid (HO4.out.past hW5 (by omega))
    have kZ5 := hW5.blk kZ4 (by omega)
    have hb5 := hW5.below hb4w (by omega)
    have hs5 := hW5.size
    clear hw5 c4 f4 l4 kT4 kZ4 HO4 hb4w
    have hnp : ∀ v w, NlV w v z → Calls Try.prog 33 #[v] w fun e w' => e = .returned (.tuple #[.int .i64 (nextP z).1, .int .i64 (nextP z).2.1, .bool (nextP z).2.2]) ∧ Below w.heap.size w w' := fun v w h => by
      refine (HNP.out z v w h HZF.out.2.1 HZF.out.2.2.1 HZF.out.1).mono ?_
      rintro e w' ⟨he, hb⟩
      refine ⟨?_, hb⟩
      unfold nextP
      by_cases hq : (firstP parB z.ds).2.2 = true
      · rw [if_pos hq] at he ⊢; rw [he, hq]
      · rw [if_neg hq] at he ⊢; exact he
    have HNX := Lib.hid hnp
    obtain ⟨pi, hpi⟩ : ∃ p, (nextP z).1 = p := ⟨_, rfl⟩
    obtain ⟨pj, hpj⟩ : ∃ p, (nextP z).2.1 = p := ⟨_, rfl⟩
    obtain ⟨pk, hpk⟩ : ∃ p, (nextP z).2.2 = p := ⟨_, rfl⟩
    rw [hpi, hpj, hpk] at HNX
    rw [hpi, hpj, hpk] at HRE1 HRG
    rw [hpk] at HRS
    clear hnp hpi hpj hpk
    have c5 := kT5.cell
    have l5 := kT5.lt
    go_wp2_with fail
    refine (HNX.out _ _ HO5.out.nl).mono ?_
    rintro e6 w6 ⟨rfl, hb6⟩
    have HO6 := Lib.hid (HO5.out.by hb6)
    have kT6 := Blk.by hb6 kT5
    have kZ6 := Blk.by hb6 kZ5
    have hb6w := below_on hb6 hb5
    have hs6 := hb6.size
    clear c5 l5 hb6 HO5 kT5 kZ5 hb5 HNX
    have c6 := kT6.cell
    have l6 := kT6.lt
    have hT6 : T < w6.heap.size := l6
    cases pk with
    | true =>
      go_wp2_with fail
      refine (HMP.out z pi pj _ _ HO6.out.nl HZF.out.2.1 HZF.out.2.2.1).mono ?_
      rintro e7 w7 ⟨v7, rfl, hO7, hb7⟩
      have HO7 := Lib.hid hO7.a
      obtain ⟨b5, d5, b6, d6, rfl⟩ := hO7.nl.sized
      have kT7 := Blk.by hb7 kT6
      have kZ7 := Blk.by hb7 kZ6
      have hb7w := below_on hb7 hb6w
      have hs7 := hb7.size
      clear hO7 hb7 c6 l6 kT6 kZ6 HO6 hb6w
      by_cases hcd : mgC z pi pj = 0
      · have hmf := mgR_facts hcd
        have HRG2 := Lib.hid (HRG.out (by first | trivial | rfl) hcd)
        have HMF := Lib.hid hmf
        rw [hmf.2.1, hmf.2.2.1, HZF.out.2.1, HZF.out.2.2.1] at HO7
        rw [hmf.2.1, hmf.2.2.1, HZF.out.2.1, HZF.out.2.2.1]
        rw [hcd]
        obtain ⟨u, hu⟩ : ∃ u, mgR z pi pj = u := ⟨_, rfl⟩
        rw [hu] at HO7 HRG2 HMF ⊢
        clear hmf hcd hu HRG HRE1 HRS
        have fT7 := kT7.free
        have cT7 := kT7.cell
        have lT7 := kT7.lt
        obtain ⟨w8, hw8, kT8, hW8⟩ := three_cells kT7 (a' := .int .i64 x.nets) (b' := .slice b5 u.ds.length d5) (c' := .slice b6 x.ps.length d6)
        obtain ⟨w9, hw9⟩ : ∃ q, q = w8.alloc (.cells #[.int .i64 x.nets, .slice b5 u.ds.length d5, .slice b6 x.ps.length d6] 27) := ⟨_, rfl⟩
        have hal : Below w8.heap.size w8 w9 := by rw [hw9]; exact (Below.refl _ w8).alloc (Nat.le_refl _) _
        have kT9 := Blk.by hal kT8
        have kZF := Blk.by hal (hW8.blk kZ7 (by omega))
        have hbF := below_on hal (hW8.below hb7w (by omega))
        have HNF := Lib.hid ((HO7.out.past hW8 (by omega)).by hal).nl
        go_wp2_with fail
        rw [← hw8, ← hw9]
        have HFIN := Lib.hid (show u.ds.length < gk ∧ nlB u = true ∧ u.nets = x.nets ∧ u.ps = x.ps ∧ redF u = redF x from ⟨by have := HMF.out.2.2.2; have := HGL.out; omega, HMF.out.1, HMF.out.2.1.trans HZF.out.2.1, HMF.out.2.2.1.trans HZF.out.2.2.1, HRG2.out.symm⟩)
        go_roundg u.ds.length
        case measure => exact HFIN.out.1
        case rel => exact ⟨u, b5, d5, b6, d6, Lib.hid (Nat.le_refl _), Lib.hid HFIN.out.2, kT9, HNF, kZF, hbF⟩
      · have hre := rd_err HVX.out (by rw [HRE1.out (by first | trivial | rfl) hcd]; exact hcd)
        have hr2 : (redF x).2 = mgC z pi pj := by rw [HRE1.out (by first | trivial | rfl) hcd]
        rw [hr2] at hre
        have HRE := Lib.hid hre
        have hcb : (mgC z pi pj == 0) = false := by simpa using hcd
        have hcb2 : (mgC z pi pj != 0) = true := by simpa using hcd
        obtain ⟨cc, hcc⟩ : ∃ c, mgC z pi pj = c := ⟨_, rfl⟩
        rw [hcc] at hcb hcb2 HRE ⊢
        clear hcc
        have cZ7 := kZ7.cell
        have fZ7 := kZ7.free
        have lZ7 := kZ7.lt
        obtain ⟨u, hu⟩ : ∃ u, mgR z pi pj = u := ⟨_, rfl⟩
        rw [hu]
        clear hre hr2 hcd hu HRG HRE1 HRS HO7
        go_wp2
        refine bodyPost_ret (v := .tuple #[.agg #[.int .i64 0, .slice none 0 0, .slice none 0 0], .int .i64 cc]) (by simp [results, Try.results13, go_sem, *]) rfl ⟨_, by rw [HRE.out.2], ?_, ?_⟩
        · rw [HRE.out.1]
          exact ownNl_nil _ _ _ (by have := hb7w.size; simp; omega)
        · repeat (first | (with_reducible exact hb7w) | ((with_reducible refine Below.setCell ?_ ?_ _); rotate_left; focus (simp; try omega)) | (with_reducible refine below_al ?_ _))
    | false =>
      have hrs := HRS.out (by first | trivial | rfl)
      have hre := rd_yes HVX.out hrs
      obtain ⟨RR, hRR⟩ : ∃ RR, cmS (sortS (nrmS z)) = RR := ⟨_, rfl⟩
      rw [hRR] at hre
      have HRE := Lib.hid hre
      obtain ⟨_, zl24, zp8, zdv, _⟩ := nlB_facts HZF.out.1
      have nv := nrmS_valid HZF.out.1
      obtain ⟨_, nl24, np8, ndv, _⟩ := nlB_facts nv
      have HSO := Lib.hid (fun v w h => implSorted_any (nrmS z) v w h (by omega) (by omega) (fun d hd => by have h1 := (dvB_pins (ndv d hd)).1; have h2 := (dvB_pins (ndv d hd)).2.1; exact ⟨by omega, fun e => by rw [e] at h2; simp at h2⟩))
      have HCM := Lib.hid (fun v w h => compact_any (sortS (nrmS z)) v w h (sortS_valid nv))
      rw [hRR] at HCM
      have HDV := Lib.hid zdv
      obtain ⟨s1, s2, l1, h1, l2, h2, ee, hOD, hOP, ⟨m1, m2⟩, ⟨m3, m4⟩, hdis⟩ := HO6.out
      obtain rfl : Value.slice b3 z.ds.length d3 = s1 := by have := congrArg (fun v => match v with | .agg a => a[1]? | _ => none) ee; simpa using this
      obtain rfl : Value.slice b4 x.ps.length d4 = s2 := by have := congrArg (fun v => match v with | .agg a => a[2]? | _ => none) ee; simpa using this
      rw [HZF.out.2.2.1] at hOP
      have HST := Lib.hid (NrmSt.start hOD (by omega))
      have HOP := Lib.hid hOP
      clear hrs hre hRR nv ndv zdv hOD hOP ee HO6 HRS HRG HRE1 nl24 np8
      go_wp2
      go_loopw [43] (fun vi wr => ∃ k : Nat, k ≤ z.ds.length ∧ vi = .int .i64 k ∧ Hid (NrmSt wr l1 h1 (.slice b3 z.ds.length d3) z.ds k) ∧ Hid (OwnPs wr l2 h2 (.slice b4 x.ps.length d4) x.ps) ∧ Blk wr T #[.int .i64 x.nets, .slice b3 z.ds.length d3, .slice b4 x.ps.length d4] 27 ∧ Blk wr (w.heap.size + 1) #[.int .i64 0, .slice none 0 0, .slice none 0 0] 27 ∧ (h1 ≤ wr.heap.size ∧ h2 ≤ wr.heap.size) ∧ Below w.heap.size w wr) (fun vi _ => z.ds.length - (intOf vi).toNat)
      case atStart => exact ⟨0, Nat.zero_le _, rfl, HST, HOP, kT6, kZ6, ⟨by omega, by omega⟩, hb6w⟩
      case round =>
        clear HST HOP kT6 kZ6 hb6w c6 l6
        obtain ⟨k, hk, rfl, HST, HOP, kT, kZ, ⟨hh1, hh2⟩, hb⟩ := hrel
        by_cases hlk : k < z.ds.length
        · obtain ⟨D, hD⟩ : ∃ D, z.ds[k]? = some D := ⟨_, List.getElem?_eq_getElem hlk⟩
          have hst := HST.out
          rcases hst with ⟨_, _, _, h0⟩ | ⟨g, cap, eg, hg, hcap, hmax, hrow⟩
          · rw [h0] at hlk; simp at hlk
          obtain ⟨rfl, rfl⟩ : b3 = some ⟨g, 0, none⟩ ∧ d3 = cap := by simpa using eg
          obtain ⟨cs, pv, hB, ⟨p0, p1, p2, p3⟩, hpv⟩ := hrow.get hD
          have hdd := dvB_pins (HDV.out D (List.mem_of_getElem? hD))
          have HNM := Lib.hid (fun w h => implNorm_any D.kind D.wd D.len pv D.pins w h (by omega))
          have HNE := Lib.hid (show normz D.kind D.pins ≠ [] from fun e => by have := (normz_facts D.kind D.pins).1; rw [e] at this; simp at this; omega)
          obtain ⟨ap, cp, rfl⟩ := hpv.len
          have HPV := Lib.hid hpv
          have HROW := Lib.hid hrow
          have HD := Lib.hid hD
          have hBc := hB.cell
          have hBl := hB.lt
          have cT := kT.cell
          have lT := kT.lt
          have i1 : (0 : Int) ≤ (k : Int) := by omega
          have i2 : (k : Int) < (z.ds.length : Int) := by omega
          clear hD eg hpv hrow hdd
          go_upto_region 14 with fail
          obtain ⟨E, hE⟩ : ∃ E, wr.heap.size = E := ⟨_, rfl⟩
          obtain ⟨w7, hw7⟩ : ∃ q, q = wr.alloc (.cells #[.int .i64 D.kind, .slice ap D.pins.length cp, .int .i64 D.wd, .int .i64 D.len] 35) := ⟨_, rfl⟩
          have hal : Below wr.heap.size wr w7 := by rw [hw7]; exact (Below.refl _ wr).alloc (Nat.le_refl _) _
          have kE7 : Blk w7 E #[.int .i64 D.kind, .slice ap D.pins.length cp, .int .i64 D.wd, .int .i64 D.len] 35 := by rw [hw7]; exact Blk.new _ hE.symm
          have kT7 := Blk.by hal kT
          have kZ7 := Blk.by hal kZ
          have kG7 := Blk.by hal hB
          have hb7 := below_on hal hb
          have HPV7 := Lib.hid (HPV.out.by hal)
          have HROW7 := Lib.hid (HROW.out.by hal)
          have HOP7 := Lib.hid (HOP.out.by hal)
          have hsz7 := hal.size
          rw [← hw7]
          (try rw [hE])
          have hgE : g < wr.heap.size := hBl
          have hl1 : w.heap.size + 1 < l1 := by omega
          clear hw7 hal cT lT hBc hBl kT kZ hb HPV HROW HOP HST
          have cT := kT7.cell
          have lT := kT7.lt
          have cE := kE7.cell
          have lE := kE7.lt
          go_region_held_law ((fun w' => (Blk w' (T) #[.int .i64 x.nets, .slice (some ⟨g, 0, none⟩) z.ds.length d3, .slice b4 x.ps.length d4] 27 ∧ ∀ o, w'.cell? ⟨T, o, none⟩ = (#[.int .i64 x.nets, .slice (some ⟨g, 0, none⟩) z.ds.length d3, .slice b4 x.ps.length d4] : Array Value)[o]?) ∧ (Blk w' (E) #[.int .i64 D.kind, .slice ap D.pins.length cp, .int .i64 D.wd, .int .i64 D.len] 35 ∧ ∀ o, w'.cell? ⟨E, o, none⟩ = (#[.int .i64 D.kind, .slice ap D.pins.length cp, .int .i64 D.wd, .int .i64 D.len] : Array Value)[o]?) ∧ Below w.heap.size w w')) (((try (obtain ⟨⟨hS0, _⟩, ⟨hS1, _⟩, hSB⟩ := hHeld)); refine ⟨Blk.both ?_, Blk.both ?_, ?_⟩ <;> first | ((repeat (first | (with_reducible assumption) | (with_reducible refine Blk.drewN ?_ _) | (with_reducible refine Blk.drew ?_) | ((with_reducible refine Blk.new _ ?_); focus (first | omega | (simp; done) | (simp; omega))) | (with_reducible refine Blk.past ?_ _) | ((with_reducible refine Blk.apart ?_ _ _ _ ?_); rotate_left; focus (first | omega | (simp; done) | (simp; omega))) | (with_reducible refine Blk.by (by assumption) ?_))); done) | ((repeat (first | (with_reducible exact Below.refl _ _) | (with_reducible refine below_drewN ?_ _) | (with_reducible refine Below.drew ?_) | (with_reducible refine below_al ?_ _) | (with_reducible refine below_on (by assumption) ?_) | ((with_reducible refine Below.setCell ?_ ?_ _); rotate_left; focus (first | omega | (simp; done) | (simp; omega))) | (with_reducible assumption))); done)))
            (first | (go_simp; go_at_call 35; refine (HNM.out _ (HPV7.out.by (by ((repeat (first | (with_reducible exact Below.refl _ _) | (with_reducible refine below_drewN ?_ _) | (with_reducible refine Below.drew ?_) | (with_reducible refine below_al ?_ _) | (with_reducible refine below_on (by assumption) ?_) | ((with_reducible refine Below.setCell ?_ ?_ _); rotate_left; focus (first | omega | (simp; done) | (simp; omega))) | (with_reducible assumption))); done)))).mono ?_; rintro e w8 ⟨pv8, rfl, hOI, hb8⟩; obtain ⟨fb, hf1, hf2, hOR⟩ := hOI.pin HNE.out; have HOR := Lib.hid hOR; obtain ⟨aq, cq, rfl⟩ := hOR.sl.len; clear hOR hOI; have hb88 : Below w7.heap.size w7 w8 := (by ((repeat (first | (with_reducible exact Below.refl _ _) | (with_reducible refine below_drewN ?_ _) | (with_reducible refine Below.drew ?_) | (with_reducible refine below_al ?_ _) | (with_reducible refine below_on (by assumption) ?_) | ((with_reducible refine Below.setCell ?_ ?_ _); rotate_left; focus (first | omega | (simp; done) | (simp; omega))) | (with_reducible assumption))); done)); have hf0 : w7.heap.size ≤ fb := hf1; have kG8 := Blk.by hb88 kG7; have cG8 := kG8.cell; have fG8 := kG8.free; have lG8 := kG8.lt; have kT8 := Blk.by hb88 kT7; have cT8 := kT8.cell; dsimp only))
          all_goals
            go_wp2_with fail
            obtain ⟨W, hW, hROW, hWW⟩ := NrmRow.step HROW7.out hb88 HD.out hf0 hf2 (show OwnR w8 fb (fb + 1) (.slice aq (normz D.kind D.pins).length cq) (normD D).pins from HOR.out) (by omega)
            rw [← hW]
            have hs88 := hb88.size
            have hsW := hWW.size
            have hTl : T < l1 := by omega
            exact ⟨⟨k + 1, by omega, by go_num, Lib.hid (.inr ⟨g, d3, rfl, hg, hcap, hmax, hROW⟩), Lib.hid ((HOP7.out.by hb88).past hWW (by omega)), hWW.blk kT8 (by omega), hWW.blk (Blk.by hb88 kZ7) (by omega), ⟨by omega, by omega⟩, hWW.below (below_on hb88 hb7) (by omega)⟩, by simp [intOf]; omega⟩
        · obtain rfl : k = z.ds.length := by omega
          have hdone := NrmSt.done HST.out
          have HF := Lib.hid (show NlV wr (.agg #[.int .i64 x.nets, .slice b3 z.ds.length d3, .slice b4 x.ps.length d4]) (nrmS z) from ⟨_, _, by rw [show (nrmS z).nets = x.nets from HZF.out.2.1], hdone.sl, by rw [show (nrmS z).ps = x.ps from HZF.out.2.2.1]; exact HOP.out.sl⟩)
          have j3 : ¬ (z.ds.length : Int) < (z.ds.length : Int) := by omega
          clear hdone HST HOP
          have cT := kT.cell
          have lT := kT.lt
          go_wp2_with (first | (go_at_call 37; refine (HSO.out _ _ HF.out).mono ?_; rintro e w8 ⟨v8, rfl, hO8, hb8⟩; have HO8 := Lib.hid hO8.nl; have kZ8 := Blk.by hb8 kZ; have hb8w := below_on hb8 hb; obtain ⟨q1, q2, q3, q4, rfl⟩ := hO8.nl.sized; clear hO8) | (go_at_call 36; refine (HCM.out _ _ HO8.out).mono ?_; rintro e w9 ⟨v9, rfl, hO9, hb9⟩; have HO9 := Lib.hid hO9; have kZ9 := Blk.by hb9 kZ8; have hb9w := below_on hb9 hb8w; obtain ⟨q5, q6, q7, q8, rfl⟩ := hO9.nl.sized; clear hO9; have cZ9 := kZ9.cell; have fZ9 := kZ9.free; have lZ9 := kZ9.lt))
          have hs8 := hb8.size
          have hsw := hb.size
          have hlt9 := kZ8.lt
          have hre := HRE.out
          refine bodyPost_ret (v := .tuple #[.agg #[.int .i64 RR.nets, .slice q5 RR.ds.length q6, .slice q7 RR.ps.length q8], .int .i64 0]) (by simp [results, Try.results13, go_sem, *]) rfl ⟨_, by rw [hre.2], ?_, ?_⟩
          · rw [hre.1]
            exact ((((HO9.out.past (Within.off _) (by omega)).past (Within.off _) (by omega)).past (Within.off _) (by omega)).wide (by omega) (by simp))
          · repeat (first | (with_reducible exact hb9w) | ((with_reducible refine Below.setCell ?_ ?_ _); rotate_left; focus (simp; try omega)))
end Go.Proofs.Ytdljbmfmmlcmmaa

/- ReduceNetlist, the reference's. -/
namespace Go.Proofs.Ytdljbmfmmlcmmaa
open Go.RowKit
set_option linter.unusedVariables false
set_option linter.unusedSimpArgs false

end Go.Proofs.Ytdljbmfmmlcmmaa

/- Both ReduceNetlist; bounds of what they answer. -/
namespace Go.Proofs.Ytdljbmfmmlcmmaa
open Go.RowKit
set_option linter.unusedVariables false
theorem dsum_le3 {ds : List Dv} (h : ∀ d ∈ ds, d.pins.length ≤ 3) : dsum ds ≤ 6 * ds.length := by
  induction ds with
  | nil => simp [dsum]
  | cons d ds ih =>
    have h1 := ih (fun e he => h e (List.mem_cons_of_mem _ he))
    have h2 := h d List.mem_cons_self
    simp only [dsum, List.length_cons]
    omega
theorem valid_bounds {z : Nl} (h : nlB z = true) : (∀ d ∈ z.ds, d.pins.length ≤ 1048576) ∧ nsum z ≤ 4000000 := by
  obtain ⟨_, h1, h2, h3, _⟩ := nlB_facts h
  have h4 : ∀ d ∈ z.ds, d.pins.length ≤ 3 := fun d hd => (dvB_pins (h3 d hd)).1
  refine ⟨fun d hd => by have := h4 d hd; omega, ?_⟩
  have := dsum_le3 h4
  unfold nsum
  omega
theorem redk_valid : ∀ (k : Nat) (x : Nl), nlB x = true → (redk k x).2 = 0 → nlB (redk k x).1 = true
  | 0, x, h, _ => h
  | k + 1, x, h, h' => by
    unfold redk at h' ⊢
    split
    · rename_i h1
      rw [if_pos h1] at h'
      split
      · rename_i h2
        rw [if_pos h2] at h'
        exact redk_valid k _ (mgR_facts h2).1 h'
      · rename_i h2
        rw [if_neg h2] at h'
        exact absurd h' h2
    · exact rmS_valid h
theorem rdS_valid {x : Nl} (h : nlB x = true) (h' : rdC x = 0) : nlB (rdS x) = true := by
  have hc : (redF x).2 = 0 := by unfold rdC at h'; rw [if_pos h] at h'; exact h'
  have e : rdS x = cmS (sortS (nrmS (redF x).1)) := (rd_yes (y := (redF x).1) h (by rw [← hc])).1
  rw [e]
  exact cmS_valid (sortS_valid (nrmS_valid (redk_valid _ _ h hc)))
theorem rdS_bounds (x : Nl) : (∀ d ∈ (rdS x).ds, d.pins.length ≤ 1048576) ∧ nsum (rdS x) ≤ 4000000 := by
  have hz : (∀ d ∈ (⟨0, [], []⟩ : Nl).ds, d.pins.length ≤ 1048576) ∧ nsum ⟨0, [], []⟩ ≤ 4000000 := ⟨fun d hd => by simp at hd, by simp [nsum, dsum]⟩
  cases hv : nlB x with
  | false => rw [(rd_no hv).1]; exact hz
  | true =>
    by_cases hc : (redF x).2 = 0
    · exact valid_bounds (rdS_valid hv (by unfold rdC; rw [if_pos hv]; exact hc))
    · rw [(rd_err hv hc).1]; exact hz
theorem implRd_any (x : Nl) (v : Value) (w : World) (h : NlV w v x) (hok : ∀ p ∈ x.ps, p.ok) (hnn : Fits x.nets) :
    Calls Try.prog 13 #[v] w fun e w' => ∃ v', e = .returned (.tuple #[v', .int .i64 (rdC x)]) ∧ OwnNl w' w.heap.size w'.heap.size v' (rdS x) ∧ Below w.heap.size w w' := by
  cases hv : nlB x with
  | false => exact implRd_no x v w h hok hnn hv
  | true => exact implRd_yes x v w h hok hnn hv
end Go.Proofs.Ytdljbmfmmlcmmaa
