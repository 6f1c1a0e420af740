/- A row of devices that is put in order in place: what lies in memory. -/
import Derived.Test.YtpiiccfjkgimfaaSrtM
namespace Go.Proofs.Ytpiiccfjkgimfaa
open Go.RowKit
open Go.Sort (swp PermIn SortedIn SWO size_swp swp_get swp_other swp_left swp_right)
set_option linter.unusedVariables false
set_option linter.unusedSimpArgs false

/-- The cells cs hold these devices one behind another, the pins of each in the block beside it. -/
def RowC (w : World) (g : Nat) (d : Array (Dv × Nat)) (cs : Array Value) : Prop := ∀ i, i < d.size → (∃ pv, Cs4 cs i (.int .i64 d[i]!.1.kind) pv (.int .i64 d[i]!.1.wd) (.int .i64 d[i]!.1.len) ∧ OwnR w d[i]!.2 (d[i]!.2 + 1) pv d[i]!.1.pins) ∧ d[i]!.2 ≠ g
def DRow (w : World) (g : Nat) (d : Array (Dv × Nat)) : Prop := ∃ cs, Blk w g cs 55 ∧ RowC w g d cs
section
variable {w w' : World} {g : Nat} {d d' : Array (Dv × Nat)} {cs : Array Value}
theorem RowC.past (hb : Within g (g + 1) w w') (h : RowC w g d cs) : RowC w' g d cs := fun i hi => by
  obtain ⟨⟨pv, a, b⟩, c⟩ := h i hi
  exact ⟨⟨pv, a, b.past hb (by omega)⟩, c⟩
theorem Within.ofBelow {lo hi : Nat} (h : Below w.heap.size w w') : Within lo hi w w' := ⟨h.os, h.tape, h.output, h.size, fun k hk _ => h.block k hk⟩
theorem DRow.by (hb : Below w.heap.size w w') (h : DRow w g d) : DRow w' g d := by
  obtain ⟨cs, a, b⟩ := h
  exact ⟨cs, Blk.by hb a, b.past (Within.ofBelow hb)⟩
theorem DRow.lt (h : DRow w g d) : g < w.heap.size := by obtain ⟨cs, a, b⟩ := h; exact a.lt
/-- Two elements exchanged. -/
theorem RowC.swp (h : RowC w g d cs) {i j : Nat} (hi : i < d.size) (hj : j < d.size) (hij : i ≠ j) {pi pj : Value}
    (hci : Cs4 cs i (.int .i64 d[i]!.1.kind) pi (.int .i64 d[i]!.1.wd) (.int .i64 d[i]!.1.len)) (hoi : OwnR w d[i]!.2 (d[i]!.2 + 1) pi d[i]!.1.pins)
    (hcj : Cs4 cs j (.int .i64 d[j]!.1.kind) pj (.int .i64 d[j]!.1.wd) (.int .i64 d[j]!.1.len)) (hoj : OwnR w d[j]!.2 (d[j]!.2 + 1) pj d[j]!.1.pins) :
    RowC w g (swp d i j) (set4 (set4 cs i (.int .i64 d[j]!.1.kind) pj (.int .i64 d[j]!.1.wd) (.int .i64 d[j]!.1.len)) j (.int .i64 d[i]!.1.kind) pi (.int .i64 d[i]!.1.wd) (.int .i64 d[i]!.1.len)) := by
  intro k hk
  rw [size_swp] at hk
  have si := (Array.getElem?_eq_some_iff.1 hci.2.2.2).1
  have sj := (Array.getElem?_eq_some_iff.1 hcj.2.2.2).1
  have sz : ∀ (cs : Array Value) (k : Nat) (a b c d : Value), (set4 cs k a b c d).size = cs.size := fun cs k a b c d => by simp [set4]
  by_cases e1 : k = j
  · subst e1
    rw [swp_right d i k hj]
    exact ⟨⟨pi, set4_same _ _ _ _ _ _ (by rw [sz]; exact sj), hoi⟩, (h i hi).2⟩
  · by_cases e2 : k = i
    · subst e2
      rw [swp_left d k j hi hij]
      refine ⟨⟨pj, (set4_same cs k (.int .i64 d[j]!.1.kind) pj (.int .i64 d[j]!.1.wd) (.int .i64 d[j]!.1.len) si).at_ (fun q h1 h2 => set4_other _ _ _ _ _ _ _ (by omega)), hoj⟩, (h j hj).2⟩
    · rw [swp_other d i j k e2 e1]
      obtain ⟨⟨pv, a, b⟩, c⟩ := h k hk
      exact ⟨⟨pv, a.at_ (fun q h1 h2 => by rw [set4_other _ _ _ _ _ _ _ (by omega), set4_other _ _ _ _ _ _ _ (by omega)]), b⟩, c⟩
theorem getBang (d : Array (Dv × Nat)) (i : Nat) (h : i < d.size) : d[i]! = d[i] := by simp [h]
theorem list_getBang (d : Array (Dv × Nat)) (i : Nat) (p : Dv × Nat) (h : d.toList[i]? = some p) : i < d.size ∧ d[i]! = p := by
  have hi : i < d.size := by have := (List.getElem?_eq_some_iff.1 h).1; simpa using this
  refine ⟨hi, ?_⟩
  rw [getBang d i hi]
  rw [List.getElem?_eq_getElem (by simpa using hi)] at h
  simpa using h
theorem OwnDs.row {lo hi : Nat} {sv : Value} {ds : List Dv} (h : OwnDs w lo hi sv ds) (hne : ds ≠ []) :
    ∃ (g cap : Nat) (d : Array (Dv × Nat)), sv = .slice (some ⟨g, 0, none⟩) d.size cap ∧ d.size = ds.length ∧ (lo ≤ g ∧ g < hi) ∧ ds.length ≤ cap ∧ cap ≤ maxLen ∧ DRow w g d ∧ d.toList.map (·.1) = ds ∧ (d.toList.map (·.2)).Nodup ∧ (∀ p ∈ d.toList, lo ≤ p.2 ∧ p.2 < hi ∧ p.2 ≠ g) := by
  rcases h with ⟨_, _, _, h⟩ | ⟨g, cap, cs, f, h1, h2, h3, h4, h5, h6, h7⟩
  · exact absurd h hne
  · have hsz : ((List.range ds.length).map fun i => (ds.getD i default, f i)).toArray.size = ds.length := by simp
    have hget : ∀ i (hi : i < ds.length), ((List.range ds.length).map fun i => (ds.getD i default, f i)).toArray[i]! = (ds[i], f i) := by
      intro i hi
      rw [getBang _ _ (by rw [hsz]; exact hi)]
      simp [hi]
    refine ⟨g, cap, ((List.range ds.length).map fun i => (ds.getD i default, f i)).toArray, by rw [hsz]; exact h1, hsz, h2, h3, h4, ⟨cs, h5, fun i hi => ?_⟩, ?_, ?_, ?_⟩
    · rw [hsz] at hi
      rw [hget i hi]
      obtain ⟨⟨pv, a, b⟩, c⟩ := h6 i ds[i] (List.getElem?_eq_getElem hi)
      exact ⟨⟨pv, a, b⟩, c.2.2⟩
    · apply List.ext_getElem?
      intro i
      by_cases hi : i < ds.length
      · simp [hi]
      · simp [hi]
    · rw [List.nodup_iff_pairwise_ne, List.pairwise_iff_getElem]
      intro i j hi hj hij
      simp at hi hj ⊢
      exact h7 i j hi hj (by omega)
    · intro p hp
      simp at hp
      obtain ⟨i, hi, rfl⟩ := hp
      exact (h6 i ds[i] (List.getElem?_eq_getElem hi)).2
theorem DRow.own {lo hi cap : Nat} (h : DRow w g d) (hg : lo ≤ g ∧ g < hi) (h1 : d.size ≤ cap) (h2 : cap ≤ maxLen) (hn : (d.toList.map (·.2)).Nodup) (hb : ∀ p ∈ d.toList, lo ≤ p.2 ∧ p.2 < hi ∧ p.2 ≠ g) :
    OwnDs w lo hi (.slice (some ⟨g, 0, none⟩) d.size cap) (d.toList.map (·.1)) := by
  obtain ⟨cs, hB, hR⟩ := h
  refine .inr ⟨g, cap, cs, fun i => d[i]!.2, by simp, hg, by simpa using h1, h2, hB, fun i x hx => ?_, fun i j hi hj hij => ?_⟩
  · rw [List.getElem?_map] at hx
    obtain ⟨p, hp, rfl⟩ : ∃ p, d.toList[i]? = some p ∧ p.1 = x := by
      cases h : d.toList[i]? with
      | none => rw [h] at hx; simp at hx
      | some p => rw [h] at hx; exact ⟨p, rfl, by simpa using hx⟩
    obtain ⟨hi, e⟩ := list_getBang d i p hp
    obtain ⟨⟨pv, a, b⟩, c⟩ := hR i hi
    rw [e] at a b
    dsimp only
    rw [e]
    exact ⟨⟨pv, a, b⟩, hb p (List.mem_of_getElem? hp)⟩
  · simp at hi hj
    rw [List.nodup_iff_pairwise_ne, List.pairwise_iff_getElem] at hn
    dsimp only
    rw [getBang d i hi, getBang d j hj]
    rcases Nat.lt_or_gt_of_ne hij with h | h
    · have := hn i j (by simpa using hi) (by simpa using hj) h
      simpa using this
    · have := hn j i (by simpa using hj) (by simpa using hi) h
      simpa using this.symm
theorem PermIn.list (h : PermIn 0 d.size d d') : d'.toList.Perm d.toList := by
  have h3 := h.2.2
  have e1 : (d'.extract 0 d.size) = d' := by rw [← h.1]; simp
  have e2 : (d.extract 0 d.size) = d := by simp
  rwa [e1, e2] at h3
theorem SortedIn.list (h : SortedIn dltP 0 d.size d) : (d.toList.map (·.1)).Pairwise (fun x y => dlt y x = false) := by
  rw [List.pairwise_map, List.pairwise_iff_getElem]
  intro i j hi hj hij
  have := h i j (Nat.zero_le _) hij (by simpa using hj)
  rw [getBang d i (by simpa using hi), getBang d j (by simpa using hj)] at this
  simpa [dltP] using this
/-- Sorted: the devices in order, in the same memory. -/
theorem DRow.sorted {lo hi cap : Nat} {ds : List Dv} (h : DRow w g d') (hp : PermIn 0 d.size d d') (hs : SortedIn dltP 0 d.size d') (he : d.toList.map (·.1) = ds) (hg : lo ≤ g ∧ g < hi) (h1 : ds.length ≤ cap) (h2 : cap ≤ maxLen) (hn : (d.toList.map (·.2)).Nodup) (hb : ∀ p ∈ d.toList, lo ≤ p.2 ∧ p.2 < hi ∧ p.2 ≠ g) :
    OwnDs w lo hi (.slice (some ⟨g, 0, none⟩) d.size cap) (srtD ds) := by
  have hP := PermIn.list hp
  have hsz := hp.1
  rw [← hsz] at hs ⊢
  have e : d'.toList.map (·.1) = srtD ds := srtD_of (by rw [← he]; exact hP.map _) (SortedIn.list hs)
  rw [← e]
  have hl : d.size = ds.length := by rw [← he]; simp
  exact h.own hg (by omega) h2 ((hP.map (·.2)).nodup_iff.2 hn) (fun p hp => hb p (hP.mem_iff.1 hp))
end
/-- The world behind an exchange: eight stores and a draw. -/
theorem swap_cells {w : World} {g : Nat} {cs : Array Value} {T : TypeId} (h : Blk w g cs T) (i j : Nat) (a b c d a' b' c' d' : Value) :
    ∃ W, W = ((((((((w.setCell ⟨g, i * 4, none⟩ a).setCell ⟨g, i * 4 + 1, none⟩ b).setCell ⟨g, i * 4 + 2, none⟩ c).setCell ⟨g, i * 4 + 3, none⟩ d).setCell ⟨g, j * 4, none⟩ a').setCell ⟨g, j * 4 + 1, none⟩ b').setCell ⟨g, j * 4 + 2, none⟩ c').setCell ⟨g, j * 4 + 3, none⟩ d').drew ∧
      Blk W g (set4 (set4 cs i a b c d) j a' b' c' d') T ∧ Within g (g + 1) w W :=
  ⟨_, rfl, ((((((((h.set _ _).set _ _).set _ _).set _ _).set _ _).set _ _).set _ _).set _ _).drew,
    (((((((((Within.off _).on (Within.off _)).on (Within.off _)).on (Within.off _)).on (Within.off _)).on (Within.off _)).on (Within.off _)).on (Within.off _)).on (Within.ofBelow ((Below.refl _ _).drew)))⟩
/-- What is asked of the function that compares: the order of devices. -/
def DCmp (gf : Nat) (lb : Array Value) : Prop := ∀ (W : World) (x y : Dv) (sx sy : Value), IntSl W sx x.pins → IntSl W sy y.pins → Calls Try.prog gf (#[.agg #[.int .i64 x.kind, sx, .int .i64 x.wd, .int .i64 x.len], .agg #[.int .i64 y.kind, sy, .int .i64 y.wd, .int .i64 y.len]] ++ lb) W fun e w' => e = .returned (.int .i64 (dcf x y)) ∧ Below W.heap.size W w'
end Go.Proofs.Ytpiiccfjkgimfaa
