/- Contracts and plain laws, part 10, for the statement's proof. -/
import Derived.Test.YtifbffianbgeaaaGreatPkExpLaw9
import Derived.Sort.LotA
import Derived.Deep.DeepCutAuto
import Derived.Deep.RegionLaw
import Derived.Shelf.Abstract
import Derived.Deep.RegionHeldLaw
import Derived.BigRegion
import Derived.BigQuiet
import Derived.Deep.CutRange
namespace Go.Proofs.YtifbffianbgeaaaGreat
open Go.RowKit
open Go.Sort (swp PermIn SortedIn SWO size_swp swp_get)
set_option linter.unusedVariables false
set_option linter.unusedSimpArgs false
def tauI (i j k : Nat) : Nat := if k = i then j else if k = j then i else k
section
variable {α : Type} [Inhabited α]
def Fol (f : Nat → Nat) (d d' : Array α) : Prop := d'.size = d.size ∧ ∀ k, k < d.size → d'[k]! = d[f k]!
theorem Fol.swp {f g : Nat → Nat} {d d' : Array α} (h : Fol f d d') {i j : Nat} (hi : i < d.size) (hj : j < d.size) (hg : ∀ k, g k = f (tauI i j k)) : Fol g d (swp d' i j) := by
  refine ⟨by rw [size_swp]; exact h.1, fun k hk => ?_⟩
  rw [swp_get d' (by rw [h.1]; exact hi) (by rw [h.1]; exact hj), hg]
  unfold tauI
  by_cases h1 : k = j
  · subst h1
    by_cases h2 : k = i
    · subst h2; simp; exact h.2 _ hk
    · simp [h2]; exact h.2 _ hi
  · by_cases h2 : k = i
    · subst h2; simp [h1]; exact h.2 _ hj
    · simp [h1, h2]; exact h.2 _ hk
theorem PermIn.refl' (a b : Nat) (d : Array α) : PermIn a b d d := Go.Sort.permIn_refl d a b
theorem PermIn.on {a b : Nat} {d d' d'' : Array α} (h1 : PermIn a b d d') (h2 : PermIn a b d' d'') : PermIn a b d d'' := Go.Sort.permIn_trans d d' d'' a b h1 h2
theorem PermIn.wide {a b a' b' : Nat} {d d' : Array α} (h : PermIn a b d d') (h1 : a' ≤ a) (h2 : b ≤ b') (h3 : b' ≤ d.size) : PermIn a' b' d d' := Go.Sort.permIn_mono d d' a b a' b' h1 h2 h3 h
theorem PermIn.swp {a b i j : Nat} {d d' : Array α} (h : PermIn a b d d') (h1 : a ≤ i) (h2 : i < b) (h3 : a ≤ j) (h4 : j < b) (h5 : b ≤ d.size) : PermIn a b d (swp d' i j) :=
  PermIn.on h (Go.Sort.swp_permIn d' a b i j h1 h2 h3 h4 (by rw [h.1]; exact h5))
variable {lt : α → α → Bool}
theorem SortedIn.sub {a b a' b' : Nat} {d : Array α} (h : SortedIn lt a b d) (h1 : a ≤ a') (h2 : b' ≤ b) : SortedIn lt a' b' d := fun i j hi hij hj => h i j (by omega) hij (by omega)
theorem SortedIn.one (hS : SWO lt) {a b : Nat} (d : Array α) (h : b ≤ a + 1) : SortedIn lt a b d := fun i j hi hij hj => by omega
theorem SortedIn.le (hS : SWO lt) {a b i j : Nat} {d : Array α} (h : SortedIn lt a b d) (hi : a ≤ i) (hij : i ≤ j) (hj : j < b) : lt d[j]! d[i]! = false := by
  rcases Nat.lt_or_eq_of_le hij with h' | rfl
  · exact h i j hi h' hj
  · exact hS.irrefl _
theorem SortedIn.out {a b x y : Nat} {d d' : Array α} (h : SortedIn lt a b d) (hp : PermIn x y d d') (hd : b ≤ x ∨ y ≤ a) : SortedIn lt a b d' := fun i j hi hij hj => by
  rw [hp.2.1 i (by omega), hp.2.1 j (by omega)]; exact h i j hi hij hj
end
/-! ### devices -/
instance : Inhabited Dv := ⟨⟨0, [], 0, 0⟩⟩
def dcf (x y : Dv) : Int := devcmp x.kind y.kind x.pins y.pins x.wd y.wd x.len y.len
def dlt (x y : Dv) : Bool := decide (dcf x y < 0)
def dltP (x y : Dv × Nat) : Bool := dlt x.1 y.1
theorem or2_flip {a b c d : Int} (h1 : a = - b) (h2 : c = - d) : or2 a c = - or2 b d := by
  unfold or2; repeat' split
  all_goals omega
theorem sgn_flip (a b : Int) : sgn a b = - sgn b a := by unfold sgn; (repeat' split) <;> omega
theorem dcf_flip (x y : Dv) : dcf x y = - dcf y x := or2_flip (sgn_flip _ _) (or2_flip (lcmp_flip _ _) (or2_flip (sgn_flip _ _) (sgn_flip _ _)))
theorem or2_zero {a b : Int} : or2 a b = 0 ↔ a = 0 ∧ b = 0 := by unfold or2; split <;> omega
theorem sgn_zero {a b : Int} : sgn a b = 0 ↔ a = b := by unfold sgn; (repeat' split) <;> omega
theorem dcf_zero {x y : Dv} : dcf x y = 0 ↔ x = y := by
  unfold dcf devcmp
  rw [or2_zero, or2_zero, or2_zero, sgn_zero, sgn_zero, sgn_zero, lcmp_zero]
  constructor
  · rintro ⟨h1, h2, h3, h4⟩; cases x; cases y; simp at *; exact ⟨h1, h2, h3, h4⟩
  · rintro rfl; exact ⟨rfl, rfl, rfl, rfl⟩
theorem or2_ntrans {a b c d e f : Int} (h1 : 0 ≤ a → 0 ≤ c → 0 ≤ e) (h2 : 0 ≤ b → 0 ≤ d → 0 ≤ f) (z1 : e = 0 → 0 ≤ a → 0 ≤ c → a = 0 ∧ c = 0) (ha : 0 ≤ or2 a b) (hb : 0 ≤ or2 c d) : 0 ≤ or2 e f := by
  have pa : 0 ≤ a := by unfold or2 at ha; split at ha <;> omega
  have pc : 0 ≤ c := by unfold or2 at hb; split at hb <;> omega
  by_cases x : e = 0
  · obtain ⟨y1, y2⟩ := z1 x pa pc
    rw [y1, or2_z] at ha
    rw [y2, or2_z] at hb
    rw [x, or2_z]
    exact h2 ha hb
  · have := h1 pa pc
    rw [or2_ne x]; exact this
theorem sgn_ntrans {a b c : Int} (h1 : 0 ≤ sgn a b) (h2 : 0 ≤ sgn b c) : 0 ≤ sgn a c := by
  unfold sgn at *; repeat' split
  all_goals (repeat' split at h1)
  all_goals (repeat' split at h2)
  all_goals omega
theorem sgn_nz {a b c : Int} (h : sgn a c = 0) (h1 : 0 ≤ sgn a b) (h2 : 0 ≤ sgn b c) : sgn a b = 0 ∧ sgn b c = 0 := by
  unfold sgn at *
  repeat' split at h
  all_goals (repeat' split at h1)
  all_goals (repeat' split at h2)
  all_goals (first | omega | (constructor <;> (repeat' split) <;> omega))
theorem lcmp_nz {a b c : List Int} (h : lcmp a c = 0) (h1 : 0 ≤ lcmp a b) (h2 : 0 ≤ lcmp b c) : lcmp a b = 0 ∧ lcmp b c = 0 := by
  have e := (lcmp_zero a c).1 h
  subst e
  have := lcmp_flip a b
  omega
theorem dcf_ntrans {x y z : Dv} (h1 : 0 ≤ dcf x y) (h2 : 0 ≤ dcf y z) : 0 ≤ dcf x z :=
  or2_ntrans sgn_ntrans (or2_ntrans (lcmp_ntrans _ _ _) (or2_ntrans sgn_ntrans sgn_ntrans sgn_nz) lcmp_nz) sgn_nz h1 h2
theorem dlt_false {x y : Dv} : dlt x y = false ↔ 0 ≤ dcf x y := by simp [dlt]
theorem dlt_swo : SWO dlt where
  irrefl x := by rw [dlt_false, dcf_zero.2 rfl]; exact Int.le_refl _
  ntrans x y z h1 h2 := dlt_false.2 (dcf_ntrans (dlt_false.1 h1) (dlt_false.1 h2))
  trans x y z h1 h2 := by
    simp only [dlt, decide_eq_true_eq] at *
    have f1 := dcf_flip x y; have f2 := dcf_flip y z; have f3 := dcf_flip x z
    have a1 := @dcf_ntrans z y x (by omega) (by omega)
    by_cases e : dcf x z = 0
    · have := dcf_zero.1 e; subst this; omega
    · omega
theorem dltP_swo : SWO dltP where
  irrefl x := dlt_swo.irrefl _
  trans x y z := dlt_swo.trans _ _ _
  ntrans x y z := dlt_swo.ntrans _ _ _
def srtD (ds : List Dv) : List Dv := ds.mergeSort (fun x y => !dlt y x)
theorem srtD_perm (ds : List Dv) : (srtD ds).Perm ds := List.mergeSort_perm _ _
theorem length_srtD (ds : List Dv) : (srtD ds).length = ds.length := (srtD_perm ds).length_eq
theorem srtD_pairwise (ds : List Dv) : (srtD ds).Pairwise (fun x y => dlt y x = false) := by
  have h := List.pairwise_mergeSort (le := fun x y => !dlt y x) (fun a b c h1 h2 => by
    simp only [Bool.not_eq_true'] at *
    exact dlt_swo.ntrans _ _ _ h2 h1) (fun a b => by
    have := dcf_flip a b
    simp [dlt]; omega) ds
  exact h.imp (fun h => by simpa using h)
theorem srtD_of {ds es : List Dv} (h : es.Perm ds) (hs : es.Pairwise (fun x y => dlt y x = false)) : es = srtD ds :=
  List.Perm.eq_of_pairwise (fun a b _ _ h1 h2 => by
    rw [dlt_false] at h1 h2
    have := dcf_flip a b
    exact dcf_zero.1 (by omega)) hs (srtD_pairwise ds) (h.trans (srtD_perm ds).symm)
/- A row of devices that is put in order in place: what lies in memory. -/
open Go.Sort (swp PermIn SortedIn SWO size_swp swp_get swp_other swp_left swp_right)
def RowC (w : World) (g : Nat) (d : Array (Dv × Nat)) (cs : Array Value) : Prop := ∀ i, i < d.size → (∃ pv, Cs4 cs i (.int .i64 d[i]!.1.kind) pv (.int .i64 d[i]!.1.wd) (.int .i64 d[i]!.1.len) ∧ OwnR w d[i]!.2 (d[i]!.2 + 1) pv d[i]!.1.pins) ∧ d[i]!.2 ≠ g
def DRow (w : World) (g : Nat) (d : Array (Dv × Nat)) : Prop := ∃ cs, Blk w g cs 62 ∧ RowC w g d cs
section
variable {w w' : World} {g : Nat} {d d' : Array (Dv × Nat)} {cs : Array Value}
theorem RowC.past (hb : Within g (g + 1) w w') (h : RowC w g d cs) : RowC w' g d cs := fun i hi => by
  obtain ⟨⟨pv, a, b⟩, c⟩ := h i hi
  exact ⟨⟨pv, a, b.past hb (by omega)⟩, c⟩
theorem Within.ofBelow {lo hi : Nat} (h : Below w.heap.size w w') : Within lo hi w w' := ⟨h.os, h.tape, h.output, h.size, fun k hk _ => h.block k hk⟩
theorem DRow.by (hb : Below w.heap.size w w') (h : DRow w g d) : DRow w' g d := by
  obtain ⟨cs, a, b⟩ := h
  exact ⟨cs, Blk.by hb a, b.past (Within.ofBelow hb)⟩
theorem DRow.lt (h : DRow w g d) : g < w.heap.size := by obtain ⟨cs, a, b⟩ := h; exact a.lt
theorem RowC.swp (h : RowC w g d cs) {i j : Nat} (hi : i < d.size) (hj : j < d.size) (hij : i ≠ j) {pi pj : Value}
    (hci : Cs4 cs i (.int .i64 d[i]!.1.kind) pi (.int .i64 d[i]!.1.wd) (.int .i64 d[i]!.1.len)) (hoi : OwnR w d[i]!.2 (d[i]!.2 + 1) pi d[i]!.1.pins)
    (hcj : Cs4 cs j (.int .i64 d[j]!.1.kind) pj (.int .i64 d[j]!.1.wd) (.int .i64 d[j]!.1.len)) (hoj : OwnR w d[j]!.2 (d[j]!.2 + 1) pj d[j]!.1.pins) :
    RowC w g (swp d i j) (set4 (set4 cs i (.int .i64 d[j]!.1.kind) pj (.int .i64 d[j]!.1.wd) (.int .i64 d[j]!.1.len)) j (.int .i64 d[i]!.1.kind) pi (.int .i64 d[i]!.1.wd) (.int .i64 d[i]!.1.len)) := by
  intro k hk
  rw [size_swp] at hk
  have si := (Array.getElem?_eq_some_iff.1 hci.2.2.2).1
  have sj := (Array.getElem?_eq_some_iff.1 hcj.2.2.2).1
  have sz : ∀ (cs : Array Value) (k : Nat) (a b c d : Value), (set4 cs k a b c d).size = cs.size := fun cs k a b c d => by simp [set4]
  by_cases e1 : k = j
  · subst e1
    rw [swp_right d i k hj]
    exact ⟨⟨pi, set4_same _ _ _ _ _ _ (by rw [sz]; exact sj), hoi⟩, (h i hi).2⟩
  · by_cases e2 : k = i
    · subst e2
      rw [swp_left d k j hi hij]
      refine ⟨⟨pj, (set4_same cs k (.int .i64 d[j]!.1.kind) pj (.int .i64 d[j]!.1.wd) (.int .i64 d[j]!.1.len) si).at_ (fun q h1 h2 => set4_other _ _ _ _ _ _ _ (by omega)), hoj⟩, (h j hj).2⟩
    · rw [swp_other d i j k e2 e1]
      obtain ⟨⟨pv, a, b⟩, c⟩ := h k hk
      exact ⟨⟨pv, a.at_ (fun q h1 h2 => by rw [set4_other _ _ _ _ _ _ _ (by omega), set4_other _ _ _ _ _ _ _ (by omega)]), b⟩, c⟩
theorem getBang (d : Array (Dv × Nat)) (i : Nat) (h : i < d.size) : d[i]! = d[i] := by simp [h]
theorem list_getBang (d : Array (Dv × Nat)) (i : Nat) (p : Dv × Nat) (h : d.toList[i]? = some p) : i < d.size ∧ d[i]! = p := by
  have hi : i < d.size := by have := (List.getElem?_eq_some_iff.1 h).1; simpa using this
  refine ⟨hi, ?_⟩
  rw [getBang d i hi]
  rw [List.getElem?_eq_getElem (by simpa using hi)] at h
  simpa using h
theorem OwnDs.row {lo hi : Nat} {sv : Value} {ds : List Dv} (h : OwnDs w lo hi sv ds) (hne : ds ≠ []) :
    ∃ (g cap : Nat) (d : Array (Dv × Nat)), sv = .slice (some ⟨g, 0, none⟩) d.size cap ∧ d.size = ds.length ∧ (lo ≤ g ∧ g < hi) ∧ ds.length ≤ cap ∧ cap ≤ maxLen ∧ DRow w g d ∧ d.toList.map (·.1) = ds ∧ (d.toList.map (·.2)).Nodup ∧ (∀ p ∈ d.toList, lo ≤ p.2 ∧ p.2 < hi ∧ p.2 ≠ g) := by
  rcases h with ⟨_, _, _, h⟩ | ⟨g, cap, cs, f, h1, h2, h3, h4, h5, h6, h7⟩
  · exact absurd h hne
  · have hsz : ((List.range ds.length).map fun i => (ds.getD i default, f i)).toArray.size = ds.length := by simp
    have hget : ∀ i (hi : i < ds.length), ((List.range ds.length).map fun i => (ds.getD i default, f i)).toArray[i]! = (ds[i], f i) := by
      intro i hi
      rw [getBang _ _ (by rw [hsz]; exact hi)]
      simp [hi]
    refine ⟨g, cap, ((List.range ds.length).map fun i => (ds.getD i default, f i)).toArray, by rw [hsz]; exact h1, hsz, h2, h3, h4, ⟨cs, h5, fun i hi => ?_⟩, ?_, ?_, ?_⟩
    · rw [hsz] at hi
      rw [hget i hi]
      obtain ⟨⟨pv, a, b⟩, c⟩ := h6 i ds[i] (List.getElem?_eq_getElem hi)
      exact ⟨⟨pv, a, b⟩, c.2.2⟩
    · apply List.ext_getElem?
      intro i
      by_cases hi : i < ds.length
      · simp [hi]
      · simp [hi]
    · rw [List.nodup_iff_pairwise_ne, List.pairwise_iff_getElem]
      intro i j hi hj hij
      simp at hi hj ⊢
      exact h7 i j hi hj (by omega)
    · intro p hp
      simp at hp
      obtain ⟨i, hi, rfl⟩ := hp
      exact (h6 i ds[i] (List.getElem?_eq_getElem hi)).2
theorem DRow.own {lo hi cap : Nat} (h : DRow w g d) (hg : lo ≤ g ∧ g < hi) (h1 : d.size ≤ cap) (h2 : cap ≤ maxLen) (hn : (d.toList.map (·.2)).Nodup) (hb : ∀ p ∈ d.toList, lo ≤ p.2 ∧ p.2 < hi ∧ p.2 ≠ g) :
    OwnDs w lo hi (.slice (some ⟨g, 0, none⟩) d.size cap) (d.toList.map (·.1)) := by
  obtain ⟨cs, hB, hR⟩ := h
  refine .inr ⟨g, cap, cs, fun i => d[i]!.2, by simp, hg, by simpa using h1, h2, hB, fun i x hx => ?_, fun i j hi hj hij => ?_⟩
  · rw [List.getElem?_map] at hx
    obtain ⟨p, hp, rfl⟩ : ∃ p, d.toList[i]? = some p ∧ p.1 = x := by
      cases h : d.toList[i]? with
      | none => rw [h] at hx; simp at hx
      | some p => rw [h] at hx; exact ⟨p, rfl, by simpa using hx⟩
    obtain ⟨hi, e⟩ := list_getBang d i p hp
    obtain ⟨⟨pv, a, b⟩, c⟩ := hR i hi
    rw [e] at a b
    dsimp only
    rw [e]
    exact ⟨⟨pv, a, b⟩, hb p (List.mem_of_getElem? hp)⟩
  · simp at hi hj
    rw [List.nodup_iff_pairwise_ne, List.pairwise_iff_getElem] at hn
    dsimp only
    rw [getBang d i hi, getBang d j hj]
    rcases Nat.lt_or_gt_of_ne hij with h | h
    · have := hn i j (by simpa using hi) (by simpa using hj) h
      simpa using this
    · have := hn j i (by simpa using hj) (by simpa using hi) h
      simpa using this.symm
theorem PermIn.list (h : PermIn 0 d.size d d') : d'.toList.Perm d.toList := by
  have h3 := h.2.2
  have e1 : (d'.extract 0 d.size) = d' := by rw [← h.1]; simp
  have e2 : (d.extract 0 d.size) = d := by simp
  rwa [e1, e2] at h3
theorem SortedIn.list (h : SortedIn dltP 0 d.size d) : (d.toList.map (·.1)).Pairwise (fun x y => dlt y x = false) := by
  rw [List.pairwise_map, List.pairwise_iff_getElem]
  intro i j hi hj hij
  have := h i j (Nat.zero_le _) hij (by simpa using hj)
  rw [getBang d i (by simpa using hi), getBang d j (by simpa using hj)] at this
  simpa [dltP] using this
end
theorem swap_cells {w : World} {g : Nat} {cs : Array Value} {T : TypeId} (h : Blk w g cs T) (i j : Nat) (a b c d a' b' c' d' : Value) :
    ∃ W, W = ((((((((w.setCell ⟨g, i * 4, none⟩ a).setCell ⟨g, i * 4 + 1, none⟩ b).setCell ⟨g, i * 4 + 2, none⟩ c).setCell ⟨g, i * 4 + 3, none⟩ d).setCell ⟨g, j * 4, none⟩ a').setCell ⟨g, j * 4 + 1, none⟩ b').setCell ⟨g, j * 4 + 2, none⟩ c').setCell ⟨g, j * 4 + 3, none⟩ d').drew ∧
      Blk W g (set4 (set4 cs i a b c d) j a' b' c' d') T ∧ Within g (g + 1) w W :=
  ⟨_, rfl, ((((((((h.set _ _).set _ _).set _ _).set _ _).set _ _).set _ _).set _ _).set _ _).drew,
    (((((((((Within.off _).on (Within.off _)).on (Within.off _)).on (Within.off _)).on (Within.off _)).on (Within.off _)).on (Within.off _)).on (Within.off _)).on (Within.ofBelow ((Below.refl _ _).drew)))⟩
def DCmp (gf : Nat) (lb : Array Value) : Prop := ∀ (W : World) (x y : Dv) (sx sy : Value), IntSl W sx x.pins → IntSl W sy y.pins → Calls Tryz.prog gf (#[.agg #[.int .i64 x.kind, sx, .int .i64 x.wd, .int .i64 x.len], .agg #[.int .i64 y.kind, sy, .int .i64 y.wd, .int .i64 y.len]] ++ lb) W fun e w' => e = .returned (.int .i64 (dcf x y)) ∧ Below W.heap.size W w'
/- slices.SortStableFunc's own functions at devices: exchanging two ranges. -/
/- slices.SortStableFunc's own functions at devices: the insertion sort. -/
open Go.Sort (swp PermIn SortedIn SWO size_swp swp_get swp_other swp_left swp_right Ins)
set_option maxRecDepth 100000 in
set_option maxHeartbeats 4000000 in
theorem insSort_any (gf : Nat) (lb : Array Value) (eg : ∀ args w, (callFunc gf args).run Tryz.prog w = .ok (.enter gf args) w) (hc : DCmp gf lb) (g cap a b : Nat) (d : Array (Dv × Nat)) (w : World) (h : DRow w g d) (hab : a ≤ b) (hbd : b ≤ d.size) (hsz : d.size ≤ 1000) (hcap : d.size ≤ cap) :
    Calls Tryz.prog 200 #[.slice (some ⟨g, 0, none⟩) d.size cap, .int .i64 a, .int .i64 b, .func (.func gf) #[] lb] w fun e w' =>
      e = .returned (.tuple #[]) ∧ ∃ d', DRow w' g d' ∧ SortedIn dltP a b d' ∧ PermIn a b d d' ∧ Within g (g + 1) w w' := by
  have HR0 := Lib.hid h
  have HC := Lib.hid hc
  have HP0 := Lib.hid (PermIn.refl' a b d)
  have HS0 := Lib.hid (SortedIn.one dltP_swo (a := a) (b := a + 1) d (Nat.le_refl _))
  clear h hc
  go_enter Tryz.func200, Tryz.ntmps200
  go_wp2
  go_loopw [8] (fun vi wr => ∃ (i : Nat) (dk : Array (Dv × Nat)), a < i ∧ i ≤ b + 1 ∧ vi = .int .i64 i ∧ Hid (dk.size = d.size) ∧ Hid (DRow wr g dk) ∧ Hid (SortedIn dltP a i dk) ∧ Hid (PermIn a b d dk) ∧ Within g (g + 1) w wr) (fun vi _ => b + 1 - (intOf vi).toNat)
  case atStart => exact ⟨a + 1, d, by omega, by omega, by go_num, Lib.hid rfl, HR0, HS0, HP0, Within.refl _ _ _⟩
  case round =>
    clear HR0 HS0 HP0
    obtain ⟨i, dk, hai, hib, rfl, HS, HR, HT, HP, hW⟩ := hrel
    by_cases hlt : i < b
    · have HI0 := Lib.hid (show Ins dltP a i i dk from ⟨fun p q hp hpq hq _ hqi => HT.out p q hp hpq (by omega), fun q h1 h2 => by omega⟩)
      have i1 : (i : Int) < (b : Int) := by omega
      obtain ⟨wo, rfl⟩ : ∃ wo, wo = wr := ⟨_, rfl⟩
      go_wp2
      go_loopw [9] (fun vj wr => ∃ (j : Nat) (dj : Array (Dv × Nat)), a ≤ j ∧ j ≤ i ∧ vj = .int .i64 j ∧ Hid (dj.size = d.size) ∧ Hid (DRow wr g dj) ∧ Hid (Ins dltP a j i dj) ∧ Hid (PermIn a b d dj) ∧ Within g (g + 1) w wr) (fun vj _ => (intOf vj).toNat)
      case atStart => exact ⟨i, dk, by omega, Nat.le_refl _, rfl, HS, HR, HI0, HP, hW⟩
      case round =>
        clear HS HR HI0 HP hW HT
        obtain ⟨j, dj, haj, hji, rfl, HS, HR, HI, HP, hW⟩ := hrel
        by_cases hja : a < j
        · obtain ⟨jp, rfl⟩ : ∃ jp, j = jp + 1 := ⟨j - 1, by omega⟩
          obtain ⟨cs, hB, hRC⟩ := HR.out
          obtain ⟨⟨pi, hci, hoi⟩, _⟩ := hRC (jp + 1) (by rw [HS.out]; omega)
          obtain ⟨⟨pj, hcj, hoj⟩, _⟩ := hRC jp (by rw [HS.out]; omega)
          have HRS := Lib.hid (RowC.swp hRC (i := jp + 1) (j := jp) (by rw [HS.out]; omega) (by rw [HS.out]; omega) (by omega) hci hoi hcj hoj)
          have HPS := Lib.hid (PermIn.swp HP.out (i := jp + 1) (j := jp) (by omega) (by omega) (by omega) (by omega) hbd)
          have HSS := Lib.hid (show (swp dj (jp + 1) jp).size = d.size by rw [size_swp]; exact HS.out)
          have HIS := Lib.hid (fun hl => Ins.step HI.out hl (by omega) (by rw [HS.out]; omega))
          have HIT := Lib.hid (fun hs => Ins.stop dltP_swo HI.out (.inr hs))
          have HCL := Lib.hid (fun W h1 h2 => HC.out W dj[jp + 1]!.1 dj[jp]!.1 pi pj h1 h2)
          simp only [Nat.add_sub_cancel] at HIT
          obtain ⟨a1, c1, rfl⟩ := hoi.sl.len
          obtain ⟨a2, c2, rfl⟩ := hoj.sl.len
          have HX := Lib.hid hoi.sl
          have HY := Lib.hid hoj.sl
          generalize swp dj (jp + 1) jp = ds at HRS HPS HSS HIS
          have HLT := Lib.hid (show dltP dj[jp + 1]! dj[jp]! = decide (dcf dj[jp + 1]!.1 dj[jp]!.1 < 0) from rfl)
          generalize dj[jp + 1]! = xi at *
          generalize dj[jp]! = xj at *
          obtain ⟨⟨ki, psi, wi, li⟩, fi⟩ := xi
          obtain ⟨⟨kj, psj, wj, lj⟩, fj⟩ := xj
          dsimp only at *
          generalize dltP (⟨ki, psi, wi, li⟩, fi) (⟨kj, psj, wj, lj⟩, fj) = lt at *
          generalize dcf ⟨ki, psi, wi, li⟩ ⟨kj, psj, wj, lj⟩ = r at *
          obtain ⟨ni, hni⟩ : ∃ ni, psi.length = ni := ⟨_, rfl⟩
          obtain ⟨nj, hnj⟩ : ∃ nj, psj.length = nj := ⟨_, rfl⟩
          rw [hni] at hci HRS HCL HX
          rw [hnj] at hcj HRS HCL HY
          obtain ⟨p0, p1, p2, p3⟩ := hci
          obtain ⟨q0, q1, q2, q3⟩ := hcj
          have hBc := hB.cell
          have hBl := hB.lt
          have i0 : (0 : Int) ≤ (jp : Int) + 1 := by omega
          have i2 : (jp : Int) + 1 < (d.size : Int) := by omega
          have i3 : (jp : Int) < (d.size : Int) := by omega
          have i4 : (a : Int) < (jp : Int) + 1 := by omega
          have ei : ((jp : Int) + 1).toNat = jp + 1 := by omega
          have wjp : IntKind.i64.wrap (jp : Int) = (jp : Int) := by rw [IntKind.wrap_i64]; omega
          have HRC := Lib.hid hRC
          clear hni hnj hoi hoj hRC
          by_cases hr : r < 0
          · have HLT2 := Lib.hid (HLT.out.trans (decide_eq_true hr))
            go_wp2_with fail
            go_region_held3 (fun w' => (Blk w' g cs 62 ∧ ∀ o, w'.cell? ⟨g, o, none⟩ = cs[o]?) ∧ Below wr.heap.size wr w') (((try (obtain ⟨⟨hS0, _⟩, hSB⟩ := hHeld)); refine ⟨Blk.both ?_, ?_⟩ <;> first | ((repeat (first | (with_reducible assumption) | (with_reducible refine Blk.drewN ?_ _) | (with_reducible refine Blk.drew ?_) | ((with_reducible refine Blk.new _ ?_); focus (first | omega | (simp; done) | (simp; omega))) | (with_reducible refine Blk.past ?_ _) | ((with_reducible refine Blk.apart ?_ _ _ _ ?_); rotate_left; focus (first | omega | (simp; done) | (simp; omega))) | (with_reducible refine Blk.by (by assumption) ?_))); done) | ((repeat (first | (with_reducible exact Below.refl _ _) | (with_reducible refine below_drewN ?_ _) | (with_reducible refine Below.drew ?_) | (with_reducible refine below_al ?_ _) | (with_reducible refine below_on (by assumption) ?_) | ((with_reducible refine Below.setCell ?_ ?_ _); rotate_left; focus (first | omega | (simp; done) | (simp; omega))) | (with_reducible assumption))); done)))
              (first | (go_at_fn gf; refine (HCL.out _ (HX.out.by blwT) (HY.out.by blwT)).mono ?_; rintro e w1 ⟨rfl, hb1⟩))
            all_goals
              have hb2 : Below wr.heap.size wr w1 := blwT
              have kB := Blk.by hb2 hB
              have hBc1 := kB.cell
              have hBf1 := kB.free
              have hBl1 := kB.lt
              clear hBc hBl
              go_wp2_with fail
              go_region
              all_goals go_wp2_with fail
              obtain ⟨W8, hW8, hB8, hWW⟩ := swap_cells kB (jp + 1) jp (.int .i64 kj) (.slice a2 nj c2) (.int .i64 wj) (.int .i64 lj) (.int .i64 ki) (.slice a1 ni c1) (.int .i64 wi) (.int .i64 li)
              rw [← hW8]
              have hW9 := (Within.ofBelow (lo := g) (hi := g + 1) hb2).on hWW
              exact ⟨⟨jp, ds, by omega, by omega, by rfl, HSS, Lib.hid ⟨_, hB8, HRS.out.past hW9⟩, Lib.hid (HIS.out HLT2.out), HPS, hW.on hW9⟩, by simp [intOf]⟩
          · have HLT2 := Lib.hid (HLT.out.trans (decide_eq_false hr))
            have HR1 := HR
            go_wp2_with fail
            go_region_held3 (fun w' => (Blk w' g cs 62 ∧ ∀ o, w'.cell? ⟨g, o, none⟩ = cs[o]?) ∧ Below wr.heap.size wr w') (((try (obtain ⟨⟨hS0, _⟩, hSB⟩ := hHeld)); refine ⟨Blk.both ?_, ?_⟩ <;> first | ((repeat (first | (with_reducible assumption) | (with_reducible refine Blk.drewN ?_ _) | (with_reducible refine Blk.drew ?_) | ((with_reducible refine Blk.new _ ?_); focus (first | omega | (simp; done) | (simp; omega))) | (with_reducible refine Blk.past ?_ _) | ((with_reducible refine Blk.apart ?_ _ _ _ ?_); rotate_left; focus (first | omega | (simp; done) | (simp; omega))) | (with_reducible refine Blk.by (by assumption) ?_))); done) | ((repeat (first | (with_reducible exact Below.refl _ _) | (with_reducible refine below_drewN ?_ _) | (with_reducible refine Below.drew ?_) | (with_reducible refine below_al ?_ _) | (with_reducible refine below_on (by assumption) ?_) | ((with_reducible refine Below.setCell ?_ ?_ _); rotate_left; focus (first | omega | (simp; done) | (simp; omega))) | (with_reducible assumption))); done)))
              (first | (go_at_fn gf; refine (HCL.out _ (HX.out.by blwT) (HY.out.by blwT)).mono ?_; rintro e w1 ⟨rfl, hb1⟩))
            all_goals
              have hb2 : Below wr.heap.size wr w1 := blwT
              go_wp2_with fail
              exact ⟨⟨i + 1, dj, by omega, by omega, by go_num, HS, Lib.hid (HR.out.by hb2), Lib.hid (HIT.out HLT2.out), HP, hW.on (Within.ofBelow hb2)⟩, by simp [intOf]; omega⟩
        · obtain rfl : j = a := by omega
          have i4 : decide ((j : Int) > (j : Int)) = false := by simp
          have HIT := Lib.hid (Ins.stop dltP_swo HI.out (.inl (Nat.le_refl _)))
          go_wp2_with fail
          go_region
          all_goals
            go_wp2_with fail
            exact ⟨⟨i + 1, dj, by omega, by omega, by go_num, HS, Lib.hid (HR.out.by (below_of_drewN _ 1)), HIT, HP, hW.on (Within.ofBelow (below_of_drewN _ 1))⟩, by simp [intOf]; omega⟩
    · have i1 : ¬ (i : Int) < (b : Int) := by omega
      go_wp2
      go_end0
      exact ⟨by rfl, dk, HR.out, SortedIn.sub HT.out (Nat.le_refl _) (by omega), HP.out, hW⟩
/- slices.SortStableFunc's own functions at devices: the merge of two sorted parts, one of which has one element. -/
/- slices.SortStableFunc's own functions at devices: the merge of two sorted parts. -/
/- slices.SortStableFunc at fewer than 40 devices. -/
/- slices.SortStableFunc at fewer than 40 devices: as a whole. -/
def allB (f : Nat → Bool) (n : Nat) : Bool := (List.range n).all f
theorem allB_yes {f : Nat → Bool} {n : Nat} (h : ∀ i, i < n → f i = true) : allB f n = true := by
  simp only [allB, List.all_eq_true, List.mem_range]; exact h
theorem allB_no {f : Nat → Bool} {n i : Nat} (hi : i < n) (h : f i = false) : allB f n = false := by
  simp only [allB, List.all_eq_false, List.mem_range]; exact ⟨i, hi, by simp [h]⟩
def isoD (names : List Int) (d e : Dv) : Bool := decide (devcmp d.kind e.kind (normz d.kind (d.pins.map (nmOf names))) (normz e.kind e.pins) d.wd e.wd d.len e.len = 0)
instance Dv.dec : DecidableEq Dv := fun a b => decidable_of_iff (a.kind = b.kind ∧ a.pins = b.pins ∧ a.wd = b.wd ∧ a.len = b.len) ⟨fun h => by cases a; cases b; simp_all, fun h => by subst h; simp⟩
def nzD (d : Dv) : Dv := ⟨d.kind, normz d.kind d.pins, d.wd, d.len⟩
def Two (d : Dv) : Prop := (d.kind = 2 ∧ ∃ a b, d.pins = [a, b]) ∨ ((d.kind = 0 ∨ d.kind = 1) ∧ ∃ g a b, d.pins = [g, a, b])
theorem dvB_Two {nets : Int} {d : Dv} (h : dvB nets d = true) : Two d := by
  have h1 := inB_iff.1 (dvB_all h).1
  rcases pinsOf_two h with ⟨k, h⟩ | ⟨k, h⟩
  · exact .inl ⟨k, h⟩
  · exact .inr ⟨by omega, h⟩
theorem Two.ren {d : Dv} (h : Two d) (f : List Int) : Two (renD f d) := by
  rcases h with ⟨k, a, b, e⟩ | ⟨k, g, a, b, e⟩
  · exact .inl ⟨k, _, _, by simp [renD, e]; exact ⟨rfl, rfl⟩⟩
  · exact .inr ⟨k, _, _, _, by simp [renD, e]; exact ⟨rfl, rfl, rfl⟩⟩
theorem nz_two {kind a b : Int} (h : kind = 2) : normz kind [a, b] = [min a b, max a b] := by
  subst h; simp [normz, pinc, lastTwo]
theorem nz_three {kind g a b : Int} (h : kind = 0 ∨ kind = 1) : normz kind [g, a, b] = [g, min a b, max a b] := by
  rcases h with rfl | rfl <;> simp [normz, pinc, lastTwo]
theorem mm_fix (f : Int → Int) (a b : Int) : min (f (min a b)) (f (max a b)) = min (f a) (f b) ∧ max (f (min a b)) (f (max a b)) = max (f a) (f b) := by
  by_cases h : a ≤ b
  · rw [show min a b = a by omega, show max a b = b by omega]; exact ⟨rfl, rfl⟩
  · rw [show min a b = b by omega, show max a b = a by omega]; omega
theorem nz_ren (f : List Int) {d : Dv} (h : Two d) : nzD (renD f (nzD d)) = nzD (renD f d) := by
  obtain ⟨kind, pins, wd, len⟩ := d
  rcases h with ⟨k, a, b, e⟩ | ⟨k, g, a, b, e⟩
  · dsimp only at k e; subst e
    simp only [nzD, renD, nz_two k, List.map_cons, List.map_nil, (mm_fix (nmOf f) a b).1, (mm_fix (nmOf f) a b).2]
  · dsimp only at k e; subst e
    simp only [nzD, renD, nz_three k, List.map_cons, List.map_nil, (mm_fix (nmOf f) a b).1, (mm_fix (nmOf f) a b).2]
theorem nz_all (P : Int → Bool) {d : Dv} (h : Two d) : (nzD d).pins.all P = d.pins.all P := by
  obtain ⟨kind, pins, wd, len⟩ := d
  have c : ∀ a b : Int, (P (min a b) && P (max a b)) = (P a && P b) := fun a b => by
    by_cases h : a ≤ b
    · rw [show min a b = a by omega, show max a b = b by omega]
    · rw [show min a b = b by omega, show max a b = a by omega, Bool.and_comm]
  rcases h with ⟨k, a, b, e⟩ | ⟨k, g, a, b, e⟩
  · dsimp only at k e; subst e
    simp only [nzD, nz_two k, List.all_cons, List.all_nil, Bool.and_true, c]
  · dsimp only at k e; subst e
    simp only [nzD, nz_three k, List.all_cons, List.all_nil, Bool.and_true, c]
theorem nz_eqv {p : List Int} {d e : Dv} (hd : Two d) (he : Two e) : nzD (renD p d) = nzD e ↔ DvEqv p d e := by
  obtain ⟨k1, p1, w1, l1⟩ := d
  obtain ⟨k2, p2, w2, l2⟩ := e
  have mm : ∀ a b c d : Int, (min a b = min c d ∧ max a b = max c d) ↔ ((c = a ∧ d = b) ∨ (c = b ∧ d = a)) := fun a b c d => by omega
  unfold DvEqv
  rcases hd with ⟨h1, a, b, e1⟩ | ⟨h1, g, a, b, e1⟩ <;> rcases he with ⟨h2, c, d, e2⟩ | ⟨h2, f, c, d, e2⟩ <;> dsimp only at h1 h2 e1 e2 <;> subst e1 <;> subst e2
  · simp only [nzD, renD, nz_two h1, nz_two h2, List.map_cons, List.map_nil, Dv.mk.injEq, List.cons.injEq, and_true, reduceCtorEq, false_and, exists_false, or_false, and_false]
    have := mm (nmOf p a) (nmOf p b) c d
    constructor
    · rintro ⟨q1, q2, q3, q4⟩
      refine ⟨q1.symm, q3.symm, q4.symm, ?_⟩
      rcases this.1 q2 with q | q
      · exact .inl q
      · exact .inr ⟨a, b, ⟨rfl, rfl⟩, q⟩
    · rintro ⟨q1, q2, q3, q4⟩
      refine ⟨q1.symm, this.2 ?_, q2.symm, q3.symm⟩
      rcases q4 with q | ⟨a', b', ⟨rfl, rfl⟩, q⟩
      · exact .inl q
      · exact .inr q
  · constructor
    · intro q
      have : k1 = k2 := by have := congrArg Dv.kind q; simpa [nzD, renD] using this
      omega
    · rintro ⟨q, _⟩
      dsimp only at q; omega
  · constructor
    · intro q
      have : k1 = k2 := by have := congrArg Dv.kind q; simpa [nzD, renD] using this
      omega
    · rintro ⟨q, _⟩
      dsimp only at q; omega
  · simp only [nzD, renD, nz_three h1, nz_three h2, List.map_cons, List.map_nil, Dv.mk.injEq, List.cons.injEq, and_true, reduceCtorEq, false_and, exists_false, false_or, and_false]
    have := mm (nmOf p a) (nmOf p b) c d
    constructor
    · rintro ⟨q1, ⟨q5, q2⟩, q3, q4⟩
      refine ⟨q1.symm, q3.symm, q4.symm, ?_⟩
      rcases this.1 q2 with q | q
      · exact .inl ⟨q5.symm, q⟩
      · exact .inr ⟨g, a, b, ⟨rfl, rfl, rfl⟩, q5.symm, q⟩
    · rintro ⟨q1, q2, q3, q4⟩
      rcases q4 with ⟨q5, q⟩ | ⟨g', a', b', ⟨rfl, rfl, rfl⟩, q5, q⟩
      · exact ⟨q1.symm, ⟨q5.symm, this.2 (.inl q)⟩, q2.symm, q3.symm⟩
      · exact ⟨q1.symm, ⟨q5.symm, this.2 (.inr q)⟩, q2.symm, q3.symm⟩
def inD (names : List Int) (d : Dv) : Bool := d.pins.all fun p => decide (0 ≤ nmOf names p)
def innerS (ds : List Dv) (names : List Int) : List Dv := srtD ((ds.filter (inD names)).map fun d => nzD (renD names d))
def lefTo (n : Nat) : Nat → List Int
  | 0 => List.replicate n (-1)
  | i + 1 => (lefTo n i).set i (i : Int)
def rigTo (n : Nat) (nets : List Int) : Nat → List Int
  | 0 => List.replicate n (-1)
  | i + 1 => (rigTo n nets i).set (nmOf nets (i : Int)).toNat (i : Int)
theorem length_lefTo (n : Nat) : ∀ i, (lefTo n i).length = n
  | 0 => by simp [lefTo]
  | i + 1 => by rw [lefTo, List.length_set]; exact length_lefTo n i
theorem length_rigTo (n : Nat) (nets : List Int) : ∀ i, (rigTo n nets i).length = n
  | 0 => by simp [rigTo]
  | i + 1 => by rw [rigTo, List.length_set]; exact length_rigTo n nets i
theorem lefTo_get (n : Nat) : ∀ (m k : Nat), k < n → (lefTo n m)[k]? = some (if k < m then (k : Int) else -1)
  | 0, k, h => by simp [lefTo, h]
  | m + 1, k, h => by
    rw [lefTo, List.getElem?_set, length_lefTo]
    by_cases e : m = k
    · subst e; simp [h]
    · rw [if_neg e, lefTo_get n m k h]
      congr 1
      by_cases q : k < m
      · rw [if_pos q, if_pos (by omega)]
      · rw [if_neg q, if_neg (by omega)]
theorem nm_lefTo {n m : Nat} {p : Int} (h0 : 0 ≤ p) (h1 : p < n) : nmOf (lefTo n m) p = if p < m then p else -1 := by
  unfold nmOf
  rw [List.getD_eq_getElem?_getD, lefTo_get n m p.toNat (by omega)]
  show (if p.toNat < m then ((p.toNat : Nat) : Int) else -1) = _
  by_cases q : p < m
  · rw [if_pos q, if_pos (by omega)]; omega
  · rw [if_neg q, if_neg (by omega)]
def goodN (n : Nat) (nets : List Int) : Prop := nets.Nodup ∧ ∀ z ∈ nets, 0 ≤ z ∧ z < (n : Int)
theorem nm_get {zs : List Int} {i : Nat} (h : i < zs.length) : zs[i]? = some (nmOf zs (i : Int)) := by
  unfold nmOf; rw [Int.toNat_natCast, List.getD_eq_getElem?_getD, List.getElem?_eq_getElem h]; rfl
theorem goodN.at_ {n : Nat} {nets : List Int} (h : goodN n nets) {i : Nat} (hi : i < nets.length) : 0 ≤ nmOf nets (i : Int) ∧ nmOf nets (i : Int) < n := h.2 _ (List.mem_of_getElem? (nm_get hi))
theorem goodN.inj {n : Nat} {nets : List Int} (h : goodN n nets) {i j : Nat} (hi : i < nets.length) (hj : j < nets.length) (e : nmOf nets (i : Int) = nmOf nets (j : Int)) : i = j := by
  have a := nm_get hi
  have b := nm_get hj
  rw [← e] at b
  exact (List.getElem?_inj hi h.1).1 (a.trans b.symm)
theorem rigTo_get {n : Nat} {nets : List Int} (h : goodN n nets) : ∀ (m k : Nat), m ≤ nets.length → k < n → (∀ i, i < m → nmOf nets (i : Int) = (k : Int) → (rigTo n nets m)[k]? = some (i : Int)) ∧ ((∀ i, i < m → ¬ nmOf nets (i : Int) = (k : Int)) → (rigTo n nets m)[k]? = some (-1))
  | 0, k, hm, hk => by simp [rigTo, hk]
  | m + 1, k, hm, hk => by
    obtain ⟨h1, h2⟩ := rigTo_get h m k (by omega) hk
    have a := h.at_ (i := m) (by omega)
    constructor
    · intro i hi e
      rw [rigTo, List.getElem?_set, length_rigTo]
      by_cases q : i = m
      · subst q; rw [if_pos (by omega), if_pos (by omega)]
      · rw [if_neg (fun e2 => q (h.inj (by omega) (by omega) (by omega)))]
        exact h1 i (by omega) e
    · intro hn
      rw [rigTo, List.getElem?_set, length_rigTo, if_neg (fun e2 => hn m (by omega) (by omega))]
      exact h2 (fun i hi => hn i (by omega))
theorem nm_rig {n : Nat} {nets : List Int} (h : goodN n nets) {i : Nat} (hi : i < nets.length) : nmOf (rigTo n nets nets.length) (nmOf nets (i : Int)) = i := by
  have a := h.at_ hi
  have := (rigTo_get h nets.length (nmOf nets (i : Int)).toNat (Nat.le_refl _) (by omega)).1 i hi (by omega)
  unfold nmOf at this ⊢
  rw [List.getD_eq_getElem?_getD, this]; rfl
theorem nm_rig_no {n : Nat} {nets : List Int} (h : goodN n nets) {k : Int} (h0 : 0 ≤ k) (h1 : k < n) (hk : ¬ k ∈ nets) : nmOf (rigTo n nets nets.length) k = -1 := by
  have := (rigTo_get h nets.length k.toNat (Nat.le_refl _) (by omega)).2 (fun i hi e => hk (by have := List.mem_of_getElem? (nm_get hi); rw [e] at this; rwa [Int.toNat_of_nonneg h0] at this))
  unfold nmOf
  rw [List.getD_eq_getElem?_getD, this]; rfl
theorem mem_nm {nets : List Int} {k : Int} (h : k ∈ nets) : ∃ i, i < nets.length ∧ nmOf nets (i : Int) = k := by
  obtain ⟨i, hi, e⟩ := List.mem_iff_getElem.1 h
  refine ⟨i, hi, ?_⟩
  have := nm_get hi
  rw [List.getElem?_eq_getElem hi, e] at this
  exact (Option.some.inj this).symm
theorem rig_pos {n : Nat} {nets : List Int} (h : goodN n nets) {k : Int} (h0 : 0 ≤ k) (h1 : k < n) : decide (0 ≤ nmOf (rigTo n nets nets.length) k) = nets.contains k := by
  by_cases hk : k ∈ nets
  · obtain ⟨i, hi, e⟩ := mem_nm hk
    have : nmOf (rigTo n nets nets.length) k = i := by rw [← e]; exact nm_rig h hi
    rw [this]; simp [hk]
  · rw [nm_rig_no h h0 h1 hk]; simp [hk]
def prtLR (ps qs : List Pt) (left right : List Int) (i : Nat) : Bool :=
  match ps[i]?, qs[i]? with
  | some p, some q => decide (nmOf left p.net = nmOf right q.net)
  | _, _ => false
def fitB (x y : Nl) (nets : List Int) : Bool :=
  allB (prtLR x.ps y.ps (lefTo x.nets.toNat nets.length) (rigTo y.nets.toNat nets nets.length)) x.ps.length &&
  decide (innerS x.ds (lefTo x.nets.toNat nets.length) = innerS y.ds (rigTo y.nets.toNat nets nets.length))
def fitI (x y : Nl) (nets : List Int) : Bool :=
  decide (srtD ((x.ds.filter fun d => d.pins.all fun p => decide (p < (nets.length : Int))).map fun d => nzD (renD nets d)) = srtD ((y.ds.map nzD).filter fun d => d.pins.all fun p => nets.contains p))
theorem srtD_eq {a b : List Dv} : srtD a = srtD b ↔ a.Perm b := by
  constructor
  · intro h
    have := srtD_perm a
    rw [h] at this
    exact this.symm.trans (srtD_perm b)
  · intro h
    exact srtD_of ((srtD_perm a).trans h) (srtD_pairwise a)
theorem filter_cong {α : Type} {p q : α → Bool} {l : List α} (h : ∀ a ∈ l, p a = q a) : l.filter p = l.filter q := List.filter_congr h
theorem fit_same {x y : Nl} {nets : List Int} {n : Nat} (hx : ∀ d ∈ x.ds, dvB (n : Int) d = true) (hy : ∀ d ∈ y.ds, dvB (n : Int) d = true) (hg : goodN n nets) :
    decide (innerS x.ds (lefTo n nets.length) = innerS y.ds (rigTo n nets nets.length)) = fitI x y nets := by
  unfold fitI innerS
  have e1 : x.ds.filter (inD (lefTo n nets.length)) = x.ds.filter fun d => d.pins.all fun p => decide (p < (nets.length : Int)) := filter_cong (fun d hd => by
    unfold inD
    rw [Bool.eq_iff_iff, List.all_eq_true, List.all_eq_true]
    constructor
    · intro h p hp
      have b := dvB_in (hx d hd) hp
      have := h p hp
      rw [nm_lefTo b.1 b.2] at this
      by_cases q : p < (nets.length : Int)
      · simpa using q
      · rw [if_neg q] at this; simp at this
    · intro h p hp
      have b := dvB_in (hx d hd) hp
      have q : p < (nets.length : Int) := by simpa using h p hp
      rw [nm_lefTo b.1 b.2, if_pos q]; simpa using b.1)
  have e2 : y.ds.filter (inD (rigTo n nets nets.length)) = y.ds.filter fun d => d.pins.all fun p => nets.contains p := filter_cong (fun d hd => by
    unfold inD
    rw [Bool.eq_iff_iff, List.all_eq_true, List.all_eq_true]
    constructor
    · intro h p hp
      have b := dvB_in (hy d hd) hp
      rw [← rig_pos hg b.1 b.2]; exact h p hp
    · intro h p hp
      have b := dvB_in (hy d hd) hp
      have := h p hp
      rw [← rig_pos hg b.1 b.2] at this; exact this)
  rw [e1, e2]
  have e3 : (y.ds.map nzD).filter (fun d => d.pins.all fun p => nets.contains p) = (y.ds.filter fun d => d.pins.all fun p => nets.contains p).map nzD := by
    rw [List.filter_map]
    congr 1
    exact filter_cong (fun d hd => nz_all _ (dvB_Two (hy d hd)))
  rw [e3]
  obtain ⟨F, hF⟩ : ∃ F, (x.ds.filter fun d => d.pins.all fun p => decide (p < (nets.length : Int))) = F := ⟨_, rfl⟩
  obtain ⟨G, hG⟩ : ∃ G, (y.ds.filter fun d => d.pins.all fun p => nets.contains p) = G := ⟨_, rfl⟩
  have kF : ∀ d ∈ F, Two d ∧ ∀ p ∈ d.pins, 0 ≤ p ∧ p < (n : Int) ∧ p < (nets.length : Int) := fun d hd => by
    rw [← hF, List.mem_filter] at hd
    have := List.all_eq_true.1 hd.2
    exact ⟨dvB_Two (hx d hd.1), fun p hp => ⟨(dvB_in (hx d hd.1) hp).1, (dvB_in (hx d hd.1) hp).2, by simpa using this p hp⟩⟩
  have kG : ∀ d ∈ G, Two d ∧ ∀ p ∈ d.pins, 0 ≤ p ∧ p < (n : Int) ∧ p ∈ nets := fun d hd => by
    rw [← hG, List.mem_filter] at hd
    have := List.all_eq_true.1 hd.2
    exact ⟨dvB_Two (hy d hd.1), fun p hp => ⟨(dvB_in (hy d hd.1) hp).1, (dvB_in (hy d hd.1) hp).2, by simpa using this p hp⟩⟩
  rw [hF, hG]
  have renId : ∀ (f : List Int) (d : Dv), (∀ p ∈ d.pins, nmOf f p = p) → renD f d = d := fun f d h => by
    obtain ⟨k, ps, wd, ln⟩ := d
    unfold renD
    dsimp only at h ⊢
    rw [List.map_congr_left (g := id) h, List.map_id]
  have e4 : F.map (fun d => nzD (renD (lefTo n nets.length) d)) = F.map nzD := List.map_congr_left (fun d hd => by
    rw [renId _ d (fun p hp => by have := (kF d hd).2 p hp; rw [nm_lefTo this.1 this.2.1, if_pos this.2.2])])
  rw [e4]
  have renren : ∀ (f g : List Int) (d : Dv), renD f (renD g d) = ⟨d.kind, d.pins.map (fun p => nmOf f (nmOf g p)), d.wd, d.len⟩ := fun f g d => by
    simp [renD, Function.comp_def]
  have cG : ∀ d ∈ G, nzD (renD nets (nzD (renD (rigTo n nets nets.length) d))) = nzD d := fun d hd => by
    rw [nz_ren _ ((kG d hd).1.ren _), renren]
    congr 1
    obtain ⟨k, ps, wd, ln⟩ := d
    have : ps.map (fun p => nmOf nets (nmOf (rigTo n nets nets.length) p)) = ps := by
      rw [List.map_congr_left (g := id) (fun p hp => ?_), List.map_id]
      obtain ⟨i, hi, e⟩ := mem_nm ((kG _ hd).2 p hp).2.2
      rw [← e, nm_rig hg hi]; rfl
    simp only [this]
  have cF : ∀ d ∈ F, nzD (renD (rigTo n nets nets.length) (nzD (renD nets d))) = nzD d := fun d hd => by
    rw [nz_ren _ ((kF d hd).1.ren _), renren]
    congr 1
    obtain ⟨k, ps, wd, ln⟩ := d
    have : ps.map (fun p => nmOf (rigTo n nets nets.length) (nmOf nets p)) = ps := by
      rw [List.map_congr_left (g := id) (fun p hp => ?_), List.map_id]
      have b := (kF _ hd).2 p hp
      have := nm_rig hg (i := p.toNat) (by omega)
      rw [Int.toNat_of_nonneg b.1] at this
      exact this
    simp only [this]
  have hiff : (srtD (F.map nzD) = srtD (G.map fun d => nzD (renD (rigTo n nets nets.length) d))) ↔ (srtD (F.map fun d => nzD (renD nets d)) = srtD (G.map nzD)) := by
    rw [srtD_eq, srtD_eq]
    constructor
    · intro h
      have h2 := h.map (fun d => nzD (renD nets d))
      rw [List.map_map, List.map_map] at h2
      rw [show F.map ((fun d => nzD (renD nets d)) ∘ nzD) = F.map (fun d => nzD (renD nets d)) from List.map_congr_left (fun d hd => nz_ren _ (kF d hd).1)] at h2
      rw [show G.map ((fun d => nzD (renD nets d)) ∘ fun d => nzD (renD (rigTo n nets nets.length) d)) = G.map nzD from List.map_congr_left (fun d hd => cG d hd)] at h2
      exact h2
    · intro h
      have h2 := h.map (fun d => nzD (renD (rigTo n nets nets.length) d))
      rw [List.map_map, List.map_map] at h2
      rw [show F.map ((fun d => nzD (renD (rigTo n nets nets.length) d)) ∘ fun d => nzD (renD nets d)) = F.map nzD from List.map_congr_left (fun d hd => cF d hd)] at h2
      rw [show G.map ((fun d => nzD (renD (rigTo n nets nets.length) d)) ∘ nzD) = G.map (fun d => nzD (renD (rigTo n nets nets.length) d)) from List.map_congr_left (fun d hd => nz_ren _ (kG d hd).1)] at h2
      exact h2
  exact decide_eq_decide.2 hiff
def srTo (g : Nat → List (List Int)) (one : Bool) : Nat → List (List Int)
  | 0 => []
  | k + 1 => if (one && decide (0 < (srTo g one k).length)) = true then srTo g one k else srTo g one k ++ g k
def srch (fit : List Int → Bool) (col : Nat → Nat → Bool) (n : Nat) (one : Bool) : Nat → List Int → List (List Int)
  | 0, nets => [nets]
  | r + 1, nets => srTo (fun k => if (col nets.length k && (!nets.contains (k : Int) && fit (nets ++ [(k : Int)]))) = true then srch fit col n one r (nets ++ [(k : Int)]) else []) one n
section
variable {g : Nat → List (List Int)} {one : Bool}
theorem srTo_stop {k : Nat} (h1 : one = true) (h : 0 < (srTo g one k).length) : ∀ m, srTo g one (k + m) = srTo g one k
  | 0 => rfl
  | m + 1 => by
    show (if (one && decide (0 < (srTo g one (k + m)).length)) = true then srTo g one (k + m) else srTo g one (k + m) ++ g (k + m)) = _
    rw [srTo_stop h1 h m, if_pos (by rw [h1] at h ⊢; simp [h])]
theorem srTo_sub {z : List Int} : ∀ {n : Nat}, z ∈ srTo g one n → ∃ k, k < n ∧ z ∈ g k
  | 0, h => by cases h
  | n + 1, h => by
    unfold srTo at h
    split at h
    · obtain ⟨k, a, b⟩ := srTo_sub h; exact ⟨k, by omega, b⟩
    · rcases List.mem_append.1 h with h | h
      · obtain ⟨k, a, b⟩ := srTo_sub h; exact ⟨k, by omega, b⟩
      · exact ⟨n, by omega, h⟩
theorem srTo_one (h1 : one = true) (hg : ∀ k, (g k).length ≤ 1) : ∀ n : Nat, (srTo g one n).length ≤ 1
  | 0 => by simp [srTo]
  | n + 1 => by
    have ih := srTo_one h1 hg n
    have := hg n
    unfold srTo
    split
    · exact ih
    · rename_i q
      have : ¬ 0 < (srTo g one n).length := fun h => q (by rw [decide_eq_true h, h1]; rfl)
      rw [List.length_append]; omega
end
section
variable {fit : List Int → Bool} {col : Nat → Nat → Bool} {n : Nat} {one : Bool}
theorem srch_one (h1 : one = true) : ∀ (r : Nat) (nets : List Int), (srch fit col n one r nets).length ≤ 1
  | 0, nets => by simp [srch]
  | r + 1, nets => srTo_one h1 (fun k => by
      try dsimp only
      split
      · exact srch_one h1 r _
      · simp) n
theorem srch_sound {z : List Int} : ∀ (r : Nat) (nets : List Int), goodN n nets → fit nets = true → (∀ i, i < nets.length → col i (nmOf nets (i : Int)).toNat = true) → nets.length + r = n → z ∈ srch fit col n one r nets →
    goodN n z ∧ z.length = n ∧ fit z = true ∧ (∀ i, i < n → col i (nmOf z (i : Int)).toNat = true) ∧ z.take nets.length = nets
  | 0, nets, hg, hf, hc, hl, h => by
    have e : z = nets := by simpa [srch] using h
    subst e
    exact ⟨hg, by omega, hf, fun i hi => hc i (by omega), List.take_length⟩
  | r + 1, nets, hg, hf, hc, hl, h => by
    obtain ⟨k, hk, hz⟩ := srTo_sub h
    (try dsimp only at hz)
    split at hz
    · rename_i q
      simp only [Bool.and_eq_true, Bool.not_eq_true', List.contains_eq_mem, decide_eq_false_iff_not] at q
      obtain ⟨q1, q2, q3⟩ := q
      obtain ⟨a, b, c, d, e⟩ := srch_sound r (nets ++ [(k : Int)]) ⟨by
          rw [List.nodup_append]
          exact ⟨hg.1, by simp, fun u hu v hv e => by rw [List.mem_singleton] at hv; subst e; subst hv; exact q2 hu⟩, fun u hu => by
          rcases List.mem_append.1 hu with hu | hu
          · exact hg.2 u hu
          · rw [List.mem_singleton] at hu; omega⟩ q3 (fun i hi => by
          rw [List.length_append, List.length_singleton] at hi
          by_cases e : i = nets.length
          · subst e
            have : nmOf (nets ++ [(k : Int)]) (nets.length : Int) = k := by unfold nmOf; simp [List.getD_eq_getElem?_getD]
            rw [this]; simpa using q1
          · have : nmOf (nets ++ [(k : Int)]) (i : Int) = nmOf nets (i : Int) := by unfold nmOf; rw [Int.toNat_natCast, List.getD_eq_getElem?_getD, List.getD_eq_getElem?_getD, List.getElem?_append_left (by omega)]
            rw [this]; exact hc i (by omega)) (by rw [List.length_append, List.length_singleton]; omega) hz
      refine ⟨a, b, c, d, ?_⟩
      rw [List.length_append, List.length_singleton] at e
      have := congrArg (List.take nets.length) e
      rw [List.take_take, Nat.min_eq_left (by omega), List.take_left] at this
      exact this
    · cases hz
end
def grd (A B : List Dv) : Nat → List Int
  | 0 => []
  | k + 1 => grd A B k ++ [((((List.range B.length).find? fun j : Nat => !(grd A B k).contains (j : Int) && decide (B[j]? = A[k]?)).getD 0 : Nat) : Int)]
theorem nodup_sub_len : ∀ {a b : List Int}, a.Nodup → (∀ z ∈ a, z ∈ b) → a.length ≤ b.length
  | [], b, _, _ => by simp
  | x :: a, b, hn, h => by
    have hx := h x (by simp)
    have hn' := List.nodup_cons.1 hn
    have := nodup_sub_len (a := a) (b := b.erase x) hn'.2 (fun z hz => by
      have : z ≠ x := fun e => hn'.1 (e ▸ hz)
      exact (List.mem_erase_of_ne this).2 (h z (by simp [hz])))
    rw [List.length_erase_of_mem hx] at this
    have hp := List.length_pos_of_mem hx
    rw [List.length_cons]; omega
theorem cnt_idx {α : Type} [DecidableEq α] (B : List α) (a : α) : ((List.range B.length).filter fun j => decide (B[j]? = some a)).length = B.count a := by
  have h : ∀ k, k ≤ B.length → ((List.range k).filter fun j => decide (B[j]? = some a)).length = (B.take k).count a := by
    intro k hk
    induction k with
    | zero => simp
    | succ k ih =>
      have e : B[k]? = some B[k] := List.getElem?_eq_getElem (by omega)
      rw [List.range_succ, List.filter_append, List.length_append, ih (by omega), take_snoc_of B k _ e, List.count_append, List.count_singleton]
      congr 1
      by_cases q : B[k] = a
      · rw [List.filter_cons_of_pos (by simp [e, q])]; simp [q]
      · rw [List.filter_cons_of_neg (by simp [e, q])]; simp [q]
  have := h _ (Nat.le_refl _)
  rwa [List.take_length] at this
structure GrdOk (A B : List Dv) (k : Nat) : Prop where
  len : (grd A B k).length = k
  nodup : (grd A B k).Nodup
  range : ∀ z ∈ grd A B k, 0 ≤ z ∧ z < (B.length : Int)
  same : (grd A B k).map (fun z => B[z.toNat]?) = (A.take k).map some
theorem grd_next {A B : List Dv} (hp : A.Perm B) {k : Nat} (hk : k < A.length) (h : GrdOk A B k) : ∃ j : Nat, j < B.length ∧ ¬ (j : Int) ∈ grd A B k ∧ B[j]? = A[k]? := by
  have ea : A[k]? = some A[k] := List.getElem?_eq_getElem hk
  by_cases hex : ∃ j : Nat, j < B.length ∧ ¬ (j : Int) ∈ grd A B k ∧ B[j]? = A[k]?
  · exact hex
  · exfalso
    have hall : ∀ j, j < B.length → B[j]? = some A[k] → (j : Int) ∈ grd A B k := fun j hj e => by
      by_cases q : (j : Int) ∈ grd A B k
      · exact q
      · exact absurd ⟨j, hj, q, by rw [e, ea]⟩ hex
    have h1 := cnt_idx B A[k]
    have h2 : (((List.range B.length).filter fun j => decide (B[j]? = some A[k])).map fun j : Nat => (j : Int)).length ≤ ((grd A B k).filter fun z => decide (B[z.toNat]? = some A[k])).length := by
      refine nodup_sub_len ?_ (fun z hz => ?_)
      · have : ((List.range B.length).filter fun j => decide (B[j]? = some A[k])).Nodup := (List.nodup_range).sublist List.filter_sublist
        exact List.Pairwise.map (fun j : Nat => (j : Int)) (fun a b h e => h (by omega)) this
      · obtain ⟨j, hj, rfl⟩ := List.mem_map.1 hz
        rw [List.mem_filter, List.mem_range] at hj
        rw [List.mem_filter]
        exact ⟨hall j hj.1 (by simpa using hj.2), by simpa using hj.2⟩
    rw [List.length_map, h1] at h2
    have h3 : ((grd A B k).filter fun z => decide (B[z.toNat]? = some A[k])).length = (A.take k).count A[k] := by
      have e := congrArg (List.countP (fun o => decide (o = some A[k]))) h.same
      rw [List.countP_map, List.countP_map] at e
      rw [← List.countP_eq_length_filter]
      refine Eq.trans ?_ (e.trans ?_)
      · rfl
      · rw [List.count]
        congr 1
        funext a
        rw [Bool.eq_iff_iff]
        simp [Function.comp]
    rw [h3, ← hp.count_eq] at h2
    have h4 : A.count A[k] = (A.take k).count A[k] + (A.drop k).count A[k] := by rw [← List.count_append, List.take_append_drop]
    have h5 : 0 < (A.drop k).count A[k] := by
      exact List.count_pos_iff.2 (by rw [List.drop_eq_getElem_cons hk]; exact List.mem_cons_self)
    omega
theorem grd_pick {A B : List Dv} {k : Nat} (h : ∃ j : Nat, j < B.length ∧ ¬ (j : Int) ∈ grd A B k ∧ B[j]? = A[k]?) :
    ∃ j : Nat, grd A B (k + 1) = grd A B k ++ [(j : Int)] ∧ j < B.length ∧ ¬ (j : Int) ∈ grd A B k ∧ B[j]? = A[k]? ∧ ∀ i : Nat, i < j → ¬ (¬ (i : Int) ∈ grd A B k ∧ B[i]? = A[k]?) := by
  obtain ⟨j0, a, b, c⟩ := h
  cases hf : (List.range B.length).find? fun j : Nat => !(grd A B k).contains (j : Int) && decide (B[j]? = A[k]?) with
  | none =>
    have := List.find?_eq_none.1 hf j0 (List.mem_range.2 a)
    simp at this
    exact absurd c (this b)
  | some j =>
    refine ⟨j, by rw [grd, hf]; rfl, ?_⟩
    have h1 := List.find?_some hf
    have h2 := List.mem_of_find?_eq_some hf
    rw [List.mem_range] at h2
    simp only [Bool.and_eq_true, Bool.not_eq_true', List.contains_eq_mem, decide_eq_false_iff_not, decide_eq_true_eq] at h1
    refine ⟨h2, h1.1, h1.2, fun i hi q => ?_⟩
    obtain ⟨_, us, bs, e, hn⟩ := List.find?_eq_some_iff_append.1 hf
    have hil : us.length = j := by
      have e1 : (us ++ j :: bs)[us.length]? = some j := by simp
      rw [← e, List.getElem?_range (by have := congrArg List.length e; simp at this; omega)] at e1
      simpa using e1
    have him : i ∈ us := by
      have e1 : (List.range B.length)[i]? = some i := List.getElem?_range (by omega)
      rw [e, List.getElem?_append_left (by omega)] at e1
      exact List.mem_of_getElem? e1
    have := hn i him
    simp [q.1, q.2] at this
theorem grd_ok {A B : List Dv} (hp : A.Perm B) : ∀ k, k ≤ A.length → GrdOk A B k
  | 0, _ => ⟨rfl, by simp [grd], by simp [grd], by simp [grd]⟩
  | k + 1, hk => by
    have ih := grd_ok hp k (by omega)
    obtain ⟨j, e, h1, h2, h3, _⟩ := grd_pick (grd_next hp (by omega) ih)
    have ea : A[k]? = some A[k] := List.getElem?_eq_getElem (by omega)
    refine ⟨by rw [e, List.length_append, ih.len]; rfl, ?_, ?_, ?_⟩
    · rw [e, List.nodup_append]
      exact ⟨ih.nodup, by simp, fun a ha b hb q => by rw [List.mem_singleton] at hb; subst q; subst hb; exact h2 ha⟩
    · intro z hz
      rw [e] at hz
      rcases List.mem_append.1 hz with hz | hz
      · exact ih.range z hz
      · rw [List.mem_singleton] at hz; omega
    · rw [e, List.map_append, ih.same, take_snoc_of A k _ ea, List.map_append]
      simp [h3, ea]
theorem pt_in {x : Nl} (h : nlB x = true) {p : Pt} (hp : p ∈ x.ps) : 0 ≤ p.net ∧ p.net < x.nets := by
  obtain ⟨_, _, _, _, h5⟩ := nlB_facts h
  obtain ⟨i, hi, e⟩ := List.mem_iff_getElem.1 hp
  have := h5 i hi
  have e2 : x.ps[i]? = some p := by rw [List.getElem?_eq_getElem hi, e]
  unfold ptOk at this
  rw [e2] at this
  simp only [Bool.and_eq_true] at this
  have := inB_iff.1 this.2.1
  omega
theorem good_perm {n : Nat} {z : List Int} (hg : goodN n z) (hz : z.length = n) : permB z (n : Int) = true := permB_iff.2 ⟨by omega, hg.1, hg.2⟩
theorem full_perm {x y : Nl} {n : Nat} {z : List Int} (hx : ∀ d ∈ x.ds, dvB (n : Int) d = true) (hy : ∀ d ∈ y.ds, dvB (n : Int) d = true) (hg : goodN n z) (hz : z.length = n) (h : fitI x y z = true) :
    (x.ds.map fun d => nzD (renD z d)).Perm (y.ds.map nzD) := by
  unfold fitI at h
  have h := srtD_eq.1 (of_decide_eq_true h)
  rw [List.filter_eq_self.2 (fun d hd => by
    rw [List.all_eq_true]
    intro p hp
    have := dvB_in (hx d hd) hp
    simpa using (by omega : p < (z.length : Int)))] at h
  rw [List.filter_eq_self.2 (fun d hd => by
    obtain ⟨e, he, rfl⟩ := List.mem_map.1 hd
    rw [nz_all _ (dvB_Two (hy e he)), List.all_eq_true]
    intro p hp
    have := dvB_in (hy e he) hp
    obtain ⟨i, hi⟩ := permB_has (good_perm hg hz) p this.1 this.2
    simpa using List.mem_of_getElem? hi)] at h
  exact h
theorem iso_of {x y : Nl} (hx : nlB x = true) (hy : nlB y = true) (hn : y.nets = x.nets) (hl : y.ds.length = x.ds.length) (hpl : y.ps.length = x.ps.length) (hnm : ∀ (i : Nat) (a b : Pt), x.ps[i]? = some a → y.ps[i]? = some b → b.name = a.name)
    {z : List Int} (hg : goodN x.nets.toNat z) (hz : z.length = x.nets.toNat) (hf : fitB x y z = true) :
    NlIso x y z (grd (x.ds.map fun d => nzD (renD z d)) (y.ds.map nzD) x.ds.length) := by
  obtain ⟨⟨n0, n1⟩, _, _, hdx, _⟩ := nlB_facts hx
  obtain ⟨_, _, _, hdy, _⟩ := nlB_facts hy
  obtain ⟨n, hnn⟩ : ∃ n : Nat, x.nets = n := ⟨x.nets.toNat, by omega⟩
  rw [hn, hnn] at hdy
  rw [hnn] at hdx
  have hnt : x.nets.toNat = n := by omega
  rw [hnt] at hg hz
  unfold fitB at hf
  rw [hn, hnt] at hf
  simp only [Bool.and_eq_true] at hf
  obtain ⟨hf1, hf2⟩ := hf
  rw [fit_same hdx hdy hg] at hf2
  have hperm := full_perm hdx hdy hg hz hf2
  have ok := grd_ok hperm x.ds.length (by simp)
  refine ⟨by rw [hnn]; exact good_perm hg hz, permB_iff.2 ⟨by rw [ok.len], ok.nodup, fun q hq => by have := ok.range q hq; rw [List.length_map, hl] at this; exact this⟩, hn, hl, fun i d hd => ?_, hpl, fun i a ha => ?_⟩
  · have hi := (List.getElem?_eq_some_iff.1 hd).1
    have h1 := congrArg (fun l => l[i]?) ok.same
    (try dsimp only at h1)
    rw [List.getElem?_map, List.getElem?_map, nm_get (by rw [ok.len]; exact hi), List.getElem?_take_of_lt hi, List.getElem?_map, hd] at h1
    simp only [Option.map_some, Option.some.injEq, List.getElem?_map] at h1
    obtain ⟨e, he, e2⟩ := Option.map_eq_some_iff.1 h1
    exact ⟨e, he, (nz_eqv (dvB_Two (hdx d (List.mem_of_getElem? hd))) (dvB_Two (hdy e (List.mem_of_getElem? he)))).1 e2.symm⟩
  · have hi := (List.getElem?_eq_some_iff.1 ha).1
    have hb : y.ps[i]? = some (y.ps[i]'(by omega)) := List.getElem?_eq_getElem (by omega)
    refine ⟨_, hb, hnm i a _ ha hb, ?_⟩
    have h1 : prtLR x.ps y.ps (lefTo n z.length) (rigTo n z z.length) i = true := by
      have := hf1
      simp only [allB, List.all_eq_true, List.mem_range] at this
      exact this i hi
    unfold prtLR at h1
    rw [ha, hb] at h1
    simp only [decide_eq_true_eq] at h1
    have ra := pt_in hx (List.mem_of_getElem? ha)
    have rb := pt_in hy (List.mem_of_getElem? hb)
    rw [nm_lefTo ra.1 (by omega), if_pos (by omega)] at h1
    obtain ⟨k, hk⟩ := permB_has (good_perm hg hz) _ rb.1 (by omega)
    have hkl := (List.getElem?_eq_some_iff.1 hk).1
    have e3 : nmOf z (k : Int) = (y.ps[i]'(by omega)).net := by have := nm_get hkl; rw [hk] at this; exact (Option.some.inj this).symm
    rw [← e3, nm_rig hg hkl] at h1
    rw [h1]; exact e3.symm
theorem iota_map {α : Type} (B : List α) (d : α) : (iota B.length).map (fun z => (B[z.toNat]?).getD d) = B := by
  apply List.ext_getElem?
  intro i
  by_cases h : i < B.length
  · simp [iota, h]
  · have : B[i]? = none := by simp; omega
    simp [iota, h, this]
theorem NlIso.perm {x y : Nl} {p q : List Int} (H : NlIso x y p q) (hx : nlB x = true) (hy : nlB y = true) : (x.ds.map fun d => nzD (renD p d)).Perm (y.ds.map nzD) := by
  obtain ⟨_, _, _, hdx, _⟩ := nlB_facts hx
  obtain ⟨_, _, _, hdy, _⟩ := nlB_facts hy
  have hq := permB_perm H.pq
  have hql := (permB_iff.1 H.pq).1
  have h2 := hq.map (fun z => ((y.ds.map nzD)[z.toNat]?).getD ⟨0, [], 0, 0⟩)
  have e1 : q.length = (y.ds.map nzD).length := by rw [List.length_map, H.len]; omega
  rw [e1, iota_map] at h2
  refine List.Perm.trans (List.Perm.of_eq ?_) h2
  apply List.ext_getElem?
  intro i
  by_cases hi : i < x.ds.length
  · have hd : x.ds[i]? = some x.ds[i] := List.getElem?_eq_getElem hi
    obtain ⟨e, he, hv⟩ := H.dev i _ hd
    have eq := nm_get (zs := q) (i := i) (by omega)
    rw [List.getElem?_map, List.getElem?_map, hd, eq]
    simp only [Option.map_some, List.getElem?_map, he, Option.getD_some, Option.some.injEq]
    exact (nz_eqv (dvB_Two (hdx _ (List.mem_of_getElem? hd))) (dvB_Two (hdy e (List.mem_of_getElem? he)))).2 hv
  · have a : x.ds[i]? = none := by simp; omega
    have b : q[i]? = none := by simp; omega
    rw [List.getElem?_map, List.getElem?_map, a, b]; rfl
def colB (cx cy : List Int) (i k : Nat) : Bool := decide (nmOf cx (i : Int) = nmOf cy (k : Int))
noncomputable def srchS (x y : Nl) (one : Bool) : List (List Int) := srch (fitB x y) (colB (refNet x).1.1 (refNet y).1.1) x.nets.toNat one x.nets.toNat []
theorem fit_root {x y : Nl} (hx : nlB x = true) (hy : nlB y = true) (hn : y.nets = x.nets) (hpl : y.ps.length = x.ps.length) : fitB x y [] = true := by
  obtain ⟨⟨n0, n1⟩, _, _, hdx, _⟩ := nlB_facts hx
  obtain ⟨_, _, _, hdy, _⟩ := nlB_facts hy
  obtain ⟨n, hnn⟩ : ∃ n : Nat, x.nets = n := ⟨x.nets.toNat, by omega⟩
  have hnt : x.nets.toNat = n := by omega
  rw [hn, hnn] at hdy
  rw [hnn] at hdx
  unfold fitB
  rw [hn, hnt, fit_same hdx hdy ⟨by simp, by simp⟩, Bool.and_eq_true]
  constructor
  · refine allB_yes (fun i hi => ?_)
    have ha : x.ps[i]? = some x.ps[i] := List.getElem?_eq_getElem hi
    have hb : y.ps[i]? = some (y.ps[i]'(by omega)) := List.getElem?_eq_getElem (by omega)
    have ra := pt_in hx (List.mem_of_getElem? ha)
    have rb := pt_in hy (List.mem_of_getElem? hb)
    unfold prtLR
    rw [ha, hb]
    simp only [decide_eq_true_eq]
    rw [nm_lefTo ra.1 (by omega), if_neg (by simp; omega)]
    exact (nm_rig_no (nets := []) ⟨by simp, by simp⟩ rb.1 (by omega) (by simp)).symm
  · unfold fitI
    rw [decide_eq_true_eq]
    have e : ∀ (P : Int → Bool) (hP : ∀ p, 0 ≤ p → P p = false) (ds : List Dv), (∀ d ∈ ds, dvB (n : Int) d = true) → ds.filter (fun d => d.pins.all P) = [] := fun P hP ds h => by
      rw [List.filter_eq_nil_iff]
      intro d hd hc
      have h2 := dvB_pins (h d hd)
      have hc := List.all_eq_true.1 hc
      cases hp : d.pins with
      | nil => rw [hp] at h2; simp at h2
      | cons a s =>
        have ha : a ∈ d.pins := by rw [hp]; simp
        have := hc a ha
        rw [hP a (h2.2.2 a ha).1] at this; cases this
    rw [e _ (fun p hp => by simpa using hp) x.ds hdx, List.filter_map]
    rw [show y.ds.filter ((fun d : Dv => d.pins.all fun p => ([] : List Int).contains p) ∘ nzD) = y.ds.filter (fun d => d.pins.all fun p => ([] : List Int).contains p) from filter_cong (fun d hd => nz_all _ (dvB_Two (hdy d hd)))]
    rw [e _ (fun p hp => by simp) y.ds hdy]
    rfl
theorem srchS_iso {x y : Nl} (hx : nlB x = true) (hy : nlB y = true) (hn : y.nets = x.nets) (hl : y.ds.length = x.ds.length) (hpl : y.ps.length = x.ps.length) (hnm : ∀ (i : Nat) (a b : Pt), x.ps[i]? = some a → y.ps[i]? = some b → b.name = a.name)
    {one : Bool} {z : List Int} (h : z ∈ srchS x y one) : goodN x.nets.toNat z ∧ z.length = x.nets.toNat ∧ fitB x y z = true ∧ NlIso x y z (grd (x.ds.map fun d => nzD (renD z d)) (y.ds.map nzD) x.ds.length) := by
  obtain ⟨a, b, c, _, _⟩ := srch_sound x.nets.toNat [] ⟨by simp, by simp⟩ (fit_root hx hy hn hpl) (fun i hi => by simp at hi) (by simp) h
  exact ⟨a, b, c, iso_of hx hy hn hl hpl hnm a b c⟩
theorem ba_loop (d : Array UInt8) : ∀ (n i : Nat) (r : List UInt8), d.size - i = n → ByteArray.toList.loop ⟨d⟩ i r = r.reverse ++ d.toList.drop i
  | 0, i, r, h => by
    rw [ByteArray.toList.loop]
    have hs : (ByteArray.mk d).size = d.size := rfl
    have hl : d.toList.length = d.size := Array.length_toList
    rw [if_neg (by omega), List.drop_eq_nil_of_le (by omega), List.append_nil]
  | n + 1, i, r, h => by
    rw [ByteArray.toList.loop]
    have hs : (ByteArray.mk d).size = d.size := rfl
    have hl : d.toList.length = d.size := Array.length_toList
    rw [if_pos (by omega), ba_loop d n (i + 1) _ (by omega), List.drop_eq_getElem_cons (by omega : i < d.toList.length)]
    have : (ByteArray.mk d).get! i = d.toList[i]'(by omega) := by
      show d[i]! = _
      rw [getElem!_pos d i (by omega)]
      exact (Array.getElem_toList _).symm
    rw [this, List.reverse_cons, List.append_assoc]; rfl
theorem ba_toList (s : ByteArray) : s.toList = s.data.toList := by
  cases s
  unfold ByteArray.toList
  rw [ba_loop _ _ 0 [] rfl]; rfl
theorem ba_inj {a b : ByteArray} (h : a.toList = b.toList) : a = b := by
  rw [ba_toList, ba_toList] at h
  exact ByteArray.ext (Array.toList_inj.1 h)
def fstNo (f : Nat → Bool) (n : Nat) : Int :=
  match (List.range n).find? (fun i => !f i) with
  | some i => (i : Int)
  | none => -1
theorem fstNo_none {f : Nat → Bool} {n : Nat} (h : ∀ i, i < n → f i = true) : fstNo f n = -1 := by
  unfold fstNo
  rw [List.find?_eq_none.2 (fun i hi => by simp [h i (List.mem_range.1 hi)])]
theorem fstNo_at {f : Nat → Bool} {n k : Nat} (hk : k < n) (h1 : f k = false) (h : ∀ i, i < k → f i = true) : fstNo f n = k := by
  unfold fstNo
  cases hf : (List.range n).find? (fun i => !f i) with
  | none =>
    have := List.find?_eq_none.1 hf k (List.mem_range.2 hk)
    simp [h1] at this
  | some j =>
    have hj := List.find?_some hf
    simp only [Bool.not_eq_true'] at hj
    obtain ⟨_, us, bs, e, hn⟩ := List.find?_eq_some_iff_append.1 hf
    have hlt := List.mem_range.1 (List.mem_of_find?_eq_some hf)
    have hil : us.length = j := by
      have e1 : (us ++ j :: bs)[us.length]? = some j := by simp
      rw [← e, List.getElem?_range (by have := congrArg List.length e; simp at this; omega)] at e1
      simpa using e1
    have h2 : ¬ j < k := fun q => by rw [h j q] at hj; cases hj
    have h3 : ¬ k < j := fun q => by
      have e1 : (List.range n)[k]? = some k := List.getElem?_range hk
      rw [e, List.getElem?_append_left (by omega)] at e1
      have := hn k (List.mem_of_getElem? e1)
      simp [h1] at this
    have : j = k := by omega
    subst this; rfl
theorem fstNo_cases (f : Nat → Bool) (n : Nat) : (fstNo f n = -1 ∧ ∀ i, i < n → f i = true) ∨ ∃ k : Nat, k < n ∧ fstNo f n = k ∧ f k = false ∧ ∀ i, i < k → f i = true := by
  by_cases h : ∃ k, k < n ∧ f k = false
  · have : ∀ m, (∀ i, i < m → f i = true) ∨ ∃ k, k < m ∧ f k = false ∧ ∀ i, i < k → f i = true := by
      intro m
      induction m with
      | zero => exact .inl (fun i hi => by omega)
      | succ m ih =>
        rcases ih with ih | ⟨k, a, b, c⟩
        · cases q : f m with
          | true =>
            exact .inl (fun i hi => by
              by_cases e : i = m
              · subst e; exact q
              · exact ih i (by omega))
          | false => exact .inr ⟨m, by omega, q, ih⟩
        · exact .inr ⟨k, by omega, b, c⟩
    rcases this n with h2 | ⟨k, a, b, c⟩
    · obtain ⟨k, a, b⟩ := h
      rw [h2 k a] at b; cases b
    · exact .inr ⟨k, a, fstNo_at a b c, b, c⟩
  · have h2 : ∀ i, i < n → f i = true := fun i hi => by
      cases q : f i with
      | true => rfl
      | false => exact absurd ⟨i, hi, q⟩ h
    exact .inl ⟨fstNo_none h2, h2⟩
def namAt (ps qs : List Pt) (i : Nat) : Bool :=
  match ps[i]?, qs[i]? with
  | some p, some q => p.name.toList == q.name.toList
  | _, _ => false
def namD (ps qs : List Pt) : Int := fstNo (namAt ps qs) (max ps.length qs.length)
def szD (d : Dv) : Dv := ⟨d.kind, [], d.wd, d.len⟩
def szL (ds : List Dv) : List Dv := srtD (ds.map szD)
def sizD (ds es : List Dv) : Int := fstNo (fun i => decide ((szL ds)[i]? = (szL es)[i]?)) ds.length
def colD (a b : List Int) : Int := fstNo (fun c => decide (a.count (c : Int) = b.count (c : Int))) 24
theorem names_of {x y : Nl} {p q : List Int} (H : NlIso x y p q) : namD x.ps y.ps = -1 := by
  refine fstNo_none (fun i hi => ?_)
  have := H.plen
  have ha : x.ps[i]? = some (x.ps[i]'(by omega)) := List.getElem?_eq_getElem (by omega)
  obtain ⟨b, hb, e, _⟩ := H.port i _ ha
  unfold namAt
  rw [ha, hb]
  simp [e]
theorem sizes_of {x y : Nl} {p q : List Int} (H : NlIso x y p q) (hx : nlB x = true) (hy : nlB y = true) : sizD x.ds y.ds = -1 := by
  have h := (H.perm hx hy).map szD
  rw [List.map_map, List.map_map] at h
  have e1 : x.ds.map (szD ∘ fun d => nzD (renD p d)) = x.ds.map szD := List.map_congr_left (fun d _ => rfl)
  have e2 : y.ds.map (szD ∘ nzD) = y.ds.map szD := List.map_congr_left (fun d _ => rfl)
  rw [e1, e2] at h
  have : szL x.ds = szL y.ds := srtD_eq.2 h
  exact fstNo_none (fun i _ => by rw [this]; simp)
theorem col_perm {a b : List Int} {p : List Int} {n : Nat} (hp : permB p (n : Int) = true) (ha : a.length = n) (hb : b.length = n) (h : ∀ i : Nat, i < n → nmOf a (i : Int) = nmOf b (nmOf p (i : Int))) : a.Perm b := by
  have h1 := (permB_perm hp).map (fun z => (b[z.toNat]?).getD 0)
  have hl := (permB_iff.1 hp).1
  rw [show p.length = b.length by omega, iota_map] at h1
  refine List.Perm.trans (List.Perm.of_eq ?_) h1
  apply List.ext_getElem?
  intro i
  by_cases hi : i < n
  · rw [nm_get (by omega), List.getElem?_map, nm_get (zs := p) (by omega), h i hi]
    unfold nmOf
    simp [List.getD_eq_getElem?_getD]
  · have e1 : a[i]? = none := by simp; omega
    have e2 : p[i]? = none := by simp; omega
    rw [List.getElem?_map, e1, e2]; rfl
theorem colD_perm {a b : List Int} (h : a.Perm b) : colD a b = -1 := fstNo_none (fun c _ => by rw [h.count_eq]; simp)
theorem colors_of {x y : Nl} {p q : List Int} (H : NlIso x y p q) (hx : nlB x = true) (hy : nlB y = true)
    (lx : ((refNet x).1.1.length : Int) = x.nets ∧ (refNet x).1.2.length = x.ds.length) (ly : ((refNet y).1.1.length : Int) = y.nets ∧ (refNet y).1.2.length = y.ds.length) :
    colD (refNet x).1.1 (refNet y).1.1 = -1 ∧ colD (refNet x).1.2 (refNet y).1.2 = -1 := by
  obtain ⟨n, hn⟩ : ∃ n : Nat, x.nets = n := ⟨x.nets.toNat, by have := (nlB_facts hx).1; omega⟩
  have hc := (H.net hx hy).2
  have hpp := H.pp
  rw [hn] at hpp
  constructor
  · exact colD_perm (col_perm hpp (by omega) (by have := H.nets; omega) (fun i hi => hc.1 i (by omega)))
  · exact colD_perm (col_perm H.pq lx.2 (by have := H.len; omega) hc.2)
noncomputable def mayB (x y : Nl) : Bool := decide (x.nets = y.nets) && (decide (x.ds.length = y.ds.length) && (decide (namD x.ps y.ps = -1) && (decide (sizD x.ds y.ds = -1) && (decide (colD (refNet x).1.1 (refNet y).1.1 = -1) && decide (colD (refNet x).1.2 (refNet y).1.2 = -1)))))
theorem namD_no {ps qs : List Pt} (h : namD ps qs = -1) : qs.length = ps.length ∧ ∀ (i : Nat) (a b : Pt), ps[i]? = some a → qs[i]? = some b → b.name = a.name := by
  rcases fstNo_cases (namAt ps qs) (max ps.length qs.length) with ⟨_, h2⟩ | ⟨k, _, e, _⟩
  · have hl : qs.length = ps.length := by
      by_cases q : ps.length < qs.length
      · have := h2 ps.length (by omega)
        unfold namAt at this
        rw [show ps[ps.length]? = none by simp] at this
        simp at this
      · by_cases q2 : qs.length < ps.length
        · have := h2 qs.length (by omega)
          unfold namAt at this
          rw [show qs[qs.length]? = none by simp, List.getElem?_eq_getElem q2] at this
          simp at this
        · omega
    refine ⟨hl, fun i a b ha hb => ?_⟩
    have hi := (List.getElem?_eq_some_iff.1 ha).1
    have := h2 i (by omega)
    unfold namAt at this
    rw [ha, hb] at this
    simp only [beq_iff_eq] at this
    have e : b.name.toList = a.name.toList := this.symm
    exact ba_inj e
  · unfold namD at h; omega
def rowZ (d : Dv) : List Int := [d.kind, d.wd, d.len]
def rowsTo (ds : List Dv) (k : Nat) : List (List Int) := (ds.take k).map rowZ
noncomputable def rowsS (ds : List Dv) : List (List Int) := (szL ds).map rowZ
theorem lcmp_rowZ {a b : Dv} (ha : a.pins = []) (hb : b.pins = []) : lcmp (rowZ a) (rowZ b) = dcf a b := by
  unfold rowZ dcf devcmp or2
  rw [ha, hb]
  simp only [lcmp]
  repeat' split
  all_goals first | rfl | omega | simp_all
theorem szL_pins {ds : List Dv} {a : Dv} (h : a ∈ szL ds) : a.pins = [] := by
  unfold szL at h
  obtain ⟨d, _, rfl⟩ := List.mem_map.1 ((srtD_perm _).mem_iff.1 h)
  rfl
theorem rowsS_perm (ds : List Dv) : (rowsS ds).Perm (ds.map rowZ) := by
  unfold rowsS szL
  have h := (srtD_perm (ds.map szD)).map rowZ
  rw [List.map_map] at h
  exact h
theorem rowsS_pw (ds : List Dv) : (rowsS ds).Pairwise (fun a b => lcmp a b ≤ 0) := by
  unfold rowsS
  rw [List.pairwise_map]
  have h : (szL ds).Pairwise (fun x y => dlt y x = false) := srtD_pairwise _
  refine List.Pairwise.imp_of_mem (fun {a b} ha hb hab => ?_) h
  rw [lcmp_flip, lcmp_rowZ (szL_pins hb) (szL_pins ha)]
  have := of_decide_eq_false hab
  omega
theorem rowsS_of {ds : List Dv} {qs : List (List Int)} (h1 : qs.Perm (ds.map rowZ)) (h2 : qs.Pairwise (fun a b => lcmp a b ≤ 0)) : qs = rowsS ds :=
  List.Perm.eq_of_pairwise (le := fun a b => lcmp a b ≤ 0) (fun a b _ _ hab hba => by
    have := lcmp_flip a b
    exact (lcmp_zero a b).1 (by omega)) h2 (rowsS_pw ds) (h1.trans (rowsS_perm ds).symm)
theorem length_rowsS (ds : List Dv) : (rowsS ds).length = ds.length := by
  have := (rowsS_perm ds).length_eq
  rw [List.length_map] at this; exact this
theorem rowsS_get {ds es : List Dv} (i : Nat) : decide ((rowsS ds)[i]? = (rowsS es)[i]?) = decide ((szL ds)[i]? = (szL es)[i]?) := by
  refine decide_eq_decide.2 ?_
  unfold rowsS
  rw [List.getElem?_map, List.getElem?_map]
  cases h1 : (szL ds)[i]? with
  | none => cases h2 : (szL es)[i]? <;> simp
  | some a =>
    cases h2 : (szL es)[i]? with
    | none => simp
    | some b =>
      have ha := szL_pins (List.mem_of_getElem? h1)
      have hb := szL_pins (List.mem_of_getElem? h2)
      obtain ⟨k, p, w, l⟩ := a
      obtain ⟨k', p', w', l'⟩ := b
      dsimp only at ha hb
      subst ha hb
      simp [rowZ]
theorem sizD_rows (ds es : List Dv) : sizD ds es = fstNo (fun i => decide ((rowsS ds)[i]? = (rowsS es)[i]?)) ds.length := by
  unfold sizD
  congr 1
  funext i
  exact (rowsS_get i).symm
theorem rowsTo_step {ds : List Dv} {k : Nat} {d : Dv} (h : ds[k]? = some d) : rowsTo ds (k + 1) = rowsTo ds k ++ [rowZ d] := by
  unfold rowsTo
  rw [take_snoc_of ds k d h, List.map_append]
  rfl
theorem BldL.prs {w : World} {lo hi g n c : Nat} {ls : List (List Int)} (h : BldL w lo hi (.slice (some ⟨g, 0, none⟩) n c) ls) (hn : ls.length = n) : ∃ (ps : List (Value × List Int)) (cs : Array Value), ps.map (·.2) = ls ∧ Blk w g cs 27 ∧ (∀ (i : Nat) p, ps[i]? = some p → cs[i]? = some p.1) ∧ (∀ p ∈ ps, p.1.oneCell' = true ∧ ∀ w', Off g w w' → IntSl w' p.1 p.2) ∧ n ≤ c ∧ c ≤ maxLen ∧ ps.length = n := by
  subst hn
  obtain ⟨hs, vs, f, ⟨hlen, h1⟩, h2, h3, h4⟩ := h
  rcases h1 with ⟨h1, _⟩ | ⟨g', cap, cur, e1, e2, e3, e4, e5, e6, e7⟩
  · cases h1
  · simp only [Value.slice.injEq, Option.some.injEq, Addr.mk.injEq, and_true] at e1
    obtain ⟨rfl, _, rfl⟩ := e1
    refine ⟨vs.zip ls, cur, by rw [List.map_snd_zip (by omega)], e3, fun i p hp => ?_, fun p hp => ?_, e4, e5, by simp [h2]⟩
    · have hi' : i < (vs.zip ls).length := (List.getElem?_eq_some_iff.1 hp).1
      have hi : i < vs.length ∧ i < ls.length := by simp at hi'; omega
      rw [List.getElem?_eq_getElem hi', List.getElem_zip] at hp
      injection hp with hp
      subst hp
      have h6 : (cur.toList.take (ls.length * 1))[i]? = some vs[i] := by rw [e7]; exact List.getElem?_eq_getElem hi.1
      rw [List.getElem?_take_of_lt (by omega)] at h6
      dsimp only
      have h7 : cur[i]? = some vs[i] := by simpa using h6
      exact h7
    · obtain ⟨i, hi', e⟩ := List.mem_iff_getElem.1 hp
      have hi : i < vs.length ∧ i < ls.length := by simp at hi'; omega
      rw [List.getElem_zip] at e
      subst e
      obtain ⟨a, b, d⟩ := h4 i ls[i] vs[i] (List.getElem?_eq_getElem hi.2) (List.getElem?_eq_getElem hi.1)
      refine ⟨a.sl.one, fun w' ho => OwnR.sl (OwnR.same (lo := f i) (hi := f i + 1) a (fun q h1 h2 => ?_))⟩
      obtain rfl : q = f i := by omega
      exact ho (f i) (by omega) (fun e => d (by rw [e]; rfl))
theorem list_pushLN {ops : Array Oper} {rest : List Oper} {o : Oper} {a : Act} {w : World} {Q : Exit → Act → World → Prop} (hgd : o.guard = none) (s x : Operand)
    (ho : o.op = .call { callee := .builtin .append, args := #[s, x], argTypes := #[87, 87] })
    (lo hi N : Nat) (v : Value) (ls : List (List Int)) (hN : ls.length = N) (hs : a.eval s = v) (hB : BldL w lo hi v ls) (nb : Nat) (d : List Int) (pv : Value) (fb : Nat) (hx : a.eval x = .slice (some ⟨nb, 0, none⟩) 1 1)
    (hnb : Blk w nb #[pv] 27) (hpv : OwnR w fb (fb + 1) pv d) (hlo : lo ≤ hi) (hhi : hi ≤ fb) (hfb : fb < w.heap.size) (hn : N ≤ 1000)
    (hK : ∀ g c' w', BldL w' lo w'.heap.size (.slice (some ⟨g, 0, none⟩) (N + 1) c') (ls ++ [d]) → Within lo hi w w' → wpList Tryz.prog ops Q rest (a.put o.dst (.slice (some ⟨g, 0, none⟩) (N + 1) c')) w') : wpList Tryz.prog ops Q (o :: rest) a w := by
  subst hN
  exact list_pushLG hgd s x ho lo hi v ls hs hB nb d pv fb hx hnb hpv hlo hhi hfb hn (fun g c' w' h1 _ _ h4 => hK g c' w' h1 h4)
set_option maxRecDepth 100000 in
theorem szc_any (s1 s2 : Value) (xs ys : List Int) (w : World) (h : IntSl w s1 xs) (h' : IntSl w s2 ys) :
    Calls Tryz.prog 141 #[s1, s2] w fun e w' => e = .returned (.int .i64 (lcmp xs ys)) ∧ ∃ n, w' = w.drewN n := by
  have HC := Lib.hid (slicesCompare_any s1 s2 xs ys w h h')
  obtain ⟨a, c, rfl⟩ := h.len
  obtain ⟨a', c', rfl⟩ := h'.len
  generalize lcmp xs ys = r at *
  clear h h'
  go_enter Tryz.func141, Tryz.ntmps141
  go_wp2_with fail
  refine HC.out.mono ?_
  rintro e w1 ⟨rfl, n, rfl⟩
  go_wp2
  go_ret
  exact ⟨rfl, n, rfl⟩
set_option maxRecDepth 100000 in
set_option maxHeartbeats 4000000 in
theorem sizesOf_any (x : Nl) (v : Value) (w : World) (h : NlV w v x) (hl : x.ds.length ≤ 24) :
    Calls Tryz.prog 103 #[v] w fun e w' => ∃ g c, e = .returned (.slice (some ⟨g, 0, none⟩) x.ds.length c) ∧ LlSl w' (.slice (some ⟨g, 0, none⟩) x.ds.length c) (rowsS x.ds) ∧ Below w.heap.size w w' := by
  have HLR := Lib.hid (length_rowsS x.ds)
  have HRS := Lib.hid (fun k d (h : x.ds[k]? = some d) => rowsTo_step h)
  have HRL := Lib.hid (show ∀ k, k ≤ x.ds.length → (rowsTo x.ds k).length = k from fun k hk => by unfold rowsTo; rw [List.length_map, List.length_take]; omega)
  have HR0 := Lib.hid (show rowsTo x.ds 0 = [] from rfl)
  have HRA := Lib.hid (show rowsTo x.ds x.ds.length = x.ds.map rowZ from by unfold rowsTo; rw [List.take_length])
  have HRO := Lib.hid (fun qs h1 h2 => @rowsS_of x.ds qs h1 h2)
  obtain ⟨s1, s2, rfl, hd, hp⟩ := h
  obtain ⟨nx, xs, ps⟩ := x
  dsimp only at *
  have HX := Lib.hid hd
  obtain ⟨a1, c1, rfl⟩ := hd.sized
  obtain ⟨a2, c2, rfl⟩ := hp.sized
  obtain ⟨n, hn⟩ : ∃ n, xs.length = n := ⟨_, rfl⟩
  obtain ⟨p, hpl⟩ : ∃ n, ps.length = n := ⟨_, rfl⟩
  rw [hpl]
  rw [hn] at HX hl HLR HRL HRA ⊢
  have HN := Lib.hid hn
  have HSF := Lib.hid (fun blk cap ps w cs hB hc he hn => sortFuncL_any 141 (enters_of Tryz.func141 (by kernel_rfl) rfl) (fun W s1 s2 xs ys h h' => szc_any s1 s2 xs ys W h h') blk cap ps w cs hB hc he hn)
  clear hd hp hn hpl
  have kA0 : Blk ((w.alloc (.cells #[.int .i64 nx, .slice a1 n c1, .slice a2 p c2] 35)).alloc (.cells #[] 27)) w.heap.size #[.int .i64 nx, .slice a1 n c1, .slice a2 p c2] 35 := (Blk.new _ rfl).past _
  have HB0 : Hid (BldL ((w.alloc (.cells #[.int .i64 nx, .slice a1 n c1, .slice a2 p c2] 35)).alloc (.cells #[] 27)) (w.heap.size + 1) (w.heap.size + 2) (.slice (some ⟨w.heap.size + 1, 0, none⟩) 0 0) (rowsTo xs 0)) := Lib.hid (by
    rw [HR0.out]
    exact ⟨by simp, [], fun _ => 0, ⟨rfl, .inr ⟨w.heap.size + 1, 0, #[], rfl, Nat.le_refl _, Blk.new _ (by simp), Nat.le_refl _, by unfold maxLen; omega, rfl, rfl⟩⟩, rfl, (fun g' hg' => by
      have e : w.heap.size + 1 = g' := by injection hg'
      omega), by intro i x s h; simp at h⟩)
  go_enter Tryz.func103, Tryz.ntmps103
  go_wp2
  go_loopw [3, 10] (fun ov iv wr => ∃ (k g c hi : Nat), k ≤ n ∧ ov = .slice (some ⟨g, 0, none⟩) k c ∧ iv = .int .i64 (k : Int) ∧ Hid (BldL wr (w.heap.size + 1) hi (.slice (some ⟨g, 0, none⟩) k c) (rowsTo xs k)) ∧ w.heap.size + 1 ≤ hi ∧ hi ≤ wr.heap.size ∧ Blk wr w.heap.size #[.int .i64 nx, .slice a1 n c1, .slice a2 p c2] 35 ∧ Below w.heap.size w wr) (fun _ iv _ => n - (intOf iv).toNat)
  case atStart => exact ⟨0, w.heap.size + 1, 0, w.heap.size + 2, Nat.zero_le _, rfl, rfl, HB0, by omega, by simp, kA0, blwT⟩
  case round =>
    clear HB0 kA0
    obtain ⟨k, g, c, hi, hk, rfl, rfl, HB, hhi, hhs, kA, hb⟩ := hrel
    by_cases hlt : k < n
    · have i1 : (k : Int) < (n : Int) := by omega
      have i2 : decide (k < n) = true := decide_eq_true hlt
      obtain ⟨d, hx⟩ : ∃ x, xs[k]? = some x := ⟨_, List.getElem?_eq_getElem (by rw [HN.out]; exact hlt)⟩
      have HRS1 := Lib.hid (HRS.out k d hx)
      rcases HX.out with ⟨_, _, _, h2⟩ | ⟨xb, xo, xc, he, _, _, h4⟩
      · rw [h2] at hx; simp at hx
      obtain ⟨rfl, rfl⟩ : a1 = some ⟨xb, xo, none⟩ ∧ c1 = xc := by
        simp only [Value.slice.injEq] at he
        exact ⟨he.1, he.2.2⟩
      obtain ⟨sx, x1, x2, x3, x4, x5⟩ := (h4 k d hx).by hb
      obtain ⟨px, cx, rfl⟩ := x5.len
      generalize d.pins.length = PX at *
      clear x5
      have lx := lt_of_cell x1
      dsimp only at lx
      clear hx he h4
      have hal : Below wr.heap.size wr (((wr.alloc (.cells #[.int .i64 d.kind, .slice px PX cx, .int .i64 d.wd, .int .i64 d.len] 62)).alloc (.cells #[.int .i64 d.kind, .int .i64 d.wd, .int .i64 d.len] 2)).alloc (.cells #[.slice (some ⟨wr.heap.size + 1, 0, none⟩) 3 3] 27)) := (((Below.refl _ wr).alloc (Nat.le_refl _) _).alloc (by simp) _).alloc (by simp; omega) _
      have kR : Blk (((wr.alloc (.cells #[.int .i64 d.kind, .slice px PX cx, .int .i64 d.wd, .int .i64 d.len] 62)).alloc (.cells #[.int .i64 d.kind, .int .i64 d.wd, .int .i64 d.len] 2)).alloc (.cells #[.slice (some ⟨wr.heap.size + 1, 0, none⟩) 3 3] 27)) (wr.heap.size + 1) #[.int .i64 d.kind, .int .i64 d.wd, .int .i64 d.len] 2 := (Blk.new _ (by simp)).past _
      have kS : Blk (((wr.alloc (.cells #[.int .i64 d.kind, .slice px PX cx, .int .i64 d.wd, .int .i64 d.len] 62)).alloc (.cells #[.int .i64 d.kind, .int .i64 d.wd, .int .i64 d.len] 2)).alloc (.cells #[.slice (some ⟨wr.heap.size + 1, 0, none⟩) 3 3] 27)) (wr.heap.size + 2) #[.slice (some ⟨wr.heap.size + 1, 0, none⟩) 3 3] 27 := Blk.new _ (by simp)
      have hOR : OwnR (((wr.alloc (.cells #[.int .i64 d.kind, .slice px PX cx, .int .i64 d.wd, .int .i64 d.len] 62)).alloc (.cells #[.int .i64 d.kind, .int .i64 d.wd, .int .i64 d.len] 2)).alloc (.cells #[.slice (some ⟨wr.heap.size + 1, 0, none⟩) 3 3] 27)) (wr.heap.size + 1) (wr.heap.size + 1 + 1) (.slice (some ⟨wr.heap.size + 1, 0, none⟩) 3 3) (rowZ d) := .inr ⟨wr.heap.size + 1, 3, _, rfl, Nat.le_refl _, Nat.lt_succ_self _, Nat.le_refl _, by unfold maxLen; omega, kR, fun i z hz => by
        unfold rowZ at hz
        rcases i with _ | _ | _ | i
        · simp at hz; subst hz; rfl
        · simp at hz; subst hz; rfl
        · simp at hz; subst hz; rfl
        · simp at hz⟩
      have HOR := Lib.hid hOR
      have HBA := Lib.hid (show BldL (((wr.alloc (.cells #[.int .i64 d.kind, .slice px PX cx, .int .i64 d.wd, .int .i64 d.len] 62)).alloc (.cells #[.int .i64 d.kind, .int .i64 d.wd, .int .i64 d.len] 2)).alloc (.cells #[.slice (some ⟨wr.heap.size + 1, 0, none⟩) 3 3] 27)) (w.heap.size + 1) hi (.slice (some ⟨g, 0, none⟩) k c) (rowsTo xs k) from HB.out.by hal)
      have kAA := Blk.by hal kA
      have hbA := below_on hal hb
      clear hOR kR hal
      go_wp2_with (refine list_pushLN (by rfl) _ _ (by rfl) (w.heap.size + 1) hi k (.slice (some ⟨g, 0, none⟩) k c) (rowsTo xs k) (HRL.out k hk) (by rfl) HBA.out (wr.heap.size + 2) (rowZ d) (.slice (some ⟨wr.heap.size + 1, 0, none⟩) 3 3) (wr.heap.size + 1) (by rfl) kS HOR.out (by omega) (by omega) (by simp) (by omega) ?_; intro g9 c9 w9 hB9 hW9; have HB9 := Lib.hid hB9; have kA9 := hW9.blk kAA (.inl (by omega)); have hb9 := hW9.below hbA (by omega); have hs9 := hW9.size; clear hB9 hW9)
      exact ⟨⟨k + 1, g9, c9, w9.heap.size, by omega, by rfl, by go_num, Lib.hid (by rw [HRS1.out]; exact HB9.out), by (try simp only [World.size_alloc] at hs9); omega, Nat.le_refl _, kA9, hb9⟩, by simp [intOf]; omega⟩
    · obtain rfl : n = k := by omega
      have i1 : ¬ (n : Int) < (n : Int) := by omega
      obtain ⟨ps, cs, hps, hBk, hcs, hone, hnc, hcm, hpn⟩ := HB.out.prs (HRL.out n (Nat.le_refl _))
      rw [HRA.out] at hps
      have hgo : w.heap.size ≤ g := by
        obtain ⟨_, vs, f, _, _, h3, _⟩ := HB.out
        have := h3 g rfl
        omega
      have HPS := Lib.hid hps
      have HON := Lib.hid hone
      have hsf := HSF.out g c ps wr cs hBk hcs hone (by omega)
      rw [hpn] at hsf
      have HSFX := Lib.hid hsf
      clear hsf hps hone hcs hlt
      go_wp2_with fail
      refine HSFX.out.mono ?_
      rintro e w9 ⟨rfl, qs, ds, hq1, hq2, hq3, hq4, hq5, hW⟩
      have hb9 : Below w.heap.size w w9 := hW.below hb (by omega)
      have hrows : qs.map (·.2) = rowsS xs := HRO.out _ (by rw [← HPS.out]; exact hq1.map _) (by rw [List.pairwise_map]; exact hq2)
      have hql : qs.length = n := by rw [hq1.length_eq]; exact hpn
      have hLl : LlSl w9 (.slice (some ⟨g, 0, none⟩) n c) (rowsS xs) := by
        rw [← hrows]
        refine .inr ⟨g, 0, c, by rw [List.length_map, hql], by rw [List.length_map, hql]; exact hnc, hcm, fun i r hr => ?_⟩
        rw [List.getElem?_map] at hr
        obtain ⟨q, hq, rfl⟩ : ∃ q, qs[i]? = some q ∧ q.2 = r := by
          cases h : qs[i]? with
          | none => rw [h] at hr; simp at hr
          | some t => rw [h] at hr; exact ⟨t, rfl, by simpa using hr⟩
        refine ⟨q.1, by rw [Nat.zero_add, hq3.cell]; exact hq5 i q hq, ?_⟩
        exact (HON.out q (hq1.mem_iff.1 (List.mem_of_getElem? hq))).2 w9 (fun k hk hne => hW.block k hk (by omega))
      have HLL := Lib.hid hLl
      clear hq1 hq2 hq3 hq4 hq5 hW hrows hql hLl hBk
      go_wp2
      go_ret
      exact ⟨g, c, rfl, HLL.out, hb9⟩
set_option maxRecDepth 100000 in
set_option maxHeartbeats 4000000 in
theorem l30Names_any (x y : Nl) (v u : Value) (w : World) (h : NlV w v x) (h' : NlV w u y) (hl : x.ps.length ≤ 1048576) (hl' : y.ps.length ≤ 1048576) :
    Calls Tryz.prog 54 #[v, u] w fun e w' => e = .returned (.int .i64 (namD x.ps y.ps)) ∧ Below w.heap.size w w' := by
  obtain ⟨s1, s2, rfl, hd, hp⟩ := h
  obtain ⟨t1, t2, rfl, hd', hp'⟩ := h'
  obtain ⟨nets, ds, ps⟩ := x
  obtain ⟨nets', ds', qs⟩ := y
  dsimp only at *
  have HP := Lib.hid hp
  have HQ := Lib.hid hp'
  obtain ⟨a1, c1, rfl⟩ := hd.sized
  obtain ⟨a2, c2, rfl⟩ := hp.sized
  obtain ⟨b1, d1, rfl⟩ := hd'.sized
  obtain ⟨b2, d2, rfl⟩ := hp'.sized
  clear hd hp hd' hp'
  have HAY := Lib.hid (fun h => @fstNo_none (namAt ps qs) (max ps.length qs.length) h)
  have HAN := Lib.hid (fun k a b c => @fstNo_at (namAt ps qs) (max ps.length qs.length) k a b c)
  have HNA := Lib.hid (show ∀ k p q, ps[k]? = some p → qs[k]? = some q → namAt ps qs k = (p.name.toList == q.name.toList) from fun k p q h1 h2 => by unfold namAt; rw [h1, h2])
  have HN1 := Lib.hid (show ∀ k, ps.length ≤ k → namAt ps qs k = false from fun k h => by unfold namAt; rw [show ps[k]? = none by simp; omega])
  have HN2 := Lib.hid (show ∀ k, qs.length ≤ k → namAt ps qs k = false from fun k h => by
    unfold namAt
    rw [show qs[k]? = none by simp; omega]
    cases ps[k]? <;> rfl)
  rw [show namD ps qs = fstNo (namAt ps qs) (max ps.length qs.length) from rfl]
  generalize fstNo (namAt ps qs) (max ps.length qs.length) = R at *
  generalize namAt ps qs = F at *
  obtain ⟨p, hpl⟩ : ∃ p, ps.length = p := ⟨_, rfl⟩
  obtain ⟨q, hql⟩ : ∃ q, qs.length = q := ⟨_, rfl⟩
  rw [hpl] at HP HAY HAN HN1 hl ⊢
  rw [hql] at HQ HAY HAN HN2 hl' ⊢
  have HLP := Lib.hid hpl
  have HLQ := Lib.hid hql
  clear hpl hql
  go_enter Tryz.func54, Tryz.ntmps54
  go_wp2
  go_loopw [5] (fun i wr => ∃ k : Nat, k ≤ max p q ∧ i = .int .i64 k ∧ Hid (∀ j, j < k → F j = true) ∧ Blk wr w.heap.size #[.int .i64 nets, .slice a1 ds.length c1, .slice a2 p c2] 35 ∧ Blk wr (w.heap.size + 1) #[.int .i64 nets', .slice b1 ds'.length d1, .slice b2 q d2] 35 ∧ Below w.heap.size w wr) (fun i _ => max p q - (intOf i).toNat)
  case atStart => exact ⟨0, Nat.zero_le _, rfl, Lib.hid (by intro j h; omega), blkT, blkT, blwT⟩
  case round =>
    obtain ⟨k, hk, rfl, HI, kA, kB, hb⟩ := hrel
    have qA := kA.cell
    have qB := kB.cell
    have lA := kA.lt
    have lB := kB.lt
    by_cases hboth : k < p ∨ k < q
    · have hcond : Hid ((decide (k < p) = true ∧ decide ((k : Int) < (p : Int)) = true) ∨ (decide (k < p) = false ∧ decide ((k : Int) < (p : Int)) = false ∧ decide (k < q) = true ∧ decide ((k : Int) < (q : Int)) = true)) := Lib.hid (by
        by_cases h1 : k < p
        · exact .inl ⟨decide_eq_true h1, decide_eq_true (by omega)⟩
        · exact .inr ⟨decide_eq_false h1, decide_eq_false (by omega), decide_eq_true (by omega), decide_eq_true (by omega)⟩)
      by_cases hlt : k < p
      · have i1 : (k : Int) < (p : Int) := by omega
        clear hcond
        go_upto_region 4 with fail
        go_cut [46] from 6 to 47 (fun cc wx => cc = .bool (!(F k)) ∧ Below w.heap.size w wx ∧ Blk wx w.heap.size #[.int .i64 nets, .slice a1 ds.length c1, .slice a2 p c2] 35 ∧ Blk wx (w.heap.size + 1) #[.int .i64 nets', .slice b1 ds'.length d1, .slice b2 q d2] 35)
        case first =>
          have g1 : decide ((p : Int) ≤ (k : Int)) = false := decide_eq_false (by omega)
          have g2 : decide (p ≤ k) = false := decide_eq_false (by omega)
          by_cases hlq : k < q
          · have g3 : decide ((q : Int) ≤ (k : Int)) = false := decide_eq_false (by omega)
            have g4 : decide (q ≤ k) = false := decide_eq_false (by omega)
            have g5 : decide (k < p) = true := decide_eq_true hlt
            have g6 : decide (k < q) = true := decide_eq_true hlq
            have i2 : (k : Int) < (q : Int) := by omega
            obtain ⟨pp, hp⟩ : ∃ p, ps[k]? = some p := ⟨_, List.getElem?_eq_getElem (by rw [HLP.out]; exact hlt)⟩
            obtain ⟨qq, hq⟩ : ∃ q, qs[k]? = some q := ⟨_, List.getElem?_eq_getElem (by rw [HLQ.out]; exact hlq)⟩
            have hat := HNA.out k pp qq hp hq
            rcases HP.out with ⟨_, _, _, h2⟩ | ⟨pb, po, pc, he, _, _, h4⟩
            · rw [h2] at hp; simp at hp
            obtain ⟨rfl, rfl⟩ : a2 = some ⟨pb, po, none⟩ ∧ c2 = pc := by
              simp only [Value.slice.injEq] at he
              exact ⟨he.1, he.2.2⟩
            rcases HQ.out with ⟨_, _, _, h2⟩ | ⟨qb, qo, qc, he', _, _, h4'⟩
            · rw [h2] at hq; simp at hq
            obtain ⟨rfl, rfl⟩ : b2 = some ⟨qb, qo, none⟩ ∧ d2 = qc := by
              simp only [Value.slice.injEq] at he'
              exact ⟨he'.1, he'.2.2⟩
            obtain ⟨p1, p2⟩ := (h4 k pp hp).by hb
            obtain ⟨q1, q2⟩ := (h4' k qq hq).by hb
            obtain ⟨name, net⟩ := pp
            obtain ⟨name', net'⟩ := qq
            dsimp only at *
            have HAT := Lib.hid hat
            clear hp hq hat he he' h4 h4' p2 q2
            cases hna : (name.toList == name'.toList) with
            | true =>
              rw [hna] at HAT
              have HKA := Lib.hid kA
              have HKB := Lib.hid kB
              clear kA kB
              go_quiet (fail)
              go_wp2
              go_meet
              exact ⟨by rw [HAT.out]; rfl, blwT, HKA.out.drewN 1, HKB.out.drewN 1⟩
            | false =>
              rw [hna] at HAT
              have HKA := Lib.hid kA
              have HKB := Lib.hid kB
              clear kA kB
              go_quiet (fail)
              go_wp2
              go_meet
              exact ⟨by rw [HAT.out]; rfl, blwT, HKA.out.drewN 1, HKB.out.drewN 1⟩
          · have g3 : decide ((q : Int) ≤ (k : Int)) = true := decide_eq_true (by omega)
            have g4 : decide (q ≤ k) = true := decide_eq_true (by omega)
            have HAT := Lib.hid (HN2.out k (by omega))
            have HKA := Lib.hid kA
            have HKB := Lib.hid kB
            clear kA kB hlq
            go_quiet (fail)
            go_wp2
            go_meet
            exact ⟨by rw [HAT.out]; rfl, blwT, HKA.out.drewN 1, HKB.out.drewN 1⟩
        case rest =>
          obtain ⟨rfl, hbc, kAc, kBc⟩ := hcut
          clear kA kB qA qB lA lB hb
          cases hF : F k with
          | true =>
            have HF := Lib.hid hF
            clear hF
            go_wp2
            refine ⟨⟨k + 1, by omega, by go_num, Lib.hid (fun j hj => ?_), kAc, kBc, hbc⟩, by simp [intOf]; omega⟩
            by_cases ej : j = k
            · subst ej; exact HF.out
            · exact HI.out j (by omega)
          | false =>
            have hr := Lib.hid (HAN.out k (by omega) hF HI.out)
            clear hF
            go_wp2
            go_ret
            exact ⟨ret_i64 hr.out.symm, hbc⟩
      · have i1 : ¬ (k : Int) < (p : Int) := by omega
        have i2 : (k : Int) < (q : Int) := by omega
        have hr := Lib.hid (HAN.out k (by omega) (HN1.out k (by omega)) HI.out)
        have g1 : decide ((p : Int) ≤ (k : Int)) = true := decide_eq_true (by omega)
        have g2 : decide (p ≤ k) = true := decide_eq_true (by omega)
        clear hcond
        go_upto_region 4 with fail
        go_cut [46] from 6 to 47 (fun cc wx => cc = .bool true ∧ Below w.heap.size w wx)
        case first =>
          clear hlt hboth
          go_quiet (fail)
          go_wp2
          go_meet
          exact ⟨rfl, blwT⟩
        case rest =>
          obtain ⟨rfl, hbc⟩ := hcut
          clear kA kB qA qB lA lB hb
          go_wp2
          go_ret
          exact ⟨ret_i64 hr.out.symm, hbc⟩
    · have i1 : ¬ (k : Int) < (p : Int) := by omega
      have i2 : ¬ (k : Int) < (q : Int) := by omega
      have hr := Lib.hid (HAY.out (fun i hi => HI.out i (by omega)))
      clear hboth
      go_wp2
      go_ret
      exact ⟨ret_i64 hr.out.symm, blwT⟩
set_option maxRecDepth 100000 in
set_option maxHeartbeats 4000000 in
theorem l30Color_any (xs ys : List Int) (s1 s2 : Value) (w : World) (h : IntSl w s1 xs) (h' : IntSl w s2 ys) (hl : xs.length ≤ 1000) (hl' : ys.length ≤ 1000) :
    Calls Tryz.prog 56 #[s1, s2] w fun e w' => e = .returned (.int .i64 (colD xs ys)) ∧ w = w' := by
  have HX := Lib.hid h
  have HY := Lib.hid h'
  obtain ⟨a1, c1, rfl⟩ := h.len
  obtain ⟨a2, c2, rfl⟩ := h'.len
  obtain ⟨p, hpl⟩ : ∃ p, xs.length = p := ⟨_, rfl⟩
  obtain ⟨q, hql⟩ : ∃ q, ys.length = q := ⟨_, rfl⟩
  rw [hpl] at HX hl ⊢
  rw [hql] at HY hl' ⊢
  have HLP := Lib.hid hpl
  have HLQ := Lib.hid hql
  have HXA := Lib.hid (show xs.take p = xs from by rw [← hpl]; exact List.take_length)
  have HYA := Lib.hid (show ys.take q = ys from by rw [← hql]; exact List.take_length)
  have HAY := Lib.hid (fun h => @fstNo_none (fun c : Nat => decide (xs.count (c : Int) = ys.count (c : Int))) 24 h)
  have HAN := Lib.hid (fun k a b c => @fstNo_at (fun c : Nat => decide (xs.count (c : Int) = ys.count (c : Int))) 24 k a b c)
  rw [show colD xs ys = fstNo (fun c : Nat => decide (xs.count (c : Int) = ys.count (c : Int))) 24 from rfl]
  generalize fstNo (fun c : Nat => decide (xs.count (c : Int) = ys.count (c : Int))) 24 = R at *
  clear h h' hpl hql
  go_enter Tryz.func56, Tryz.ntmps56
  go_wp2
  go_loopw [5] (fun cv wr => ∃ cl : Nat, cl ≤ 24 ∧ cv = .int .i64 (cl : Int) ∧ Hid (∀ j : Nat, j < cl → decide (xs.count (j : Int) = ys.count (j : Int)) = true) ∧ w = wr) (fun cv _ => 24 - (intOf cv).toNat)
  case atStart => exact ⟨0, Nat.zero_le _, rfl, Lib.hid (by intro j h; omega), rfl⟩
  case round =>
    obtain ⟨cl, hc, rfl, HI, rfl⟩ := hrel
    by_cases hct : cl < 24
    · have k1 : (cl : Int) < 24 := by omega
      go_wp2
      go_loopw [6, 7] (fun nv iv wr => ∃ i : Nat, i ≤ p ∧ iv = .int .i64 (i : Int) ∧ nv = .int .i64 (((xs.take i).count (cl : Int) : Nat)) ∧ w = wr) (fun _ iv _ => p - (intOf iv).toNat)
      case atStart => exact ⟨0, Nat.zero_le _, rfl, by simp, rfl⟩
      case round =>
        obtain ⟨i, hi, rfl, rfl, rfl⟩ := hrel
        obtain ⟨t, ht⟩ : ∃ t, (xs.take i).count (cl : Int) = t := ⟨_, rfl⟩
        have htb : t ≤ p := by
          have h1 := List.count_le_length (a := (cl : Int)) (l := xs.take i)
          have h2 := List.length_take_le i xs
          have h3 := HLP.out
          omega
        by_cases hit : i < p
        · obtain ⟨z, hz⟩ : ∃ z, xs[i]? = some z := ⟨_, List.getElem?_eq_getElem (by rw [HLP.out]; exact hit)⟩
          have hst := count_take xs i z hz (cl : Int)
          rw [ht] at hst ⊢
          obtain ⟨pb, po, pc, hep, _, c5⟩ := HX.out.nm (by rw [HLP.out]; omega)
          obtain ⟨rfl, rfl⟩ : a1 = some ⟨pb, po, none⟩ ∧ c1 = pc := by
            simp only [Value.slice.injEq] at hep
            exact ⟨hep.1, hep.2.2⟩
          have cp := c5 i (by rw [HLP.out]; exact hit)
          have e5 : nmOf xs (i : Int) = z := by unfold nmOf; rw [Int.toNat_natCast, List.getD_eq_getElem?_getD, hz]; rfl
          rw [e5] at cp
          have i1 : (i : Int) < (p : Int) := by omega
          have i2 : decide (i < p) = true := decide_eq_true hit
          clear c5 hep e5 hz ht
          by_cases hzc : z = (cl : Int)
          · have z1 : (z == (cl : Int)) = true := by simpa using hzc
            rw [if_pos hzc] at hst
            have HS := Lib.hid hst
            clear hst hzc
            go_wp2
            exact ⟨⟨i + 1, by omega, by go_num, by rw [HS.out]; go_num, (by first | trivial | rfl)⟩, by simp [intOf]; omega⟩
          · have z1 : (z == (cl : Int)) = false := by simpa using hzc
            rw [if_neg hzc] at hst
            have HS := Lib.hid hst
            clear hst hzc
            go_wp2
            exact ⟨⟨i + 1, by omega, by go_num, by rw [HS.out]; go_num, (by first | trivial | rfl)⟩, by simp [intOf]; omega⟩
        · obtain rfl : p = i := by omega
          have i1 : ¬ (p : Int) < (p : Int) := by omega
          rw [HXA.out] at ht ⊢
          obtain ⟨X, hX⟩ : ∃ X, xs.count (cl : Int) = X := ⟨_, rfl⟩
          rw [hX] at ht ⊢
          have HXC := Lib.hid hX
          have hXb : X ≤ p := by omega
          clear hX ht htb hit
          go_wp2
          go_loopw [6, 8] (fun nv iv wr => ∃ i : Nat, i ≤ q ∧ iv = .int .i64 (i : Int) ∧ nv = .int .i64 ((X : Int) - ((ys.take i).count (cl : Int) : Nat)) ∧ w = wr) (fun _ iv _ => q - (intOf iv).toNat)
          case atStart => exact ⟨0, Nat.zero_le _, rfl, by simp, rfl⟩
          case round =>
            obtain ⟨i, hi, rfl, rfl, rfl⟩ := hrel
            obtain ⟨t, ht⟩ : ∃ t, (ys.take i).count (cl : Int) = t := ⟨_, rfl⟩
            have htb : t ≤ q := by
              have h1 := List.count_le_length (a := (cl : Int)) (l := ys.take i)
              have h2 := List.length_take_le i ys
              have h3 := HLQ.out
              omega
            by_cases hit : i < q
            · obtain ⟨z, hz⟩ : ∃ z, ys[i]? = some z := ⟨_, List.getElem?_eq_getElem (by rw [HLQ.out]; exact hit)⟩
              have hst := count_take ys i z hz (cl : Int)
              rw [ht] at hst ⊢
              obtain ⟨pb, po, pc, hep, _, c5⟩ := HY.out.nm (by rw [HLQ.out]; omega)
              obtain ⟨rfl, rfl⟩ : a2 = some ⟨pb, po, none⟩ ∧ c2 = pc := by
                simp only [Value.slice.injEq] at hep
                exact ⟨hep.1, hep.2.2⟩
              have cp := c5 i (by rw [HLQ.out]; exact hit)
              have e5 : nmOf ys (i : Int) = z := by unfold nmOf; rw [Int.toNat_natCast, List.getD_eq_getElem?_getD, hz]; rfl
              rw [e5] at cp
              have i1 : (i : Int) < (q : Int) := by omega
              have i2 : decide (i < q) = true := decide_eq_true hit
              clear c5 hep e5 hz ht
              by_cases hzc : z = (cl : Int)
              · have z1 : (z == (cl : Int)) = true := by simpa using hzc
                rw [if_pos hzc] at hst
                have HS := Lib.hid hst
                clear hst hzc
                go_wp2
                exact ⟨⟨i + 1, by omega, by go_num, by rw [HS.out]; go_num, (by first | trivial | rfl)⟩, by simp [intOf]; omega⟩
              · have z1 : (z == (cl : Int)) = false := by simpa using hzc
                rw [if_neg hzc] at hst
                have HS := Lib.hid hst
                clear hst hzc
                go_wp2
                exact ⟨⟨i + 1, by omega, by go_num, by rw [HS.out]; go_num, (by first | trivial | rfl)⟩, by simp [intOf]; omega⟩
            · obtain rfl : q = i := by omega
              have i1 : ¬ (q : Int) < (q : Int) := by omega
              rw [HYA.out] at ht ⊢
              rw [ht]
              have hd : decide (xs.count (cl : Int) = ys.count (cl : Int)) = decide (X = t) := by rw [HXC.out, ht]
              clear ht hit
              by_cases hxt : X = t
              · subst hxt
                have HD := Lib.hid (hd.trans (decide_eq_true rfl))
                have e1 : ((X : Int) - (X : Int)) = 0 := by omega
                rw [e1]
                clear hd e1
                go_wp2
                refine ⟨⟨cl + 1, by omega, by go_num, Lib.hid (fun j hj => ?_), (by first | trivial | rfl)⟩, by simp [intOf]; omega⟩
                by_cases ej : j = cl
                · subst ej; exact HD.out
                · exact HI.out j (by omega)
              · have HD := Lib.hid (hd.trans (decide_eq_false hxt))
                obtain ⟨D, hD⟩ : ∃ D, ((X : Int) - (t : Int)) = D := ⟨_, rfl⟩
                rw [hD]
                have e1 : (D != 0) = true := by simp; omega
                have e2 : (D == 0) = false := by simp; omega
                have hr := Lib.hid (HAN.out cl hct HD.out HI.out)
                clear hd hD hxt
                go_wp2
                go_ret
                exact ⟨ret_i64 hr.out.symm, rfl⟩
    · obtain rfl : cl = 24 := by omega
      have hr := Lib.hid (HAY.out (fun j hj => HI.out j hj))
      go_wp2
      go_ret
      exact ⟨ret_i64 hr.out.symm, rfl⟩
end Go.Proofs.YtifbffianbgeaaaGreat
