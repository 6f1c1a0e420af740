/- Contracts and plain laws, part 4, for the statement's proof. -/
import Derived.Test.YtifbffianbgeaaaGreatPkAutLaw3
import Derived.Sort.LotA
import Derived.Deep.DeepCutAuto
import Derived.Deep.RegionLaw
import Derived.Shelf.Abstract
import Derived.Deep.RegionHeldLaw
import Derived.Deep.AppendLies
import Derived.Deep.AppendSrc
import Derived.ProofKit
import Derived.OpenShut
namespace Go.Proofs.YtifbffianbgeaaaGreat
open Go.RowKit
open Go.Sort (swp PermIn SortedIn SWO size_swp swp_get)
set_option linter.unusedVariables false
set_option linter.unusedSimpArgs false
def tauI (i j k : Nat) : Nat := if k = i then j else if k = j then i else k
section
variable {α : Type} [Inhabited α]
def Fol (f : Nat → Nat) (d d' : Array α) : Prop := d'.size = d.size ∧ ∀ k, k < d.size → d'[k]! = d[f k]!
theorem Fol.swp {f g : Nat → Nat} {d d' : Array α} (h : Fol f d d') {i j : Nat} (hi : i < d.size) (hj : j < d.size) (hg : ∀ k, g k = f (tauI i j k)) : Fol g d (swp d' i j) := by
  refine ⟨by rw [size_swp]; exact h.1, fun k hk => ?_⟩
  rw [swp_get d' (by rw [h.1]; exact hi) (by rw [h.1]; exact hj), hg]
  unfold tauI
  by_cases h1 : k = j
  · subst h1
    by_cases h2 : k = i
    · subst h2; simp; exact h.2 _ hk
    · simp [h2]; exact h.2 _ hi
  · by_cases h2 : k = i
    · subst h2; simp [h1]; exact h.2 _ hj
    · simp [h1, h2]; exact h.2 _ hk
theorem PermIn.refl' (a b : Nat) (d : Array α) : PermIn a b d d := Go.Sort.permIn_refl d a b
theorem PermIn.on {a b : Nat} {d d' d'' : Array α} (h1 : PermIn a b d d') (h2 : PermIn a b d' d'') : PermIn a b d d'' := Go.Sort.permIn_trans d d' d'' a b h1 h2
theorem PermIn.wide {a b a' b' : Nat} {d d' : Array α} (h : PermIn a b d d') (h1 : a' ≤ a) (h2 : b ≤ b') (h3 : b' ≤ d.size) : PermIn a' b' d d' := Go.Sort.permIn_mono d d' a b a' b' h1 h2 h3 h
theorem PermIn.swp {a b i j : Nat} {d d' : Array α} (h : PermIn a b d d') (h1 : a ≤ i) (h2 : i < b) (h3 : a ≤ j) (h4 : j < b) (h5 : b ≤ d.size) : PermIn a b d (swp d' i j) :=
  PermIn.on h (Go.Sort.swp_permIn d' a b i j h1 h2 h3 h4 (by rw [h.1]; exact h5))
variable {lt : α → α → Bool}
theorem SortedIn.sub {a b a' b' : Nat} {d : Array α} (h : SortedIn lt a b d) (h1 : a ≤ a') (h2 : b' ≤ b) : SortedIn lt a' b' d := fun i j hi hij hj => h i j (by omega) hij (by omega)
theorem SortedIn.one (hS : SWO lt) {a b : Nat} (d : Array α) (h : b ≤ a + 1) : SortedIn lt a b d := fun i j hi hij hj => by omega
theorem SortedIn.le (hS : SWO lt) {a b i j : Nat} {d : Array α} (h : SortedIn lt a b d) (hi : a ≤ i) (hij : i ≤ j) (hj : j < b) : lt d[j]! d[i]! = false := by
  rcases Nat.lt_or_eq_of_le hij with h' | rfl
  · exact h i j hi h' hj
  · exact hS.irrefl _
theorem SortedIn.out {a b x y : Nat} {d d' : Array α} (h : SortedIn lt a b d) (hp : PermIn x y d d') (hd : b ≤ x ∨ y ≤ a) : SortedIn lt a b d' := fun i j hi hij hj => by
  rw [hp.2.1 i (by omega), hp.2.1 j (by omega)]; exact h i j hi hij hj
end
/-! ### devices -/
instance : Inhabited Dv := ⟨⟨0, [], 0, 0⟩⟩
def dcf (x y : Dv) : Int := devcmp x.kind y.kind x.pins y.pins x.wd y.wd x.len y.len
def dlt (x y : Dv) : Bool := decide (dcf x y < 0)
def dltP (x y : Dv × Nat) : Bool := dlt x.1 y.1
theorem or2_flip {a b c d : Int} (h1 : a = - b) (h2 : c = - d) : or2 a c = - or2 b d := by
  unfold or2; repeat' split
  all_goals omega
theorem sgn_flip (a b : Int) : sgn a b = - sgn b a := by unfold sgn; (repeat' split) <;> omega
theorem dcf_flip (x y : Dv) : dcf x y = - dcf y x := or2_flip (sgn_flip _ _) (or2_flip (lcmp_flip _ _) (or2_flip (sgn_flip _ _) (sgn_flip _ _)))
theorem or2_zero {a b : Int} : or2 a b = 0 ↔ a = 0 ∧ b = 0 := by unfold or2; split <;> omega
theorem sgn_zero {a b : Int} : sgn a b = 0 ↔ a = b := by unfold sgn; (repeat' split) <;> omega
theorem dcf_zero {x y : Dv} : dcf x y = 0 ↔ x = y := by
  unfold dcf devcmp
  rw [or2_zero, or2_zero, or2_zero, sgn_zero, sgn_zero, sgn_zero, lcmp_zero]
  constructor
  · rintro ⟨h1, h2, h3, h4⟩; cases x; cases y; simp at *; exact ⟨h1, h2, h3, h4⟩
  · rintro rfl; exact ⟨rfl, rfl, rfl, rfl⟩
theorem or2_ntrans {a b c d e f : Int} (h1 : 0 ≤ a → 0 ≤ c → 0 ≤ e) (h2 : 0 ≤ b → 0 ≤ d → 0 ≤ f) (z1 : e = 0 → 0 ≤ a → 0 ≤ c → a = 0 ∧ c = 0) (ha : 0 ≤ or2 a b) (hb : 0 ≤ or2 c d) : 0 ≤ or2 e f := by
  have pa : 0 ≤ a := by unfold or2 at ha; split at ha <;> omega
  have pc : 0 ≤ c := by unfold or2 at hb; split at hb <;> omega
  by_cases x : e = 0
  · obtain ⟨y1, y2⟩ := z1 x pa pc
    rw [y1, or2_z] at ha
    rw [y2, or2_z] at hb
    rw [x, or2_z]
    exact h2 ha hb
  · have := h1 pa pc
    rw [or2_ne x]; exact this
theorem sgn_ntrans {a b c : Int} (h1 : 0 ≤ sgn a b) (h2 : 0 ≤ sgn b c) : 0 ≤ sgn a c := by
  unfold sgn at *; repeat' split
  all_goals (repeat' split at h1)
  all_goals (repeat' split at h2)
  all_goals omega
theorem sgn_nz {a b c : Int} (h : sgn a c = 0) (h1 : 0 ≤ sgn a b) (h2 : 0 ≤ sgn b c) : sgn a b = 0 ∧ sgn b c = 0 := by
  unfold sgn at *
  repeat' split at h
  all_goals (repeat' split at h1)
  all_goals (repeat' split at h2)
  all_goals (first | omega | (constructor <;> (repeat' split) <;> omega))
theorem lcmp_nz {a b c : List Int} (h : lcmp a c = 0) (h1 : 0 ≤ lcmp a b) (h2 : 0 ≤ lcmp b c) : lcmp a b = 0 ∧ lcmp b c = 0 := by
  have e := (lcmp_zero a c).1 h
  subst e
  have := lcmp_flip a b
  omega
theorem dcf_ntrans {x y z : Dv} (h1 : 0 ≤ dcf x y) (h2 : 0 ≤ dcf y z) : 0 ≤ dcf x z :=
  or2_ntrans sgn_ntrans (or2_ntrans (lcmp_ntrans _ _ _) (or2_ntrans sgn_ntrans sgn_ntrans sgn_nz) lcmp_nz) sgn_nz h1 h2
theorem dlt_false {x y : Dv} : dlt x y = false ↔ 0 ≤ dcf x y := by simp [dlt]
theorem dlt_swo : SWO dlt where
  irrefl x := by rw [dlt_false, dcf_zero.2 rfl]; exact Int.le_refl _
  ntrans x y z h1 h2 := dlt_false.2 (dcf_ntrans (dlt_false.1 h1) (dlt_false.1 h2))
  trans x y z h1 h2 := by
    simp only [dlt, decide_eq_true_eq] at *
    have f1 := dcf_flip x y; have f2 := dcf_flip y z; have f3 := dcf_flip x z
    have a1 := @dcf_ntrans z y x (by omega) (by omega)
    by_cases e : dcf x z = 0
    · have := dcf_zero.1 e; subst this; omega
    · omega
theorem dltP_swo : SWO dltP where
  irrefl x := dlt_swo.irrefl _
  trans x y z := dlt_swo.trans _ _ _
  ntrans x y z := dlt_swo.ntrans _ _ _
def srtD (ds : List Dv) : List Dv := ds.mergeSort (fun x y => !dlt y x)
theorem srtD_perm (ds : List Dv) : (srtD ds).Perm ds := List.mergeSort_perm _ _
theorem length_srtD (ds : List Dv) : (srtD ds).length = ds.length := (srtD_perm ds).length_eq
theorem srtD_pairwise (ds : List Dv) : (srtD ds).Pairwise (fun x y => dlt y x = false) := by
  have h := List.pairwise_mergeSort (le := fun x y => !dlt y x) (fun a b c h1 h2 => by
    simp only [Bool.not_eq_true'] at *
    exact dlt_swo.ntrans _ _ _ h2 h1) (fun a b => by
    have := dcf_flip a b
    simp [dlt]; omega) ds
  exact h.imp (fun h => by simpa using h)
theorem srtD_of {ds es : List Dv} (h : es.Perm ds) (hs : es.Pairwise (fun x y => dlt y x = false)) : es = srtD ds :=
  List.Perm.eq_of_pairwise (fun a b _ _ h1 h2 => by
    rw [dlt_false] at h1 h2
    have := dcf_flip a b
    exact dcf_zero.1 (by omega)) hs (srtD_pairwise ds) (h.trans (srtD_perm ds).symm)
/- A row of devices that is put in order in place: what lies in memory. -/
open Go.Sort (swp PermIn SortedIn SWO size_swp swp_get swp_other swp_left swp_right)
def RowC (w : World) (g : Nat) (d : Array (Dv × Nat)) (cs : Array Value) : Prop := ∀ i, i < d.size → (∃ pv, Cs4 cs i (.int .i64 d[i]!.1.kind) pv (.int .i64 d[i]!.1.wd) (.int .i64 d[i]!.1.len) ∧ OwnR w d[i]!.2 (d[i]!.2 + 1) pv d[i]!.1.pins) ∧ d[i]!.2 ≠ g
def DRow (w : World) (g : Nat) (d : Array (Dv × Nat)) : Prop := ∃ cs, Blk w g cs 62 ∧ RowC w g d cs
section
variable {w w' : World} {g : Nat} {d d' : Array (Dv × Nat)} {cs : Array Value}
theorem RowC.past (hb : Within g (g + 1) w w') (h : RowC w g d cs) : RowC w' g d cs := fun i hi => by
  obtain ⟨⟨pv, a, b⟩, c⟩ := h i hi
  exact ⟨⟨pv, a, b.past hb (by omega)⟩, c⟩
theorem Within.ofBelow {lo hi : Nat} (h : Below w.heap.size w w') : Within lo hi w w' := ⟨h.os, h.tape, h.output, h.size, fun k hk _ => h.block k hk⟩
theorem DRow.by (hb : Below w.heap.size w w') (h : DRow w g d) : DRow w' g d := by
  obtain ⟨cs, a, b⟩ := h
  exact ⟨cs, Blk.by hb a, b.past (Within.ofBelow hb)⟩
theorem DRow.lt (h : DRow w g d) : g < w.heap.size := by obtain ⟨cs, a, b⟩ := h; exact a.lt
theorem RowC.swp (h : RowC w g d cs) {i j : Nat} (hi : i < d.size) (hj : j < d.size) (hij : i ≠ j) {pi pj : Value}
    (hci : Cs4 cs i (.int .i64 d[i]!.1.kind) pi (.int .i64 d[i]!.1.wd) (.int .i64 d[i]!.1.len)) (hoi : OwnR w d[i]!.2 (d[i]!.2 + 1) pi d[i]!.1.pins)
    (hcj : Cs4 cs j (.int .i64 d[j]!.1.kind) pj (.int .i64 d[j]!.1.wd) (.int .i64 d[j]!.1.len)) (hoj : OwnR w d[j]!.2 (d[j]!.2 + 1) pj d[j]!.1.pins) :
    RowC w g (swp d i j) (set4 (set4 cs i (.int .i64 d[j]!.1.kind) pj (.int .i64 d[j]!.1.wd) (.int .i64 d[j]!.1.len)) j (.int .i64 d[i]!.1.kind) pi (.int .i64 d[i]!.1.wd) (.int .i64 d[i]!.1.len)) := by
  intro k hk
  rw [size_swp] at hk
  have si := (Array.getElem?_eq_some_iff.1 hci.2.2.2).1
  have sj := (Array.getElem?_eq_some_iff.1 hcj.2.2.2).1
  have sz : ∀ (cs : Array Value) (k : Nat) (a b c d : Value), (set4 cs k a b c d).size = cs.size := fun cs k a b c d => by simp [set4]
  by_cases e1 : k = j
  · subst e1
    rw [swp_right d i k hj]
    exact ⟨⟨pi, set4_same _ _ _ _ _ _ (by rw [sz]; exact sj), hoi⟩, (h i hi).2⟩
  · by_cases e2 : k = i
    · subst e2
      rw [swp_left d k j hi hij]
      refine ⟨⟨pj, (set4_same cs k (.int .i64 d[j]!.1.kind) pj (.int .i64 d[j]!.1.wd) (.int .i64 d[j]!.1.len) si).at_ (fun q h1 h2 => set4_other _ _ _ _ _ _ _ (by omega)), hoj⟩, (h j hj).2⟩
    · rw [swp_other d i j k e2 e1]
      obtain ⟨⟨pv, a, b⟩, c⟩ := h k hk
      exact ⟨⟨pv, a.at_ (fun q h1 h2 => by rw [set4_other _ _ _ _ _ _ _ (by omega), set4_other _ _ _ _ _ _ _ (by omega)]), b⟩, c⟩
theorem getBang (d : Array (Dv × Nat)) (i : Nat) (h : i < d.size) : d[i]! = d[i] := by simp [h]
theorem list_getBang (d : Array (Dv × Nat)) (i : Nat) (p : Dv × Nat) (h : d.toList[i]? = some p) : i < d.size ∧ d[i]! = p := by
  have hi : i < d.size := by have := (List.getElem?_eq_some_iff.1 h).1; simpa using this
  refine ⟨hi, ?_⟩
  rw [getBang d i hi]
  rw [List.getElem?_eq_getElem (by simpa using hi)] at h
  simpa using h
theorem OwnDs.row {lo hi : Nat} {sv : Value} {ds : List Dv} (h : OwnDs w lo hi sv ds) (hne : ds ≠ []) :
    ∃ (g cap : Nat) (d : Array (Dv × Nat)), sv = .slice (some ⟨g, 0, none⟩) d.size cap ∧ d.size = ds.length ∧ (lo ≤ g ∧ g < hi) ∧ ds.length ≤ cap ∧ cap ≤ maxLen ∧ DRow w g d ∧ d.toList.map (·.1) = ds ∧ (d.toList.map (·.2)).Nodup ∧ (∀ p ∈ d.toList, lo ≤ p.2 ∧ p.2 < hi ∧ p.2 ≠ g) := by
  rcases h with ⟨_, _, _, h⟩ | ⟨g, cap, cs, f, h1, h2, h3, h4, h5, h6, h7⟩
  · exact absurd h hne
  · have hsz : ((List.range ds.length).map fun i => (ds.getD i default, f i)).toArray.size = ds.length := by simp
    have hget : ∀ i (hi : i < ds.length), ((List.range ds.length).map fun i => (ds.getD i default, f i)).toArray[i]! = (ds[i], f i) := by
      intro i hi
      rw [getBang _ _ (by rw [hsz]; exact hi)]
      simp [hi]
    refine ⟨g, cap, ((List.range ds.length).map fun i => (ds.getD i default, f i)).toArray, by rw [hsz]; exact h1, hsz, h2, h3, h4, ⟨cs, h5, fun i hi => ?_⟩, ?_, ?_, ?_⟩
    · rw [hsz] at hi
      rw [hget i hi]
      obtain ⟨⟨pv, a, b⟩, c⟩ := h6 i ds[i] (List.getElem?_eq_getElem hi)
      exact ⟨⟨pv, a, b⟩, c.2.2⟩
    · apply List.ext_getElem?
      intro i
      by_cases hi : i < ds.length
      · simp [hi]
      · simp [hi]
    · rw [List.nodup_iff_pairwise_ne, List.pairwise_iff_getElem]
      intro i j hi hj hij
      simp at hi hj ⊢
      exact h7 i j hi hj (by omega)
    · intro p hp
      simp at hp
      obtain ⟨i, hi, rfl⟩ := hp
      exact (h6 i ds[i] (List.getElem?_eq_getElem hi)).2
theorem DRow.own {lo hi cap : Nat} (h : DRow w g d) (hg : lo ≤ g ∧ g < hi) (h1 : d.size ≤ cap) (h2 : cap ≤ maxLen) (hn : (d.toList.map (·.2)).Nodup) (hb : ∀ p ∈ d.toList, lo ≤ p.2 ∧ p.2 < hi ∧ p.2 ≠ g) :
    OwnDs w lo hi (.slice (some ⟨g, 0, none⟩) d.size cap) (d.toList.map (·.1)) := by
  obtain ⟨cs, hB, hR⟩ := h
  refine .inr ⟨g, cap, cs, fun i => d[i]!.2, by simp, hg, by simpa using h1, h2, hB, fun i x hx => ?_, fun i j hi hj hij => ?_⟩
  · rw [List.getElem?_map] at hx
    obtain ⟨p, hp, rfl⟩ : ∃ p, d.toList[i]? = some p ∧ p.1 = x := by
      cases h : d.toList[i]? with
      | none => rw [h] at hx; simp at hx
      | some p => rw [h] at hx; exact ⟨p, rfl, by simpa using hx⟩
    obtain ⟨hi, e⟩ := list_getBang d i p hp
    obtain ⟨⟨pv, a, b⟩, c⟩ := hR i hi
    rw [e] at a b
    dsimp only
    rw [e]
    exact ⟨⟨pv, a, b⟩, hb p (List.mem_of_getElem? hp)⟩
  · simp at hi hj
    rw [List.nodup_iff_pairwise_ne, List.pairwise_iff_getElem] at hn
    dsimp only
    rw [getBang d i hi, getBang d j hj]
    rcases Nat.lt_or_gt_of_ne hij with h | h
    · have := hn i j (by simpa using hi) (by simpa using hj) h
      simpa using this
    · have := hn j i (by simpa using hj) (by simpa using hi) h
      simpa using this.symm
theorem PermIn.list (h : PermIn 0 d.size d d') : d'.toList.Perm d.toList := by
  have h3 := h.2.2
  have e1 : (d'.extract 0 d.size) = d' := by rw [← h.1]; simp
  have e2 : (d.extract 0 d.size) = d := by simp
  rwa [e1, e2] at h3
theorem SortedIn.list (h : SortedIn dltP 0 d.size d) : (d.toList.map (·.1)).Pairwise (fun x y => dlt y x = false) := by
  rw [List.pairwise_map, List.pairwise_iff_getElem]
  intro i j hi hj hij
  have := h i j (Nat.zero_le _) hij (by simpa using hj)
  rw [getBang d i (by simpa using hi), getBang d j (by simpa using hj)] at this
  simpa [dltP] using this
end
theorem swap_cells {w : World} {g : Nat} {cs : Array Value} {T : TypeId} (h : Blk w g cs T) (i j : Nat) (a b c d a' b' c' d' : Value) :
    ∃ W, W = ((((((((w.setCell ⟨g, i * 4, none⟩ a).setCell ⟨g, i * 4 + 1, none⟩ b).setCell ⟨g, i * 4 + 2, none⟩ c).setCell ⟨g, i * 4 + 3, none⟩ d).setCell ⟨g, j * 4, none⟩ a').setCell ⟨g, j * 4 + 1, none⟩ b').setCell ⟨g, j * 4 + 2, none⟩ c').setCell ⟨g, j * 4 + 3, none⟩ d').drew ∧
      Blk W g (set4 (set4 cs i a b c d) j a' b' c' d') T ∧ Within g (g + 1) w W :=
  ⟨_, rfl, ((((((((h.set _ _).set _ _).set _ _).set _ _).set _ _).set _ _).set _ _).set _ _).drew,
    (((((((((Within.off _).on (Within.off _)).on (Within.off _)).on (Within.off _)).on (Within.off _)).on (Within.off _)).on (Within.off _)).on (Within.off _)).on (Within.ofBelow ((Below.refl _ _).drew)))⟩
def DCmp (gf : Nat) (lb : Array Value) : Prop := ∀ (W : World) (x y : Dv) (sx sy : Value), IntSl W sx x.pins → IntSl W sy y.pins → Calls Tryz.prog gf (#[.agg #[.int .i64 x.kind, sx, .int .i64 x.wd, .int .i64 x.len], .agg #[.int .i64 y.kind, sy, .int .i64 y.wd, .int .i64 y.len]] ++ lb) W fun e w' => e = .returned (.int .i64 (dcf x y)) ∧ Below W.heap.size W w'
/- slices.SortStableFunc's own functions at devices: exchanging two ranges. -/
/- slices.SortStableFunc's own functions at devices: the insertion sort. -/
open Go.Sort (swp PermIn SortedIn SWO size_swp swp_get swp_other swp_left swp_right Ins)
set_option maxRecDepth 100000 in
set_option maxHeartbeats 4000000 in
theorem insSort_any (gf : Nat) (lb : Array Value) (eg : ∀ args w, (callFunc gf args).run Tryz.prog w = .ok (.enter gf args) w) (hc : DCmp gf lb) (g cap a b : Nat) (d : Array (Dv × Nat)) (w : World) (h : DRow w g d) (hab : a ≤ b) (hbd : b ≤ d.size) (hsz : d.size ≤ 1000) (hcap : d.size ≤ cap) :
    Calls Tryz.prog 200 #[.slice (some ⟨g, 0, none⟩) d.size cap, .int .i64 a, .int .i64 b, .func (.func gf) #[] lb] w fun e w' =>
      e = .returned (.tuple #[]) ∧ ∃ d', DRow w' g d' ∧ SortedIn dltP a b d' ∧ PermIn a b d d' ∧ Within g (g + 1) w w' := by
  have HR0 := Lib.hid h
  have HC := Lib.hid hc
  have HP0 := Lib.hid (PermIn.refl' a b d)
  have HS0 := Lib.hid (SortedIn.one dltP_swo (a := a) (b := a + 1) d (Nat.le_refl _))
  clear h hc
  go_enter Tryz.func200, Tryz.ntmps200
  go_wp2
  go_loopw [8] (fun vi wr => ∃ (i : Nat) (dk : Array (Dv × Nat)), a < i ∧ i ≤ b + 1 ∧ vi = .int .i64 i ∧ Hid (dk.size = d.size) ∧ Hid (DRow wr g dk) ∧ Hid (SortedIn dltP a i dk) ∧ Hid (PermIn a b d dk) ∧ Within g (g + 1) w wr) (fun vi _ => b + 1 - (intOf vi).toNat)
  case atStart => exact ⟨a + 1, d, by omega, by omega, by go_num, Lib.hid rfl, HR0, HS0, HP0, Within.refl _ _ _⟩
  case round =>
    clear HR0 HS0 HP0
    obtain ⟨i, dk, hai, hib, rfl, HS, HR, HT, HP, hW⟩ := hrel
    by_cases hlt : i < b
    · have HI0 := Lib.hid (show Ins dltP a i i dk from ⟨fun p q hp hpq hq _ hqi => HT.out p q hp hpq (by omega), fun q h1 h2 => by omega⟩)
      have i1 : (i : Int) < (b : Int) := by omega
      obtain ⟨wo, rfl⟩ : ∃ wo, wo = wr := ⟨_, rfl⟩
      go_wp2
      go_loopw [9] (fun vj wr => ∃ (j : Nat) (dj : Array (Dv × Nat)), a ≤ j ∧ j ≤ i ∧ vj = .int .i64 j ∧ Hid (dj.size = d.size) ∧ Hid (DRow wr g dj) ∧ Hid (Ins dltP a j i dj) ∧ Hid (PermIn a b d dj) ∧ Within g (g + 1) w wr) (fun vj _ => (intOf vj).toNat)
      case atStart => exact ⟨i, dk, by omega, Nat.le_refl _, rfl, HS, HR, HI0, HP, hW⟩
      case round =>
        clear HS HR HI0 HP hW HT
        obtain ⟨j, dj, haj, hji, rfl, HS, HR, HI, HP, hW⟩ := hrel
        by_cases hja : a < j
        · obtain ⟨jp, rfl⟩ : ∃ jp, j = jp + 1 := ⟨j - 1, by omega⟩
          obtain ⟨cs, hB, hRC⟩ := HR.out
          obtain ⟨⟨pi, hci, hoi⟩, _⟩ := hRC (jp + 1) (by rw [HS.out]; omega)
          obtain ⟨⟨pj, hcj, hoj⟩, _⟩ := hRC jp (by rw [HS.out]; omega)
          have HRS := Lib.hid (RowC.swp hRC (i := jp + 1) (j := jp) (by rw [HS.out]; omega) (by rw [HS.out]; omega) (by omega) hci hoi hcj hoj)
          have HPS := Lib.hid (PermIn.swp HP.out (i := jp + 1) (j := jp) (by omega) (by omega) (by omega) (by omega) hbd)
          have HSS := Lib.hid (show (swp dj (jp + 1) jp).size = d.size by rw [size_swp]; exact HS.out)
          have HIS := Lib.hid (fun hl => Ins.step HI.out hl (by omega) (by rw [HS.out]; omega))
          have HIT := Lib.hid (fun hs => Ins.stop dltP_swo HI.out (.inr hs))
          have HCL := Lib.hid (fun W h1 h2 => HC.out W dj[jp + 1]!.1 dj[jp]!.1 pi pj h1 h2)
          simp only [Nat.add_sub_cancel] at HIT
          obtain ⟨a1, c1, rfl⟩ := hoi.sl.len
          obtain ⟨a2, c2, rfl⟩ := hoj.sl.len
          have HX := Lib.hid hoi.sl
          have HY := Lib.hid hoj.sl
          generalize swp dj (jp + 1) jp = ds at HRS HPS HSS HIS
          have HLT := Lib.hid (show dltP dj[jp + 1]! dj[jp]! = decide (dcf dj[jp + 1]!.1 dj[jp]!.1 < 0) from rfl)
          generalize dj[jp + 1]! = xi at *
          generalize dj[jp]! = xj at *
          obtain ⟨⟨ki, psi, wi, li⟩, fi⟩ := xi
          obtain ⟨⟨kj, psj, wj, lj⟩, fj⟩ := xj
          dsimp only at *
          generalize dltP (⟨ki, psi, wi, li⟩, fi) (⟨kj, psj, wj, lj⟩, fj) = lt at *
          generalize dcf ⟨ki, psi, wi, li⟩ ⟨kj, psj, wj, lj⟩ = r at *
          obtain ⟨ni, hni⟩ : ∃ ni, psi.length = ni := ⟨_, rfl⟩
          obtain ⟨nj, hnj⟩ : ∃ nj, psj.length = nj := ⟨_, rfl⟩
          rw [hni] at hci HRS HCL HX
          rw [hnj] at hcj HRS HCL HY
          obtain ⟨p0, p1, p2, p3⟩ := hci
          obtain ⟨q0, q1, q2, q3⟩ := hcj
          have hBc := hB.cell
          have hBl := hB.lt
          have i0 : (0 : Int) ≤ (jp : Int) + 1 := by omega
          have i2 : (jp : Int) + 1 < (d.size : Int) := by omega
          have i3 : (jp : Int) < (d.size : Int) := by omega
          have i4 : (a : Int) < (jp : Int) + 1 := by omega
          have ei : ((jp : Int) + 1).toNat = jp + 1 := by omega
          have wjp : IntKind.i64.wrap (jp : Int) = (jp : Int) := by rw [IntKind.wrap_i64]; omega
          have HRC := Lib.hid hRC
          clear hni hnj hoi hoj hRC
          by_cases hr : r < 0
          · have HLT2 := Lib.hid (HLT.out.trans (decide_eq_true hr))
            go_wp2_with fail
            go_region_held3 (fun w' => (Blk w' g cs 62 ∧ ∀ o, w'.cell? ⟨g, o, none⟩ = cs[o]?) ∧ Below wr.heap.size wr w') (((try (obtain ⟨⟨hS0, _⟩, hSB⟩ := hHeld)); refine ⟨Blk.both ?_, ?_⟩ <;> first | ((repeat (first | (with_reducible assumption) | (with_reducible refine Blk.drewN ?_ _) | (with_reducible refine Blk.drew ?_) | ((with_reducible refine Blk.new _ ?_); focus (first | omega | (simp; done) | (simp; omega))) | (with_reducible refine Blk.past ?_ _) | ((with_reducible refine Blk.apart ?_ _ _ _ ?_); rotate_left; focus (first | omega | (simp; done) | (simp; omega))) | (with_reducible refine Blk.by (by assumption) ?_))); done) | ((repeat (first | (with_reducible exact Below.refl _ _) | (with_reducible refine below_drewN ?_ _) | (with_reducible refine Below.drew ?_) | (with_reducible refine below_al ?_ _) | (with_reducible refine below_on (by assumption) ?_) | ((with_reducible refine Below.setCell ?_ ?_ _); rotate_left; focus (first | omega | (simp; done) | (simp; omega))) | (with_reducible assumption))); done)))
              (first | (go_at_fn gf; refine (HCL.out _ (HX.out.by blwT) (HY.out.by blwT)).mono ?_; rintro e w1 ⟨rfl, hb1⟩))
            all_goals
              have hb2 : Below wr.heap.size wr w1 := blwT
              have kB := Blk.by hb2 hB
              have hBc1 := kB.cell
              have hBf1 := kB.free
              have hBl1 := kB.lt
              clear hBc hBl
              go_wp2_with fail
              go_region
              all_goals go_wp2_with fail
              obtain ⟨W8, hW8, hB8, hWW⟩ := swap_cells kB (jp + 1) jp (.int .i64 kj) (.slice a2 nj c2) (.int .i64 wj) (.int .i64 lj) (.int .i64 ki) (.slice a1 ni c1) (.int .i64 wi) (.int .i64 li)
              rw [← hW8]
              have hW9 := (Within.ofBelow (lo := g) (hi := g + 1) hb2).on hWW
              exact ⟨⟨jp, ds, by omega, by omega, by rfl, HSS, Lib.hid ⟨_, hB8, HRS.out.past hW9⟩, Lib.hid (HIS.out HLT2.out), HPS, hW.on hW9⟩, by simp [intOf]⟩
          · have HLT2 := Lib.hid (HLT.out.trans (decide_eq_false hr))
            have HR1 := HR
            go_wp2_with fail
            go_region_held3 (fun w' => (Blk w' g cs 62 ∧ ∀ o, w'.cell? ⟨g, o, none⟩ = cs[o]?) ∧ Below wr.heap.size wr w') (((try (obtain ⟨⟨hS0, _⟩, hSB⟩ := hHeld)); refine ⟨Blk.both ?_, ?_⟩ <;> first | ((repeat (first | (with_reducible assumption) | (with_reducible refine Blk.drewN ?_ _) | (with_reducible refine Blk.drew ?_) | ((with_reducible refine Blk.new _ ?_); focus (first | omega | (simp; done) | (simp; omega))) | (with_reducible refine Blk.past ?_ _) | ((with_reducible refine Blk.apart ?_ _ _ _ ?_); rotate_left; focus (first | omega | (simp; done) | (simp; omega))) | (with_reducible refine Blk.by (by assumption) ?_))); done) | ((repeat (first | (with_reducible exact Below.refl _ _) | (with_reducible refine below_drewN ?_ _) | (with_reducible refine Below.drew ?_) | (with_reducible refine below_al ?_ _) | (with_reducible refine below_on (by assumption) ?_) | ((with_reducible refine Below.setCell ?_ ?_ _); rotate_left; focus (first | omega | (simp; done) | (simp; omega))) | (with_reducible assumption))); done)))
              (first | (go_at_fn gf; refine (HCL.out _ (HX.out.by blwT) (HY.out.by blwT)).mono ?_; rintro e w1 ⟨rfl, hb1⟩))
            all_goals
              have hb2 : Below wr.heap.size wr w1 := blwT
              go_wp2_with fail
              exact ⟨⟨i + 1, dj, by omega, by omega, by go_num, HS, Lib.hid (HR.out.by hb2), Lib.hid (HIT.out HLT2.out), HP, hW.on (Within.ofBelow hb2)⟩, by simp [intOf]; omega⟩
        · obtain rfl : j = a := by omega
          have i4 : decide ((j : Int) > (j : Int)) = false := by simp
          have HIT := Lib.hid (Ins.stop dltP_swo HI.out (.inl (Nat.le_refl _)))
          go_wp2_with fail
          go_region
          all_goals
            go_wp2_with fail
            exact ⟨⟨i + 1, dj, by omega, by omega, by go_num, HS, Lib.hid (HR.out.by (below_of_drewN _ 1)), HIT, HP, hW.on (Within.ofBelow (below_of_drewN _ 1))⟩, by simp [intOf]; omega⟩
    · have i1 : ¬ (i : Int) < (b : Int) := by omega
      go_wp2
      go_end0
      exact ⟨by rfl, dk, HR.out, SortedIn.sub HT.out (Nat.le_refl _) (by omega), HP.out, hW⟩
/- slices.SortStableFunc's own functions at devices: the merge of two sorted parts, one of which has one element. -/
/- slices.SortStableFunc's own functions at devices: the merge of two sorted parts. -/
/- slices.SortStableFunc at fewer than 40 devices. -/
/- slices.SortStableFunc at fewer than 40 devices: as a whole. -/
abbrev Tr := Dv × Value × Nat
def tcell (t : Tr) : List Value := [.int .i64 t.1.kind, t.2.1, .int .i64 t.1.wd, .int .i64 t.1.len]
def tcells (L : List Tr) : List Value := L.flatMap tcell
theorem tcells_append (L M : List Tr) : tcells (L ++ M) = tcells L ++ tcells M := List.flatMap_append
theorem length_tcells (L : List Tr) : (tcells L).length = L.length * 4 := by
  induction L with
  | nil => rfl
  | cons t L ih => show (tcell t ++ tcells L).length = _; rw [List.length_append, ih, List.length_cons]; show 4 + _ = _; omega
theorem tcells_take (L : List Tr) (q : Nat) : tcells (L.take q) = (tcells L).take (q * 4) := by
  have h1 : tcells L = tcells (L.take q) ++ tcells (L.drop q) := by rw [← tcells_append, List.take_append_drop]
  by_cases hq : q ≤ L.length
  · conv => rhs; rw [h1]
    exact (List.take_left' (by rw [length_tcells, List.length_take]; omega)).symm
  · rw [List.take_of_length_le (by omega), List.take_of_length_le (by rw [length_tcells]; omega)]
theorem tcells_drop (L : List Tr) (q : Nat) : tcells (L.drop q) = (tcells L).drop (q * 4) := by
  have h1 : tcells L = tcells (L.take q) ++ tcells (L.drop q) := by rw [← tcells_append, List.take_append_drop]
  by_cases hq : q ≤ L.length
  · conv => rhs; rw [h1]
    exact (List.drop_left' (by rw [length_tcells, List.length_take]; omega)).symm
  · rw [List.drop_eq_nil_of_le (by omega), List.drop_eq_nil_of_le (by rw [length_tcells]; omega)]
    rfl
theorem tcells_get (L : List Tr) (i : Nat) (t : Tr) (h : L[i]? = some t) : (tcells L)[i * 4]? = some (.int .i64 t.1.kind) ∧ (tcells L)[i * 4 + 1]? = some t.2.1 ∧ (tcells L)[i * 4 + 2]? = some (.int .i64 t.1.wd) ∧ (tcells L)[i * 4 + 3]? = some (.int .i64 t.1.len) := by
  induction L generalizing i with
  | nil => simp at h
  | cons y ys ih =>
    cases i with
    | zero => simp at h; subst h; exact ⟨rfl, rfl, rfl, rfl⟩
    | succ i =>
      simp at h
      have e : ∀ r, (tcells (y :: ys))[(i + 1) * 4 + r]? = (tcells ys)[i * 4 + r]? := by
        intro r
        show (Value.int .i64 y.1.kind :: y.2.1 :: Value.int .i64 y.1.wd :: Value.int .i64 y.1.len :: tcells ys)[(i + 1) * 4 + r]? = _
        rw [show (i + 1) * 4 + r = (i * 4 + r) + 1 + 1 + 1 + 1 by omega]
        simp only [List.getElem?_cons_succ]
      have e0 := e 0
      simp only [Nat.add_zero] at e0
      rw [e0, e 1, e 2, e 3]
      exact ih i h
theorem tcells_one {L : List Tr} (h : ∀ t ∈ L, t.2.1.oneCell' = true) : ∀ u ∈ tcells L, u.oneCell' = true := by
  intro u hu
  obtain ⟨t, ht, hu⟩ := List.mem_flatMap.1 hu
  simp [tcell] at hu
  rcases hu with rfl | rfl | rfl | rfl
  · rfl
  · exact h t ht
  · rfl
  · rfl
def Asc (L : List Tr) : Prop := L.Pairwise (fun x y => dlt y.1 x.1 = false)
theorem Asc.insert {L : List Tr} (h : Asc L) (x : Tr) (q : Nat) (hq : q ≤ L.length) (hl : q = 0 ∨ ∀ y, L[q - 1]? = some y → dlt x.1 y.1 = false) (hr : ∀ i y, q ≤ i → L[i]? = some y → dlt x.1 y.1 = true) : Asc (L.take q ++ (x :: L.drop q)) := by
  unfold Asc at *
  rw [List.pairwise_append]
  refine ⟨h.sublist (List.take_sublist _ _), ?_, fun a ha b hb => ?_⟩
  · rw [List.pairwise_cons]
    refine ⟨fun y hy => ?_, h.sublist (List.drop_sublist _ _)⟩
    obtain ⟨j, hj⟩ := List.mem_iff_getElem?.1 hy
    rw [List.getElem?_drop] at hj
    exact dlt_swo.asymmA (hr _ y (by omega) hj)
  · obtain ⟨i, hi⟩ := List.mem_iff_getElem?.1 ha
    have hil : i < q := by have := (List.getElem?_eq_some_iff.1 hi).1; simp at this; omega
    rw [List.getElem?_take_of_lt hil] at hi
    have hx : dlt x.1 a.1 = false := by
      rcases hl with hl | hl
      · omega
      · obtain ⟨y, hy⟩ : ∃ y, L[q - 1]? = some y := ⟨L[q - 1]'(by omega), List.getElem?_eq_getElem _⟩
        by_cases e : i = q - 1
        · subst e; exact hl a hi
        · have h1 := List.pairwise_iff_getElem.1 h i (q - 1) (by omega) (by omega) (by omega)
          obtain ⟨_, e1⟩ := List.getElem?_eq_some_iff.1 hi
          obtain ⟨_, e2⟩ := List.getElem?_eq_some_iff.1 hy
          rw [e1, e2] at h1
          exact dlt_swo.ntrans _ _ _ (hl y hy) h1
    rcases List.mem_cons.1 hb with rfl | hb
    · exact hx
    · obtain ⟨j, hj⟩ := List.mem_iff_getElem?.1 hb
      rw [List.getElem?_drop] at hj
      obtain ⟨_, e1⟩ := List.getElem?_eq_some_iff.1 hi
      obtain ⟨hj', e2⟩ := List.getElem?_eq_some_iff.1 hj
      have h1 := List.pairwise_iff_getElem.1 h i (q + j) (by omega) hj' (by omega)
      rw [e1, e2] at h1
      exact h1
theorem insert_perm {α : Type} (L : List α) (x : α) (q : Nat) : (L.take q ++ (x :: L.drop q)).Perm (L ++ [x]) := by
  have h : (L.take q ++ (x :: L.drop q)).Perm (x :: (L.take q ++ L.drop q)) := List.perm_middle
  rw [List.take_append_drop] at h
  exact h.trans (List.perm_append_comm (l₁ := [x]) (l₂ := L))
def Out (w : World) (lo : Nat) (v : Value) (L : List Tr) : Prop := lo ≤ w.heap.size ∧ w.ownsRow lo 62 4 v L.length (tcells L) ∧
  (∀ t ∈ L, (OwnR w t.2.2 (t.2.2 + 1) t.2.1 t.1.pins ∧ lo ≤ t.2.2 ∧ t.2.2 < w.heap.size) ∧ v.ownBlock ≠ some t.2.2) ∧ (L.map (·.2.2)).Nodup
section
variable {w w' : World} {lo : Nat} {v : Value} {L : List Tr}
theorem Out.by (hb : Below w.heap.size w w') (h : Out w lo v L) : Out w' lo v L := by
  obtain ⟨h0, h1, h2, h3⟩ := h
  refine ⟨Nat.le_trans h0 hb.size, row_same h1 (fun g hg => hb.block g (h1.lt g hg).2), fun t ht => ?_, h3⟩
  obtain ⟨⟨a, b, c⟩, d⟩ := h2 t ht
  exact ⟨⟨OwnR.by hb a, b, Nat.lt_of_lt_of_le c hb.size⟩, d⟩
theorem Out.sized (h : Out w lo v L) : ∃ a c, v = .slice a L.length c := by
  obtain ⟨_, ⟨_, h1⟩, _⟩ := h
  rcases h1 with ⟨h1, h2⟩ | ⟨g, cap, cur, e1, _⟩
  · exact ⟨none, 0, by rw [h1, h2]⟩
  · exact ⟨_, _, e1⟩
theorem row_cur {g cap n : Nat} {cur : Array Value} {xs : List Value} (e7 : cur.toList.take (n * 4) = xs) : ∀ (j : Nat) u, xs[j]? = some u → cur[j]? = some u := by
  intro j u hu
  rw [← e7] at hu
  have hj : j < n * 4 := by
    have := (List.getElem?_eq_some_iff.1 hu).1
    rw [List.length_take] at this; omega
  rw [List.getElem?_take_of_lt hj] at hu
  simpa using hu
theorem Out.own (h : Out w lo v L) : OwnDs w lo w.heap.size v (L.map (·.1)) := by
  obtain ⟨h0, ⟨hlen, h1⟩, h2, h3⟩ := h
  rcases h1 with ⟨h1, hn⟩ | ⟨g, cap, cur, e1, e2, e3, e4, e5, e6, e7⟩
  · exact .inl ⟨_, _, h1, by rw [List.eq_nil_of_length_eq_zero hn]; rfl⟩
  · have hcur := row_cur (g := g) (cap := cap) e7
    have hgl : g < w.heap.size := (Array.getElem?_eq_some_iff.1 e3).1
    refine .inr ⟨g, cap, cur, fun i => (L.getD i default).2.2, by simpa using e1, ⟨e2, hgl⟩, by simpa using e4, e5, e3, fun i x hx => ?_, fun i j hi hj hij => ?_⟩
    · rw [List.getElem?_map] at hx
      obtain ⟨t, ht, rfl⟩ : ∃ t, L[i]? = some t ∧ t.1 = x := by
        cases h : L[i]? with
        | none => rw [h] at hx; simp at hx
        | some t => rw [h] at hx; exact ⟨t, rfl, by simpa using hx⟩
      have hgD : L.getD i default = t := by simp [ht]
      dsimp only
      rw [hgD]
      obtain ⟨⟨a, b, c⟩, d⟩ := h2 t (List.mem_of_getElem? ht)
      obtain ⟨q0, q1, q2, q3⟩ := tcells_get L i t ht
      exact ⟨⟨t.2.1, ⟨hcur _ _ q0, hcur _ _ q1, hcur _ _ q2, hcur _ _ q3⟩, a⟩, b, c, fun e => d (by rw [e1, e]; rfl)⟩
    · simp at hi hj
      have hn := List.pairwise_iff_getElem.1 (List.nodup_iff_pairwise_ne.1 h3)
      have e1 : L.getD i default = L[i] := by simp [hi]
      have e2 : L.getD j default = L[j] := by simp [hj]
      dsimp only
      rw [e1, e2]
      rcases Nat.lt_or_gt_of_ne hij with h | h
      · have := hn i j (by simpa using hi) (by simpa using hj) h
        simpa using this
      · have := hn j i (by simpa using hj) (by simpa using hi) h
        simpa using this.symm
theorem row_news {g c n : Nat} (h1 : w.ownsRow lo 62 4 (.slice (some ⟨g, 0, none⟩) n c) n (tcells L)) (q : Nat) : ∀ (j : Nat) (u : Value), (tcells (L.drop q))[j]? = some u → w.cell? ((⟨g, q * 4, none⟩ : Addr).add j) = some u := by
  intro j u hu
  rw [tcells_drop, List.getElem?_drop] at hu
  rw [Addr.add_lit]
  have := h1.cells rfl _ _ hu
  rw [Addr.add_lit] at this
  simpa using this
theorem row_news0 {g c n : Nat} (h1 : w.ownsRow lo 62 4 (.slice (some ⟨g, 0, none⟩) n c) n (tcells L)) (q : Nat) : ∀ (j : Nat) (u : Value), (tcells (L.take q))[j]? = some u → w.cell? ((⟨g, 0, none⟩ : Addr).add j) = some u := by
  intro j u hu
  rw [tcells_take] at hu
  have hj : j < q * 4 := by
    have := (List.getElem?_eq_some_iff.1 hu).1
    rw [List.length_take] at this; omega
  rw [List.getElem?_take_of_lt hj] at hu
  exact h1.cells rfl _ _ hu
theorem Out.one (h : Out w lo v L) : ∀ t ∈ L, t.2.1.oneCell' = true := by
  intro t ht
  obtain ⟨⟨a, b, c⟩, d⟩ := h.2.2.1 t ht
  rcases a with ⟨_, _, e, _⟩ | ⟨_, _, _, e, _⟩ <;> rw [e] <;> rfl
end
theorem Out.insert {w w' : World} {lo k q f g c : Nat} {v pv : Value} {x : Dv} {L : List Tr} (h : Out w lo v L) (hk : L.length = k) (hb : Below w.heap.size w w') (hq : q ≤ k) (hf : OwnR w' f (f + 1) pv x.pins) (hf1 : w.heap.size ≤ f) (hf2 : f < w'.heap.size) (hg : w.heap.size ≤ g) (hgf : g ≠ f)
    (hr : w'.ownsRow lo 62 4 (.slice (some ⟨g, 0, none⟩) (k + 1) c) (k + 1) (tcells (L.take q) ++ (tcells [(x, pv, f)] ++ tcells (L.drop q)))) : Out w' lo (.slice (some ⟨g, 0, none⟩) (k + 1) c) (L.take q ++ ((x, pv, f) :: L.drop q)) := by
  obtain ⟨h0, h1, h2, h3⟩ := h
  have hp := insert_perm L (x, pv, f) q
  refine ⟨Nat.le_trans h0 hb.size, ?_, fun t ht => ?_, ?_⟩
  · rw [hp.length_eq, List.length_append, List.length_singleton, hk, tcells_append]
    exact hr
  · rcases List.mem_append.1 (hp.mem_iff.1 ht) with ht | ht
    · obtain ⟨⟨a, b, c⟩, d⟩ := h2 t ht
      refine ⟨⟨OwnR.by hb a, b, Nat.lt_of_lt_of_le c hb.size⟩, fun e => ?_⟩
      have : g = t.2.2 := by injection e
      omega
    · obtain rfl : t = (x, pv, f) := by simpa using ht
      refine ⟨⟨hf, Nat.le_trans h0 hf1, hf2⟩, fun e => ?_⟩
      have : g = f := by injection e
      exact hgf this
  · rw [(hp.map (·.2.2)).nodup_iff, List.map_append, List.nodup_append]
    refine ⟨h3, by simp, fun a ha b hb' => ?_⟩
    obtain ⟨t, ht, rfl⟩ := List.mem_map.1 ha
    have := (h2 t ht).1.2.2
    simp at hb'
    omega
theorem step_appT {ops : Array Oper} {o : Oper} {a : Act} {w : World} {K : Act → World → Prop} {Q : Exit → Act → World → Prop} {E : Prop} (hgd : o.guard = none) (s x : Operand)
    (ho : o.op = .call { callee := .builtin .append, args := #[s, x], argTypes := #[32, 32] })
    (lo : Nat) (v : Value) (n : Nat) (xs : List Value) (hs : a.eval s = v) (h1 : w.ownsRow lo 62 4 v n xs) (p : Addr) (m c : Nat) (news : List Value) (hx : a.eval x = .slice (some p) m c)
    (hl : news.length = m * 4) (hnews : ∀ j u, news[j]? = some u → w.cell? (p.add j) = some u) (hone : ∀ u ∈ news, u.oneCell' = true) (hm : 0 < m) (hn : n + m ≤ 1000) (hlo : lo ≤ w.heap.size)
    (hK : ∀ g c w', w'.ownsRow lo 62 4 (.slice (some ⟨g, 0, none⟩) (n + m) c) (n + m) (xs ++ news) → w.grownBy w' v.ownBlock → (v.ownBlock = some g ∨ g = w.heap.size) → K (a.put o.dst (.slice (some ⟨g, 0, none⟩) (n + m) c)) w') :
    if Region.wanted o (yielded ops a.tmps) = true then Oper.wp Tryz.prog o a w K Q else E := by
  obtain ⟨i0, hi0, hz0, hz1, hz2⟩ := info_parts infoDev
  exact step_append_lies w hgd s x 32 ho lo 62 i0 _ 4 48 Tryz.underlying32 hi0 hz0 hz1 hz2 rfl (by decide) v n xs hs h1 p m c news hx hl hnews hone hm (by unfold maxLen; omega) (by omega) hlo w.heap.size rfl (fun g cap w' hrow hgrow hg _ => hK g cap w' hrow hgrow hg)
theorem list_appT {ops : Array Oper} {rest : List Oper} {o : Oper} {a : Act} {w : World} {Q : Exit → Act → World → Prop} (hgd : o.guard = none) (s x : Operand)
    (ho : o.op = .call { callee := .builtin .append, args := #[s, x], argTypes := #[32, 32] })
    (lo : Nat) (v : Value) (n : Nat) (xs : List Value) (hs : a.eval s = v) (h1 : w.ownsRow lo 62 4 v n xs) (p : Addr) (m c : Nat) (news : List Value) (hx : a.eval x = .slice (some p) m c)
    (hl : news.length = m * 4) (hnews : ∀ j u, news[j]? = some u → w.cell? (p.add j) = some u) (hone : ∀ u ∈ news, u.oneCell' = true) (hm : 0 < m) (hn : n + m ≤ 1000) (hlo : lo ≤ w.heap.size)
    (hK : ∀ g c w', w'.ownsRow lo 62 4 (.slice (some ⟨g, 0, none⟩) (n + m) c) (n + m) (xs ++ news) → w.grownBy w' v.ownBlock → (v.ownBlock = some g ∨ g = w.heap.size) → wpList Tryz.prog ops Q rest (a.put o.dst (.slice (some ⟨g, 0, none⟩) (n + m) c)) w') : wpList Tryz.prog ops Q (o :: rest) a w :=
  wpList_plain hgd fun K hk => by
    have h := step_appT (ops := ops) (K := K) (Q := Q) (E := False) hgd s x ho lo v n xs hs h1 p m c news hx hl hnews hone hm hn hlo (fun g c w' h1 h2 h3 => hk _ _ (hK g c w' h1 h2 h3))
    rwa [if_pos (by simp [Region.wanted, hgd])] at h
theorem run_appZ (b n c : Nat) (a2 : Option Addr) (c2 : Nat) (ty : TypeId) (hn : n ≤ c) (w : World) :
    (Builtin.append_ #[32, 32] ty #[.slice (some ⟨b, 0, none⟩) n c, .slice a2 0 c2]).run Tryz.prog w = .ok (.slice (some ⟨b, 0, none⟩) n c) w := by
  obtain ⟨i0, hi0, hz0, hz1, hz2⟩ := info_parts infoDev
  have hs : Src Tryz.prog i0.size 32 (.slice a2 0 c2) 0 [] w := by
    cases a2 with
    | none => exact Src.ofNil w Tryz.underlying32 c2
    | some ad => exact Src.ofSlice w Tryz.underlying32 ad 0 c2 [] (by simp) (fun j u h => by simp at h) (fun u h => by simp at h)
  have h := run_append_room_src w 32 32 ty _ i0 Tryz.underlying32 hi0 b 0 n c (.slice a2 0 c2) 0 [] hs (by omega) (fun j hj => by simp at hj) (fun j hj => by simp at hj)
  simpa [World.setCells] using h
theorem step_appZ {ops : Array Oper} {o : Oper} {a : Act} {w : World} {K : Act → World → Prop} {Q : Exit → Act → World → Prop} {E : Prop} (hgd : o.guard = none) (s x : Operand)
    (ho : o.op = .call { callee := .builtin .append, args := #[s, x], argTypes := #[32, 32] })
    (b n c : Nat) (a2 : Option Addr) (c2 : Nat) (hs : a.eval s = .slice (some ⟨b, 0, none⟩) n c) (hx : a.eval x = .slice a2 0 c2) (hn : n ≤ c)
    (hK : K (a.put o.dst (.slice (some ⟨b, 0, none⟩) n c)) w) : if Region.wanted o (yielded ops a.tmps) = true then Oper.wp Tryz.prog o a w K Q else E := by
  have hw : Region.wanted o (yielded ops a.tmps) = true := by simp [Region.wanted, hgd]
  rw [if_pos hw]
  have hr := run_appZ b n c a2 c2 o.type hn w
  unfold Oper.wp execOp
  simp only [ho, resolve, invoke, builtin, Sem.run_bind, Sem.run_pure, Result.andThen_ok, List.map_toArray, List.map_cons, List.map_nil, hs, hx, hr]
  exact hK
theorem list_appZ {ops : Array Oper} {rest : List Oper} {o : Oper} {a : Act} {w : World} {Q : Exit → Act → World → Prop} (hgd : o.guard = none) (s x : Operand)
    (ho : o.op = .call { callee := .builtin .append, args := #[s, x], argTypes := #[32, 32] })
    (b n c : Nat) (a2 : Option Addr) (c2 : Nat) (hs : a.eval s = .slice (some ⟨b, 0, none⟩) n c) (hx : a.eval x = .slice a2 0 c2) (hn : n ≤ c)
    (hK : wpList Tryz.prog ops Q rest (a.put o.dst (.slice (some ⟨b, 0, none⟩) n c)) w) : wpList Tryz.prog ops Q (o :: rest) a w :=
  wpList_plain hgd fun K hk => by
    have h := step_appZ (ops := ops) (K := K) (Q := Q) (E := False) hgd s x ho b n c a2 c2 hs hx hn (hk _ _ hK)
    rwa [if_pos (by simp [Region.wanted, hgd])] at h
theorem row_lit {w : World} {lo g n : Nat} {L : List Tr} (h : Blk w g (tcells L).toArray 62) (hn : L.length = n) (hlo : lo ≤ g) (hl : n ≤ 1000) : w.ownsRow lo 62 4 (.slice (some ⟨g, 0, none⟩) n n) n (tcells L) := by
  subst hn
  refine ⟨length_tcells L, .inr ⟨g, L.length, (tcells L).toArray, rfl, hlo, h, Nat.le_refl _, by unfold maxLen; omega, by simp [length_tcells], ?_⟩⟩
  rw [List.take_of_length_le (by simp [length_tcells])]
/- The reference's sorted copies of devices. -/
theorem OwnI.pin0 {w : World} {lo : Nat} {sv : Value} {zs : List Int} (h : OwnI w lo sv zs) (hl : lo < w.heap.size) : ∃ g, lo ≤ g ∧ g < w.heap.size ∧ OwnR w g (g + 1) sv zs := by
  rcases h with h | ⟨g, cap, cs, h1, h2, h3, h4, h5, h6⟩
  · exact ⟨lo, Nat.le_refl _, hl, .inl h⟩
  · exact ⟨g, h2, h5.lt, .inr ⟨g, cap, cs, h1, Nat.le_refl _, Nat.lt_succ_self _, h3, h4, h5, h6⟩⟩
set_option maxRecDepth 100000 in
set_option maxHeartbeats 1000000 in
theorem own_new (kind wd len : Int) (sv : Value) (zs : List Int) (w : World) (h : IntSl w sv zs) (hn : zs.length ≤ 1048576) :
    Calls Tryz.prog 109 #[.agg #[.int .i64 kind, sv, .int .i64 wd, .int .i64 len]] w fun e w' => ∃ v, e = .returned (.agg #[.int .i64 kind, v, .int .i64 wd, .int .i64 len]) ∧ OwnI w' w.heap.size v zs ∧ Below w.heap.size w w' ∧ w.heap.size < w'.heap.size := by
  obtain ⟨a, c, rfl⟩ := h.len
  go_enter Tryz.func109, Tryz.ntmps109
  go_wp2_with fail
  go_region_held_law ((fun w' => (Blk w' (w.heap.size) #[.int .i64 kind, .slice a zs.length c, .int .i64 wd, .int .i64 len] 62 ∧ ∀ o, w'.cell? ⟨w.heap.size, o, none⟩ = (#[.int .i64 kind, .slice a zs.length c, .int .i64 wd, .int .i64 len] : Array Value)[o]?) ∧ Below w.heap.size w w')) (((try (obtain ⟨⟨hS0, _⟩, hSB⟩ := hHeld)); refine ⟨Blk.both ?_, ?_⟩ <;> first | ((repeat (first | (with_reducible assumption) | (with_reducible refine Blk.drewN ?_ _) | (with_reducible refine Blk.drew ?_) | ((with_reducible refine Blk.new _ ?_); focus (first | omega | (simp; done) | (simp; omega))) | (with_reducible refine Blk.past ?_ _) | ((with_reducible refine Blk.apart ?_ _ _ _ ?_); rotate_left; focus (first | omega | (simp; done) | (simp; omega))) | (with_reducible refine Blk.by (by assumption) ?_))); done) | ((repeat (first | (with_reducible exact Below.refl _ _) | (with_reducible refine below_drewN ?_ _) | (with_reducible refine Below.drew ?_) | (with_reducible refine below_al ?_ _) | (with_reducible refine below_on (by assumption) ?_) | ((with_reducible refine Below.setCell ?_ ?_ _); rotate_left; focus (first | omega | (simp; done) | (simp; omega))) | (with_reducible assumption))); done)))
    ((refine step_clone (by rfl) _ _ (by rfl) _ (by rfl) _ zs (by rfl) (h.by blwT) hn (w.heap.size + 2) (by simp; try omega) ?_; intro v w3 hO hb3; obtain ⟨a1, c1, rfl⟩ := hO.len; have k2 : Blk w3 (w.heap.size + 1) #[.int .i64 0, .slice none 0 0, .int .i64 0, .int .i64 0] 62 := blkT; have c2 := k2.cell; have f2 := k2.free; have l2 := k2.lt))
  go_wp2
  refine bodyPost_ret (v := .agg #[.int .i64 kind, .slice a1 zs.length c1, .int .i64 wd, .int .i64 len]) (by simp [results, Tryz.results109, go_sem, *]) rfl ⟨_, rfl, ?_, blwT, (by simp; omega)⟩
  refine OwnI.low ?_ (show w.heap.size ≤ w.heap.size + 2 by omega)
  repeat (first | (with_reducible exact hO) | ((with_reducible refine OwnI.apart ?_ _ _ _ ?_); rotate_left; focus omega))
set_option maxRecDepth 100000 in
set_option maxHeartbeats 4000000 in
theorem specSorted_len (ds : List Dv) (sv : Value) (w : World) (h : DvSl w sv ds) (hn : ds.length ≤ 400) (hpn : ∀ d ∈ ds, d.pins.length ≤ 1048576) :
    Calls Tryz.prog 102 #[sv] w fun e w' => ∃ v', e = .returned v' ∧ OwnDs w' w.heap.size w'.heap.size v' (srtD ds) ∧ Below w.heap.size w w' := by
  have HDS := Lib.hid h
  have HPN := Lib.hid hpn
  obtain ⟨a1, c1, rfl⟩ := h.sized
  clear h hpn
  go_enter Tryz.func102, Tryz.ntmps102
  go_wp2
  go_loopw [3, 4] (fun sv vi wr => ∃ (k g c : Nat) (L : List Tr), k ≤ ds.length ∧ k ≤ c ∧ vi = .int .i64 k ∧ sv = .slice (some ⟨g, 0, none⟩) k c ∧ Hid (L.length = k) ∧ Hid (Out wr w.heap.size (.slice (some ⟨g, 0, none⟩) k c) L) ∧ Hid (Asc L) ∧ Hid ((L.map (·.1)).Perm (ds.take k)) ∧ Below w.heap.size w wr) (fun _ vi _ => ds.length - (intOf vi).toNat)
  case atStart =>
    refine ⟨0, _, _, [], Nat.zero_le _, Nat.zero_le _, rfl, rfl, Lib.hid rfl, Lib.hid ⟨?_, ?_, (fun t ht => by simp at ht), by simp⟩, Lib.hid (by unfold Asc; exact List.Pairwise.nil), Lib.hid (by simp), blwT⟩
    · simp
    · exact row_lit (L := []) (Blk.new _ rfl) rfl (Nat.le_refl _) (by omega)
  case round =>
    obtain ⟨k, g, cv, L, hk, hkc, rfl, rfl, HLL, HO, HA, HP, hb⟩ := hrel
    by_cases hlt : k < ds.length
    · obtain ⟨x, hx⟩ : ∃ x, ds[k]? = some x := ⟨ds[k], List.getElem?_eq_getElem hlt⟩
      have HD := HDS.out
      rcases HD with ⟨_, _, _, h2⟩ | ⟨b, off, cap, he, h2, h3, h4⟩
      · rw [h2] at hlt; simp at hlt
      obtain ⟨rfl, rfl⟩ : a1 = some ⟨b, off, none⟩ ∧ c1 = cap := by simpa using he
      obtain ⟨sx, e1, e2, e3, e4, hSx⟩ := h4 k x hx
      have HSX := Lib.hid hSx
      have HX := Lib.hid hx
      have hxl := HPN.out x (List.mem_of_getElem? hx)
      have HOW := Lib.hid (fun w h => own_new x.kind x.wd x.len sx x.pins w h hxl)
      obtain ⟨ax, cx, rfl⟩ := hSx.len
      have i1 : (0 : Int) ≤ (k : Int) := by omega
      have i2 : (k : Int) < (ds.length : Int) := by omega
      have i2c : (k : Int) ≤ (cv : Int) := by omega
      have HE1 := Lib.hid e1
      have HE2 := Lib.hid e2
      have HE3 := Lib.hid e3
      have HE4 := Lib.hid e4
      have HQ0 := Lib.hid (show ∀ i y, k ≤ i → L[i]? = some y → dlt x y.1 = true from fun i y hi hy => by have := (List.getElem?_eq_some_iff.1 hy).1; rw [HLL.out] at this; omega)
      clear h4 hx hSx he e1 e2 e3 e4
      obtain ⟨wo, rfl⟩ : ∃ wo, wo = wr := ⟨_, rfl⟩
      go_wp2
      go_loopw [5] (fun vq wr => ∃ (q : Nat), q ≤ k ∧ vq = .int .i64 q ∧ Hid (∀ i y, q ≤ i → L[i]? = some y → dlt x y.1 = true) ∧ Hid (Out wr w.heap.size (.slice (some ⟨g, 0, none⟩) k cv) L) ∧ Below w.heap.size w wr) (fun vq _ => (intOf vq).toNat)
      case atStart => exact ⟨k, Nat.le_refl _, rfl, HQ0, HO, hb⟩
      case round =>
        clear HO hb HQ0
        obtain ⟨q, hq, rfl, HQ, HO, hb⟩ := hrel
        by_cases hq0 : 0 < q
        · obtain ⟨qp, rfl⟩ : ∃ qp, q = qp + 1 := ⟨q - 1, by omega⟩
          have d1 := cell_by' hb HE1.out
          have d2 := cell_by' hb HE2.out
          have d3 := cell_by' hb HE3.out
          have d4 := cell_by' hb HE4.out
          have hSx := HSX.out.by hb
          obtain ⟨t, ht⟩ : ∃ t, L[qp]? = some t := ⟨L[qp]'(by rw [HLL.out]; omega), List.getElem?_eq_getElem _⟩
          obtain ⟨hl0, hrow, hts, _⟩ := HO.out
          obtain ⟨⟨hot, _, _⟩, _⟩ := hts t (List.mem_of_getElem? ht)
          rw [HLL.out] at hrow
          obtain ⟨z1, z2, z3, z4⟩ := tcells_get L qp t ht
          have p1 := hrow.cells rfl _ _ z1
          have p2 := hrow.cells rfl _ _ z2
          have p3 := hrow.cells rfl _ _ z3
          have p4 := hrow.cells rfl _ _ z4
          simp only [Addr.add_lit, Nat.zero_add] at p1 p2 p3 p4
          have HT := Lib.hid ht
          have HNX := Lib.hid (show dlt x t.1 = true → ∀ i y, qp ≤ i → L[i]? = some y → dlt x y.1 = true from fun hd i y hi hy => by
            by_cases e : i = qp
            · subst e; rw [HT.out] at hy; cases hy; exact hd
            · exact HQ.out i y (by omega) hy)
          have HLT := Lib.hid (show dlt x t.1 = decide (dcf x t.1 < 0) from rfl)
          have HST := Lib.hid (show dlt x t.1 = false → ∀ y, L[qp + 1 - 1]? = some y → dlt x y.1 = false from fun hd y hy => by
            rw [Nat.add_sub_cancel, HT.out] at hy; cases hy; exact hd)
          have HCL := Lib.hid (fun W h1 h2 => specCompareDevices_any x.kind x.wd x.len t.1.kind t.1.wd t.1.len (.slice ax x.pins.length cx) t.2.1 x.pins t.1.pins W h1 h2)
          have HCF := Lib.hid (show devcmp x.kind t.1.kind x.pins t.1.pins x.wd t.1.wd x.len t.1.len = dcf x t.1 from rfl)
          rw [HCF.out] at HCL
          generalize dcf x t.1 = r at HCL HLT
          generalize dlt x t.1 = lt at HNX HLT HST
          obtain ⟨ay, cy, hty⟩ := hot.sl.len
          rw [hty] at p2 hot HCL
          have HY := Lib.hid hot.sl
          have HSW := Lib.hid hSx
          generalize t.1 = y at p1 p2 p3 p4 HCL HY
          have i3 : (0 : Int) < (qp : Int) + 1 := by omega
          have i4 : (qp : Int) < (k : Int) := by omega
          have wq : IntKind.i64.wrap (qp : Int) = (qp : Int) := by rw [IntKind.wrap_i64]; omega
          have hbl := lt_of_cell d1
          have hgl2 := lt_of_cell p1
          dsimp only at hbl hgl2
          have HSB : ∀ w' : World, Below wr.heap.size wr w' → (fun w' => w'.cell? ⟨b, off + k * 4, none⟩ = some (.int .i64 x.kind) ∧ w'.cell? ⟨b, off + k * 4 + 1, none⟩ = some (.slice ax x.pins.length cx) ∧ w'.cell? ⟨b, off + k * 4 + 2, none⟩ = some (.int .i64 x.wd) ∧ w'.cell? ⟨b, off + k * 4 + 3, none⟩ = some (.int .i64 x.len) ∧ w'.cell? ⟨g, qp * 4, none⟩ = some (.int .i64 y.kind) ∧ w'.cell? ⟨g, qp * 4 + 1, none⟩ = some (.slice ay y.pins.length cy) ∧ w'.cell? ⟨g, qp * 4 + 2, none⟩ = some (.int .i64 y.wd) ∧ w'.cell? ⟨g, qp * 4 + 3, none⟩ = some (.int .i64 y.len) ∧ Below wr.heap.size wr w') w' := fun w' hb => ⟨cell_by' hb d1, cell_by' hb d2, cell_by' hb d3, cell_by' hb d4, cell_by' hb p1, cell_by' hb p2, cell_by' hb p3, cell_by' hb p4, hb⟩
          clear ht hot hrow hts z1 z2 z3 z4 hty hSx HCF
          by_cases hr : r < 0
          · have HLT2 := Lib.hid (HLT.out.trans (decide_eq_true hr))
            go_wp2_with fail
            go_region_held3 (fun w' => w'.cell? ⟨b, off + k * 4, none⟩ = some (.int .i64 x.kind) ∧ w'.cell? ⟨b, off + k * 4 + 1, none⟩ = some (.slice ax x.pins.length cx) ∧ w'.cell? ⟨b, off + k * 4 + 2, none⟩ = some (.int .i64 x.wd) ∧ w'.cell? ⟨b, off + k * 4 + 3, none⟩ = some (.int .i64 x.len) ∧ w'.cell? ⟨g, qp * 4, none⟩ = some (.int .i64 y.kind) ∧ w'.cell? ⟨g, qp * 4 + 1, none⟩ = some (.slice ay y.pins.length cy) ∧ w'.cell? ⟨g, qp * 4 + 2, none⟩ = some (.int .i64 y.wd) ∧ w'.cell? ⟨g, qp * 4 + 3, none⟩ = some (.int .i64 y.len) ∧ Below wr.heap.size wr w') (((try (obtain ⟨_, _, _, _, _, _, _, _, hSB⟩ := hHeld)); refine HSB _ ?_; ((repeat (first | (with_reducible exact Below.refl _ _) | (with_reducible refine below_drewN ?_ _) | (with_reducible refine Below.drew ?_) | (with_reducible refine below_al ?_ _) | (with_reducible refine below_on (by assumption) ?_) | ((with_reducible refine Below.setCell ?_ ?_ _); rotate_left; focus (first | omega | (simp; done) | (simp; omega))) | (with_reducible assumption))); done)))
              (first | (go_at_call 59; refine (HCL.out _ (HSW.out.by blwT) (HY.out.by blwT)).mono ?_; rintro e w1 ⟨rfl, hb1⟩))
            all_goals
              have hb2 : Below wr.heap.size wr w1 := blwT
              go_wp2_with fail
              exact ⟨⟨qp, by omega, by rfl, Lib.hid (HNX.out HLT2.out), Lib.hid (HO.out.by hb2), below_on hb2 hb⟩, by simp [intOf]⟩
          · have HLT2 := Lib.hid (HLT.out.trans (decide_eq_false hr))
            go_wp2_with fail
            go_region_held3 (fun w' => w'.cell? ⟨b, off + k * 4, none⟩ = some (.int .i64 x.kind) ∧ w'.cell? ⟨b, off + k * 4 + 1, none⟩ = some (.slice ax x.pins.length cx) ∧ w'.cell? ⟨b, off + k * 4 + 2, none⟩ = some (.int .i64 x.wd) ∧ w'.cell? ⟨b, off + k * 4 + 3, none⟩ = some (.int .i64 x.len) ∧ w'.cell? ⟨g, qp * 4, none⟩ = some (.int .i64 y.kind) ∧ w'.cell? ⟨g, qp * 4 + 1, none⟩ = some (.slice ay y.pins.length cy) ∧ w'.cell? ⟨g, qp * 4 + 2, none⟩ = some (.int .i64 y.wd) ∧ w'.cell? ⟨g, qp * 4 + 3, none⟩ = some (.int .i64 y.len) ∧ Below wr.heap.size wr w') (((try (obtain ⟨_, _, _, _, _, _, _, _, hSB⟩ := hHeld)); refine HSB _ ?_; ((repeat (first | (with_reducible exact Below.refl _ _) | (with_reducible refine below_drewN ?_ _) | (with_reducible refine Below.drew ?_) | (with_reducible refine below_al ?_ _) | (with_reducible refine below_on (by assumption) ?_) | ((with_reducible refine Below.setCell ?_ ?_ _); rotate_left; focus (first | omega | (simp; done) | (simp; omega))) | (with_reducible assumption))); done)))
              (first | (go_at_call 59; refine (HCL.out _ (HSW.out.by blwT) (HY.out.by blwT)).mono ?_; rintro e w1 ⟨rfl, hb1⟩))
            all_goals
              have hb2 : Below wr.heap.size wr w1 := blwT
              have hb1w : Below w.heap.size w w1 := below_on hb2 hb
              have HO1 := Lib.hid (HO.out.by hb2)
              go_wp2_with fail
              have HL1 := Lib.hid (show qp + 1 = 0 ∨ ∀ y, L[qp + 1 - 1]? = some y → dlt x y.1 = false from .inr (HST.out HLT2.out))
              clear d1 d2 d3 d4 p1 p2 p3 p4 HSB HCL HNX HLT HST HSW HY HLT2 hr HO hb hbl hgl2 hb1 hb2
              obtain ⟨q, hqq⟩ : ∃ q, qp + 1 = q := ⟨_, rfl⟩
              rw [hqq] at HL1 hq HQ
              have hq1 : 0 < q := by omega
              rw [show ((qp : Int) + 1) = (q : Int) by omega]
              clear hqq i3 i4 wq
              by_cases hkq : k = q
              · rw [← hkq] at HL1 HQ ⊢
                have HQ1 := HQ
                have HKQ := Lib.hid hkq
                have hk1 : 0 < k := by omega
                clear hkq hq hq1
                have d1 := cell_by' hb1w HE1.out
                have d2 := cell_by' hb1w HE2.out
                have d3 := cell_by' hb1w HE3.out
                have d4 := cell_by' hb1w HE4.out
                have HSW := Lib.hid (HSX.out.by hb1w)
                have hbl := lt_of_cell d1
                dsimp only at hbl
                have hlo1 := hb1w.size
                go_region_law
                  (first | (go_simp; go_at_call 109; refine (HOW.out _ (HSW.out.by blwT)).mono ?_; rintro e w2 ⟨pv, rfl, hOI, hb2, hgr⟩; obtain ⟨f, hf1, hf2, hOR⟩ := hOI.pin0 hgr; have HOR := Lib.hid hOR; obtain ⟨ap, cp, rfl⟩ := hOR.sl.len; clear hOR hOI; have hf0 : w1.heap.size ≤ f := hf1; have hb21 : Below w1.heap.size w1 w2 := blwT; have HO2 := Lib.hid (HO1.out.by hb21); have hsz21 := hb21.size; dsimp only) | (refine step_appZ (by rfl) _ _ (by rfl) _ 1 1 _ _ (by rfl) (by rfl) (Nat.le_refl _) ?_))
                all_goals
                  have k3 : Blk (w2.alloc (.cells #[.int .i64 x.kind, .slice ap x.pins.length cp, .int .i64 x.wd, .int .i64 x.len] 62)) w2.heap.size #[.int .i64 x.kind, .slice ap x.pins.length cp, .int .i64 x.wd, .int .i64 x.len] 62 := Blk.new _ rfl
                  have hb3 : Below w1.heap.size w1 (w2.alloc (.cells #[.int .i64 x.kind, .slice ap x.pins.length cp, .int .i64 x.wd, .int .i64 x.len] 62)) := below_al hb21 _
                  have HR3 := Lib.hid (row_lit (lo := w.heap.size) (n := 1) (L := [(x, Value.slice ap x.pins.length cp, f)]) k3 rfl (by omega) (by omega))
                  have HF3 := Lib.hid (HOR.out.by ((Below.refl _ w2).alloc (Nat.le_refl _) (.cells #[.int .i64 x.kind, .slice ap x.pins.length cp, .int .i64 x.wd, .int .i64 x.len] 62)))
                  obtain ⟨gr, hgr0⟩ : ∃ gr, w2.heap.size = gr := ⟨_, rfl⟩
                  obtain ⟨w3, hw3⟩ : ∃ w3, w2.alloc (.cells #[.int .i64 x.kind, .slice ap x.pins.length cp, .int .i64 x.wd, .int .i64 x.len] 62) = w3 := ⟨_, rfl⟩
                  have hgr : w1.heap.size ≤ gr ∧ f < gr ∧ gr < w3.heap.size := by rw [← hw3]; simp; omega
                  rw [hgr0] at HR3 ⊢
                  rw [hw3] at hb3 HR3 HF3 ⊢
                  clear hw3 hgr0 k3
                  have HO3 := Lib.hid (HO1.out.by hb3)
                  have hb3w := below_on hb3 hb1w
                  have hsz3 := hb3.size
                  clear hb21 HO2 hsz21 HOR d1 d2 d3 d4 hbl
                  have HZ4 := Lib.hid (row_lit (lo := w.heap.size) (n := 0) (L := []) (Blk.new (w := w3) (T := 62) w3.heap.size rfl) rfl (by omega) (by omega))
                  have HRA := Lib.hid (HR3.out.kept (World.grownBy_alloc w3 (.cells #[] 62) none) (.inr (by simp [Value.ownBlock])))
                  go_wp2_with (first | (refine list_appT (by rfl) _ _ (by rfl) w.heap.size _ 0 [] (by rfl) HZ4.out ⟨g, 0, none⟩ k cv (tcells (L.take k)) (by rfl) (by rw [length_tcells, List.length_take, HLL.out]; omega) (row_news0 (by have := (HO3.out.by ((Below.refl _ w3).alloc (Nat.le_refl _) (.cells #[] 62))).2.1; rw [HLL.out] at this; exact this) k) (tcells_one (fun t ht => HO3.out.one t (List.mem_of_mem_take ht))) (by omega) (by omega) (by simp; omega) ?_; intro g4 c4 w4 hR4 hG4 hg4; simp only [Nat.zero_add, List.nil_append] at hR4; have HR4 := Lib.hid hR4; have HG4 := Lib.hid hG4; have HG4' := Lib.hid hg4; have HRB := Lib.hid (HRA.out.kept hG4 (.inr (by simp [Value.ownBlock]; omega))); have hlo4 := hG4.size; (try simp only [World.size_alloc] at hlo4); clear hR4 hG4 hg4) | (refine list_appT (by rfl) _ _ (by rfl) w.heap.size _ k _ (by rfl) HR4.out ⟨gr, 0, none⟩ 1 _ (tcells [(x, Value.slice ap x.pins.length cp, f)]) (by rfl) (by rw [length_tcells]; rfl) (fun j u hu => HRB.out.cells rfl j u hu) (tcells_one (L := [(x, Value.slice ap x.pins.length cp, f)]) (fun t ht => by obtain rfl : t = _ := List.mem_singleton.1 ht; rfl)) (by omega) (by omega) (by omega) ?_; intro g5 c5 w5 hR5 hG5 hg5; have HR5 := Lib.hid hR5; clear hR5))
                  have hg4 : w3.heap.size ≤ g4 := by
                    rcases HG4'.out with e | e
                    · have : w3.heap.size = g4 := by injection e
                      omega
                    · simp at e; omega
                  have hW4 : Within w3.heap.size (w3.heap.size + 1) (w3.alloc (.cells #[] 62)) w4 := grown_within HG4.out (fun g' e => by have : w3.heap.size = g' := (by injection e); omega)
                  have hb4 : Below w3.heap.size w3 w4 := hW4.below (below_al (Below.refl _ w3) _) (Nat.le_refl _)
                  have hW5 : Within g4 (g4 + 1) w4 w5 := grown_within hG5 (fun g' e => by have : g4 = g' := (by injection e); omega)
                  have hb5 : Below w3.heap.size w3 w5 := hW5.below hb4 (by omega)
                  have hg5' : w3.heap.size ≤ g5 := by
                    rcases hg5 with e | e
                    · have : g4 = g5 := by injection e
                      omega
                    · omega
                  have en5 : (k + 1) = k + 1 := by omega
                  have HR6 := HR5.out
                  rw [en5] at HR6
                  have hb5w := below_on hb5 hb3w
                  have hb51 := below_on hb5 hb3
                  have hfin := Out.insert (q := k) (f := f) (pv := .slice ap x.pins.length cp) (x := x) HO1.out HLL.out hb51 (by omega) (HF3.out.by hb5) (by omega) (by have := hb5.size; omega) (by omega) (by omega) (show w5.ownsRow w.heap.size 62 4 (.slice (some ⟨g5, 0, none⟩) (k + 1) c5) (k + 1) (tcells (L.take k) ++ (tcells [(x, Value.slice ap x.pins.length cp, f)] ++ tcells (L.drop k))) from by
                    have ed : L.drop k = [] := List.drop_eq_nil_of_le (by rw [HLL.out]; exact Nat.le_refl _)
                    rw [ed]
                    simpa [tcells] using HR6)
                  have hasc := HA.out.insert (x, .slice ap x.pins.length cp, f) k (by rw [HLL.out]; omega) HL1.out HQ1.out
                  have hkc5 : k + 1 ≤ c5 := by
                    rcases HR6.2 with ⟨e, _⟩ | ⟨_, _, _, e, _, _, h, _⟩
                    · cases e
                    · have : c5 = _ := (by injection e); omega
                  have hpm : ((L.take k ++ ((x, Value.slice ap x.pins.length cp, f) :: L.drop k)).map (·.1)).Perm (ds.take (k + 1)) := by
                    rw [take_snoc_of ds k x HX.out]
                    refine ((insert_perm L (x, Value.slice ap x.pins.length cp, f) k).map _).trans ?_
                    rw [List.map_append]
                    exact HP.out.append_right _
                  have hlen : (L.take k ++ ((x, Value.slice ap x.pins.length cp, f) :: L.drop k)).length = k + 1 := by rw [(insert_perm L _ k).length_eq, List.length_append, HLL.out]; rfl
                  (try rw [en5])
                  exact ⟨⟨k + 1, g5, c5, _, by omega, hkc5, by go_num, by first | rfl | (congr 1; omega), Lib.hid hlen, Lib.hid hfin, Lib.hid hasc, Lib.hid hpm, hb5w⟩, by simp [intOf]; omega⟩
              · have hqk : q < k := by omega
                have hcq : ¬ cv = q := by omega
                have iq1 : (0 : Int) ≤ (q : Int) := by omega
                have iq2 : (q : Int) ≤ (k : Int) := by omega
                have iq3 : (q : Int) ≤ (cv : Int) := by omega
                have HQ1 := HQ
                clear hkq
                have d1 := cell_by' hb1w HE1.out
                have d2 := cell_by' hb1w HE2.out
                have d3 := cell_by' hb1w HE3.out
                have d4 := cell_by' hb1w HE4.out
                have HSW := Lib.hid (HSX.out.by hb1w)
                have hbl := lt_of_cell d1
                dsimp only at hbl
                have hlo1 := hb1w.size
                go_region_law
                  (first | (go_simp; go_at_call 109; refine (HOW.out _ (HSW.out.by blwT)).mono ?_; rintro e w2 ⟨pv, rfl, hOI, hb2, hgr⟩; obtain ⟨f, hf1, hf2, hOR⟩ := hOI.pin0 hgr; have HOR := Lib.hid hOR; obtain ⟨ap, cp, rfl⟩ := hOR.sl.len; clear hOR hOI; have hf0 : w1.heap.size ≤ f := hf1; have hb21 : Below w1.heap.size w1 w2 := blwT; have HO2 := Lib.hid (HO1.out.by hb21); have hsz21 := hb21.size; dsimp only) | (refine step_appT (by rfl) _ _ (by rfl) w.heap.size _ 1 (tcells [(x, Value.slice ap x.pins.length cp, f)]) (by rfl) (row_lit (n := 1) (L := [(x, Value.slice ap x.pins.length cp, f)]) (Blk.new _ rfl) rfl (by omega) (by omega)) ⟨g, q * 4, none⟩ (k - q) (cv - q) (tcells (L.drop q)) (by rfl) (by rw [length_tcells, List.length_drop, HLL.out]) (row_news (by have := (HO2.out.by ((Below.refl _ w2).alloc (Nat.le_refl _) (.cells #[.int .i64 x.kind, .slice ap x.pins.length cp, .int .i64 x.wd, .int .i64 x.len] 62))).2.1; rw [HLL.out] at this; exact this) q) (tcells_one (fun t ht => HO2.out.one t (List.mem_of_mem_drop ht))) (by omega) (by omega) (by simp; omega) ?_; intro gr cr w3 hR3 hG3 hg3; have HR3 := Lib.hid hR3; clear hR3))
                all_goals
                  have hW3 : Within w2.heap.size (w2.heap.size + 1) (w2.alloc (.cells #[.int .i64 x.kind, .slice ap x.pins.length cp, .int .i64 x.wd, .int .i64 x.len] 62)) w3 := grown_within hG3 (fun g' e => by have : w2.heap.size = g' := (by injection e); omega)
                  have hb3 : Below w1.heap.size w1 w3 := hW3.below (below_al hb21 _) (by omega)
                  have HF3 := Lib.hid ((HOR.out.by ((Below.refl _ w2).alloc (Nat.le_refl _) (.cells #[.int .i64 x.kind, .slice ap x.pins.length cp, .int .i64 x.wd, .int .i64 x.len] 62))).past hW3 (by omega))
                  have hgr : w1.heap.size ≤ gr ∧ f < gr ∧ gr < w3.heap.size := by
                    have hlt := (HR3.out.lt gr rfl).2
                    rcases hg3 with e | e
                    · have : w2.heap.size = gr := by injection e
                      omega
                    · simp at e; omega
                  clear hG3 hg3 hW3
                  have HO3 := Lib.hid (HO1.out.by hb3)
                  have hb3w := below_on hb3 hb1w
                  have hsz3 := hb3.size
                  clear hb21 HO2 hsz21 HOR d1 d2 d3 d4 hbl
                  have HZ4 := Lib.hid (row_lit (lo := w.heap.size) (n := 0) (L := []) (Blk.new (w := w3) (T := 62) w3.heap.size rfl) rfl (by omega) (by omega))
                  have HRA := Lib.hid (HR3.out.kept (World.grownBy_alloc w3 (.cells #[] 62) none) (.inr (by simp [Value.ownBlock])))
                  go_wp2_with (first | (refine list_appT (by rfl) _ _ (by rfl) w.heap.size _ 0 [] (by rfl) HZ4.out ⟨g, 0, none⟩ q cv (tcells (L.take q)) (by rfl) (by rw [length_tcells, List.length_take, HLL.out]; omega) (row_news0 (by have := (HO3.out.by ((Below.refl _ w3).alloc (Nat.le_refl _) (.cells #[] 62))).2.1; rw [HLL.out] at this; exact this) q) (tcells_one (fun t ht => HO3.out.one t (List.mem_of_mem_take ht))) (by omega) (by omega) (by simp; omega) ?_; intro g4 c4 w4 hR4 hG4 hg4; simp only [Nat.zero_add, List.nil_append] at hR4; have HR4 := Lib.hid hR4; have HG4 := Lib.hid hG4; have HG4' := Lib.hid hg4; have HRB := Lib.hid (HRA.out.kept hG4 (.inr (by simp [Value.ownBlock]; omega))); have hlo4 := hG4.size; (try simp only [World.size_alloc] at hlo4); clear hR4 hG4 hg4) | (refine list_appT (by rfl) _ _ (by rfl) w.heap.size _ q _ (by rfl) HR4.out ⟨gr, 0, none⟩ (1 + (k - q)) _ (tcells [(x, Value.slice ap x.pins.length cp, f)] ++ tcells (L.drop q)) (by rfl) (by rw [List.length_append, length_tcells, length_tcells, List.length_drop, HLL.out]; show 1 * 4 + _ = _; omega) (fun j u hu => HRB.out.cells rfl j u hu) (fun u hu => (List.mem_append.1 hu).elim (tcells_one (L := [(x, Value.slice ap x.pins.length cp, f)]) (fun t ht => by obtain rfl : t = _ := List.mem_singleton.1 ht; rfl) u) (tcells_one (fun t ht => HO3.out.one t (List.mem_of_mem_drop ht)) u)) (by omega) (by omega) (by omega) ?_; intro g5 c5 w5 hR5 hG5 hg5; have HR5 := Lib.hid hR5; clear hR5))
                  have hg4 : w3.heap.size ≤ g4 := by
                    rcases HG4'.out with e | e
                    · have : w3.heap.size = g4 := by injection e
                      omega
                    · simp at e; omega
                  have hW4 : Within w3.heap.size (w3.heap.size + 1) (w3.alloc (.cells #[] 62)) w4 := grown_within HG4.out (fun g' e => by have : w3.heap.size = g' := (by injection e); omega)
                  have hb4 : Below w3.heap.size w3 w4 := hW4.below (below_al (Below.refl _ w3) _) (Nat.le_refl _)
                  have hW5 : Within g4 (g4 + 1) w4 w5 := grown_within hG5 (fun g' e => by have : g4 = g' := (by injection e); omega)
                  have hb5 : Below w3.heap.size w3 w5 := hW5.below hb4 (by omega)
                  have hg5' : w3.heap.size ≤ g5 := by
                    rcases hg5 with e | e
                    · have : g4 = g5 := by injection e
                      omega
                    · omega
                  have en5 : (q + (1 + (k - q))) = k + 1 := by omega
                  have HR6 := HR5.out
                  rw [en5] at HR6
                  have hb5w := below_on hb5 hb3w
                  have hb51 := below_on hb5 hb3
                  have hfin := Out.insert (q := q) (f := f) (pv := .slice ap x.pins.length cp) (x := x) HO1.out HLL.out hb51 (by omega) (HF3.out.by hb5) (by omega) (by have := hb5.size; omega) (by omega) (by omega) (show w5.ownsRow w.heap.size 62 4 (.slice (some ⟨g5, 0, none⟩) (k + 1) c5) (k + 1) (tcells (L.take q) ++ (tcells [(x, Value.slice ap x.pins.length cp, f)] ++ tcells (L.drop q))) from by
                    simpa [tcells] using HR6)
                  have hasc := HA.out.insert (x, .slice ap x.pins.length cp, f) q (by rw [HLL.out]; omega) HL1.out HQ1.out
                  have hkc5 : k + 1 ≤ c5 := by
                    rcases HR6.2 with ⟨e, _⟩ | ⟨_, _, _, e, _, _, h, _⟩
                    · cases e
                    · have : c5 = _ := (by injection e); omega
                  have hpm : ((L.take q ++ ((x, Value.slice ap x.pins.length cp, f) :: L.drop q)).map (·.1)).Perm (ds.take (k + 1)) := by
                    rw [take_snoc_of ds k x HX.out]
                    refine ((insert_perm L (x, Value.slice ap x.pins.length cp, f) q).map _).trans ?_
                    rw [List.map_append]
                    exact HP.out.append_right _
                  have hlen : (L.take q ++ ((x, Value.slice ap x.pins.length cp, f) :: L.drop q)).length = k + 1 := by rw [(insert_perm L _ q).length_eq, List.length_append, HLL.out]; rfl
                  (try rw [en5])
                  exact ⟨⟨k + 1, g5, c5, _, by omega, hkc5, by go_num, by first | rfl | (congr 1; omega), Lib.hid hlen, Lib.hid hfin, Lib.hid hasc, Lib.hid hpm, hb5w⟩, by simp [intOf]; omega⟩
        · obtain rfl : q = 0 := by omega
          have i4 : decide ((0 : Int) > 0) = false := by simp
          have HL1 := Lib.hid (show 0 = 0 ∨ ∀ y, L[0 - 1]? = some y → dlt x y.1 = false from .inl rfl)
          have HQ1 := HQ
          have hb2 : Below wr.heap.size wr wr.drew := below_of_drewN _ 1
          have hb1w := below_on hb2 hb
          have HO1 := Lib.hid (HO.out.by hb2)
          clear hb2 hq0
          go_wp2_with fail
          go_region
          all_goals go_wp2_with fail
          generalize wr.drew = w1 at *
          by_cases hkq : k = 0
          · subst hkq
            have d1 := cell_by' hb1w HE1.out
            have d2 := cell_by' hb1w HE2.out
            have d3 := cell_by' hb1w HE3.out
            have d4 := cell_by' hb1w HE4.out
            simp only [Nat.zero_mul, Nat.add_zero] at d1 d2 d3 d4
            have HSW := Lib.hid (HSX.out.by hb1w)
            have hbl := lt_of_cell d1
            dsimp only at hbl
            have hlo1 := hb1w.size
            go_region_law
              (first | (go_simp; go_at_call 109; refine (HOW.out _ (HSW.out.by blwT)).mono ?_; rintro e w2 ⟨pv, rfl, hOI, hb2, hgr⟩; obtain ⟨f, hf1, hf2, hOR⟩ := hOI.pin0 hgr; have HOR := Lib.hid hOR; obtain ⟨ap, cp, rfl⟩ := hOR.sl.len; clear hOR hOI; have hf0 : w1.heap.size ≤ f := hf1; have hb21 : Below w1.heap.size w1 w2 := blwT; have HO2 := Lib.hid (HO1.out.by hb21); have hsz21 := hb21.size; dsimp only) | (refine step_appZ (by rfl) _ _ (by rfl) _ 1 1 _ _ (by rfl) (by rfl) (Nat.le_refl _) ?_))
            all_goals
              have k3 : Blk (w2.alloc (.cells #[.int .i64 x.kind, .slice ap x.pins.length cp, .int .i64 x.wd, .int .i64 x.len] 62)) w2.heap.size #[.int .i64 x.kind, .slice ap x.pins.length cp, .int .i64 x.wd, .int .i64 x.len] 62 := Blk.new _ rfl
              have hb3 : Below w1.heap.size w1 (w2.alloc (.cells #[.int .i64 x.kind, .slice ap x.pins.length cp, .int .i64 x.wd, .int .i64 x.len] 62)) := below_al hb21 _
              have HR3 := Lib.hid (row_lit (lo := w.heap.size) (n := 1) (L := [(x, Value.slice ap x.pins.length cp, f)]) k3 rfl (by omega) (by omega))
              have HF3 := Lib.hid (HOR.out.by ((Below.refl _ w2).alloc (Nat.le_refl _) (.cells #[.int .i64 x.kind, .slice ap x.pins.length cp, .int .i64 x.wd, .int .i64 x.len] 62)))
              obtain ⟨gr, hgr0⟩ : ∃ gr, w2.heap.size = gr := ⟨_, rfl⟩
              obtain ⟨w3, hw3⟩ : ∃ w3, w2.alloc (.cells #[.int .i64 x.kind, .slice ap x.pins.length cp, .int .i64 x.wd, .int .i64 x.len] 62) = w3 := ⟨_, rfl⟩
              have hgr : w1.heap.size ≤ gr ∧ f < gr ∧ gr < w3.heap.size := by rw [← hw3]; simp; omega
              rw [hgr0] at HR3 ⊢
              rw [hw3] at hb3 HR3 HF3 ⊢
              clear hw3 hgr0 k3
              have HO3 := Lib.hid (HO1.out.by hb3)
              have hb3w := below_on hb3 hb1w
              have hsz3 := hb3.size
              clear hb21 HO2 hsz21 HOR d1 d2 d3 d4 hbl
              have HZ4 := Lib.hid (row_lit (lo := w.heap.size) (n := 0) (L := []) (Blk.new (w := w3) (T := 62) w3.heap.size rfl) rfl (by omega) (by omega))
              go_wp2_with (first | (refine list_appZ (by rfl) _ _ (by rfl) w3.heap.size 0 0 _ _ (by rfl) (by rfl) (Nat.le_refl _) ?_) | (refine list_appT (by rfl) _ _ (by rfl) w.heap.size _ 0 [] (by rfl) HZ4.out ⟨gr, 0, none⟩ 1 _ (tcells [(x, Value.slice ap x.pins.length cp, f)]) (by rfl) (by rw [length_tcells]; rfl) (fun j u hu => (HR3.out.kept (World.grownBy_alloc w3 _ none) (.inr (by simp [Value.ownBlock]))).cells rfl j u hu) (tcells_one (L := [(x, Value.slice ap x.pins.length cp, f)]) (fun t ht => by obtain rfl : t = _ := List.mem_singleton.1 ht; rfl)) (by omega) (by omega) (by simp; omega) ?_; intro g5 c5 w5 hR5 hG5 hg5; have HR5 := Lib.hid hR5; clear hR5))
              have hW5 : Within w3.heap.size (w3.heap.size + 1) (w3.alloc (.cells #[] 62)) w5 := grown_within hG5 (fun g' e => by have : w3.heap.size = g' := (by injection e); omega)
              have hb5 : Below w3.heap.size w3 w5 := hW5.below (below_al (Below.refl _ w3) _) (Nat.le_refl _)
              have hg5' : w3.heap.size ≤ g5 := by
                rcases hg5 with e | e
                · have : w3.heap.size = g5 := by injection e
                  omega
                · simp at e; omega
              have en5 : (0 + 1) = 0 + 1 := by omega
              have HR6 := HR5.out
              rw [en5] at HR6
              have hb5w := below_on hb5 hb3w
              have hb51 := below_on hb5 hb3
              have hfin := Out.insert (q := 0) (f := f) (pv := .slice ap x.pins.length cp) (x := x) HO1.out HLL.out hb51 (by omega) (HF3.out.by hb5) (by omega) (by have := hb5.size; omega) (by omega) (by omega) (show w5.ownsRow w.heap.size 62 4 (.slice (some ⟨g5, 0, none⟩) (0 + 1) c5) (0 + 1) (tcells (L.take 0) ++ (tcells [(x, Value.slice ap x.pins.length cp, f)] ++ tcells (L.drop 0))) from by
                have ed : L.drop 0 = [] := List.drop_eq_nil_of_le (by rw [HLL.out]; omega)
                rw [ed]
                simpa [tcells] using HR6)
              have hasc := HA.out.insert (x, .slice ap x.pins.length cp, f) 0 (by rw [HLL.out]; omega) (.inl rfl) HQ1.out
              have hkc5 : 0 + 1 ≤ c5 := by
                rcases HR6.2 with ⟨e, _⟩ | ⟨_, _, _, e, _, _, h, _⟩
                · cases e
                · have : c5 = _ := (by injection e); omega
              have hpm : ((L.take 0 ++ ((x, Value.slice ap x.pins.length cp, f) :: L.drop 0)).map (·.1)).Perm (ds.take (0 + 1)) := by
                rw [take_snoc_of ds 0 x HX.out]
                refine ((insert_perm L (x, Value.slice ap x.pins.length cp, f) 0).map _).trans ?_
                rw [List.map_append]
                exact HP.out.append_right _
              have hlen : (L.take 0 ++ ((x, Value.slice ap x.pins.length cp, f) :: L.drop 0)).length = 0 + 1 := by rw [(insert_perm L _ 0).length_eq, List.length_append, HLL.out]; rfl
              (try rw [en5])
              exact ⟨⟨0 + 1, g5, c5, _, by omega, hkc5, by go_num, by first | rfl | (congr 1; omega), Lib.hid hlen, Lib.hid hfin, Lib.hid hasc, Lib.hid hpm, hb5w⟩, by simp [intOf]; omega⟩
          · have hk1 : 0 < k := by omega
            have hcq : ¬ cv = 0 := by omega
            clear hkq
            have d1 := cell_by' hb1w HE1.out
            have d2 := cell_by' hb1w HE2.out
            have d3 := cell_by' hb1w HE3.out
            have d4 := cell_by' hb1w HE4.out
            have HSW := Lib.hid (HSX.out.by hb1w)
            have hbl := lt_of_cell d1
            dsimp only at hbl
            have hlo1 := hb1w.size
            go_region_law
              (first | (go_simp; go_at_call 109; refine (HOW.out _ (HSW.out.by blwT)).mono ?_; rintro e w2 ⟨pv, rfl, hOI, hb2, hgr⟩; obtain ⟨f, hf1, hf2, hOR⟩ := hOI.pin0 hgr; have HOR := Lib.hid hOR; obtain ⟨ap, cp, rfl⟩ := hOR.sl.len; clear hOR hOI; have hf0 : w1.heap.size ≤ f := hf1; have hb21 : Below w1.heap.size w1 w2 := blwT; have HO2 := Lib.hid (HO1.out.by hb21); have hsz21 := hb21.size; dsimp only) | (refine step_appT (by rfl) _ _ (by rfl) w.heap.size _ 1 (tcells [(x, Value.slice ap x.pins.length cp, f)]) (by rfl) (row_lit (n := 1) (L := [(x, Value.slice ap x.pins.length cp, f)]) (Blk.new _ rfl) rfl (by omega) (by omega)) ⟨g, 0 * 4, none⟩ (k - 0) (cv - 0) (tcells (L.drop 0)) (by rfl) (by rw [length_tcells, List.length_drop, HLL.out]) (row_news (by have := (HO2.out.by ((Below.refl _ w2).alloc (Nat.le_refl _) (.cells #[.int .i64 x.kind, .slice ap x.pins.length cp, .int .i64 x.wd, .int .i64 x.len] 62))).2.1; rw [HLL.out] at this; exact this) 0) (tcells_one (fun t ht => HO2.out.one t (List.mem_of_mem_drop ht))) (by omega) (by omega) (by simp; omega) ?_; intro gr cr w3 hR3 hG3 hg3; have HR3 := Lib.hid hR3; clear hR3))
            all_goals
              have hW3 : Within w2.heap.size (w2.heap.size + 1) (w2.alloc (.cells #[.int .i64 x.kind, .slice ap x.pins.length cp, .int .i64 x.wd, .int .i64 x.len] 62)) w3 := grown_within hG3 (fun g' e => by have : w2.heap.size = g' := (by injection e); omega)
              have hb3 : Below w1.heap.size w1 w3 := hW3.below (below_al hb21 _) (by omega)
              have HF3 := Lib.hid ((HOR.out.by ((Below.refl _ w2).alloc (Nat.le_refl _) (.cells #[.int .i64 x.kind, .slice ap x.pins.length cp, .int .i64 x.wd, .int .i64 x.len] 62))).past hW3 (by omega))
              have hgr : w1.heap.size ≤ gr ∧ f < gr ∧ gr < w3.heap.size := by
                have hlt := (HR3.out.lt gr rfl).2
                rcases hg3 with e | e
                · have : w2.heap.size = gr := by injection e
                  omega
                · simp at e; omega
              clear hG3 hg3 hW3
              have HO3 := Lib.hid (HO1.out.by hb3)
              have hb3w := below_on hb3 hb1w
              have hsz3 := hb3.size
              clear hb21 HO2 hsz21 HOR d1 d2 d3 d4 hbl
              have HZ4 := Lib.hid (row_lit (lo := w.heap.size) (n := 0) (L := []) (Blk.new (w := w3) (T := 62) w3.heap.size rfl) rfl (by omega) (by omega))
              go_wp2_with (first | (refine list_appZ (by rfl) _ _ (by rfl) w3.heap.size 0 0 _ _ (by rfl) (by rfl) (Nat.le_refl _) ?_) | (refine list_appT (by rfl) _ _ (by rfl) w.heap.size _ 0 [] (by rfl) HZ4.out ⟨gr, 0, none⟩ (1 + (k - 0)) _ (tcells [(x, Value.slice ap x.pins.length cp, f)] ++ tcells (L.drop 0)) (by rfl) (by rw [List.length_append, length_tcells, length_tcells, List.length_drop, HLL.out]; show 1 * 4 + _ = _; omega) (fun j u hu => (HR3.out.kept (World.grownBy_alloc w3 _ none) (.inr (by simp [Value.ownBlock]))).cells rfl j u hu) (fun u hu => (List.mem_append.1 hu).elim (tcells_one (L := [(x, Value.slice ap x.pins.length cp, f)]) (fun t ht => by obtain rfl : t = _ := List.mem_singleton.1 ht; rfl) u) (tcells_one (fun t ht => HO3.out.one t (List.mem_of_mem_drop ht)) u)) (by omega) (by omega) (by simp; omega) ?_; intro g5 c5 w5 hR5 hG5 hg5; have HR5 := Lib.hid hR5; clear hR5))
              have hW5 : Within w3.heap.size (w3.heap.size + 1) (w3.alloc (.cells #[] 62)) w5 := grown_within hG5 (fun g' e => by have : w3.heap.size = g' := (by injection e); omega)
              have hb5 : Below w3.heap.size w3 w5 := hW5.below (below_al (Below.refl _ w3) _) (Nat.le_refl _)
              have hg5' : w3.heap.size ≤ g5 := by
                rcases hg5 with e | e
                · have : w3.heap.size = g5 := by injection e
                  omega
                · simp at e; omega
              have en5 : (0 + (1 + (k - 0))) = k + 1 := by omega
              have HR6 := HR5.out
              rw [en5] at HR6
              have hb5w := below_on hb5 hb3w
              have hb51 := below_on hb5 hb3
              have hfin := Out.insert (q := 0) (f := f) (pv := .slice ap x.pins.length cp) (x := x) HO1.out HLL.out hb51 (by omega) (HF3.out.by hb5) (by omega) (by have := hb5.size; omega) (by omega) (by omega) (show w5.ownsRow w.heap.size 62 4 (.slice (some ⟨g5, 0, none⟩) (k + 1) c5) (k + 1) (tcells (L.take 0) ++ (tcells [(x, Value.slice ap x.pins.length cp, f)] ++ tcells (L.drop 0))) from by
                simpa [tcells] using HR6)
              have hasc := HA.out.insert (x, .slice ap x.pins.length cp, f) 0 (by rw [HLL.out]; omega) (.inl rfl) HQ1.out
              have hkc5 : k + 1 ≤ c5 := by
                rcases HR6.2 with ⟨e, _⟩ | ⟨_, _, _, e, _, _, h, _⟩
                · cases e
                · have : c5 = _ := (by injection e); omega
              have hpm : ((L.take 0 ++ ((x, Value.slice ap x.pins.length cp, f) :: L.drop 0)).map (·.1)).Perm (ds.take (k + 1)) := by
                rw [take_snoc_of ds k x HX.out]
                refine ((insert_perm L (x, Value.slice ap x.pins.length cp, f) 0).map _).trans ?_
                rw [List.map_append]
                exact HP.out.append_right _
              have hlen : (L.take 0 ++ ((x, Value.slice ap x.pins.length cp, f) :: L.drop 0)).length = k + 1 := by rw [(insert_perm L _ 0).length_eq, List.length_append, HLL.out]; rfl
              (try rw [en5])
              exact ⟨⟨k + 1, g5, c5, _, by omega, hkc5, by go_num, by first | rfl | (congr 1; omega), Lib.hid hlen, Lib.hid hfin, Lib.hid hasc, Lib.hid hpm, hb5w⟩, by simp [intOf]; omega⟩
    · obtain rfl : k = ds.length := by omega
      have e : L.map (·.1) = srtD ds := srtD_of (by have := HP.out; rwa [List.take_length] at this) (by have := HA.out; unfold Asc at this; rw [List.pairwise_map]; exact this)
      have hown := HO.out.own
      rw [e] at hown
      have i3 : ¬ (ds.length : Int) < (ds.length : Int) := by omega
      clear e
      go_wp2
      go_ret
      exact ⟨_, rfl, hown, hb⟩
theorem specSorted_any (ds : List Dv) (sv : Value) (w : World) (h : DvSl w sv ds) (hn : ds.length ≤ 400) (hpn : ∀ d ∈ ds, d.pins.length ≤ 1048576 ∧ d.pins ≠ []) :
    Calls Tryz.prog 102 #[sv] w fun e w' => ∃ v', e = .returned v' ∧ OwnDs w' w.heap.size w'.heap.size v' (srtD ds) ∧ Below w.heap.size w w' :=
  specSorted_len ds sv w h hn (fun d hd => (hpn d hd).1)
/- The program's SortDevices. -/
theorem dcmp_impl : DCmp 62 #[] := fun W x y sx sy hx hy => compareDevices_any x.kind x.wd x.len y.kind y.wd y.len sx sy x.pins y.pins W hx hy
/- Bounds of what SortDevices answers. -/
section
variable {P : Program} {ops : Array Oper} {Q : Exit → Act → World → Prop} {md : Region.Mode} {S : World → Prop} {l : Nat}
theorem opsL {i : Nat} {oi : Oper} (hi : ops.toList[i]? = some oi) : ops[i]? = some oi := by rw [← Array.getElem?_toList]; exact hi
theorem wpAnyE_takeL {i : Nat} {oi : Oper} {v : Value} {fuel : Nat} {listed : Array Bool} {a : Act} {w : World} (hi : ops.toList[i]? = some oi)
    (hk : (Region.noSelect ops && Region.free md ops listed i && (Region.ready md ops listed).contains i && headB md ops l listed && Region.sinkB md ops l && Region.chainB md ops l && decide (l < ops.size) && decide (i < l)) = true)
    (hQ : ∀ c a w, Q (.panic c) (a.put oi.dst v) w → Q (.panic c) a w) (hy : YieldsIf P ops S oi v a) (hS : S w)
    (h : wpAnyE P md ops Q S l fuel (listed.setIfInBounds i true) (a.put oi.dst v) w) : wpAnyE P md ops Q S l (fuel + 1) listed a w :=
  wpAnyE_take (opsL hi) hk hQ hy hS h
theorem wpAnyE_oneL {k : Nat} {o : Oper} {fuel : Nat} {listed : Array Bool} {a : Act} {w : World} (hr : Region.ready md ops listed = [k]) (ho : ops.toList[k]? = some o)
    (h : ∀ K' : Act → World → Prop, Shut (∀ a w, (k ≠ l → S w) → wpAnyE P md ops Q S l fuel (listed.setIfInBounds k true) a w → K' a w) → if Region.wanted o (yielded ops a.tmps) = true then Oper.wp P o a w K' Q else K' (a.put o.dst undef) w) :
    wpAnyE P md ops Q S l (fuel + 1) listed a w := wpAnyE_one hr (opsL ho) h
theorem wpAnyE_twoL {k k' : Nat} {o o' : Oper} {fuel : Nat} {listed : Array Bool} {a : Act} {w : World} (hr : Region.ready md ops listed = [k, k']) (ho : ops.toList[k]? = some o) (ho' : ops.toList[k']? = some o')
    (h : ∀ K' : Act → World → Prop, Shut (∀ a w, (k ≠ l → S w) → wpAnyE P md ops Q S l fuel (listed.setIfInBounds k true) a w → K' a w) → if Region.wanted o (yielded ops a.tmps) = true then Oper.wp P o a w K' Q else K' (a.put o.dst undef) w)
    (h' : ∀ K' : Act → World → Prop, Shut (∀ a w, (k' ≠ l → S w) → wpAnyE P md ops Q S l fuel (listed.setIfInBounds k' true) a w → K' a w) → if Region.wanted o' (yielded ops a.tmps) = true then Oper.wp P o' a w K' Q else K' (a.put o'.dst undef) w) :
    wpAnyE P md ops Q S l (fuel + 1) listed a w := by
  refine ⟨fun h0 => (by rw [h0] at hr; cases hr), fun i hi => ?_⟩
  rw [hr] at hi
  have hik : i = k ∨ i = k' := by simpa using hi
  rcases hik with rfl | rfl
  · exact wpOp_step (opsL ho) (fun K' hK => h K' (fun a w hS hW => hK a w ⟨hS, hW⟩))
  · exact wpOp_step (opsL ho') (fun K' hK => h' K' (fun a w hS hW => hK a w ⟨hS, hW⟩))
end
def ZBld (w : World) (g n c : Nat) (ds : List Dv) : Prop := w.ownsRow 0 62 4 (.slice (some ⟨g, 0, none⟩) n c) ds.length (dcells ds (ds.map fun _ => Value.slice none 0 0)) ∧ ds.length = n ∧ (∀ d ∈ ds, d.pins = []) ∧ g < w.heap.size
section
variable {w w' : World} {g n c : Nat} {ds : List Dv}
theorem ZBld.by (hb : Below w.heap.size w w') (h : ZBld w g n c ds) : ZBld w' g n c ds := by
  obtain ⟨h1, h2, h3, h4⟩ := h
  refine ⟨row_same h1 (fun g' hg' => ?_), h2, h3, Nat.lt_of_lt_of_le h4 hb.size⟩
  have : g = g' := by injection hg'
  subst this
  exact hb.block g h4
theorem ZBld.keep {g0 : Nat} (hgr : w.grownBy w' (some g0)) (hne : g ≠ g0) (h : ZBld w g n c ds) : ZBld w' g n c ds := by
  obtain ⟨h1, h2, h3, h4⟩ := h
  refine ⟨row_same h1 (fun g' hg' => ?_), h2, h3, Nat.lt_of_lt_of_le h4 hgr.size⟩
  have : g = g' := by injection hg'
  subst this
  exact hgr.block g h4 (fun e => hne (Option.some.inj e))
theorem ZBld.lit (h : Blk w g #[] 62) : ZBld w g 0 0 [] :=
  ⟨⟨rfl, .inr ⟨g, 0, #[], rfl, Nat.zero_le _, h, Nat.le_refl _, by unfold maxLen; omega, rfl, rfl⟩⟩, rfl, by simp, h.lt⟩
theorem ZBld.sl (h : ZBld w g n c ds) : DvSl w (.slice (some ⟨g, 0, none⟩) n c) ds := by
  obtain ⟨⟨hlen, h1⟩, h2, h3, h4⟩ := h
  rcases h1 with ⟨h1, hn⟩ | ⟨g', cap, cur, e1, e2, e3, e4, e5, e6, e7⟩
  · cases h1
  · obtain ⟨rfl, rfl⟩ : g = g' ∧ c = cap := by
      simp only [Value.slice.injEq, Option.some.injEq, Addr.mk.injEq, and_true] at e1
      exact ⟨e1.1, e1.2.2⟩
    refine .inr ⟨g, 0, c, by rw [h2], e4, e5, fun i x hx => ?_⟩
    have hil : i < ds.length := (List.getElem?_eq_some_iff.1 hx).1
    obtain ⟨q0, q1, q2, q3⟩ := dcells_get ds (ds.map fun _ => Value.slice none 0 0) i x (.slice none 0 0) hx (by rw [List.getElem?_map, hx]; rfl)
    have hB : Blk w g cur 62 := e3
    have at_ : ∀ j u, (dcells ds (ds.map fun _ => Value.slice none 0 0))[j]? = some u → w.cell? ⟨g, j, none⟩ = some u := fun j u hu => by
      rw [hB.cell]
      rw [← e7] at hu
      have hj : j < ds.length * 4 := by
        have := (List.getElem?_eq_some_iff.1 hu).1
        rw [List.length_take] at this; omega
      rw [List.getElem?_take_of_lt hj] at hu
      simpa using hu
    simp only [Nat.zero_add]
    exact ⟨.slice none 0 0, at_ _ _ q0, at_ _ _ q1, at_ _ _ q2, at_ _ _ q3, .inl ⟨_, _, rfl, h3 x (List.mem_of_getElem? hx)⟩⟩
end
theorem keep_blk {w w' : World} {b g : Nat} {cs : Array Value} {T : TypeId} (hgr : w.grownBy w' (some g)) (h : Blk w b cs T) (hne : b ≠ g) : Blk w' b cs T :=
  (hgr.block b h.lt (fun e => hne (Option.some.inj e))).trans h
def IBld (w : World) (g n c : Nat) (zs : List Int) : Prop := w.ownsRow 0 2 1 (.slice (some ⟨g, 0, none⟩) n c) zs.length (icells zs) ∧ zs.length = n ∧ g < w.heap.size
section
variable {w w' : World} {g n c : Nat} {zs : List Int}
theorem IBld.by (hb : Below w.heap.size w w') (h : IBld w g n c zs) : IBld w' g n c zs := by
  obtain ⟨h1, h2, h4⟩ := h
  refine ⟨row_same h1 (fun g' hg' => ?_), h2, Nat.lt_of_lt_of_le h4 hb.size⟩
  have : g = g' := by injection hg'
  subst this
  exact hb.block g h4
theorem IBld.keep {g0 : Nat} (hgr : w.grownBy w' (some g0)) (hne : g ≠ g0) (h : IBld w g n c zs) : IBld w' g n c zs := by
  obtain ⟨h1, h2, h4⟩ := h
  refine ⟨row_same h1 (fun g' hg' => ?_), h2, Nat.lt_of_lt_of_le h4 hgr.size⟩
  have : g = g' := by injection hg'
  subst this
  exact hgr.block g h4 (fun e => hne (Option.some.inj e))
theorem IBld.lit (h : Blk w g #[] 2) : IBld w g 0 0 [] :=
  ⟨⟨rfl, .inr ⟨g, 0, #[], rfl, Nat.zero_le _, h, Nat.le_refl _, by unfold maxLen; omega, rfl, rfl⟩⟩, rfl, h.lt⟩
theorem IBld.apart {b o : Nat} {v : Value} (h : IBld w g n c zs) (hne : g ≠ b) : IBld (w.setCell ⟨b, o, none⟩ v) g n c zs := by
  obtain ⟨h1, h2, h4⟩ := h
  refine ⟨row_same h1 (fun g' hg' => ?_), h2, by simpa using h4⟩
  have : g = g' := by injection hg'
  subst this
  exact Below.heap_setCell w ⟨b, o, none⟩ v g hne
end
theorem infoBool : (Tryz.prog.info? 4).map (fun i => (i.zero, i.size, i.bytes)) = some (some (.bool false), 1, 1) := by kernel_rfl
theorem make_bools (n : Nat) (hn : n ≤ 1048576) (w : World) : ∃ cs : Array Value, cs.size = n ∧ (∀ i, i < n → cs[i]? = some (Value.bool false)) ∧ (Instr.makeSlice 124 (.int .i64 n) (.int .i64 n)).run Tryz.prog w = .ok (.slice (some ⟨w.heap.size, 0, none⟩) n n) (w.alloc (.cells cs 4)) := by
  obtain ⟨i0, hi, hz0, hz1, hz2⟩ := info_parts infoBool
  have h := run_make (P := Tryz.prog) w 124 4 i0 _ Tryz.underlying124 hi hz0 .i64 .i64 (n : Int) (n : Int) (by omega) (by omega) (by rw [hz2]; omega) (by omega)
  simp only [Int.toNat_natCast, hz1, Nat.mul_one] at h
  refine ⟨_, size_madeCells _ _, fun i hi => ?_, h⟩
  simp [madeCells, hi, Value.cells, Nat.mod_one]
def UsedB (w : World) (g n : Nat) (zs : List Int) : Prop := ∃ cs : Array Value, Blk w g cs 4 ∧ cs.size = n ∧ ∀ j : Nat, j < n → cs[j]? = some (.bool (zs.contains (j : Int)))
theorem UsedB.by {w w' : World} {g n : Nat} {zs : List Int} (hb : Below w.heap.size w w') (h : UsedB w g n zs) : UsedB w' g n zs := by
  obtain ⟨cs, a, b⟩ := h; exact ⟨cs, Blk.by hb a, b⟩
theorem UsedB.keep {w w' : World} {g g0 n : Nat} {zs : List Int} (hgr : w.grownBy w' (some g0)) (hne : g ≠ g0) (h : UsedB w g n zs) : UsedB w' g n zs := by
  obtain ⟨cs, a, b⟩ := h; exact ⟨cs, keep_blk hgr a hne, b⟩
theorem UsedB.cell {w : World} {g n j : Nat} {zs : List Int} (h : UsedB w g n zs) (hj : j < n) : w.cell? ⟨g, j, none⟩ = some (.bool (zs.contains (j : Int))) ∧ w.frozen? ⟨g, j, none⟩ = false ∧ g < w.heap.size := by
  obtain ⟨cs, a, b, c⟩ := h
  exact ⟨(a.cell j).trans (c j hj), a.free j, a.lt⟩
theorem UsedB.add {w : World} {g n k : Nat} {zs : List Int} (h : UsedB w g n zs) (hk : k < n) : UsedB (w.setCell ⟨g, k, none⟩ (.bool true)) g n (zs ++ [(k : Int)]) := by
  obtain ⟨cs, a, b, c⟩ := h
  refine ⟨_, a.set k _, by simpa using b, fun j hj => ?_⟩
  by_cases e : j = k
  · subst e
    rw [Array.getElem?_setIfInBounds_self_of_lt (by omega)]
    have : (zs ++ [(j : Int)]).contains (j : Int) = true := by simp
    rw [this]
  · rw [Array.getElem?_setIfInBounds_ne (by omega), c j hj]
    congr 2
    rw [List.contains_eq_mem, List.contains_eq_mem]
    refine decide_eq_decide.2 ⟨fun h => List.mem_append.2 (.inl h), fun h => ?_⟩
    rcases List.mem_append.1 h with h | h
    · exact h
    · rw [List.mem_singleton] at h; omega
structure Exc (E : Nat → Prop) (w w' : World) : Prop where
  os : w'.os = w.os
  tape : w'.tape = w.tape
  output : w'.output = w.output
  size : w.heap.size ≤ w'.heap.size
  block : ∀ k, k < w.heap.size → ¬ E k → w'.heap[k]? = w.heap[k]?
section
variable {E F : Nat → Prop} {a w w' : World} {lo hi : Nat}
theorem Exc.refl (E : Nat → Prop) (w : World) : Exc E w w := ⟨rfl, rfl, rfl, Nat.le_refl _, fun _ _ _ => rfl⟩
theorem Exc.ofBelow (h : Below w.heap.size w w') : Exc E w w' := ⟨h.os, h.tape, h.output, h.size, fun k hk _ => h.block k hk⟩
theorem Exc.ofWithin (h : Within lo hi w w') (hE : ∀ k, lo ≤ k → k < hi → E k) : Exc E w w' := ⟨h.os, h.tape, h.output, h.size, fun k hk hn => h.block k hk (by
  rcases Nat.lt_or_ge k lo with h1 | h1
  · exact .inl h1
  · rcases Nat.lt_or_ge k hi with h2 | h2
    · exact absurd (hE k h1 h2) hn
    · exact .inr h2)⟩
theorem Exc.mono (h : Exc E w w') (hE : ∀ k, k < w.heap.size → E k → F k) : Exc F w w' := ⟨h.os, h.tape, h.output, h.size, fun k hk hn => h.block k hk (fun e => hn (hE k hk e))⟩
theorem Exc.on (h : Exc E a w) (h' : Exc E w w') : Exc E a w' :=
  ⟨h'.os.trans h.os, h'.tape.trans h.tape, h'.output.trans h.output, Nat.le_trans h.size h'.size, fun k hk hn => (h'.block k (Nat.lt_of_lt_of_le hk h.size) hn).trans (h.block k hk hn)⟩
theorem Exc.thn (h : Exc E a w) (h' : Exc F w w') (hE : ∀ k, k < a.heap.size → F k → E k) : Exc E a w' :=
  ⟨h'.os.trans h.os, h'.tape.trans h.tape, h'.output.trans h.output, Nat.le_trans h.size h'.size, fun k hk hn => (h'.block k (Nat.lt_of_lt_of_le hk h.size) (fun e => hn (hE k hk e))).trans (h.block k hk hn)⟩
theorem Exc.set (h : Exc E a w) (g o : Nat) (v : Value) (hg : g < a.heap.size → E g) : Exc E a (w.setCell ⟨g, o, none⟩ v) :=
  ⟨h.os, h.tape, h.output, by simp [World.setCell]; exact h.size, fun k hk hn => (Below.heap_setCell w ⟨g, o, none⟩ v k (fun e => by subst e; exact hn (hg hk))).trans (h.block k hk hn)⟩
theorem Exc.alloc (h : Exc E a w) (o : Obj) : Exc E a (w.alloc o) :=
  ⟨h.os, h.tape, h.output, by have := h.size; simp; omega, fun k hk hn => (Below.heap_alloc w o k (by have := h.size; omega)).trans (h.block k hk hn)⟩
theorem Exc.drew (h : Exc E a w) : Exc E a w.drew := ⟨h.os, h.tape, h.output, h.size, h.block⟩
theorem Exc.drewN (h : Exc E a w) (n : Nat) : Exc E a (w.drewN n) := ⟨h.os, h.tape, h.output, h.size, h.block⟩
theorem Exc.below (h : Exc E w w') (hb : Below a.heap.size a w) (hE : ∀ k, k < a.heap.size → ¬ E k) : Below a.heap.size a w' :=
  hb.trans ⟨h.os, h.tape, h.output, h.size, fun k hk => h.block k (Nat.lt_of_lt_of_le hk hb.size) (hE k hk)⟩
theorem Exc.blk {f : Nat} {cs : Array Value} {T : TypeId} (h : Exc E w w') (hf : Blk w f cs T) (hne : ¬ E f) : Blk w' f cs T := (h.block f hf.lt hne).trans hf
variable {sv : Value} {zs : List Int}
theorem OwnR.exc (h : Exc E w w') (hO : OwnR w lo hi sv zs) (hE : ∀ k, lo ≤ k → k < hi → ¬ E k) : OwnR w' lo hi sv zs := by
  rcases hO with e | ⟨g, cap, cs, h1, h2, h2', h3, h4, h5, h6⟩
  · exact .inl e
  · exact .inr ⟨g, cap, cs, h1, h2, h2', h3, h4, h.blk h5 (hE g h2 h2'), h6⟩
theorem OwnDs.exc {ds : List Dv} (h : Exc E w w') (hO : OwnDs w lo hi sv ds) (hE : ∀ k, lo ≤ k → k < hi → ¬ E k) : OwnDs w' lo hi sv ds := by
  rcases hO with e | ⟨g, cap, cs, f, h1, h2, h3, h4, h5, h6, h7⟩
  · exact .inl e
  · refine .inr ⟨g, cap, cs, f, h1, h2, h3, h4, h.blk h5 (hE g h2.1 h2.2), fun i x hx => ?_, h7⟩
    obtain ⟨⟨pv, a, b⟩, c⟩ := h6 i x hx
    exact ⟨⟨pv, a, OwnR.exc h b (fun k h1 h2 => hE k (by omega) (by omega))⟩, c⟩
theorem BldI.exc (h : Exc E w w') (hO : BldI w lo hi sv zs) (hE : ∀ k, lo ≤ k → k < hi → ¬ E k) : BldI w' lo hi sv zs := by
  obtain ⟨hs, h1, h3⟩ := hO
  exact ⟨Nat.le_trans hs h.size, row_same h1 (fun g hg => h.block g (by have := h3 g hg; omega) (hE g (h3 g hg).1 (h3 g hg).2)), h3⟩
theorem UsedB.exc {g n : Nat} (h : Exc E w w') (hO : UsedB w g n zs) (hE : ¬ E g) : UsedB w' g n zs := by
  obtain ⟨cs, a, b⟩ := hO; exact ⟨cs, h.blk a hE, b⟩
theorem BldI.cut {k : Nat} {g c : Nat} {ys : List Int} (h : BldI w lo hi (.slice (some ⟨g, 0, none⟩) (zs ++ ys).length c) (zs ++ ys)) (hk : zs.length = k) : BldI w lo hi (.slice (some ⟨g, 0, none⟩) k c) zs := by
  subst hk
  obtain ⟨hs, ⟨h1, h2⟩, h3⟩ := h
  refine ⟨hs, ⟨by simp [icells], ?_⟩, h3⟩
  rcases h2 with ⟨h2, _⟩ | ⟨g', cap, cur, e1, e2, e3, e4, e5, e6, e7⟩
  · cases h2
  · simp only [Value.slice.injEq, Option.some.injEq, Addr.mk.injEq, and_true] at e1
    obtain ⟨rfl, _, rfl⟩ := e1
    rw [List.length_append] at e4 e7
    refine .inr ⟨g, c, cur, rfl, e2, e3, by omega, e5, by omega, ?_⟩
    have := congrArg (List.take (zs.length * 1)) e7
    rw [List.take_take, icells_push, List.take_left' (by simp [icells])] at this
    rw [← this]
    congr 1
    omega
def LlIn (w : World) (lo hi : Nat) (v : Value) (ls : List (List Int)) : Prop :=
  ∃ (N : Nat) (cs : Array Value), v = .slice (some ⟨N, 0, none⟩) ls.length ls.length ∧ (lo ≤ N ∧ N < hi) ∧ Blk w N cs 27 ∧ ls.length ≤ 1000 ∧ ∀ (j : Nat) xs, ls[j]? = some xs → ∃ s, cs[j]? = some s ∧ OwnR w lo hi s xs
theorem LlIn.exc {v : Value} {ls : List (List Int)} (h : Exc E w w') (hO : LlIn w lo hi v ls) (hE : ∀ k, lo ≤ k → k < hi → ¬ E k) : LlIn w' lo hi v ls := by
  obtain ⟨N, cs, h1, h2, h3, h4, h5⟩ := hO
  refine ⟨N, cs, h1, h2, h.blk h3 (hE N h2.1 h2.2), h4, fun j xs hx => ?_⟩
  obtain ⟨s, a, b⟩ := h5 j xs hx
  exact ⟨s, a, OwnR.exc h b hE⟩
theorem LlIn.by {v : Value} {ls : List (List Int)} (h : Below w.heap.size w w') (hO : LlIn w lo hi v ls) : LlIn w' lo hi v ls := hO.exc (E := fun _ => False) (Exc.ofBelow h) (fun _ _ _ e => e)
theorem LlIn.row {v : Value} {ls : List (List Int)} {j : Nat} {xs : List Int} (hO : LlIn w lo hi v ls) (h : ls[j]? = some xs) : ∃ N s, v = .slice (some ⟨N, 0, none⟩) ls.length ls.length ∧ w.cell? ⟨N, j, none⟩ = some s ∧ IntSl w s xs ∧ N < w.heap.size := by
  obtain ⟨N, cs, h1, h2, h3, h4, h5⟩ := hO
  obtain ⟨s, a, b⟩ := h5 j xs h
  exact ⟨N, s, h1, (h3.cell j).trans a, b.sl, h3.lt⟩
theorem OwnDs.atE {ds : List Dv} {i : Nat} {x : Dv} (h : OwnDs w lo hi sv ds) (hx : ds[i]? = some x) : ∃ g cap f pv, sv = .slice (some ⟨g, 0, none⟩) ds.length cap ∧ g < w.heap.size ∧ w.cell? ⟨g, i * 4, none⟩ = some (.int .i64 x.kind) ∧ w.cell? ⟨g, i * 4 + 1, none⟩ = some pv ∧ w.cell? ⟨g, i * 4 + 2, none⟩ = some (.int .i64 x.wd) ∧ w.cell? ⟨g, i * 4 + 3, none⟩ = some (.int .i64 x.len) ∧ OwnR w f (f + 1) pv x.pins ∧ lo ≤ f ∧ f < hi := by
  rcases h with ⟨_, _, _, rfl⟩ | ⟨g, cap, cs, f, h1, h2, h3, h4, h5, h6, h7⟩
  · simp at hx
  · obtain ⟨⟨pv, ⟨e1, e2, e3, e4⟩, b⟩, c⟩ := h6 i x hx
    have hc := h5.cell
    exact ⟨g, cap, f i, pv, h1, h5.lt, (hc _).trans e1, (hc _).trans e2, (hc _).trans e3, (hc _).trans e4, b, c.1, c.2.1⟩
end
def RB (w : World) (g n c : Nat) (L : List Tr) : Prop := w.ownsRow 0 62 4 (.slice (some ⟨g, 0, none⟩) n c) n (tcells L) ∧ L.length = n ∧ g < w.heap.size ∧ ∀ t ∈ L, OwnR w t.2.2 (t.2.2 + 1) t.2.1 t.1.pins ∧ t.2.2 < w.heap.size ∧ t.2.2 ≠ g
section
variable {w w' : World} {g n c : Nat} {L : List Tr}
theorem RB.exc {E : Nat → Prop} (h : Exc E w w') (hR : RB w g n c L) (hg : ¬ E g) (hE : ∀ t ∈ L, ¬ E t.2.2) : RB w' g n c L := by
  obtain ⟨h1, h2, h3, h4⟩ := hR
  refine ⟨row_same h1 (fun g' hg' => ?_), h2, Nat.lt_of_lt_of_le h3 h.size, fun t ht => ?_⟩
  · have : g = g' := by injection hg'
    subst this
    exact h.block g h3 hg
  · obtain ⟨a, b, c⟩ := h4 t ht
    exact ⟨OwnR.exc h a (fun k h1 h2 e => hE t ht ((show k = t.2.2 by omega) ▸ e)), Nat.lt_of_lt_of_le b h.size, c⟩
theorem RB.by (hb : Below w.heap.size w w') (hR : RB w g n c L) : RB w' g n c L := hR.exc (E := fun _ => False) (Exc.ofBelow hb) (fun e => e) (fun _ _ e => e)
theorem grown_exc {g0 : Nat} (h : w.grownBy w' (some g0)) : Exc (fun k => k = g0) w w' := ⟨h.os, h.tape, h.output, h.size, fun k hk hn => h.block k hk (fun e => hn (Option.some.inj e))⟩
theorem RB.lit (h : Blk w g #[] 62) : RB w g 0 0 [] :=
  ⟨⟨rfl, .inr ⟨g, 0, #[], rfl, Nat.zero_le _, h, Nat.le_refl _, by unfold maxLen; omega, rfl, rfl⟩⟩, rfl, h.lt, by simp⟩
theorem RB.one (h : RB w g n c L) : ∀ t ∈ L, t.2.1.oneCell' = true := by
  intro t ht
  obtain ⟨a, b⟩ := h.2.2.2 t ht
  rcases a with ⟨_, _, e, _⟩ | ⟨_, _, _, e, _⟩ <;> rw [e] <;> rfl
theorem RB.cells (h : RB w g n c L) : ∃ cur, Blk w g cur 62 ∧ n ≤ c ∧ c ≤ maxLen ∧ ∀ (j : Nat) u, (tcells L)[j]? = some u → cur[j]? = some u := by
  obtain ⟨⟨h0, h1⟩, h2, h3, h4⟩ := h
  rcases h1 with ⟨h1, _⟩ | ⟨g', cap, cur, e1, e2, e3, e4, e5, e6, e7⟩
  · cases h1
  · simp only [Value.slice.injEq, Option.some.injEq, Addr.mk.injEq, and_true] at e1
    obtain ⟨rfl, _, rfl⟩ := e1
    exact ⟨cur, e3, e4, e5, row_cur (g := g) (cap := c) e7⟩
theorem RB.row (h : RB w g n c L) : DRow w g (L.map fun t => (t.1, t.2.2)).toArray := by
  obtain ⟨cur, hB, _, _, hc⟩ := h.cells
  refine ⟨cur, hB, fun i hi => ?_⟩
  have hil : i < L.length := by simpa using hi
  have ht : L[i]? = some L[i] := List.getElem?_eq_getElem hil
  have hbang : (L.map fun t => (t.1, t.2.2)).toArray[i]! = (L[i].1, L[i].2.2) := by
    rw [getBang _ _ hi]
    simp
  rw [hbang]
  obtain ⟨a, b, d⟩ := h.2.2.2 _ (List.mem_of_getElem? ht)
  obtain ⟨q0, q1, q2, q3⟩ := tcells_get L i _ ht
  exact ⟨⟨_, ⟨hc _ _ q0, hc _ _ q1, hc _ _ q2, hc _ _ q3⟩, a⟩, d⟩
theorem RB.push {x : Dv} {pv : Value} {f g' c' : Nat} (h : RB w g n c L) (hx : OwnR w f (f + 1) pv x.pins) (hf : f < w.heap.size) (hfg : f ≠ g)
    (h1 : w'.ownsRow 0 62 4 (.slice (some ⟨g', 0, none⟩) (n + 1) c') (n + 1) (tcells L ++ [.int .i64 x.kind, pv, .int .i64 x.wd, .int .i64 x.len])) (h2 : w.grownBy w' (some g)) (h3 : g' = g ∨ g' = w.heap.size) (hg' : g' < w'.heap.size) : RB w' g' (n + 1) c' (L ++ [(x, pv, f)]) := by
  obtain ⟨e1, e2, e3, e4⟩ := h
  have hE := grown_exc h2
  refine ⟨by rw [tcells_append]; exact h1, by rw [List.length_append, e2]; rfl, hg', fun t ht => ?_⟩
  rcases List.mem_append.1 ht with ht | ht
  · obtain ⟨a, b, c⟩ := e4 t ht
    exact ⟨OwnR.exc hE a (fun k h1 h2 (e : k = g) => c (by omega)), Nat.lt_of_lt_of_le b hE.size, by omega⟩
  · obtain rfl : t = (x, pv, f) := by simpa using ht
    exact ⟨OwnR.exc hE hx (fun k h1 h2 (e : k = g) => hfg (by dsimp only at h1 h2; omega)), Nat.lt_of_lt_of_le hf hE.size, by dsimp only; omega⟩
end
theorem step_pushR {ops : Array Oper} {o : Oper} {a : Act} {w : World} {K : Act → World → Prop} {Q : Exit → Act → World → Prop} {E : Prop} (hgd : o.guard = none) (s x : Operand)
    (ho : o.op = .call { callee := .builtin .append, args := #[s, x], argTypes := #[32, 32] })
    (g n c : Nat) (L : List Tr) (hs : a.eval s = .slice (some ⟨g, 0, none⟩) n c) (h : RB w g n c L) (nb : Nat) (d : Dv) (pv : Value) (f : Nat) (hx : a.eval x = .slice (some ⟨nb, 0, none⟩) 1 1)
    (hnb : Blk w nb #[.int .i64 d.kind, pv, .int .i64 d.wd, .int .i64 d.len] 62) (hd : OwnR w f (f + 1) pv d.pins) (hf : f < w.heap.size) (hfg : f ≠ g) (hn : n + 1 ≤ 1000)
    (hK : ∀ g' c' w', RB w' g' (n + 1) c' (L ++ [(d, pv, f)]) → w.grownBy w' (some g) → (g' = g ∨ g' = w.heap.size) → K (a.put o.dst (.slice (some ⟨g', 0, none⟩) (n + 1) c')) w') :
    if Region.wanted o (yielded ops a.tmps) = true then Oper.wp Tryz.prog o a w K Q else E := by
  have hone : pv.oneCell' = true := by rcases hd with ⟨_, _, e, _⟩ | ⟨_, _, _, e, _⟩ <;> rw [e] <;> rfl
  refine step_appT hgd s x ho 0 _ n _ hs h.1 ⟨nb, 0, none⟩ 1 1 [.int .i64 d.kind, pv, .int .i64 d.wd, .int .i64 d.len] hx rfl (World.news_of_block (cs := #[.int .i64 d.kind, pv, .int .i64 d.wd, .int .i64 d.len]) hnb) ?_ (by decide) hn (Nat.zero_le _) ?_
  · intro u hu
    simp at hu
    rcases hu with rfl | rfl | rfl | rfl
    · rfl
    · exact hone
    · rfl
    · rfl
  · intro g' c' w' h1 h2 h3
    have h3' : g' = g ∨ g' = w.heap.size := h3.imp (fun e => (Option.some.inj e).symm) id
    exact hK g' c' w' (h.push hd hf hfg h1 h2 h3' (h1.lt g' rfl).2) h2 h3'
theorem list_pushR {ops : Array Oper} {rest : List Oper} {o : Oper} {a : Act} {w : World} {Q : Exit → Act → World → Prop} (hgd : o.guard = none) (s x : Operand)
    (ho : o.op = .call { callee := .builtin .append, args := #[s, x], argTypes := #[32, 32] })
    (g n c : Nat) (L : List Tr) (hs : a.eval s = .slice (some ⟨g, 0, none⟩) n c) (h : RB w g n c L) (nb : Nat) (d : Dv) (pv : Value) (f : Nat) (hx : a.eval x = .slice (some ⟨nb, 0, none⟩) 1 1)
    (hnb : Blk w nb #[.int .i64 d.kind, pv, .int .i64 d.wd, .int .i64 d.len] 62) (hd : OwnR w f (f + 1) pv d.pins) (hf : f < w.heap.size) (hfg : f ≠ g) (hn : n + 1 ≤ 1000)
    (hK : ∀ g' c' w', RB w' g' (n + 1) c' (L ++ [(d, pv, f)]) → w.grownBy w' (some g) → (g' = g ∨ g' = w.heap.size) → wpList Tryz.prog ops Q rest (a.put o.dst (.slice (some ⟨g', 0, none⟩) (n + 1) c')) w') : wpList Tryz.prog ops Q (o :: rest) a w :=
  wpList_plain hgd fun K hk => by
    have h := step_pushR (ops := ops) (K := K) (Q := Q) (E := False) hgd s x ho g n c L hs h nb d pv f hx hnb hd hf hfg hn (fun g' c' w' h1 h2 h3 => hk _ _ (hK g' c' w' h1 h2 h3))
    rwa [if_pos (by simp [Region.wanted, hgd])] at h
theorem size_drewN (w : World) (n : Nat) : (w.drewN n).heap.size = w.heap.size := rfl
section
variable {w w' : World} {lo hi lo' hi' : Nat} {v : Value} {zs : List Int}
theorem OwnR.wide' (h : OwnR w lo hi v zs) (h1 : lo' ≤ lo) (h2 : hi ≤ hi') : OwnR w lo' hi' v zs := by
  rcases h with h | ⟨g, cap, cs, e1, e2, e2', e3⟩
  · exact .inl h
  · exact .inr ⟨g, cap, cs, e1, by omega, by omega, e3⟩
end
def OwnPr (w : World) (lo hi : Nat) (v : Value) (x : List Int × List Int) : Prop := ∃ s1 s2 l1 h1 l2 h2, v = .agg #[s1, s2] ∧ OwnR w l1 h1 s1 x.1 ∧ OwnR w l2 h2 s2 x.2 ∧ (lo ≤ l1 ∧ h1 ≤ hi) ∧ (lo ≤ l2 ∧ h2 ≤ hi) ∧ (h1 ≤ l2 ∨ h2 ≤ l1)
section
variable {w w' : World} {lo hi lo' hi' : Nat} {v : Value} {x : List Int × List Int}
theorem OwnPr.by (hb : Below w.heap.size w w') (h : OwnPr w lo hi v x) : OwnPr w' lo hi v x := by
  obtain ⟨s1, s2, l1, h1, l2, h2, e, a, b, c⟩ := h; exact ⟨s1, s2, l1, h1, l2, h2, e, OwnR.by hb a, OwnR.by hb b, c⟩
theorem OwnPr.past (hb : Within lo' hi' w w') (h : OwnPr w lo hi v x) (hd : hi ≤ lo' ∨ hi' ≤ lo) : OwnPr w' lo hi v x := by
  obtain ⟨s1, s2, l1, h1, l2, h2, e, a, b, c, d, f⟩ := h; exact ⟨s1, s2, l1, h1, l2, h2, e, OwnR.past hb a (by omega), OwnR.past hb b (by omega), c, d, f⟩
theorem OwnPr.wide (h : OwnPr w lo hi v x) (h1 : lo' ≤ lo) (h2 : hi ≤ hi') : OwnPr w lo' hi' v x := by
  obtain ⟨s1, s2, l1, h1, l2, h2, e, a, b, c, d, f⟩ := h; exact ⟨s1, s2, l1, h1, l2, h2, e, a, b, by omega, by omega, f⟩
end
/- A slice of int64 that came in as an argument. -/
open Go.ChangeShapes Go.WideShapes Go.ChangeAt Go.RowKit Go.Joins
end Go.Proofs.YtifbffianbgeaaaGreat
