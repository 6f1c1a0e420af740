/- Contracts and plain laws, part 6, for the statement's proof. -/
import Derived.Test.YtifbffianbgeaaaGreatPkAmsLaw5
import Derived.Sort.LotA
import Derived.Deep.DeepCutAuto
import Derived.Deep.RegionLaw
import Derived.Shelf.Abstract
import Derived.Deep.RegionHeldLaw
import Derived.Deep.AppendLies
import Derived.Deep.AppendSrc
import Derived.BigRegion
import Derived.Deep.RegionHeld3
import Derived.BigQuiet
import Derived.Test.YtifbffianbgeaaaGreatRows
import Derived.WalkKit
import Derived.ProofKit
import Derived.OpenShut
namespace Go.Proofs.YtifbffianbgeaaaGreat
open Go.RowKit
set_option linter.unusedVariables false
set_option linter.unusedSimpArgs false
def ZBld (w : World) (g n c : Nat) (ds : List Dv) : Prop := w.ownsRow 0 62 4 (.slice (some ⟨g, 0, none⟩) n c) ds.length (dcells ds (ds.map fun _ => Value.slice none 0 0)) ∧ ds.length = n ∧ (∀ d ∈ ds, d.pins = []) ∧ g < w.heap.size
section
variable {w w' : World} {g n c : Nat} {ds : List Dv}
theorem ZBld.by (hb : Below w.heap.size w w') (h : ZBld w g n c ds) : ZBld w' g n c ds := by
  obtain ⟨h1, h2, h3, h4⟩ := h
  refine ⟨row_same h1 (fun g' hg' => ?_), h2, h3, Nat.lt_of_lt_of_le h4 hb.size⟩
  have : g = g' := by injection hg'
  subst this
  exact hb.block g h4
theorem ZBld.keep {g0 : Nat} (hgr : w.grownBy w' (some g0)) (hne : g ≠ g0) (h : ZBld w g n c ds) : ZBld w' g n c ds := by
  obtain ⟨h1, h2, h3, h4⟩ := h
  refine ⟨row_same h1 (fun g' hg' => ?_), h2, h3, Nat.lt_of_lt_of_le h4 hgr.size⟩
  have : g = g' := by injection hg'
  subst this
  exact hgr.block g h4 (fun e => hne (Option.some.inj e))
theorem ZBld.lit (h : Blk w g #[] 62) : ZBld w g 0 0 [] :=
  ⟨⟨rfl, .inr ⟨g, 0, #[], rfl, Nat.zero_le _, h, Nat.le_refl _, by unfold maxLen; omega, rfl, rfl⟩⟩, rfl, by simp, h.lt⟩
theorem ZBld.sl (h : ZBld w g n c ds) : DvSl w (.slice (some ⟨g, 0, none⟩) n c) ds := by
  obtain ⟨⟨hlen, h1⟩, h2, h3, h4⟩ := h
  rcases h1 with ⟨h1, hn⟩ | ⟨g', cap, cur, e1, e2, e3, e4, e5, e6, e7⟩
  · cases h1
  · obtain ⟨rfl, rfl⟩ : g = g' ∧ c = cap := by
      simp only [Value.slice.injEq, Option.some.injEq, Addr.mk.injEq, and_true] at e1
      exact ⟨e1.1, e1.2.2⟩
    refine .inr ⟨g, 0, c, by rw [h2], e4, e5, fun i x hx => ?_⟩
    have hil : i < ds.length := (List.getElem?_eq_some_iff.1 hx).1
    obtain ⟨q0, q1, q2, q3⟩ := dcells_get ds (ds.map fun _ => Value.slice none 0 0) i x (.slice none 0 0) hx (by rw [List.getElem?_map, hx]; rfl)
    have hB : Blk w g cur 62 := e3
    have at_ : ∀ j u, (dcells ds (ds.map fun _ => Value.slice none 0 0))[j]? = some u → w.cell? ⟨g, j, none⟩ = some u := fun j u hu => by
      rw [hB.cell]
      rw [← e7] at hu
      have hj : j < ds.length * 4 := by
        have := (List.getElem?_eq_some_iff.1 hu).1
        rw [List.length_take] at this; omega
      rw [List.getElem?_take_of_lt hj] at hu
      simpa using hu
    simp only [Nat.zero_add]
    exact ⟨.slice none 0 0, at_ _ _ q0, at_ _ _ q1, at_ _ _ q2, at_ _ _ q3, .inl ⟨_, _, rfl, h3 x (List.mem_of_getElem? hx)⟩⟩
end
theorem keep_blk {w w' : World} {b g : Nat} {cs : Array Value} {T : TypeId} (hgr : w.grownBy w' (some g)) (h : Blk w b cs T) (hne : b ≠ g) : Blk w' b cs T :=
  (hgr.block b h.lt (fun e => hne (Option.some.inj e))).trans h
def IBld (w : World) (g n c : Nat) (zs : List Int) : Prop := w.ownsRow 0 2 1 (.slice (some ⟨g, 0, none⟩) n c) zs.length (icells zs) ∧ zs.length = n ∧ g < w.heap.size
section
variable {w w' : World} {g n c : Nat} {zs : List Int}
theorem IBld.by (hb : Below w.heap.size w w') (h : IBld w g n c zs) : IBld w' g n c zs := by
  obtain ⟨h1, h2, h4⟩ := h
  refine ⟨row_same h1 (fun g' hg' => ?_), h2, Nat.lt_of_lt_of_le h4 hb.size⟩
  have : g = g' := by injection hg'
  subst this
  exact hb.block g h4
theorem IBld.keep {g0 : Nat} (hgr : w.grownBy w' (some g0)) (hne : g ≠ g0) (h : IBld w g n c zs) : IBld w' g n c zs := by
  obtain ⟨h1, h2, h4⟩ := h
  refine ⟨row_same h1 (fun g' hg' => ?_), h2, Nat.lt_of_lt_of_le h4 hgr.size⟩
  have : g = g' := by injection hg'
  subst this
  exact hgr.block g h4 (fun e => hne (Option.some.inj e))
theorem IBld.lit (h : Blk w g #[] 2) : IBld w g 0 0 [] :=
  ⟨⟨rfl, .inr ⟨g, 0, #[], rfl, Nat.zero_le _, h, Nat.le_refl _, by unfold maxLen; omega, rfl, rfl⟩⟩, rfl, h.lt⟩
theorem IBld.apart {b o : Nat} {v : Value} (h : IBld w g n c zs) (hne : g ≠ b) : IBld (w.setCell ⟨b, o, none⟩ v) g n c zs := by
  obtain ⟨h1, h2, h4⟩ := h
  refine ⟨row_same h1 (fun g' hg' => ?_), h2, by simpa using h4⟩
  have : g = g' := by injection hg'
  subst this
  exact Below.heap_setCell w ⟨b, o, none⟩ v g hne
end
theorem infoBool : (Tryz.prog.info? 4).map (fun i => (i.zero, i.size, i.bytes)) = some (some (.bool false), 1, 1) := by kernel_rfl
theorem make_bools (n : Nat) (hn : n ≤ 1048576) (w : World) : ∃ cs : Array Value, cs.size = n ∧ (∀ i, i < n → cs[i]? = some (Value.bool false)) ∧ (Instr.makeSlice 124 (.int .i64 n) (.int .i64 n)).run Tryz.prog w = .ok (.slice (some ⟨w.heap.size, 0, none⟩) n n) (w.alloc (.cells cs 4)) := by
  obtain ⟨i0, hi, hz0, hz1, hz2⟩ := info_parts infoBool
  have h := run_make (P := Tryz.prog) w 124 4 i0 _ Tryz.underlying124 hi hz0 .i64 .i64 (n : Int) (n : Int) (by omega) (by omega) (by rw [hz2]; omega) (by omega)
  simp only [Int.toNat_natCast, hz1, Nat.mul_one] at h
  refine ⟨_, size_madeCells _ _, fun i hi => ?_, h⟩
  simp [madeCells, hi, Value.cells, Nat.mod_one]
def UsedB (w : World) (g n : Nat) (zs : List Int) : Prop := ∃ cs : Array Value, Blk w g cs 4 ∧ cs.size = n ∧ ∀ j : Nat, j < n → cs[j]? = some (.bool (zs.contains (j : Int)))
theorem UsedB.by {w w' : World} {g n : Nat} {zs : List Int} (hb : Below w.heap.size w w') (h : UsedB w g n zs) : UsedB w' g n zs := by
  obtain ⟨cs, a, b⟩ := h; exact ⟨cs, Blk.by hb a, b⟩
theorem UsedB.keep {w w' : World} {g g0 n : Nat} {zs : List Int} (hgr : w.grownBy w' (some g0)) (hne : g ≠ g0) (h : UsedB w g n zs) : UsedB w' g n zs := by
  obtain ⟨cs, a, b⟩ := h; exact ⟨cs, keep_blk hgr a hne, b⟩
theorem UsedB.cell {w : World} {g n j : Nat} {zs : List Int} (h : UsedB w g n zs) (hj : j < n) : w.cell? ⟨g, j, none⟩ = some (.bool (zs.contains (j : Int))) ∧ w.frozen? ⟨g, j, none⟩ = false ∧ g < w.heap.size := by
  obtain ⟨cs, a, b, c⟩ := h
  exact ⟨(a.cell j).trans (c j hj), a.free j, a.lt⟩
theorem UsedB.add {w : World} {g n k : Nat} {zs : List Int} (h : UsedB w g n zs) (hk : k < n) : UsedB (w.setCell ⟨g, k, none⟩ (.bool true)) g n (zs ++ [(k : Int)]) := by
  obtain ⟨cs, a, b, c⟩ := h
  refine ⟨_, a.set k _, by simpa using b, fun j hj => ?_⟩
  by_cases e : j = k
  · subst e
    rw [Array.getElem?_setIfInBounds_self_of_lt (by omega)]
    have : (zs ++ [(j : Int)]).contains (j : Int) = true := by simp
    rw [this]
  · rw [Array.getElem?_setIfInBounds_ne (by omega), c j hj]
    congr 2
    rw [List.contains_eq_mem, List.contains_eq_mem]
    refine decide_eq_decide.2 ⟨fun h => List.mem_append.2 (.inl h), fun h => ?_⟩
    rcases List.mem_append.1 h with h | h
    · exact h
    · rw [List.mem_singleton] at h; omega
open Go.Sort (swp PermIn SortedIn SWO size_swp swp_get)
def tauI (i j k : Nat) : Nat := if k = i then j else if k = j then i else k
section
variable {α : Type} [Inhabited α]
def Fol (f : Nat → Nat) (d d' : Array α) : Prop := d'.size = d.size ∧ ∀ k, k < d.size → d'[k]! = d[f k]!
theorem Fol.swp {f g : Nat → Nat} {d d' : Array α} (h : Fol f d d') {i j : Nat} (hi : i < d.size) (hj : j < d.size) (hg : ∀ k, g k = f (tauI i j k)) : Fol g d (swp d' i j) := by
  refine ⟨by rw [size_swp]; exact h.1, fun k hk => ?_⟩
  rw [swp_get d' (by rw [h.1]; exact hi) (by rw [h.1]; exact hj), hg]
  unfold tauI
  by_cases h1 : k = j
  · subst h1
    by_cases h2 : k = i
    · subst h2; simp; exact h.2 _ hk
    · simp [h2]; exact h.2 _ hi
  · by_cases h2 : k = i
    · subst h2; simp [h1]; exact h.2 _ hj
    · simp [h1, h2]; exact h.2 _ hk
theorem PermIn.refl' (a b : Nat) (d : Array α) : PermIn a b d d := Go.Sort.permIn_refl d a b
theorem PermIn.on {a b : Nat} {d d' d'' : Array α} (h1 : PermIn a b d d') (h2 : PermIn a b d' d'') : PermIn a b d d'' := Go.Sort.permIn_trans d d' d'' a b h1 h2
theorem PermIn.wide {a b a' b' : Nat} {d d' : Array α} (h : PermIn a b d d') (h1 : a' ≤ a) (h2 : b ≤ b') (h3 : b' ≤ d.size) : PermIn a' b' d d' := Go.Sort.permIn_mono d d' a b a' b' h1 h2 h3 h
theorem PermIn.swp {a b i j : Nat} {d d' : Array α} (h : PermIn a b d d') (h1 : a ≤ i) (h2 : i < b) (h3 : a ≤ j) (h4 : j < b) (h5 : b ≤ d.size) : PermIn a b d (swp d' i j) :=
  PermIn.on h (Go.Sort.swp_permIn d' a b i j h1 h2 h3 h4 (by rw [h.1]; exact h5))
variable {lt : α → α → Bool}
theorem SortedIn.sub {a b a' b' : Nat} {d : Array α} (h : SortedIn lt a b d) (h1 : a ≤ a') (h2 : b' ≤ b) : SortedIn lt a' b' d := fun i j hi hij hj => h i j (by omega) hij (by omega)
theorem SortedIn.one (hS : SWO lt) {a b : Nat} (d : Array α) (h : b ≤ a + 1) : SortedIn lt a b d := fun i j hi hij hj => by omega
theorem SortedIn.le (hS : SWO lt) {a b i j : Nat} {d : Array α} (h : SortedIn lt a b d) (hi : a ≤ i) (hij : i ≤ j) (hj : j < b) : lt d[j]! d[i]! = false := by
  rcases Nat.lt_or_eq_of_le hij with h' | rfl
  · exact h i j hi h' hj
  · exact hS.irrefl _
theorem SortedIn.out {a b x y : Nat} {d d' : Array α} (h : SortedIn lt a b d) (hp : PermIn x y d d') (hd : b ≤ x ∨ y ≤ a) : SortedIn lt a b d' := fun i j hi hij hj => by
  rw [hp.2.1 i (by omega), hp.2.1 j (by omega)]; exact h i j hi hij hj
end
/-! ### devices -/
instance : Inhabited Dv := ⟨⟨0, [], 0, 0⟩⟩
def dcf (x y : Dv) : Int := devcmp x.kind y.kind x.pins y.pins x.wd y.wd x.len y.len
def dlt (x y : Dv) : Bool := decide (dcf x y < 0)
def dltP (x y : Dv × Nat) : Bool := dlt x.1 y.1
theorem or2_flip {a b c d : Int} (h1 : a = - b) (h2 : c = - d) : or2 a c = - or2 b d := by
  unfold or2; repeat' split
  all_goals omega
theorem sgn_flip (a b : Int) : sgn a b = - sgn b a := by unfold sgn; (repeat' split) <;> omega
theorem dcf_flip (x y : Dv) : dcf x y = - dcf y x := or2_flip (sgn_flip _ _) (or2_flip (lcmp_flip _ _) (or2_flip (sgn_flip _ _) (sgn_flip _ _)))
theorem or2_zero {a b : Int} : or2 a b = 0 ↔ a = 0 ∧ b = 0 := by unfold or2; split <;> omega
theorem sgn_zero {a b : Int} : sgn a b = 0 ↔ a = b := by unfold sgn; (repeat' split) <;> omega
theorem dcf_zero {x y : Dv} : dcf x y = 0 ↔ x = y := by
  unfold dcf devcmp
  rw [or2_zero, or2_zero, or2_zero, sgn_zero, sgn_zero, sgn_zero, lcmp_zero]
  constructor
  · rintro ⟨h1, h2, h3, h4⟩; cases x; cases y; simp at *; exact ⟨h1, h2, h3, h4⟩
  · rintro rfl; exact ⟨rfl, rfl, rfl, rfl⟩
theorem or2_ntrans {a b c d e f : Int} (h1 : 0 ≤ a → 0 ≤ c → 0 ≤ e) (h2 : 0 ≤ b → 0 ≤ d → 0 ≤ f) (z1 : e = 0 → 0 ≤ a → 0 ≤ c → a = 0 ∧ c = 0) (ha : 0 ≤ or2 a b) (hb : 0 ≤ or2 c d) : 0 ≤ or2 e f := by
  have pa : 0 ≤ a := by unfold or2 at ha; split at ha <;> omega
  have pc : 0 ≤ c := by unfold or2 at hb; split at hb <;> omega
  by_cases x : e = 0
  · obtain ⟨y1, y2⟩ := z1 x pa pc
    rw [y1, or2_z] at ha
    rw [y2, or2_z] at hb
    rw [x, or2_z]
    exact h2 ha hb
  · have := h1 pa pc
    rw [or2_ne x]; exact this
theorem sgn_ntrans {a b c : Int} (h1 : 0 ≤ sgn a b) (h2 : 0 ≤ sgn b c) : 0 ≤ sgn a c := by
  unfold sgn at *; repeat' split
  all_goals (repeat' split at h1)
  all_goals (repeat' split at h2)
  all_goals omega
theorem sgn_nz {a b c : Int} (h : sgn a c = 0) (h1 : 0 ≤ sgn a b) (h2 : 0 ≤ sgn b c) : sgn a b = 0 ∧ sgn b c = 0 := by
  unfold sgn at *
  repeat' split at h
  all_goals (repeat' split at h1)
  all_goals (repeat' split at h2)
  all_goals (first | omega | (constructor <;> (repeat' split) <;> omega))
theorem lcmp_nz {a b c : List Int} (h : lcmp a c = 0) (h1 : 0 ≤ lcmp a b) (h2 : 0 ≤ lcmp b c) : lcmp a b = 0 ∧ lcmp b c = 0 := by
  have e := (lcmp_zero a c).1 h
  subst e
  have := lcmp_flip a b
  omega
theorem dcf_ntrans {x y z : Dv} (h1 : 0 ≤ dcf x y) (h2 : 0 ≤ dcf y z) : 0 ≤ dcf x z :=
  or2_ntrans sgn_ntrans (or2_ntrans (lcmp_ntrans _ _ _) (or2_ntrans sgn_ntrans sgn_ntrans sgn_nz) lcmp_nz) sgn_nz h1 h2
theorem dlt_false {x y : Dv} : dlt x y = false ↔ 0 ≤ dcf x y := by simp [dlt]
theorem dlt_swo : SWO dlt where
  irrefl x := by rw [dlt_false, dcf_zero.2 rfl]; exact Int.le_refl _
  ntrans x y z h1 h2 := dlt_false.2 (dcf_ntrans (dlt_false.1 h1) (dlt_false.1 h2))
  trans x y z h1 h2 := by
    simp only [dlt, decide_eq_true_eq] at *
    have f1 := dcf_flip x y; have f2 := dcf_flip y z; have f3 := dcf_flip x z
    have a1 := @dcf_ntrans z y x (by omega) (by omega)
    by_cases e : dcf x z = 0
    · have := dcf_zero.1 e; subst this; omega
    · omega
theorem dltP_swo : SWO dltP where
  irrefl x := dlt_swo.irrefl _
  trans x y z := dlt_swo.trans _ _ _
  ntrans x y z := dlt_swo.ntrans _ _ _
def srtD (ds : List Dv) : List Dv := ds.mergeSort (fun x y => !dlt y x)
theorem srtD_perm (ds : List Dv) : (srtD ds).Perm ds := List.mergeSort_perm _ _
theorem length_srtD (ds : List Dv) : (srtD ds).length = ds.length := (srtD_perm ds).length_eq
theorem srtD_pairwise (ds : List Dv) : (srtD ds).Pairwise (fun x y => dlt y x = false) := by
  have h := List.pairwise_mergeSort (le := fun x y => !dlt y x) (fun a b c h1 h2 => by
    simp only [Bool.not_eq_true'] at *
    exact dlt_swo.ntrans _ _ _ h2 h1) (fun a b => by
    have := dcf_flip a b
    simp [dlt]; omega) ds
  exact h.imp (fun h => by simpa using h)
theorem srtD_of {ds es : List Dv} (h : es.Perm ds) (hs : es.Pairwise (fun x y => dlt y x = false)) : es = srtD ds :=
  List.Perm.eq_of_pairwise (fun a b _ _ h1 h2 => by
    rw [dlt_false] at h1 h2
    have := dcf_flip a b
    exact dcf_zero.1 (by omega)) hs (srtD_pairwise ds) (h.trans (srtD_perm ds).symm)
/- A row of devices that is put in order in place: what lies in memory. -/
open Go.Sort (swp PermIn SortedIn SWO size_swp swp_get swp_other swp_left swp_right)
def RowC (w : World) (g : Nat) (d : Array (Dv × Nat)) (cs : Array Value) : Prop := ∀ i, i < d.size → (∃ pv, Cs4 cs i (.int .i64 d[i]!.1.kind) pv (.int .i64 d[i]!.1.wd) (.int .i64 d[i]!.1.len) ∧ OwnR w d[i]!.2 (d[i]!.2 + 1) pv d[i]!.1.pins) ∧ d[i]!.2 ≠ g
def DRow (w : World) (g : Nat) (d : Array (Dv × Nat)) : Prop := ∃ cs, Blk w g cs 62 ∧ RowC w g d cs
section
variable {w w' : World} {g : Nat} {d d' : Array (Dv × Nat)} {cs : Array Value}
theorem RowC.past (hb : Within g (g + 1) w w') (h : RowC w g d cs) : RowC w' g d cs := fun i hi => by
  obtain ⟨⟨pv, a, b⟩, c⟩ := h i hi
  exact ⟨⟨pv, a, b.past hb (by omega)⟩, c⟩
theorem Within.ofBelow {lo hi : Nat} (h : Below w.heap.size w w') : Within lo hi w w' := ⟨h.os, h.tape, h.output, h.size, fun k hk _ => h.block k hk⟩
theorem DRow.by (hb : Below w.heap.size w w') (h : DRow w g d) : DRow w' g d := by
  obtain ⟨cs, a, b⟩ := h
  exact ⟨cs, Blk.by hb a, b.past (Within.ofBelow hb)⟩
theorem DRow.lt (h : DRow w g d) : g < w.heap.size := by obtain ⟨cs, a, b⟩ := h; exact a.lt
theorem RowC.swp (h : RowC w g d cs) {i j : Nat} (hi : i < d.size) (hj : j < d.size) (hij : i ≠ j) {pi pj : Value}
    (hci : Cs4 cs i (.int .i64 d[i]!.1.kind) pi (.int .i64 d[i]!.1.wd) (.int .i64 d[i]!.1.len)) (hoi : OwnR w d[i]!.2 (d[i]!.2 + 1) pi d[i]!.1.pins)
    (hcj : Cs4 cs j (.int .i64 d[j]!.1.kind) pj (.int .i64 d[j]!.1.wd) (.int .i64 d[j]!.1.len)) (hoj : OwnR w d[j]!.2 (d[j]!.2 + 1) pj d[j]!.1.pins) :
    RowC w g (swp d i j) (set4 (set4 cs i (.int .i64 d[j]!.1.kind) pj (.int .i64 d[j]!.1.wd) (.int .i64 d[j]!.1.len)) j (.int .i64 d[i]!.1.kind) pi (.int .i64 d[i]!.1.wd) (.int .i64 d[i]!.1.len)) := by
  intro k hk
  rw [size_swp] at hk
  have si := (Array.getElem?_eq_some_iff.1 hci.2.2.2).1
  have sj := (Array.getElem?_eq_some_iff.1 hcj.2.2.2).1
  have sz : ∀ (cs : Array Value) (k : Nat) (a b c d : Value), (set4 cs k a b c d).size = cs.size := fun cs k a b c d => by simp [set4]
  by_cases e1 : k = j
  · subst e1
    rw [swp_right d i k hj]
    exact ⟨⟨pi, set4_same _ _ _ _ _ _ (by rw [sz]; exact sj), hoi⟩, (h i hi).2⟩
  · by_cases e2 : k = i
    · subst e2
      rw [swp_left d k j hi hij]
      refine ⟨⟨pj, (set4_same cs k (.int .i64 d[j]!.1.kind) pj (.int .i64 d[j]!.1.wd) (.int .i64 d[j]!.1.len) si).at_ (fun q h1 h2 => set4_other _ _ _ _ _ _ _ (by omega)), hoj⟩, (h j hj).2⟩
    · rw [swp_other d i j k e2 e1]
      obtain ⟨⟨pv, a, b⟩, c⟩ := h k hk
      exact ⟨⟨pv, a.at_ (fun q h1 h2 => by rw [set4_other _ _ _ _ _ _ _ (by omega), set4_other _ _ _ _ _ _ _ (by omega)]), b⟩, c⟩
theorem getBang (d : Array (Dv × Nat)) (i : Nat) (h : i < d.size) : d[i]! = d[i] := by simp [h]
theorem list_getBang (d : Array (Dv × Nat)) (i : Nat) (p : Dv × Nat) (h : d.toList[i]? = some p) : i < d.size ∧ d[i]! = p := by
  have hi : i < d.size := by have := (List.getElem?_eq_some_iff.1 h).1; simpa using this
  refine ⟨hi, ?_⟩
  rw [getBang d i hi]
  rw [List.getElem?_eq_getElem (by simpa using hi)] at h
  simpa using h
theorem OwnDs.row {lo hi : Nat} {sv : Value} {ds : List Dv} (h : OwnDs w lo hi sv ds) (hne : ds ≠ []) :
    ∃ (g cap : Nat) (d : Array (Dv × Nat)), sv = .slice (some ⟨g, 0, none⟩) d.size cap ∧ d.size = ds.length ∧ (lo ≤ g ∧ g < hi) ∧ ds.length ≤ cap ∧ cap ≤ maxLen ∧ DRow w g d ∧ d.toList.map (·.1) = ds ∧ (d.toList.map (·.2)).Nodup ∧ (∀ p ∈ d.toList, lo ≤ p.2 ∧ p.2 < hi ∧ p.2 ≠ g) := by
  rcases h with ⟨_, _, _, h⟩ | ⟨g, cap, cs, f, h1, h2, h3, h4, h5, h6, h7⟩
  · exact absurd h hne
  · have hsz : ((List.range ds.length).map fun i => (ds.getD i default, f i)).toArray.size = ds.length := by simp
    have hget : ∀ i (hi : i < ds.length), ((List.range ds.length).map fun i => (ds.getD i default, f i)).toArray[i]! = (ds[i], f i) := by
      intro i hi
      rw [getBang _ _ (by rw [hsz]; exact hi)]
      simp [hi]
    refine ⟨g, cap, ((List.range ds.length).map fun i => (ds.getD i default, f i)).toArray, by rw [hsz]; exact h1, hsz, h2, h3, h4, ⟨cs, h5, fun i hi => ?_⟩, ?_, ?_, ?_⟩
    · rw [hsz] at hi
      rw [hget i hi]
      obtain ⟨⟨pv, a, b⟩, c⟩ := h6 i ds[i] (List.getElem?_eq_getElem hi)
      exact ⟨⟨pv, a, b⟩, c.2.2⟩
    · apply List.ext_getElem?
      intro i
      by_cases hi : i < ds.length
      · simp [hi]
      · simp [hi]
    · rw [List.nodup_iff_pairwise_ne, List.pairwise_iff_getElem]
      intro i j hi hj hij
      simp at hi hj ⊢
      exact h7 i j hi hj (by omega)
    · intro p hp
      simp at hp
      obtain ⟨i, hi, rfl⟩ := hp
      exact (h6 i ds[i] (List.getElem?_eq_getElem hi)).2
theorem DRow.own {lo hi cap : Nat} (h : DRow w g d) (hg : lo ≤ g ∧ g < hi) (h1 : d.size ≤ cap) (h2 : cap ≤ maxLen) (hn : (d.toList.map (·.2)).Nodup) (hb : ∀ p ∈ d.toList, lo ≤ p.2 ∧ p.2 < hi ∧ p.2 ≠ g) :
    OwnDs w lo hi (.slice (some ⟨g, 0, none⟩) d.size cap) (d.toList.map (·.1)) := by
  obtain ⟨cs, hB, hR⟩ := h
  refine .inr ⟨g, cap, cs, fun i => d[i]!.2, by simp, hg, by simpa using h1, h2, hB, fun i x hx => ?_, fun i j hi hj hij => ?_⟩
  · rw [List.getElem?_map] at hx
    obtain ⟨p, hp, rfl⟩ : ∃ p, d.toList[i]? = some p ∧ p.1 = x := by
      cases h : d.toList[i]? with
      | none => rw [h] at hx; simp at hx
      | some p => rw [h] at hx; exact ⟨p, rfl, by simpa using hx⟩
    obtain ⟨hi, e⟩ := list_getBang d i p hp
    obtain ⟨⟨pv, a, b⟩, c⟩ := hR i hi
    rw [e] at a b
    dsimp only
    rw [e]
    exact ⟨⟨pv, a, b⟩, hb p (List.mem_of_getElem? hp)⟩
  · simp at hi hj
    rw [List.nodup_iff_pairwise_ne, List.pairwise_iff_getElem] at hn
    dsimp only
    rw [getBang d i hi, getBang d j hj]
    rcases Nat.lt_or_gt_of_ne hij with h | h
    · have := hn i j (by simpa using hi) (by simpa using hj) h
      simpa using this
    · have := hn j i (by simpa using hj) (by simpa using hi) h
      simpa using this.symm
theorem PermIn.list (h : PermIn 0 d.size d d') : d'.toList.Perm d.toList := by
  have h3 := h.2.2
  have e1 : (d'.extract 0 d.size) = d' := by rw [← h.1]; simp
  have e2 : (d.extract 0 d.size) = d := by simp
  rwa [e1, e2] at h3
theorem SortedIn.list (h : SortedIn dltP 0 d.size d) : (d.toList.map (·.1)).Pairwise (fun x y => dlt y x = false) := by
  rw [List.pairwise_map, List.pairwise_iff_getElem]
  intro i j hi hj hij
  have := h i j (Nat.zero_le _) hij (by simpa using hj)
  rw [getBang d i (by simpa using hi), getBang d j (by simpa using hj)] at this
  simpa [dltP] using this
end
theorem swap_cells {w : World} {g : Nat} {cs : Array Value} {T : TypeId} (h : Blk w g cs T) (i j : Nat) (a b c d a' b' c' d' : Value) :
    ∃ W, W = ((((((((w.setCell ⟨g, i * 4, none⟩ a).setCell ⟨g, i * 4 + 1, none⟩ b).setCell ⟨g, i * 4 + 2, none⟩ c).setCell ⟨g, i * 4 + 3, none⟩ d).setCell ⟨g, j * 4, none⟩ a').setCell ⟨g, j * 4 + 1, none⟩ b').setCell ⟨g, j * 4 + 2, none⟩ c').setCell ⟨g, j * 4 + 3, none⟩ d').drew ∧
      Blk W g (set4 (set4 cs i a b c d) j a' b' c' d') T ∧ Within g (g + 1) w W :=
  ⟨_, rfl, ((((((((h.set _ _).set _ _).set _ _).set _ _).set _ _).set _ _).set _ _).set _ _).drew,
    (((((((((Within.off _).on (Within.off _)).on (Within.off _)).on (Within.off _)).on (Within.off _)).on (Within.off _)).on (Within.off _)).on (Within.off _)).on (Within.ofBelow ((Below.refl _ _).drew)))⟩
def DCmp (gf : Nat) (lb : Array Value) : Prop := ∀ (W : World) (x y : Dv) (sx sy : Value), IntSl W sx x.pins → IntSl W sy y.pins → Calls Tryz.prog gf (#[.agg #[.int .i64 x.kind, sx, .int .i64 x.wd, .int .i64 x.len], .agg #[.int .i64 y.kind, sy, .int .i64 y.wd, .int .i64 y.len]] ++ lb) W fun e w' => e = .returned (.int .i64 (dcf x y)) ∧ Below W.heap.size W w'
/- slices.SortStableFunc's own functions at devices: exchanging two ranges. -/
/- slices.SortStableFunc's own functions at devices: the insertion sort. -/
open Go.Sort (swp PermIn SortedIn SWO size_swp swp_get swp_other swp_left swp_right Ins)
set_option maxRecDepth 100000 in
set_option maxHeartbeats 4000000 in
theorem insSort_any (gf : Nat) (lb : Array Value) (eg : ∀ args w, (callFunc gf args).run Tryz.prog w = .ok (.enter gf args) w) (hc : DCmp gf lb) (g cap a b : Nat) (d : Array (Dv × Nat)) (w : World) (h : DRow w g d) (hab : a ≤ b) (hbd : b ≤ d.size) (hsz : d.size ≤ 1000) (hcap : d.size ≤ cap) :
    Calls Tryz.prog 200 #[.slice (some ⟨g, 0, none⟩) d.size cap, .int .i64 a, .int .i64 b, .func (.func gf) #[] lb] w fun e w' =>
      e = .returned (.tuple #[]) ∧ ∃ d', DRow w' g d' ∧ SortedIn dltP a b d' ∧ PermIn a b d d' ∧ Within g (g + 1) w w' := by
  have HR0 := Lib.hid h
  have HC := Lib.hid hc
  have HP0 := Lib.hid (PermIn.refl' a b d)
  have HS0 := Lib.hid (SortedIn.one dltP_swo (a := a) (b := a + 1) d (Nat.le_refl _))
  clear h hc
  go_enter Tryz.func200, Tryz.ntmps200
  go_wp2
  go_loopw [8] (fun vi wr => ∃ (i : Nat) (dk : Array (Dv × Nat)), a < i ∧ i ≤ b + 1 ∧ vi = .int .i64 i ∧ Hid (dk.size = d.size) ∧ Hid (DRow wr g dk) ∧ Hid (SortedIn dltP a i dk) ∧ Hid (PermIn a b d dk) ∧ Within g (g + 1) w wr) (fun vi _ => b + 1 - (intOf vi).toNat)
  case atStart => exact ⟨a + 1, d, by omega, by omega, by go_num, Lib.hid rfl, HR0, HS0, HP0, Within.refl _ _ _⟩
  case round =>
    clear HR0 HS0 HP0
    obtain ⟨i, dk, hai, hib, rfl, HS, HR, HT, HP, hW⟩ := hrel
    by_cases hlt : i < b
    · have HI0 := Lib.hid (show Ins dltP a i i dk from ⟨fun p q hp hpq hq _ hqi => HT.out p q hp hpq (by omega), fun q h1 h2 => by omega⟩)
      have i1 : (i : Int) < (b : Int) := by omega
      obtain ⟨wo, rfl⟩ : ∃ wo, wo = wr := ⟨_, rfl⟩
      go_wp2
      go_loopw [9] (fun vj wr => ∃ (j : Nat) (dj : Array (Dv × Nat)), a ≤ j ∧ j ≤ i ∧ vj = .int .i64 j ∧ Hid (dj.size = d.size) ∧ Hid (DRow wr g dj) ∧ Hid (Ins dltP a j i dj) ∧ Hid (PermIn a b d dj) ∧ Within g (g + 1) w wr) (fun vj _ => (intOf vj).toNat)
      case atStart => exact ⟨i, dk, by omega, Nat.le_refl _, rfl, HS, HR, HI0, HP, hW⟩
      case round =>
        clear HS HR HI0 HP hW HT
        obtain ⟨j, dj, haj, hji, rfl, HS, HR, HI, HP, hW⟩ := hrel
        by_cases hja : a < j
        · obtain ⟨jp, rfl⟩ : ∃ jp, j = jp + 1 := ⟨j - 1, by omega⟩
          obtain ⟨cs, hB, hRC⟩ := HR.out
          obtain ⟨⟨pi, hci, hoi⟩, _⟩ := hRC (jp + 1) (by rw [HS.out]; omega)
          obtain ⟨⟨pj, hcj, hoj⟩, _⟩ := hRC jp (by rw [HS.out]; omega)
          have HRS := Lib.hid (RowC.swp hRC (i := jp + 1) (j := jp) (by rw [HS.out]; omega) (by rw [HS.out]; omega) (by omega) hci hoi hcj hoj)
          have HPS := Lib.hid (PermIn.swp HP.out (i := jp + 1) (j := jp) (by omega) (by omega) (by omega) (by omega) hbd)
          have HSS := Lib.hid (show (swp dj (jp + 1) jp).size = d.size by rw [size_swp]; exact HS.out)
          have HIS := Lib.hid (fun hl => Ins.step HI.out hl (by omega) (by rw [HS.out]; omega))
          have HIT := Lib.hid (fun hs => Ins.stop dltP_swo HI.out (.inr hs))
          have HCL := Lib.hid (fun W h1 h2 => HC.out W dj[jp + 1]!.1 dj[jp]!.1 pi pj h1 h2)
          simp only [Nat.add_sub_cancel] at HIT
          obtain ⟨a1, c1, rfl⟩ := hoi.sl.len
          obtain ⟨a2, c2, rfl⟩ := hoj.sl.len
          have HX := Lib.hid hoi.sl
          have HY := Lib.hid hoj.sl
          generalize swp dj (jp + 1) jp = ds at HRS HPS HSS HIS
          have HLT := Lib.hid (show dltP dj[jp + 1]! dj[jp]! = decide (dcf dj[jp + 1]!.1 dj[jp]!.1 < 0) from rfl)
          generalize dj[jp + 1]! = xi at *
          generalize dj[jp]! = xj at *
          obtain ⟨⟨ki, psi, wi, li⟩, fi⟩ := xi
          obtain ⟨⟨kj, psj, wj, lj⟩, fj⟩ := xj
          dsimp only at *
          generalize dltP (⟨ki, psi, wi, li⟩, fi) (⟨kj, psj, wj, lj⟩, fj) = lt at *
          generalize dcf ⟨ki, psi, wi, li⟩ ⟨kj, psj, wj, lj⟩ = r at *
          obtain ⟨ni, hni⟩ : ∃ ni, psi.length = ni := ⟨_, rfl⟩
          obtain ⟨nj, hnj⟩ : ∃ nj, psj.length = nj := ⟨_, rfl⟩
          rw [hni] at hci HRS HCL HX
          rw [hnj] at hcj HRS HCL HY
          obtain ⟨p0, p1, p2, p3⟩ := hci
          obtain ⟨q0, q1, q2, q3⟩ := hcj
          have hBc := hB.cell
          have hBl := hB.lt
          have i0 : (0 : Int) ≤ (jp : Int) + 1 := by omega
          have i2 : (jp : Int) + 1 < (d.size : Int) := by omega
          have i3 : (jp : Int) < (d.size : Int) := by omega
          have i4 : (a : Int) < (jp : Int) + 1 := by omega
          have ei : ((jp : Int) + 1).toNat = jp + 1 := by omega
          have wjp : IntKind.i64.wrap (jp : Int) = (jp : Int) := by rw [IntKind.wrap_i64]; omega
          have HRC := Lib.hid hRC
          clear hni hnj hoi hoj hRC
          by_cases hr : r < 0
          · have HLT2 := Lib.hid (HLT.out.trans (decide_eq_true hr))
            go_wp2_with fail
            go_region_held3 (fun w' => (Blk w' g cs 62 ∧ ∀ o, w'.cell? ⟨g, o, none⟩ = cs[o]?) ∧ Below wr.heap.size wr w') (((try (obtain ⟨⟨hS0, _⟩, hSB⟩ := hHeld)); refine ⟨Blk.both ?_, ?_⟩ <;> first | ((repeat (first | (with_reducible assumption) | (with_reducible refine Blk.drewN ?_ _) | (with_reducible refine Blk.drew ?_) | ((with_reducible refine Blk.new _ ?_); focus (first | omega | (simp; done) | (simp; omega))) | (with_reducible refine Blk.past ?_ _) | ((with_reducible refine Blk.apart ?_ _ _ _ ?_); rotate_left; focus (first | omega | (simp; done) | (simp; omega))) | (with_reducible refine Blk.by (by assumption) ?_))); done) | ((repeat (first | (with_reducible exact Below.refl _ _) | (with_reducible refine below_drewN ?_ _) | (with_reducible refine Below.drew ?_) | (with_reducible refine below_al ?_ _) | (with_reducible refine below_on (by assumption) ?_) | ((with_reducible refine Below.setCell ?_ ?_ _); rotate_left; focus (first | omega | (simp; done) | (simp; omega))) | (with_reducible assumption))); done)))
              (first | (go_at_fn gf; refine (HCL.out _ (HX.out.by blwT) (HY.out.by blwT)).mono ?_; rintro e w1 ⟨rfl, hb1⟩))
            all_goals
              have hb2 : Below wr.heap.size wr w1 := blwT
              have kB := Blk.by hb2 hB
              have hBc1 := kB.cell
              have hBf1 := kB.free
              have hBl1 := kB.lt
              clear hBc hBl
              go_wp2_with fail
              go_region
              all_goals go_wp2_with fail
              obtain ⟨W8, hW8, hB8, hWW⟩ := swap_cells kB (jp + 1) jp (.int .i64 kj) (.slice a2 nj c2) (.int .i64 wj) (.int .i64 lj) (.int .i64 ki) (.slice a1 ni c1) (.int .i64 wi) (.int .i64 li)
              rw [← hW8]
              have hW9 := (Within.ofBelow (lo := g) (hi := g + 1) hb2).on hWW
              exact ⟨⟨jp, ds, by omega, by omega, by rfl, HSS, Lib.hid ⟨_, hB8, HRS.out.past hW9⟩, Lib.hid (HIS.out HLT2.out), HPS, hW.on hW9⟩, by simp [intOf]⟩
          · have HLT2 := Lib.hid (HLT.out.trans (decide_eq_false hr))
            have HR1 := HR
            go_wp2_with fail
            go_region_held3 (fun w' => (Blk w' g cs 62 ∧ ∀ o, w'.cell? ⟨g, o, none⟩ = cs[o]?) ∧ Below wr.heap.size wr w') (((try (obtain ⟨⟨hS0, _⟩, hSB⟩ := hHeld)); refine ⟨Blk.both ?_, ?_⟩ <;> first | ((repeat (first | (with_reducible assumption) | (with_reducible refine Blk.drewN ?_ _) | (with_reducible refine Blk.drew ?_) | ((with_reducible refine Blk.new _ ?_); focus (first | omega | (simp; done) | (simp; omega))) | (with_reducible refine Blk.past ?_ _) | ((with_reducible refine Blk.apart ?_ _ _ _ ?_); rotate_left; focus (first | omega | (simp; done) | (simp; omega))) | (with_reducible refine Blk.by (by assumption) ?_))); done) | ((repeat (first | (with_reducible exact Below.refl _ _) | (with_reducible refine below_drewN ?_ _) | (with_reducible refine Below.drew ?_) | (with_reducible refine below_al ?_ _) | (with_reducible refine below_on (by assumption) ?_) | ((with_reducible refine Below.setCell ?_ ?_ _); rotate_left; focus (first | omega | (simp; done) | (simp; omega))) | (with_reducible assumption))); done)))
              (first | (go_at_fn gf; refine (HCL.out _ (HX.out.by blwT) (HY.out.by blwT)).mono ?_; rintro e w1 ⟨rfl, hb1⟩))
            all_goals
              have hb2 : Below wr.heap.size wr w1 := blwT
              go_wp2_with fail
              exact ⟨⟨i + 1, dj, by omega, by omega, by go_num, HS, Lib.hid (HR.out.by hb2), Lib.hid (HIT.out HLT2.out), HP, hW.on (Within.ofBelow hb2)⟩, by simp [intOf]; omega⟩
        · obtain rfl : j = a := by omega
          have i4 : decide ((j : Int) > (j : Int)) = false := by simp
          have HIT := Lib.hid (Ins.stop dltP_swo HI.out (.inl (Nat.le_refl _)))
          go_wp2_with fail
          go_region
          all_goals
            go_wp2_with fail
            exact ⟨⟨i + 1, dj, by omega, by omega, by go_num, HS, Lib.hid (HR.out.by (below_of_drewN _ 1)), HIT, HP, hW.on (Within.ofBelow (below_of_drewN _ 1))⟩, by simp [intOf]; omega⟩
    · have i1 : ¬ (i : Int) < (b : Int) := by omega
      go_wp2
      go_end0
      exact ⟨by rfl, dk, HR.out, SortedIn.sub HT.out (Nat.le_refl _) (by omega), HP.out, hW⟩
/- slices.SortStableFunc's own functions at devices: the merge of two sorted parts, one of which has one element. -/
/- slices.SortStableFunc's own functions at devices: the merge of two sorted parts. -/
/- slices.SortStableFunc at fewer than 40 devices. -/
/- slices.SortStableFunc at fewer than 40 devices: as a whole. -/
def allB (f : Nat → Bool) (n : Nat) : Bool := (List.range n).all f
theorem allB_yes {f : Nat → Bool} {n : Nat} (h : ∀ i, i < n → f i = true) : allB f n = true := by
  simp only [allB, List.all_eq_true, List.mem_range]; exact h
abbrev Tr := Dv × Value × Nat
def tcell (t : Tr) : List Value := [.int .i64 t.1.kind, t.2.1, .int .i64 t.1.wd, .int .i64 t.1.len]
def tcells (L : List Tr) : List Value := L.flatMap tcell
theorem tcells_append (L M : List Tr) : tcells (L ++ M) = tcells L ++ tcells M := List.flatMap_append
theorem tcells_get (L : List Tr) (i : Nat) (t : Tr) (h : L[i]? = some t) : (tcells L)[i * 4]? = some (.int .i64 t.1.kind) ∧ (tcells L)[i * 4 + 1]? = some t.2.1 ∧ (tcells L)[i * 4 + 2]? = some (.int .i64 t.1.wd) ∧ (tcells L)[i * 4 + 3]? = some (.int .i64 t.1.len) := by
  induction L generalizing i with
  | nil => simp at h
  | cons y ys ih =>
    cases i with
    | zero => simp at h; subst h; exact ⟨rfl, rfl, rfl, rfl⟩
    | succ i =>
      simp at h
      have e : ∀ r, (tcells (y :: ys))[(i + 1) * 4 + r]? = (tcells ys)[i * 4 + r]? := by
        intro r
        show (Value.int .i64 y.1.kind :: y.2.1 :: Value.int .i64 y.1.wd :: Value.int .i64 y.1.len :: tcells ys)[(i + 1) * 4 + r]? = _
        rw [show (i + 1) * 4 + r = (i * 4 + r) + 1 + 1 + 1 + 1 by omega]
        simp only [List.getElem?_cons_succ]
      have e0 := e 0
      simp only [Nat.add_zero] at e0
      rw [e0, e 1, e 2, e 3]
      exact ih i h
def Out (w : World) (lo : Nat) (v : Value) (L : List Tr) : Prop := lo ≤ w.heap.size ∧ w.ownsRow lo 62 4 v L.length (tcells L) ∧
  (∀ t ∈ L, (OwnR w t.2.2 (t.2.2 + 1) t.2.1 t.1.pins ∧ lo ≤ t.2.2 ∧ t.2.2 < w.heap.size) ∧ v.ownBlock ≠ some t.2.2) ∧ (L.map (·.2.2)).Nodup
section
variable {w w' : World} {lo : Nat} {v : Value} {L : List Tr}
theorem Out.by (hb : Below w.heap.size w w') (h : Out w lo v L) : Out w' lo v L := by
  obtain ⟨h0, h1, h2, h3⟩ := h
  refine ⟨Nat.le_trans h0 hb.size, row_same h1 (fun g hg => hb.block g (h1.lt g hg).2), fun t ht => ?_, h3⟩
  obtain ⟨⟨a, b, c⟩, d⟩ := h2 t ht
  exact ⟨⟨OwnR.by hb a, b, Nat.lt_of_lt_of_le c hb.size⟩, d⟩
theorem Out.sized (h : Out w lo v L) : ∃ a c, v = .slice a L.length c := by
  obtain ⟨_, ⟨_, h1⟩, _⟩ := h
  rcases h1 with ⟨h1, h2⟩ | ⟨g, cap, cur, e1, _⟩
  · exact ⟨none, 0, by rw [h1, h2]⟩
  · exact ⟨_, _, e1⟩
theorem row_cur {g cap n : Nat} {cur : Array Value} {xs : List Value} (e7 : cur.toList.take (n * 4) = xs) : ∀ (j : Nat) u, xs[j]? = some u → cur[j]? = some u := by
  intro j u hu
  rw [← e7] at hu
  have hj : j < n * 4 := by
    have := (List.getElem?_eq_some_iff.1 hu).1
    rw [List.length_take] at this; omega
  rw [List.getElem?_take_of_lt hj] at hu
  simpa using hu
theorem Out.own (h : Out w lo v L) : OwnDs w lo w.heap.size v (L.map (·.1)) := by
  obtain ⟨h0, ⟨hlen, h1⟩, h2, h3⟩ := h
  rcases h1 with ⟨h1, hn⟩ | ⟨g, cap, cur, e1, e2, e3, e4, e5, e6, e7⟩
  · exact .inl ⟨_, _, h1, by rw [List.eq_nil_of_length_eq_zero hn]; rfl⟩
  · have hcur := row_cur (g := g) (cap := cap) e7
    have hgl : g < w.heap.size := (Array.getElem?_eq_some_iff.1 e3).1
    refine .inr ⟨g, cap, cur, fun i => (L.getD i default).2.2, by simpa using e1, ⟨e2, hgl⟩, by simpa using e4, e5, e3, fun i x hx => ?_, fun i j hi hj hij => ?_⟩
    · rw [List.getElem?_map] at hx
      obtain ⟨t, ht, rfl⟩ : ∃ t, L[i]? = some t ∧ t.1 = x := by
        cases h : L[i]? with
        | none => rw [h] at hx; simp at hx
        | some t => rw [h] at hx; exact ⟨t, rfl, by simpa using hx⟩
      have hgD : L.getD i default = t := by simp [ht]
      dsimp only
      rw [hgD]
      obtain ⟨⟨a, b, c⟩, d⟩ := h2 t (List.mem_of_getElem? ht)
      obtain ⟨q0, q1, q2, q3⟩ := tcells_get L i t ht
      exact ⟨⟨t.2.1, ⟨hcur _ _ q0, hcur _ _ q1, hcur _ _ q2, hcur _ _ q3⟩, a⟩, b, c, fun e => d (by rw [e1, e]; rfl)⟩
    · simp at hi hj
      have hn := List.pairwise_iff_getElem.1 (List.nodup_iff_pairwise_ne.1 h3)
      have e1 : L.getD i default = L[i] := by simp [hi]
      have e2 : L.getD j default = L[j] := by simp [hj]
      dsimp only
      rw [e1, e2]
      rcases Nat.lt_or_gt_of_ne hij with h | h
      · have := hn i j (by simpa using hi) (by simpa using hj) h
        simpa using this
      · have := hn j i (by simpa using hj) (by simpa using hi) h
        simpa using this.symm
theorem Out.one (h : Out w lo v L) : ∀ t ∈ L, t.2.1.oneCell' = true := by
  intro t ht
  obtain ⟨⟨a, b, c⟩, d⟩ := h.2.2.1 t ht
  rcases a with ⟨_, _, e, _⟩ | ⟨_, _, _, e, _⟩ <;> rw [e] <;> rfl
end
theorem step_appT {ops : Array Oper} {o : Oper} {a : Act} {w : World} {K : Act → World → Prop} {Q : Exit → Act → World → Prop} {E : Prop} (hgd : o.guard = none) (s x : Operand)
    (ho : o.op = .call { callee := .builtin .append, args := #[s, x], argTypes := #[32, 32] })
    (lo : Nat) (v : Value) (n : Nat) (xs : List Value) (hs : a.eval s = v) (h1 : w.ownsRow lo 62 4 v n xs) (p : Addr) (m c : Nat) (news : List Value) (hx : a.eval x = .slice (some p) m c)
    (hl : news.length = m * 4) (hnews : ∀ j u, news[j]? = some u → w.cell? (p.add j) = some u) (hone : ∀ u ∈ news, u.oneCell' = true) (hm : 0 < m) (hn : n + m ≤ 1000) (hlo : lo ≤ w.heap.size)
    (hK : ∀ g c w', w'.ownsRow lo 62 4 (.slice (some ⟨g, 0, none⟩) (n + m) c) (n + m) (xs ++ news) → w.grownBy w' v.ownBlock → (v.ownBlock = some g ∨ g = w.heap.size) → K (a.put o.dst (.slice (some ⟨g, 0, none⟩) (n + m) c)) w') :
    if Region.wanted o (yielded ops a.tmps) = true then Oper.wp Tryz.prog o a w K Q else E := by
  obtain ⟨i0, hi0, hz0, hz1, hz2⟩ := info_parts infoDev
  exact step_append_lies w hgd s x 32 ho lo 62 i0 _ 4 48 Tryz.underlying32 hi0 hz0 hz1 hz2 rfl (by decide) v n xs hs h1 p m c news hx hl hnews hone hm (by unfold maxLen; omega) (by omega) hlo w.heap.size rfl (fun g cap w' hrow hgrow hg _ => hK g cap w' hrow hgrow hg)
/- The reference's sorted copies of devices. -/
/- The program's SortDevices. -/
theorem dcmp_impl : DCmp 62 #[] := fun W x y sx sy hx hy => compareDevices_any x.kind x.wd x.len y.kind y.wd y.len sx sy x.pins y.pins W hx hy
/- Bounds of what SortDevices answers. -/
set_option maxRecDepth 100000 in
set_option maxHeartbeats 4000000 in
theorem implNorm_no (kind wd len : Int) (sv : Value) (zs : List Int) (w : World) (h : IntSl w sv zs) (hn : zs.length ≤ 1048576) (hno : ¬ (0 < pinc kind ∧ (zs.length : Int) = pinc kind)) :
    Calls Tryz.prog 63 #[.agg #[.int .i64 kind, sv, .int .i64 wd, .int .i64 len]] w fun e w' => ∃ v, e = .returned (.agg #[.int .i64 kind, v, .int .i64 wd, .int .i64 len]) ∧ OwnI w' w.heap.size v zs ∧ Below w.heap.size w w' := by
  have HC := Lib.hid (fun w h => copyDevice_any kind wd len sv zs w h hn)
  have h1 := h.by (((Below.refl _ w).alloc (Nat.le_refl _) (.cells #[.int .i64 kind, sv, .int .i64 wd, .int .i64 len] 62)).alloc (by simp) (.cells #[.int .i64 0, .slice none 0 0, .int .i64 0, .int .i64 0] 62))
  obtain ⟨a, c, rfl⟩ := h.len
  clear h
  have HP := Lib.hid (fun w => pinCount_any kind w)
  obtain ⟨m, hm⟩ : ∃ m, pinc kind = m := ⟨_, rfl⟩
  have hm0 : 0 ≤ m ∧ m ≤ 3 := by rw [← hm]; unfold pinc; (repeat' split) <;> omega
  rw [hm] at hno HP
  clear hm
  go_enter Tryz.func63, Tryz.ntmps63
  go_wp2_with fail
  refine (HC.out _ h1).mono ?_
  rintro e w1 ⟨v, rfl, hO, hb1⟩
  clear h1
  have k0 : Blk w1 w.heap.size #[.int .i64 kind, .slice a zs.length c, .int .i64 wd, .int .i64 len] 62 := blkT
  have k1 : Blk w1 (w.heap.size + 1) #[.int .i64 0, .slice none 0 0, .int .i64 0, .int .i64 0] 62 := blkT
  have hW : Below w.heap.size w w1 := blwT
  clear hb1
  have c0 := k0.cell
  have f0 := k0.free
  have l0 := k0.lt
  have c1' := k1.cell
  have f1 := k1.free
  have l1 := k1.lt
  obtain ⟨a1, c1, rfl⟩ := hO.len
  simp at hO
  have hO' := hO.alloc (.cells #[.int .i64 kind, .slice a1 zs.length c1, .int .i64 wd, .int .i64 len] 62)
  clear hO
  go_wp2_with fail
  refine (HP.out _).mono ?_
  rintro e w2 ⟨rfl, rfl⟩
  have k3 : Blk (w1.alloc (.cells #[.int .i64 kind, .slice a1 zs.length c1, .int .i64 wd, .int .i64 len] 62)) w1.heap.size #[.int .i64 kind, .slice a1 zs.length c1, .int .i64 wd, .int .i64 len] 62 := Blk.new _ rfl
  replace k0 := k0.past (.cells #[.int .i64 kind, .slice a1 zs.length c1, .int .i64 wd, .int .i64 len] 62)
  replace k1 := k1.past (.cells #[.int .i64 kind, .slice a1 zs.length c1, .int .i64 wd, .int .i64 len] 62)
  replace hW := below_al hW (.cells #[.int .i64 kind, .slice a1 zs.length c1, .int .i64 wd, .int .i64 len] 62)
  clear c0 f0 l0 c1' f1
  generalize w1.heap.size = px at *
  generalize w1.alloc (.cells #[.int .i64 kind, .slice a1 zs.length c1, .int .i64 wd, .int .i64 len] 62) = w2 at *
  have c0 := k0.cell
  have c1' := k1.cell
  have f1 := k1.free
  have c2 := k3.cell
  have f2 := k3.free
  by_cases hpos : 0 < m
  · have hne : decide ((zs.length : Int) = m) = false := decide_eq_false (fun h => hno ⟨hpos, h⟩)
    have hd : decide (0 < m) = true := decide_eq_true hpos
    have hne' : ¬ (zs.length : Int) = m := fun h => hno ⟨hpos, h⟩
    have hne2 : ((zs.length : Int) == m) = false := by simpa using hne'
    clear hno
    go_wp2
    go_quiet (fail)
    go_wp2
    refine bodyPost_ret (v := .agg #[.int .i64 kind, .slice a1 zs.length c1, .int .i64 wd, .int .i64 len]) (by simp [results, Tryz.results63, go_sem, *]) rfl ⟨_, rfl, ?_, blwT⟩
    refine OwnI.low ?_ (show w.heap.size ≤ w.heap.size + 2 by omega)
    repeat (first | (with_reducible exact hO') | (with_reducible refine OwnI.drewN ?_ _) | ((with_reducible refine OwnI.apart ?_ _ _ _ ?_); rotate_left; focus omega))
  · have hd : decide (0 < m) = false := decide_eq_false hpos
    clear hno
    go_wp2
    go_quiet (fail)
    go_wp2
    refine bodyPost_ret (v := .agg #[.int .i64 kind, .slice a1 zs.length c1, .int .i64 wd, .int .i64 len]) (by simp [results, Tryz.results63, go_sem, *]) rfl ⟨_, rfl, ?_, blwT⟩
    refine OwnI.low ?_ (show w.heap.size ≤ w.heap.size + 2 by omega)
    repeat (first | (with_reducible exact hO') | (with_reducible refine OwnI.drewN ?_ _) | ((with_reducible refine OwnI.apart ?_ _ _ _ ?_); rotate_left; focus omega))
set_option maxRecDepth 100000 in
set_option maxHeartbeats 4000000 in
theorem implNorm_two (kind wd len : Int) (sv : Value) (p q : Int) (w : World) (h : IntSl w sv [p, q]) (hk : pinc kind = 2) :
    Calls Tryz.prog 63 #[.agg #[.int .i64 kind, sv, .int .i64 wd, .int .i64 len]] w fun e w' => ∃ v, e = .returned (.agg #[.int .i64 kind, v, .int .i64 wd, .int .i64 len]) ∧ OwnI w' w.heap.size v [min p q, max p q] ∧ Below w.heap.size w w' := by
  have HC := Lib.hid (fun w h => copyDevice_any kind wd len sv [p, q] w h (by simp))
  have h1 := h.by (((Below.refl _ w).alloc (Nat.le_refl _) (.cells #[.int .i64 kind, sv, .int .i64 wd, .int .i64 len] 62)).alloc (by simp) (.cells #[.int .i64 0, .slice none 0 0, .int .i64 0, .int .i64 0] 62))
  rcases h with ⟨_, _, _, h2⟩ | ⟨b, off, cap, hsv, h2, h3, h4⟩
  · simp at h2
  simp only [List.length_cons, List.length_nil, Nat.zero_add, Nat.reduceAdd] at hsv h2
  subst hsv
  clear h4
  have HP := Lib.hid (fun w => pinCount_any kind w)
  rw [hk] at HP
  clear hk
  go_enter Tryz.func63, Tryz.ntmps63
  go_wp2_with fail
  refine (HC.out _ h1).mono ?_
  rintro e w1 ⟨v, rfl, hO, hb1⟩
  clear h1
  have k0 : Blk w1 w.heap.size #[.int .i64 kind, .slice (some ⟨b, off, none⟩) 2 cap, .int .i64 wd, .int .i64 len] 62 := blkT
  have k1 : Blk w1 (w.heap.size + 1) #[.int .i64 0, .slice none 0 0, .int .i64 0, .int .i64 0] 62 := blkT
  have hW : Below w.heap.size w w1 := blwT
  clear hb1
  have c0 := k0.cell
  have f0 := k0.free
  have l0 := k0.lt
  have c1' := k1.cell
  have f1 := k1.free
  have l1 := k1.lt
  rcases hO with ⟨_, _, _, hO⟩ | ⟨g, cap1, cs, hv, hlo, hcap, hmax, hG, hG'⟩
  · simp at hO
  simp only [List.length_cons, List.length_nil, Nat.zero_add, Nat.reduceAdd] at hv hcap
  subst hv
  simp at hlo
  have hgp := hG.lt
  replace hG := hG.past (.cells #[.int .i64 kind, .slice (some ⟨g, 0, none⟩) 2 cap1, .int .i64 wd, .int .i64 len] 62)
  go_wp2_with fail
  refine (HP.out _).mono ?_
  rintro e w2 ⟨rfl, rfl⟩
  have k3 : Blk (w1.alloc (.cells #[.int .i64 kind, .slice (some ⟨g, 0, none⟩) 2 cap1, .int .i64 wd, .int .i64 len] 62)) w1.heap.size #[.int .i64 kind, .slice (some ⟨g, 0, none⟩) 2 cap1, .int .i64 wd, .int .i64 len] 62 := Blk.new _ rfl
  replace k0 := k0.past (.cells #[.int .i64 kind, .slice (some ⟨g, 0, none⟩) 2 cap1, .int .i64 wd, .int .i64 len] 62)
  replace k1 := k1.past (.cells #[.int .i64 kind, .slice (some ⟨g, 0, none⟩) 2 cap1, .int .i64 wd, .int .i64 len] 62)
  replace hW := below_al hW (.cells #[.int .i64 kind, .slice (some ⟨g, 0, none⟩) 2 cap1, .int .i64 wd, .int .i64 len] 62)
  clear c0 f0 l0 c1' f1
  generalize w1.heap.size = px at *
  generalize w1.alloc (.cells #[.int .i64 kind, .slice (some ⟨g, 0, none⟩) 2 cap1, .int .i64 wd, .int .i64 len] 62) = w2 at *
  have c0 := k0.cell
  have c1' := k1.cell
  have f1 := k1.free
  have c2 := k3.cell
  have f2 := k3.free
  have hG0 := hG' 0 p rfl
  have hG1 := hG' 1 q rfl
  have cg := hG.cell
  have fg := hG.free
  have cp : w2.cell? ⟨g, 0, none⟩ = some (.int .i64 p) := (hG.cell 0).trans hG0
  have cq : w2.cell? ⟨g, 1, none⟩ = some (.int .i64 q) := (hG.cell 1).trans hG1
  have wr0 : IntKind.i64.wrap 0 = 0 := by decide
  have wr1 : IntKind.i64.wrap 1 = 1 := by decide
  have wr2 : IntKind.i64.wrap 2 = 2 := by decide
  clear hG'
  by_cases hpq : q < p
  · have hd : decide (q < p) = true := decide_eq_true hpq
    go_wp2
    go_quiet (fail)
    have e1 : min p q = q := by omega
    have e2 : max p q = p := by omega
    have E1 := Lib.hid e1
    have E2 := Lib.hid e2
    clear e1 e2 hpq
    go_wp2_with fail
    replace hG := hG.drewN nq
    replace k1 := k1.drewN nq
    replace k3 := k3.drewN nq
    replace hW := below_drewN hW nq
    clear c0 c1' f1 c2 f2 cg fg cp cq k0
    generalize w2.drewN nq = w3 at *
    have c1' := k1.cell
    have f1 := k1.free
    have c2 := k3.cell
    have f2 := k3.free
    have cp : w3.cell? ⟨g, 0, none⟩ = some (.int .i64 p) := (hG.cell 0).trans hG0
    have cq : w3.cell? ⟨g, 1, none⟩ = some (.int .i64 q) := (hG.cell 1).trans hG1
    have fg := hG.free
    go_region
    have hs0 : 0 < cs.size := by rcases Nat.lt_or_ge 0 cs.size with h | h; exact h; (rw [Array.getElem?_eq_none h] at hG0; cases hG0)
    have hs1 : 1 < cs.size := by rcases Nat.lt_or_ge 1 cs.size with h | h; exact h; (rw [Array.getElem?_eq_none h] at hG1; cases hG1)
    replace hG : Blk (((w3.setCell ⟨g, 0, none⟩ (.int .i64 q)).setCell ⟨g, 1, none⟩ (.int .i64 p)).drew) g ((cs.setIfInBounds 0 (.int .i64 q)).setIfInBounds 1 (.int .i64 p)) 2 := ((hG.set 0 (.int .i64 q)).set 1 (.int .i64 p)).drew
    replace k1 := ((k1.apart g 0 (.int .i64 q) (by omega)).apart g 1 (.int .i64 p) (by omega)).drew
    replace k3 := ((k3.apart g 0 (.int .i64 q) (by omega)).apart g 1 (.int .i64 p) (by omega)).drew
    replace hW : Below w.heap.size w (((w3.setCell ⟨g, 0, none⟩ (.int .i64 q)).setCell ⟨g, 1, none⟩ (.int .i64 p)).drew) := blwT
    skip
    have hA : ((cs.setIfInBounds 0 (.int .i64 q)).setIfInBounds 1 (.int .i64 p))[0]? = some (.int .i64 q) := by rw [Array.getElem?_setIfInBounds_ne (by omega), Array.getElem?_setIfInBounds_self_of_lt hs0]
    have hB : ((cs.setIfInBounds 0 (.int .i64 q)).setIfInBounds 1 (.int .i64 p))[1]? = some (.int .i64 p) := by rw [Array.getElem?_setIfInBounds_self_of_lt (by rw [Array.size_setIfInBounds]; exact hs1)]
    clear c1' f1 c2 f2 cp cq fg hG0 hG1 hs0 hs1
    generalize (cs.setIfInBounds 0 (Value.int .i64 q)).setIfInBounds 1 (Value.int .i64 p) = cs2 at *
    generalize ((w3.setCell ⟨g, 0, none⟩ (.int .i64 q)).setCell ⟨g, 1, none⟩ (.int .i64 p)).drew = w4 at *
    have c1' := k1.cell
    have f1 := k1.free
    have c2 := k3.cell
    have f2 := k3.free
    go_wp2
    refine bodyPost_ret (v := .agg #[.int .i64 kind, .slice (some ⟨g, 0, none⟩) 2 cap1, .int .i64 wd, .int .i64 len]) (by simp [results, Tryz.results63, go_sem, *]) rfl ⟨_, rfl, ?_, blwT⟩
    refine .inr ⟨g, cap1, cs2, rfl, by omega, hcap, hmax, blkT, ?_⟩
    rw [E1.out, E2.out]
    intro i x hx
    match i, hx with
    | 0, hx => obtain rfl := Option.some.inj hx; exact hA
    | 1, hx => obtain rfl := Option.some.inj hx; exact hB
    | (_ + 2), hx => simp at hx
  · have hd : decide (q < p) = false := decide_eq_false hpq
    have e1 : min p q = p := by omega
    have e2 : max p q = q := by omega
    have E1 := Lib.hid e1
    have E2 := Lib.hid e2
    clear e1 e2 hpq
    go_wp2
    go_quiet (fail)
    go_wp2
    refine bodyPost_ret (v := .agg #[.int .i64 kind, .slice (some ⟨g, 0, none⟩) 2 cap1, .int .i64 wd, .int .i64 len]) (by simp [results, Tryz.results63, go_sem, *]) rfl ⟨_, rfl, ?_, blwT⟩
    refine .inr ⟨g, cap1, cs, rfl, by omega, hcap, hmax, blkT, ?_⟩
    rw [E1.out, E2.out]
    intro i x hx
    match i, hx with
    | 0, hx => obtain rfl := Option.some.inj hx; exact hG0
    | 1, hx => obtain rfl := Option.some.inj hx; exact hG1
    | (_ + 2), hx => simp at hx
set_option maxRecDepth 100000 in
set_option maxHeartbeats 4000000 in
theorem implNorm_three (kind wd len : Int) (sv : Value) (r p q : Int) (w : World) (h : IntSl w sv [r, p, q]) (hk : pinc kind = 3) :
    Calls Tryz.prog 63 #[.agg #[.int .i64 kind, sv, .int .i64 wd, .int .i64 len]] w fun e w' => ∃ v, e = .returned (.agg #[.int .i64 kind, v, .int .i64 wd, .int .i64 len]) ∧ OwnI w' w.heap.size v [r, min p q, max p q] ∧ Below w.heap.size w w' := by
  have HC := Lib.hid (fun w h => copyDevice_any kind wd len sv [r, p, q] w h (by simp))
  have h1 := h.by (((Below.refl _ w).alloc (Nat.le_refl _) (.cells #[.int .i64 kind, sv, .int .i64 wd, .int .i64 len] 62)).alloc (by simp) (.cells #[.int .i64 0, .slice none 0 0, .int .i64 0, .int .i64 0] 62))
  rcases h with ⟨_, _, _, h2⟩ | ⟨b, off, cap, hsv, h2, h3, h4⟩
  · simp at h2
  simp only [List.length_cons, List.length_nil, Nat.zero_add, Nat.reduceAdd] at hsv h2
  subst hsv
  clear h4
  have HP := Lib.hid (fun w => pinCount_any kind w)
  rw [hk] at HP
  clear hk
  go_enter Tryz.func63, Tryz.ntmps63
  go_wp2_with fail
  refine (HC.out _ h1).mono ?_
  rintro e w1 ⟨v, rfl, hO, hb1⟩
  clear h1
  have k0 : Blk w1 w.heap.size #[.int .i64 kind, .slice (some ⟨b, off, none⟩) 3 cap, .int .i64 wd, .int .i64 len] 62 := blkT
  have k1 : Blk w1 (w.heap.size + 1) #[.int .i64 0, .slice none 0 0, .int .i64 0, .int .i64 0] 62 := blkT
  have hW : Below w.heap.size w w1 := blwT
  clear hb1
  have c0 := k0.cell
  have f0 := k0.free
  have l0 := k0.lt
  have c1' := k1.cell
  have f1 := k1.free
  have l1 := k1.lt
  rcases hO with ⟨_, _, _, hO⟩ | ⟨g, cap1, cs, hv, hlo, hcap, hmax, hG, hG'⟩
  · simp at hO
  simp only [List.length_cons, List.length_nil, Nat.zero_add, Nat.reduceAdd] at hv hcap
  subst hv
  simp at hlo
  have hgp := hG.lt
  replace hG := hG.past (.cells #[.int .i64 kind, .slice (some ⟨g, 0, none⟩) 3 cap1, .int .i64 wd, .int .i64 len] 62)
  go_wp2_with fail
  refine (HP.out _).mono ?_
  rintro e w2 ⟨rfl, rfl⟩
  have k3 : Blk (w1.alloc (.cells #[.int .i64 kind, .slice (some ⟨g, 0, none⟩) 3 cap1, .int .i64 wd, .int .i64 len] 62)) w1.heap.size #[.int .i64 kind, .slice (some ⟨g, 0, none⟩) 3 cap1, .int .i64 wd, .int .i64 len] 62 := Blk.new _ rfl
  replace k0 := k0.past (.cells #[.int .i64 kind, .slice (some ⟨g, 0, none⟩) 3 cap1, .int .i64 wd, .int .i64 len] 62)
  replace k1 := k1.past (.cells #[.int .i64 kind, .slice (some ⟨g, 0, none⟩) 3 cap1, .int .i64 wd, .int .i64 len] 62)
  replace hW := below_al hW (.cells #[.int .i64 kind, .slice (some ⟨g, 0, none⟩) 3 cap1, .int .i64 wd, .int .i64 len] 62)
  clear c0 f0 l0 c1' f1
  generalize w1.heap.size = px at *
  generalize w1.alloc (.cells #[.int .i64 kind, .slice (some ⟨g, 0, none⟩) 3 cap1, .int .i64 wd, .int .i64 len] 62) = w2 at *
  have c0 := k0.cell
  have c1' := k1.cell
  have f1 := k1.free
  have c2 := k3.cell
  have f2 := k3.free
  have hR := hG' 0 r rfl
  have hG0 := hG' 1 p rfl
  have hG1 := hG' 2 q rfl
  have cg := hG.cell
  have fg := hG.free
  have cp : w2.cell? ⟨g, 1, none⟩ = some (.int .i64 p) := (hG.cell 1).trans hG0
  have cq : w2.cell? ⟨g, 2, none⟩ = some (.int .i64 q) := (hG.cell 2).trans hG1
  have wr0 : IntKind.i64.wrap 0 = 0 := by decide
  have wr1 : IntKind.i64.wrap 1 = 1 := by decide
  have wr2 : IntKind.i64.wrap 2 = 2 := by decide
  clear hG'
  by_cases hpq : q < p
  · have hd : decide (q < p) = true := decide_eq_true hpq
    go_wp2
    go_quiet (fail)
    have e1 : min p q = q := by omega
    have e2 : max p q = p := by omega
    have E1 := Lib.hid e1
    have E2 := Lib.hid e2
    clear e1 e2 hpq
    go_wp2_with fail
    replace hG := hG.drewN nq
    replace k1 := k1.drewN nq
    replace k3 := k3.drewN nq
    replace hW := below_drewN hW nq
    clear c0 c1' f1 c2 f2 cg fg cp cq k0
    generalize w2.drewN nq = w3 at *
    have c1' := k1.cell
    have f1 := k1.free
    have c2 := k3.cell
    have f2 := k3.free
    have cp : w3.cell? ⟨g, 1, none⟩ = some (.int .i64 p) := (hG.cell 1).trans hG0
    have cq : w3.cell? ⟨g, 2, none⟩ = some (.int .i64 q) := (hG.cell 2).trans hG1
    have fg := hG.free
    go_region
    have hs0 : 1 < cs.size := by rcases Nat.lt_or_ge 1 cs.size with h | h; exact h; (rw [Array.getElem?_eq_none h] at hG0; cases hG0)
    have hs1 : 2 < cs.size := by rcases Nat.lt_or_ge 2 cs.size with h | h; exact h; (rw [Array.getElem?_eq_none h] at hG1; cases hG1)
    replace hG : Blk (((w3.setCell ⟨g, 1, none⟩ (.int .i64 q)).setCell ⟨g, 2, none⟩ (.int .i64 p)).drew) g ((cs.setIfInBounds 1 (.int .i64 q)).setIfInBounds 2 (.int .i64 p)) 2 := ((hG.set 1 (.int .i64 q)).set 2 (.int .i64 p)).drew
    replace k1 := ((k1.apart g 1 (.int .i64 q) (by omega)).apart g 2 (.int .i64 p) (by omega)).drew
    replace k3 := ((k3.apart g 1 (.int .i64 q) (by omega)).apart g 2 (.int .i64 p) (by omega)).drew
    replace hW : Below w.heap.size w (((w3.setCell ⟨g, 1, none⟩ (.int .i64 q)).setCell ⟨g, 2, none⟩ (.int .i64 p)).drew) := blwT
    replace hR : ((cs.setIfInBounds 1 (.int .i64 q)).setIfInBounds 2 (.int .i64 p))[0]? = some (.int .i64 r) := by rw [Array.getElem?_setIfInBounds_ne (by omega), Array.getElem?_setIfInBounds_ne (by omega)]; exact hR
    have hA : ((cs.setIfInBounds 1 (.int .i64 q)).setIfInBounds 2 (.int .i64 p))[1]? = some (.int .i64 q) := by rw [Array.getElem?_setIfInBounds_ne (by omega), Array.getElem?_setIfInBounds_self_of_lt hs0]
    have hB : ((cs.setIfInBounds 1 (.int .i64 q)).setIfInBounds 2 (.int .i64 p))[2]? = some (.int .i64 p) := by rw [Array.getElem?_setIfInBounds_self_of_lt (by rw [Array.size_setIfInBounds]; exact hs1)]
    clear c1' f1 c2 f2 cp cq fg hG0 hG1 hs0 hs1
    generalize (cs.setIfInBounds 1 (Value.int .i64 q)).setIfInBounds 2 (Value.int .i64 p) = cs2 at *
    generalize ((w3.setCell ⟨g, 1, none⟩ (.int .i64 q)).setCell ⟨g, 2, none⟩ (.int .i64 p)).drew = w4 at *
    have c1' := k1.cell
    have f1 := k1.free
    have c2 := k3.cell
    have f2 := k3.free
    go_wp2
    refine bodyPost_ret (v := .agg #[.int .i64 kind, .slice (some ⟨g, 0, none⟩) 3 cap1, .int .i64 wd, .int .i64 len]) (by simp [results, Tryz.results63, go_sem, *]) rfl ⟨_, rfl, ?_, blwT⟩
    refine .inr ⟨g, cap1, cs2, rfl, by omega, hcap, hmax, blkT, ?_⟩
    rw [E1.out, E2.out]
    intro i x hx
    match i, hx with
    | 0, hx => obtain rfl := Option.some.inj hx; exact hR
    | 1, hx => obtain rfl := Option.some.inj hx; exact hA
    | 2, hx => obtain rfl := Option.some.inj hx; exact hB
    | (_ + 3), hx => simp at hx
  · have hd : decide (q < p) = false := decide_eq_false hpq
    have e1 : min p q = p := by omega
    have e2 : max p q = q := by omega
    have E1 := Lib.hid e1
    have E2 := Lib.hid e2
    clear e1 e2 hpq
    go_wp2
    go_quiet (fail)
    go_wp2
    refine bodyPost_ret (v := .agg #[.int .i64 kind, .slice (some ⟨g, 0, none⟩) 3 cap1, .int .i64 wd, .int .i64 len]) (by simp [results, Tryz.results63, go_sem, *]) rfl ⟨_, rfl, ?_, blwT⟩
    refine .inr ⟨g, cap1, cs, rfl, by omega, hcap, hmax, blkT, ?_⟩
    rw [E1.out, E2.out]
    intro i x hx
    match i, hx with
    | 0, hx => obtain rfl := Option.some.inj hx; exact hR
    | 1, hx => obtain rfl := Option.some.inj hx; exact hG0
    | 2, hx => obtain rfl := Option.some.inj hx; exact hG1
    | (_ + 3), hx => simp at hx
/- The program's NormalizeDevice: one contract. -/
theorem implNorm_any (kind wd len : Int) (sv : Value) (zs : List Int) (w : World) (h : IntSl w sv zs) (hn : zs.length ≤ 1048576) :
    Calls Tryz.prog 63 #[.agg #[.int .i64 kind, sv, .int .i64 wd, .int .i64 len]] w fun e w' => ∃ v, e = .returned (.agg #[.int .i64 kind, v, .int .i64 wd, .int .i64 len]) ∧ OwnI w' w.heap.size v (normz kind zs) ∧ Below w.heap.size w w' := by
  by_cases hs : 0 < pinc kind ∧ (zs.length : Int) = pinc kind
  · rcases normz_yes hs with ⟨p, q, rfl, hk, e⟩ | ⟨r, p, q, rfl, hk, e⟩
    · rw [e]; exact implNorm_two kind wd len sv p q w h hk
    · rw [e]; exact implNorm_three kind wd len sv r p q w h hk
  · rw [normz_no hs]; exact implNorm_no kind wd len sv zs w h hn hs
set_option maxRecDepth 100000 in
set_option maxHeartbeats 2000000 in
theorem mappedO_any (x : Dv) (names : List Int) (sx sn : Value) (w : World) (h : IntSl w sx x.pins) (hn : IntSl w sn names) (hxl : x.pins.length ≤ 3) (hxn : x.pins ≠ []) (hxp : ∀ z ∈ x.pins, 0 ≤ z ∧ z < names.length) :
    Calls Tryz.prog 67 #[.agg #[.int .i64 x.kind, sx, .int .i64 x.wd, .int .i64 x.len], sn] w fun e w' => ∃ v, e = .returned (.agg #[.int .i64 x.kind, v, .int .i64 x.wd, .int .i64 x.len]) ∧ OwnI w' w.heap.size v (normz x.kind (x.pins.map (nmOf names))) ∧ Below w.heap.size w w' := by
  have HN := Lib.hid hn
  have HX := Lib.hid h
  have HCD := Lib.hid (fun w h => copyDevice_any x.kind x.wd x.len sx x.pins w h (by omega))
  have HXN := Lib.hid hxn
  have HXP := Lib.hid hxp
  have HNM := Lib.hid (fun sv w h => implNorm_any x.kind x.wd x.len sv (x.pins.map (nmOf names)) w h (by simp; omega))
  generalize normz x.kind (x.pins.map (nmOf names)) = NZ at *
  obtain ⟨ax, cx, rfl⟩ := h.len
  obtain ⟨an, cn, rfl⟩ := hn.len
  clear h hn hxn hxp
  go_enter Tryz.func67, Tryz.ntmps67
  go_wp2_with fail
  refine (HCD.out _ (HX.out.by blwT)).mono ?_
  rintro e w1 ⟨v1, rfl, hOI, hb1⟩
  obtain ⟨fb, hf1, hf2, hOR⟩ := hOI.pin HXN.out
  obtain ⟨gb, capb, csb, rfl, hgb, hcb, hmb, kB0, HIC0⟩ := hOR.cells HXN.out
  have hgf : gb = fb := by omega
  subst hgf
  have kZ : Blk w1 (w.heap.size + 1) #[.int .i64 0, .slice none 0 0, .int .i64 0, .int .i64 0] 62 := blkT
  have hb : Below w.heap.size w w1 := blwT
  have HICH := Lib.hid HIC0
  have hbs := hb1.size
  simp only [World.size_alloc] at hbs hf1
  have lZ := kZ.lt
  obtain ⟨Q, hQ⟩ : ∃ Q, w1.heap.size = Q := ⟨_, rfl⟩
  have HQ := Lib.hid hQ
  have hQl : w.heap.size + 1 < Q := by omega
  have hgQ : gb < Q := by omega
  clear hb1 hOI hOR HIC0 hQ
  go_wp2
  rw [HQ.out]
  have hIC : ICs csb (renTo names x.pins 0) := by rw [renTo_zero]; exact HICH.out
  obtain ⟨wA, hwA⟩ : ∃ wA, wA = w1.alloc (.cells #[.int .i64 x.kind, .slice (some ⟨gb, 0, none⟩) x.pins.length capb, .int .i64 x.wd, .int .i64 x.len] 62) := ⟨_, rfl⟩
  have kD : Blk wA Q #[.int .i64 x.kind, .slice (some ⟨gb, 0, none⟩) x.pins.length capb, .int .i64 x.wd, .int .i64 x.len] 62 := by rw [hwA]; exact Blk.new _ HQ.out.symm
  have kBA : Blk wA gb csb 2 := by rw [hwA]; exact kB0.past _
  have kZA : Blk wA (w.heap.size + 1) #[.int .i64 0, .slice none 0 0, .int .i64 0, .int .i64 0] 62 := by rw [hwA]; exact kZ.past _
  have hbA : Below w.heap.size w wA := by rw [hwA]; exact below_al hb _
  rw [← hwA]
  clear hwA HICH kB0 kZ hb lZ hbs
  go_loopw [13] (fun i wr2 => ∃ m : Nat, m ≤ x.pins.length ∧ i = .int .i64 m ∧ Blk wr2 Q #[.int .i64 x.kind, .slice (some ⟨gb, 0, none⟩) x.pins.length capb, .int .i64 x.wd, .int .i64 x.len] 62 ∧ (∃ cs, Blk wr2 gb cs 2 ∧ Hid (ICs cs (renTo names x.pins m))) ∧ Within gb (gb + 1) wA wr2) (fun i _ => x.pins.length - (intOf i).toNat)
  case atStart => exact ⟨0, Nat.zero_le _, rfl, kD, ⟨csb, kBA, Lib.hid hIC⟩, Within.refl _ _ _⟩
  case round =>
    clear kD kBA hIC
    obtain ⟨m, hm, rfl, kD, ⟨cs, kB, HIC⟩, hW2⟩ := hrel
    have cD := kD.cell
    by_cases hlt2 : m < x.pins.length
    · obtain ⟨z, hz⟩ : ∃ z, x.pins[m]? = some z := ⟨x.pins[m], List.getElem?_eq_getElem hlt2⟩
      obtain ⟨hz0, hz1⟩ := HXP.out z (List.mem_of_getElem? hz)
      have cB := kB.cell
      have fB := kB.free
      have cz := HIC.out m z (renTo_get names x.pins m z hz)
      have hNw := HN.out.by (hW2.below hbA (by omega))
      obtain ⟨q, rfl⟩ : ∃ q : Nat, z = q := ⟨z.toNat, by omega⟩
      rcases hNw with ⟨_, _, _, h2⟩ | ⟨nb, noff, ncap, hen, _, _, hcn⟩
      · rw [h2] at hz1; simp at hz1; omega
      obtain ⟨rfl, rfl⟩ : an = some ⟨nb, noff, none⟩ ∧ cn = ncap := by simpa using hen
      have hq : q < names.length := by omega
      have cn := hcn q names[q] (List.getElem?_eq_getElem hq)
      have hnm : nmOf names (q : Int) = names[q] := by simp [nmOf, hq]
      have HZ := Lib.hid hz
      have HNMq := Lib.hid hnm
      generalize names[q] = y at *
      have j1 : (0 : Int) ≤ (m : Int) := by omega
      have j2 : (m : Int) < (x.pins.length : Int) := by omega
      clear hz hnm hen hcn hq
      go_wp2_with fail
      go_region
      all_goals go_wp2_with fail
      exact ⟨⟨m + 1, by omega, by go_num, (kD.apart gb m _ (by omega)).drew, ⟨cs.setIfInBounds m (.int .i64 y), (kB.set m _).drew, Lib.hid (by rw [← renTo_step names x.pins m q HZ.out, HNMq.out]; exact HIC.out.set m y)⟩, (hW2.set gb m _ (Nat.le_refl _) (by omega)).drewN 1⟩, by simp [intOf]; omega⟩
    · obtain rfl : m = x.pins.length := by omega
      have hIC1 : ICs cs (x.pins.map (nmOf names)) := by have := HIC.out; rwa [renTo_all] at this
      have hOR0 := hIC1.own kB (by rw [List.length_map]; exact hcb) hmb
      rw [List.length_map] at hOR0
      have kZ2 := hW2.blk kZA (by omega)
      have hb2 := hW2.below hbA (by omega)
      have HOS := Lib.hid hOR0.sl
      have hZg := kZ2.lt
      clear hIC1 hOR0 HIC
      go_wp2_with fail
      refine (HNM.out _ _ HOS.out).mono ?_
      rintro e w3 ⟨v3, rfl, hO3, hb3⟩
      replace kZ2 := Blk.by hb3 kZ2
      have hb4 := below_on hb3 hb2
      obtain ⟨a3, c3, rfl⟩ := hO3.len
      have HO3 := Lib.hid hO3
      have qZ := kZ2.cell
      have fZ := kZ2.free
      have lZ := kZ2.lt
      have sW := hW2.size
      clear hO3 cD
      go_wp2
      refine bodyPost_ret (v := .agg #[.int .i64 x.kind, .slice a3 NZ.length c3, .int .i64 x.wd, .int .i64 x.len]) (by simp [results, Tryz.results67, go_sem, *]) rfl ⟨_, rfl, ?_, blwT⟩
      refine OwnI.low (lo := wr.heap.size) ?_ (by omega)
      repeat (first | (with_reducible exact HO3.out) | ((with_reducible refine OwnI.apart ?_ _ _ _ ?_); rotate_left; focus omega))
def OutL (w : World) (r lo hi : Nat) (v : Value) (ls : List (List Int)) : Prop := hi ≤ w.heap.size ∧ ∃ (vs : List Value) (f : Nat → Nat), w.ownsRow lo 27 1 v ls.length vs ∧ vs.length = ls.length ∧ (∀ g, v.ownBlock = some g → lo ≤ g ∧ g < hi) ∧
  (∀ i x s, ls[i]? = some x → vs[i]? = some s → OwnR w (f i) (f i + 1) s x ∧ (r ≤ f i ∧ f i < w.heap.size) ∧ v.ownBlock ≠ some (f i))
section
variable {w w' : World} {r lo hi : Nat} {v : Value} {ls : List (List Int)}
theorem OutL.by (hb : Below w.heap.size w w') (h : OutL w r lo hi v ls) : OutL w' r lo hi v ls := by
  obtain ⟨hs, vs, f, h1, h2, h3, h4⟩ := h
  have hsz := hb.size
  refine ⟨Nat.le_trans hs hb.size, vs, f, row_same h1 (fun g hg => hb.block g (by have := h3 g hg; omega)), h2, h3, fun i x s hx hp => ?_⟩
  obtain ⟨a, b, c⟩ := h4 i x s hx hp
  exact ⟨OwnR.by hb a, by omega, c⟩
theorem OutL.sized (h : OutL w r lo hi v ls) : ∃ a c, v = .slice a ls.length c := by
  obtain ⟨_, vs, f, ⟨_, h1⟩, _⟩ := h
  rcases h1 with ⟨h1, h2⟩ | ⟨g, cap, cur, e1, _⟩
  · exact ⟨none, 0, by rw [h1, h2]⟩
  · exact ⟨_, _, e1⟩
theorem OutL.lit {g : Nat} (h : Blk w g #[] 27) (hlo : lo ≤ g) (hhi : g < hi) (hs : hi ≤ w.heap.size) : OutL w r lo hi (.slice (some ⟨g, 0, none⟩) 0 0) [] :=
  ⟨hs, [], fun _ => 0, ⟨rfl, .inr ⟨g, 0, #[], rfl, hlo, h, Nat.le_refl _, by unfold maxLen; omega, rfl, rfl⟩⟩, rfl, (fun g' hg' => by
    have e : g = g' := by injection hg'
    omega), by intro i x s h; simp at h⟩
theorem OutL.ll (h : OutL w r lo hi v ls) : LlSl w v ls := by
  obtain ⟨hs, vs, f, ⟨hlen, h1⟩, h2, h3, h4⟩ := h
  rcases h1 with ⟨h1, hn⟩ | ⟨g, cap, cur, e1, e2, e3, e4, e5, e6, e7⟩
  · exact .inl ⟨_, _, h1, List.eq_nil_of_length_eq_zero hn⟩
  · refine .inr ⟨g, 0, cap, e1, e4, e5, fun i x hx => ?_⟩
    have hi' : i < ls.length := (List.getElem?_eq_some_iff.1 hx).1
    obtain ⟨s, hsv⟩ : ∃ s, vs[i]? = some s := ⟨vs[i]'(by omega), List.getElem?_eq_getElem (by omega)⟩
    have h6 := hsv
    rw [← e7, List.getElem?_take_of_lt (by omega)] at h6
    have hB : Blk w g cur 27 := e3
    refine ⟨s, ?_, (h4 i x s hx hsv).1.sl⟩
    rw [Nat.zero_add, hB.cell]
    simpa using h6
theorem OutL.low {r' : Nat} (h : OutL w r lo hi v ls) (hr : r' ≤ r) : OutL w r' lo hi v ls := by
  obtain ⟨hs, vs, f, h1, h2, h3, h4⟩ := h
  exact ⟨hs, vs, f, h1, h2, h3, fun i x s hx hp => by
    obtain ⟨a, b, c⟩ := h4 i x s hx hp
    exact ⟨a, by omega, c⟩⟩
end
theorem OutL.wide {w : World} {r lo hi : Nat} {v : Value} {ls : List (List Int)} (h : OutL w r lo hi v ls) : OutL w r lo w.heap.size v ls := by
  obtain ⟨hs, vs, f, h1, h2, h3, h4⟩ := h
  exact ⟨Nat.le_refl _, vs, f, h1, h2, fun g hg => by have := h3 g hg; omega, h4⟩
structure Exc (E : Nat → Prop) (w w' : World) : Prop where
  os : w'.os = w.os
  tape : w'.tape = w.tape
  output : w'.output = w.output
  size : w.heap.size ≤ w'.heap.size
  block : ∀ k, k < w.heap.size → ¬ E k → w'.heap[k]? = w.heap[k]?
section
variable {E F : Nat → Prop} {a w w' : World} {lo hi : Nat}
theorem Exc.refl (E : Nat → Prop) (w : World) : Exc E w w := ⟨rfl, rfl, rfl, Nat.le_refl _, fun _ _ _ => rfl⟩
theorem Exc.ofBelow (h : Below w.heap.size w w') : Exc E w w' := ⟨h.os, h.tape, h.output, h.size, fun k hk _ => h.block k hk⟩
theorem Exc.ofWithin (h : Within lo hi w w') (hE : ∀ k, lo ≤ k → k < hi → E k) : Exc E w w' := ⟨h.os, h.tape, h.output, h.size, fun k hk hn => h.block k hk (by
  rcases Nat.lt_or_ge k lo with h1 | h1
  · exact .inl h1
  · rcases Nat.lt_or_ge k hi with h2 | h2
    · exact absurd (hE k h1 h2) hn
    · exact .inr h2)⟩
theorem Exc.mono (h : Exc E w w') (hE : ∀ k, k < w.heap.size → E k → F k) : Exc F w w' := ⟨h.os, h.tape, h.output, h.size, fun k hk hn => h.block k hk (fun e => hn (hE k hk e))⟩
theorem Exc.on (h : Exc E a w) (h' : Exc E w w') : Exc E a w' :=
  ⟨h'.os.trans h.os, h'.tape.trans h.tape, h'.output.trans h.output, Nat.le_trans h.size h'.size, fun k hk hn => (h'.block k (Nat.lt_of_lt_of_le hk h.size) hn).trans (h.block k hk hn)⟩
theorem Exc.thn (h : Exc E a w) (h' : Exc F w w') (hE : ∀ k, k < a.heap.size → F k → E k) : Exc E a w' :=
  ⟨h'.os.trans h.os, h'.tape.trans h.tape, h'.output.trans h.output, Nat.le_trans h.size h'.size, fun k hk hn => (h'.block k (Nat.lt_of_lt_of_le hk h.size) (fun e => hn (hE k hk e))).trans (h.block k hk hn)⟩
theorem Exc.set (h : Exc E a w) (g o : Nat) (v : Value) (hg : g < a.heap.size → E g) : Exc E a (w.setCell ⟨g, o, none⟩ v) :=
  ⟨h.os, h.tape, h.output, by simp [World.setCell]; exact h.size, fun k hk hn => (Below.heap_setCell w ⟨g, o, none⟩ v k (fun e => by subst e; exact hn (hg hk))).trans (h.block k hk hn)⟩
theorem Exc.alloc (h : Exc E a w) (o : Obj) : Exc E a (w.alloc o) :=
  ⟨h.os, h.tape, h.output, by have := h.size; simp; omega, fun k hk hn => (Below.heap_alloc w o k (by have := h.size; omega)).trans (h.block k hk hn)⟩
theorem Exc.drew (h : Exc E a w) : Exc E a w.drew := ⟨h.os, h.tape, h.output, h.size, h.block⟩
theorem Exc.drewN (h : Exc E a w) (n : Nat) : Exc E a (w.drewN n) := ⟨h.os, h.tape, h.output, h.size, h.block⟩
theorem Exc.below (h : Exc E w w') (hb : Below a.heap.size a w) (hE : ∀ k, k < a.heap.size → ¬ E k) : Below a.heap.size a w' :=
  hb.trans ⟨h.os, h.tape, h.output, h.size, fun k hk => h.block k (Nat.lt_of_lt_of_le hk hb.size) (hE k hk)⟩
theorem Exc.blk {f : Nat} {cs : Array Value} {T : TypeId} (h : Exc E w w') (hf : Blk w f cs T) (hne : ¬ E f) : Blk w' f cs T := (h.block f hf.lt hne).trans hf
variable {sv : Value} {zs : List Int}
theorem OwnR.exc (h : Exc E w w') (hO : OwnR w lo hi sv zs) (hE : ∀ k, lo ≤ k → k < hi → ¬ E k) : OwnR w' lo hi sv zs := by
  rcases hO with e | ⟨g, cap, cs, h1, h2, h2', h3, h4, h5, h6⟩
  · exact .inl e
  · exact .inr ⟨g, cap, cs, h1, h2, h2', h3, h4, h.blk h5 (hE g h2 h2'), h6⟩
theorem OwnDs.exc {ds : List Dv} (h : Exc E w w') (hO : OwnDs w lo hi sv ds) (hE : ∀ k, lo ≤ k → k < hi → ¬ E k) : OwnDs w' lo hi sv ds := by
  rcases hO with e | ⟨g, cap, cs, f, h1, h2, h3, h4, h5, h6, h7⟩
  · exact .inl e
  · refine .inr ⟨g, cap, cs, f, h1, h2, h3, h4, h.blk h5 (hE g h2.1 h2.2), fun i x hx => ?_, h7⟩
    obtain ⟨⟨pv, a, b⟩, c⟩ := h6 i x hx
    exact ⟨⟨pv, a, OwnR.exc h b (fun k h1 h2 => hE k (by omega) (by omega))⟩, c⟩
theorem BldI.exc (h : Exc E w w') (hO : BldI w lo hi sv zs) (hE : ∀ k, lo ≤ k → k < hi → ¬ E k) : BldI w' lo hi sv zs := by
  obtain ⟨hs, h1, h3⟩ := hO
  exact ⟨Nat.le_trans hs h.size, row_same h1 (fun g hg => h.block g (by have := h3 g hg; omega) (hE g (h3 g hg).1 (h3 g hg).2)), h3⟩
theorem UsedB.exc {g n : Nat} (h : Exc E w w') (hO : UsedB w g n zs) (hE : ¬ E g) : UsedB w' g n zs := by
  obtain ⟨cs, a, b⟩ := hO; exact ⟨cs, h.blk a hE, b⟩
theorem BldI.cut {k : Nat} {g c : Nat} {ys : List Int} (h : BldI w lo hi (.slice (some ⟨g, 0, none⟩) (zs ++ ys).length c) (zs ++ ys)) (hk : zs.length = k) : BldI w lo hi (.slice (some ⟨g, 0, none⟩) k c) zs := by
  subst hk
  obtain ⟨hs, ⟨h1, h2⟩, h3⟩ := h
  refine ⟨hs, ⟨by simp [icells], ?_⟩, h3⟩
  rcases h2 with ⟨h2, _⟩ | ⟨g', cap, cur, e1, e2, e3, e4, e5, e6, e7⟩
  · cases h2
  · simp only [Value.slice.injEq, Option.some.injEq, Addr.mk.injEq, and_true] at e1
    obtain ⟨rfl, _, rfl⟩ := e1
    rw [List.length_append] at e4 e7
    refine .inr ⟨g, c, cur, rfl, e2, e3, by omega, e5, by omega, ?_⟩
    have := congrArg (List.take (zs.length * 1)) e7
    rw [List.take_take, icells_push, List.take_left' (by simp [icells])] at this
    rw [← this]
    congr 1
    omega
def LlIn (w : World) (lo hi : Nat) (v : Value) (ls : List (List Int)) : Prop :=
  ∃ (N : Nat) (cs : Array Value), v = .slice (some ⟨N, 0, none⟩) ls.length ls.length ∧ (lo ≤ N ∧ N < hi) ∧ Blk w N cs 27 ∧ ls.length ≤ 1000 ∧ ∀ (j : Nat) xs, ls[j]? = some xs → ∃ s, cs[j]? = some s ∧ OwnR w lo hi s xs
theorem LlIn.exc {v : Value} {ls : List (List Int)} (h : Exc E w w') (hO : LlIn w lo hi v ls) (hE : ∀ k, lo ≤ k → k < hi → ¬ E k) : LlIn w' lo hi v ls := by
  obtain ⟨N, cs, h1, h2, h3, h4, h5⟩ := hO
  refine ⟨N, cs, h1, h2, h.blk h3 (hE N h2.1 h2.2), h4, fun j xs hx => ?_⟩
  obtain ⟨s, a, b⟩ := h5 j xs hx
  exact ⟨s, a, OwnR.exc h b hE⟩
theorem LlIn.by {v : Value} {ls : List (List Int)} (h : Below w.heap.size w w') (hO : LlIn w lo hi v ls) : LlIn w' lo hi v ls := hO.exc (E := fun _ => False) (Exc.ofBelow h) (fun _ _ _ e => e)
theorem LlIn.row {v : Value} {ls : List (List Int)} {j : Nat} {xs : List Int} (hO : LlIn w lo hi v ls) (h : ls[j]? = some xs) : ∃ N s, v = .slice (some ⟨N, 0, none⟩) ls.length ls.length ∧ w.cell? ⟨N, j, none⟩ = some s ∧ IntSl w s xs ∧ N < w.heap.size := by
  obtain ⟨N, cs, h1, h2, h3, h4, h5⟩ := hO
  obtain ⟨s, a, b⟩ := h5 j xs h
  exact ⟨N, s, h1, (h3.cell j).trans a, b.sl, h3.lt⟩
theorem OwnDs.atE {ds : List Dv} {i : Nat} {x : Dv} (h : OwnDs w lo hi sv ds) (hx : ds[i]? = some x) : ∃ g cap f pv, sv = .slice (some ⟨g, 0, none⟩) ds.length cap ∧ g < w.heap.size ∧ w.cell? ⟨g, i * 4, none⟩ = some (.int .i64 x.kind) ∧ w.cell? ⟨g, i * 4 + 1, none⟩ = some pv ∧ w.cell? ⟨g, i * 4 + 2, none⟩ = some (.int .i64 x.wd) ∧ w.cell? ⟨g, i * 4 + 3, none⟩ = some (.int .i64 x.len) ∧ OwnR w f (f + 1) pv x.pins ∧ lo ≤ f ∧ f < hi := by
  rcases h with ⟨_, _, _, rfl⟩ | ⟨g, cap, cs, f, h1, h2, h3, h4, h5, h6, h7⟩
  · simp at hx
  · obtain ⟨⟨pv, ⟨e1, e2, e3, e4⟩, b⟩, c⟩ := h6 i x hx
    have hc := h5.cell
    exact ⟨g, cap, f i, pv, h1, h5.lt, (hc _).trans e1, (hc _).trans e2, (hc _).trans e3, (hc _).trans e4, b, c.1, c.2.1⟩
end
def RB (w : World) (g n c : Nat) (L : List Tr) : Prop := w.ownsRow 0 62 4 (.slice (some ⟨g, 0, none⟩) n c) n (tcells L) ∧ L.length = n ∧ g < w.heap.size ∧ ∀ t ∈ L, OwnR w t.2.2 (t.2.2 + 1) t.2.1 t.1.pins ∧ t.2.2 < w.heap.size ∧ t.2.2 ≠ g
section
variable {w w' : World} {g n c : Nat} {L : List Tr}
theorem RB.exc {E : Nat → Prop} (h : Exc E w w') (hR : RB w g n c L) (hg : ¬ E g) (hE : ∀ t ∈ L, ¬ E t.2.2) : RB w' g n c L := by
  obtain ⟨h1, h2, h3, h4⟩ := hR
  refine ⟨row_same h1 (fun g' hg' => ?_), h2, Nat.lt_of_lt_of_le h3 h.size, fun t ht => ?_⟩
  · have : g = g' := by injection hg'
    subst this
    exact h.block g h3 hg
  · obtain ⟨a, b, c⟩ := h4 t ht
    exact ⟨OwnR.exc h a (fun k h1 h2 e => hE t ht ((show k = t.2.2 by omega) ▸ e)), Nat.lt_of_lt_of_le b h.size, c⟩
theorem RB.by (hb : Below w.heap.size w w') (hR : RB w g n c L) : RB w' g n c L := hR.exc (E := fun _ => False) (Exc.ofBelow hb) (fun e => e) (fun _ _ e => e)
theorem grown_exc {g0 : Nat} (h : w.grownBy w' (some g0)) : Exc (fun k => k = g0) w w' := ⟨h.os, h.tape, h.output, h.size, fun k hk hn => h.block k hk (fun e => hn (Option.some.inj e))⟩
theorem RB.lit (h : Blk w g #[] 62) : RB w g 0 0 [] :=
  ⟨⟨rfl, .inr ⟨g, 0, #[], rfl, Nat.zero_le _, h, Nat.le_refl _, by unfold maxLen; omega, rfl, rfl⟩⟩, rfl, h.lt, by simp⟩
theorem RB.one (h : RB w g n c L) : ∀ t ∈ L, t.2.1.oneCell' = true := by
  intro t ht
  obtain ⟨a, b⟩ := h.2.2.2 t ht
  rcases a with ⟨_, _, e, _⟩ | ⟨_, _, _, e, _⟩ <;> rw [e] <;> rfl
theorem RB.cells (h : RB w g n c L) : ∃ cur, Blk w g cur 62 ∧ n ≤ c ∧ c ≤ maxLen ∧ ∀ (j : Nat) u, (tcells L)[j]? = some u → cur[j]? = some u := by
  obtain ⟨⟨h0, h1⟩, h2, h3, h4⟩ := h
  rcases h1 with ⟨h1, _⟩ | ⟨g', cap, cur, e1, e2, e3, e4, e5, e6, e7⟩
  · cases h1
  · simp only [Value.slice.injEq, Option.some.injEq, Addr.mk.injEq, and_true] at e1
    obtain ⟨rfl, _, rfl⟩ := e1
    exact ⟨cur, e3, e4, e5, row_cur (g := g) (cap := c) e7⟩
theorem RB.row (h : RB w g n c L) : DRow w g (L.map fun t => (t.1, t.2.2)).toArray := by
  obtain ⟨cur, hB, _, _, hc⟩ := h.cells
  refine ⟨cur, hB, fun i hi => ?_⟩
  have hil : i < L.length := by simpa using hi
  have ht : L[i]? = some L[i] := List.getElem?_eq_getElem hil
  have hbang : (L.map fun t => (t.1, t.2.2)).toArray[i]! = (L[i].1, L[i].2.2) := by
    rw [getBang _ _ hi]
    simp
  rw [hbang]
  obtain ⟨a, b, d⟩ := h.2.2.2 _ (List.mem_of_getElem? ht)
  obtain ⟨q0, q1, q2, q3⟩ := tcells_get L i _ ht
  exact ⟨⟨_, ⟨hc _ _ q0, hc _ _ q1, hc _ _ q2, hc _ _ q3⟩, a⟩, d⟩
theorem RB.push {x : Dv} {pv : Value} {f g' c' : Nat} (h : RB w g n c L) (hx : OwnR w f (f + 1) pv x.pins) (hf : f < w.heap.size) (hfg : f ≠ g)
    (h1 : w'.ownsRow 0 62 4 (.slice (some ⟨g', 0, none⟩) (n + 1) c') (n + 1) (tcells L ++ [.int .i64 x.kind, pv, .int .i64 x.wd, .int .i64 x.len])) (h2 : w.grownBy w' (some g)) (h3 : g' = g ∨ g' = w.heap.size) (hg' : g' < w'.heap.size) : RB w' g' (n + 1) c' (L ++ [(x, pv, f)]) := by
  obtain ⟨e1, e2, e3, e4⟩ := h
  have hE := grown_exc h2
  refine ⟨by rw [tcells_append]; exact h1, by rw [List.length_append, e2]; rfl, hg', fun t ht => ?_⟩
  rcases List.mem_append.1 ht with ht | ht
  · obtain ⟨a, b, c⟩ := e4 t ht
    exact ⟨OwnR.exc hE a (fun k h1 h2 (e : k = g) => c (by omega)), Nat.lt_of_lt_of_le b hE.size, by omega⟩
  · obtain rfl : t = (x, pv, f) := by simpa using ht
    exact ⟨OwnR.exc hE hx (fun k h1 h2 (e : k = g) => hfg (by dsimp only at h1 h2; omega)), Nat.lt_of_lt_of_le hf hE.size, by dsimp only; omega⟩
end
theorem step_pushR {ops : Array Oper} {o : Oper} {a : Act} {w : World} {K : Act → World → Prop} {Q : Exit → Act → World → Prop} {E : Prop} (hgd : o.guard = none) (s x : Operand)
    (ho : o.op = .call { callee := .builtin .append, args := #[s, x], argTypes := #[32, 32] })
    (g n c : Nat) (L : List Tr) (hs : a.eval s = .slice (some ⟨g, 0, none⟩) n c) (h : RB w g n c L) (nb : Nat) (d : Dv) (pv : Value) (f : Nat) (hx : a.eval x = .slice (some ⟨nb, 0, none⟩) 1 1)
    (hnb : Blk w nb #[.int .i64 d.kind, pv, .int .i64 d.wd, .int .i64 d.len] 62) (hd : OwnR w f (f + 1) pv d.pins) (hf : f < w.heap.size) (hfg : f ≠ g) (hn : n + 1 ≤ 1000)
    (hK : ∀ g' c' w', RB w' g' (n + 1) c' (L ++ [(d, pv, f)]) → w.grownBy w' (some g) → (g' = g ∨ g' = w.heap.size) → K (a.put o.dst (.slice (some ⟨g', 0, none⟩) (n + 1) c')) w') :
    if Region.wanted o (yielded ops a.tmps) = true then Oper.wp Tryz.prog o a w K Q else E := by
  have hone : pv.oneCell' = true := by rcases hd with ⟨_, _, e, _⟩ | ⟨_, _, _, e, _⟩ <;> rw [e] <;> rfl
  refine step_appT hgd s x ho 0 _ n _ hs h.1 ⟨nb, 0, none⟩ 1 1 [.int .i64 d.kind, pv, .int .i64 d.wd, .int .i64 d.len] hx rfl (World.news_of_block (cs := #[.int .i64 d.kind, pv, .int .i64 d.wd, .int .i64 d.len]) hnb) ?_ (by decide) hn (Nat.zero_le _) ?_
  · intro u hu
    simp at hu
    rcases hu with rfl | rfl | rfl | rfl
    · rfl
    · exact hone
    · rfl
    · rfl
  · intro g' c' w' h1 h2 h3
    have h3' : g' = g ∨ g' = w.heap.size := h3.imp (fun e => (Option.some.inj e).symm) id
    exact hK g' c' w' (h.push hd hf hfg h1 h2 h3' (h1.lt g' rfl).2) h2 h3'
theorem list_pushR {ops : Array Oper} {rest : List Oper} {o : Oper} {a : Act} {w : World} {Q : Exit → Act → World → Prop} (hgd : o.guard = none) (s x : Operand)
    (ho : o.op = .call { callee := .builtin .append, args := #[s, x], argTypes := #[32, 32] })
    (g n c : Nat) (L : List Tr) (hs : a.eval s = .slice (some ⟨g, 0, none⟩) n c) (h : RB w g n c L) (nb : Nat) (d : Dv) (pv : Value) (f : Nat) (hx : a.eval x = .slice (some ⟨nb, 0, none⟩) 1 1)
    (hnb : Blk w nb #[.int .i64 d.kind, pv, .int .i64 d.wd, .int .i64 d.len] 62) (hd : OwnR w f (f + 1) pv d.pins) (hf : f < w.heap.size) (hfg : f ≠ g) (hn : n + 1 ≤ 1000)
    (hK : ∀ g' c' w', RB w' g' (n + 1) c' (L ++ [(d, pv, f)]) → w.grownBy w' (some g) → (g' = g ∨ g' = w.heap.size) → wpList Tryz.prog ops Q rest (a.put o.dst (.slice (some ⟨g', 0, none⟩) (n + 1) c')) w') : wpList Tryz.prog ops Q (o :: rest) a w :=
  wpList_plain hgd fun K hk => by
    have h := step_pushR (ops := ops) (K := K) (Q := Q) (E := False) hgd s x ho g n c L hs h nb d pv f hx hnb hd hf hfg hn (fun g' c' w' h1 h2 h3 => hk _ _ (hK g' c' w' h1 h2 h3))
    rwa [if_pos (by simp [Region.wanted, hgd])] at h
set_option maxRecDepth 100000 in
set_option maxHeartbeats 2000000 in
theorem max_any (sv : Value) (zs : List Int) (w : World) (h : IntSl w sv zs) (hne : zs ≠ []) (hl : zs.length ≤ 1000) :
    Calls Tryz.prog 158 #[sv] w fun e w' => ∃ m, e = .returned (.int .i64 m) ∧ m ∈ zs ∧ (∀ z ∈ zs, z ≤ m) ∧ w = w' := by
  have H := Lib.hid h
  obtain ⟨n, hn⟩ : ∃ n, zs.length = n := ⟨_, rfl⟩
  have hpos : 0 < n := by
    rcases Nat.eq_zero_or_pos n with e | e
    · exact absurd (List.eq_nil_of_length_eq_zero (by omega)) hne
    · exact e
  rcases h with ⟨_, _, _, h2⟩ | ⟨b, off, cap, rfl, _, _, h4⟩
  · exact absurd h2 hne
  have H4 := Lib.hid h4
  have HN := Lib.hid hn
  rw [hn] at hl ⊢
  obtain ⟨z0, hz0⟩ : ∃ z, zs[0]? = some z := ⟨_, List.getElem?_eq_getElem (by omega)⟩
  have c0 := h4 0 z0 hz0
  rw [Nat.add_zero] at c0
  have HZ0 := Lib.hid hz0
  have i0 : ¬ (n : Int) < 1 := by omega
  have i1 : (0 : Int) < (n : Int) := by omega
  have i2 : decide (0 < n) = true := decide_eq_true hpos
  clear h4 hn hne hz0 H
  go_enter Tryz.func158, Tryz.ntmps158
  go_wp2
  go_loopw [3, 4] (fun mv iv wr => ∃ (i : Nat) (m : Int), 1 ≤ i ∧ i ≤ n ∧ mv = .int .i64 m ∧ iv = .int .i64 (i : Int) ∧ Hid (m ∈ zs) ∧ Hid (∀ (j : Nat) z, j < i → zs[j]? = some z → z ≤ m) ∧ w = wr) (fun _ iv _ => n - (intOf iv).toNat)
  case atStart =>
    refine ⟨1, z0, Nat.le_refl _, by omega, rfl, rfl, Lib.hid (List.mem_of_getElem? HZ0.out), Lib.hid (fun j z hj hz => ?_), rfl⟩
    obtain rfl : j = 0 := by omega
    rw [HZ0.out] at hz
    injection hz with hz
    omega
  case round =>
    clear c0 i0 i1 i2
    obtain ⟨i, m, hi1, hi2, rfl, rfl, HM, HA, rfl⟩ := hrel
    by_cases hlt : i < n
    · obtain ⟨z, hz⟩ : ∃ z, zs[i]? = some z := ⟨_, List.getElem?_eq_getElem (by rw [HN.out]; exact hlt)⟩
      have c1 := H4.out i z hz
      have HZ := Lib.hid hz
      have j1 : (i : Int) < (n : Int) := by omega
      have j2 : decide (i < n) = true := decide_eq_true hlt
      clear hz
      have HT := Lib.hid (show (if m < z then z else m) ∈ zs ∧ ∀ (j : Nat) y, j < i + 1 → zs[j]? = some y → y ≤ (if m < z then z else m) from by
        refine ⟨?_, fun j y hj hy => ?_⟩
        · split
          · exact List.mem_of_getElem? HZ.out
          · exact HM.out
        · by_cases e : j = i
          · subst e
            rw [HZ.out] at hy
            injection hy with hy
            split <;> omega
          · have := HA.out j y (by omega) hy
            split <;> omega)
      go_wp2
      exact ⟨⟨i + 1, _, by omega, by omega, rfl, by go_num, Lib.hid (by first | exact HT.out.1 | (rw [show max m z = if m < z then z else m by split <;> omega]; exact HT.out.1)), Lib.hid (by first | exact HT.out.2 | (rw [show max m z = if m < z then z else m by split <;> omega]; exact HT.out.2)), by first | trivial | rfl⟩, by simp [intOf]; omega⟩
    · obtain rfl : n = i := by omega
      have j1 : ¬ (n : Int) < (n : Int) := by omega
      go_wp2
      go_ret
      refine ⟨m, rfl, HM.out, fun z hz => ?_, rfl⟩
      obtain ⟨j, hj, rfl⟩ := List.mem_iff_getElem.1 hz
      exact HA.out j _ (by rw [← HN.out]; exact hj) (List.getElem?_eq_getElem hj)
theorem DRow.sl {w : World} {g cap : Nat} {d : Array (Dv × Nat)} (h : DRow w g d) (h1 : d.size ≤ cap) (h2 : cap ≤ maxLen) : DvSl w (.slice (some ⟨g, 0, none⟩) d.size cap) (d.toList.map (·.1)) := by
  obtain ⟨cs, hB, hR⟩ := h
  refine .inr ⟨g, 0, cap, by simp, by simpa using h1, h2, fun i x hx => ?_⟩
  rw [List.getElem?_map] at hx
  obtain ⟨p, hp, rfl⟩ : ∃ p, d.toList[i]? = some p ∧ p.1 = x := by
    cases h : d.toList[i]? with
    | none => rw [h] at hx; simp at hx
    | some t => rw [h] at hx; exact ⟨t, rfl, by simpa using hx⟩
  obtain ⟨hi, hb⟩ := list_getBang d i p hp
  obtain ⟨⟨pv, ⟨q0, q1, q2, q3⟩, a⟩, c⟩ := hR i hi
  rw [hb] at q0 q2 q3 a
  have hc := hB.cell
  simp only [Nat.zero_add]
  exact ⟨pv, (hc _).trans q0, (hc _).trans q1, (hc _).trans q2, (hc _).trans q3, a.sl⟩
set_option maxRecDepth 100000 in
set_option maxHeartbeats 2000000 in
theorem pdqD_any (gf : Nat) (lb : Array Value) (eg : ∀ args w, (callFunc gf args).run Tryz.prog w = .ok (.enter gf args) w) (hc : DCmp gf lb) (g cap : Nat) (lim : Int) (d : Array (Dv × Nat)) (w : World) (h : DRow w g d) (hsz : d.size ≤ 12) (hcap : d.size ≤ cap) :
    Calls Tryz.prog 179 #[.slice (some ⟨g, 0, none⟩) d.size cap, .int .i64 0, .int .i64 d.size, .int .i64 lim, .func (.func gf) #[] lb] w fun e w' =>
      e = .returned (.tuple #[]) ∧ ∃ d', DRow w' g d' ∧ SortedIn dltP 0 d.size d' ∧ PermIn 0 d.size d d' ∧ Within g (g + 1) w w' := by
  have HI := Lib.hid (insSort_any gf lb eg hc g cap 0 d.size d w h (Nat.zero_le _) (Nat.le_refl _) (by omega) hcap)
  have i1 : (d.size : Int) ≤ 12 := by omega
  clear h
  generalize d.size = n at *
  go_enter Tryz.func179, Tryz.ntmps179
  go_wp2
  refine wp_loop_rounds 1 ?_
  rw [rounds_succ]
  go_wp2_with (go_at_call 200; refine HI.out.mono ?_; rintro e w1 ⟨rfl, hR1⟩)
  refine bodyPost_ret (v := .tuple #[]) (by simp [results, Tryz.results179, go_sem, *]) rfl ⟨rfl, hR1⟩
set_option maxRecDepth 100000 in
set_option maxHeartbeats 2000000 in
theorem len64_any (s : Nat) (hs : s ≤ 255) (w : World) :
    Calls Tryz.prog 189 #[.int .u64 (s : Int)] w fun e w' => (∃ q : Int, e = .returned (.int .i64 q)) ∧ w = w' := by
  go_enter Tryz.func189, Tryz.ntmps189
  have i1 : ¬ (s : Int) ≥ 4294967296 := by omega
  have i2 : ¬ (s : Int) ≥ 65536 := by omega
  have i3 : ¬ (s : Int) ≥ 256 := by omega
  go_wp2
  go_ret
  exact ⟨⟨_, rfl⟩, rfl⟩
set_option maxRecDepth 100000 in
set_option maxHeartbeats 2000000 in
theorem lenB_any (s : Nat) (hs : s ≤ 255) (w : World) :
    Calls Tryz.prog 165 #[.int .u64 (s : Int)] w fun e w' => (∃ q : Int, e = .returned (.int .i64 q)) ∧ w = w' := by
  have HL := Lib.hid (fun w => len64_any s hs w)
  go_enter Tryz.func165, Tryz.ntmps165
  go_wp2_with fail
  refine (HL.out _).mono ?_
  rintro e w1 ⟨⟨q, rfl⟩, rfl⟩
  go_wp2
  go_ret
  exact ⟨⟨q, rfl⟩, by first | trivial | rfl⟩
theorem DRow.exc {E : Nat → Prop} {w w' : World} {g : Nat} {d : Array (Dv × Nat)} (h : Exc E w w') (hR : DRow w g d) (hg : ¬ E g) (hE : ∀ k ∈ d.toList.map (·.2), ¬ E k) : DRow w' g d := by
  obtain ⟨cs, hB, hC⟩ := hR
  refine ⟨cs, h.blk hB hg, fun i hi => ?_⟩
  obtain ⟨⟨pv, a, b⟩, c⟩ := hC i hi
  refine ⟨⟨pv, a, OwnR.exc h b (fun k h1 h2 => ?_)⟩, c⟩
  obtain rfl : k = d[i]!.2 := by omega
  refine hE _ (List.mem_map.2 ⟨d[i]!, ?_, rfl⟩)
  rw [getBang d i hi]
  simp
set_option maxRecDepth 100000 in
set_option maxHeartbeats 2000000 in
theorem sortFuncD_any (gf : Nat) (lb : Array Value) (eg : ∀ args w, (callFunc gf args).run Tryz.prog w = .ok (.enter gf args) w) (hc : DCmp gf lb) (g n c : Nat) (L : List Tr) (w : World) (h : RB w g n c L) (hn : n ≤ 12) :
    Calls Tryz.prog 160 #[.slice (some ⟨g, 0, none⟩) n c, .func (.func gf) #[] lb] w fun e w' =>
      e = .returned (.tuple #[]) ∧ (∃ d', DRow w' g d' ∧ d'.size = n ∧ d'.toList.map (·.1) = srtD (L.map (·.1)) ∧ ∀ k ∈ d'.toList.map (·.2), k ∈ L.map (·.2.2)) ∧ Within g (g + 1) w w' := by
  obtain ⟨cur, _, hnc, hcm, _⟩ := h.cells
  have hrow := h.row
  have hsz : (L.map fun t => (t.1, t.2.2)).toArray.size = n := by simp [h.2.1]
  have HS := Lib.hid (fun lim w (hR : DRow w g (L.map fun t => (t.1, t.2.2)).toArray) => pdqD_any gf lb eg hc g c lim _ w hR (by rw [hsz]; exact hn) (by rw [hsz]; exact hnc))
  have HF := Lib.hid (show ∀ d' : Array (Dv × Nat), SortedIn dltP 0 (L.map fun t => (t.1, t.2.2)).toArray.size d' → PermIn 0 (L.map fun t => (t.1, t.2.2)).toArray.size (L.map fun t => (t.1, t.2.2)).toArray d' → d'.size = n ∧ d'.toList.map (·.1) = srtD (L.map (·.1)) ∧ ∀ k ∈ d'.toList.map (·.2), k ∈ L.map (·.2.2) from fun d' hs hp => by
    have hP := PermIn.list hp
    have hz := hp.1
    rw [← hz] at hs
    have e1 : (L.map fun t => (t.1, t.2.2)).toArray.toList.map (·.1) = L.map (·.1) := by simp
    have e2 : (L.map fun t => (t.1, t.2.2)).toArray.toList.map (·.2) = L.map (·.2.2) := by simp
    refine ⟨by rw [hz, hsz], srtD_of (by rw [← e1]; exact hP.map _) (SortedIn.list hs), fun k hk => ?_⟩
    rw [← e2]
    exact (hP.map (·.2)).mem_iff.1 hk)
  have HR := Lib.hid hrow
  generalize (L.map fun t => (t.1, t.2.2)).toArray = d at *
  have HB := Lib.hid (fun w => lenB_any n (by omega) w)
  subst hsz
  have i1 : d.size ≤ 12 := hn
  clear h hrow hnc hcm
  obtain ⟨z, hz⟩ : ∃ z, d.size = z := ⟨_, rfl⟩
  rw [hz] at HS HF HB i1 ⊢
  clear hz hn
  go_enter Tryz.func160, Tryz.ntmps160
  go_wp2_with fail
  refine (HB.out _).mono ?_
  rintro e w1 ⟨⟨q, rfl⟩, rfl⟩
  go_wp2_with fail
  refine (HS.out q _ HR.out).mono ?_
  rintro e w1 ⟨rfl, d', hR1, hS1, hP1, hW1⟩
  obtain ⟨f1, f2, f3⟩ := HF.out d' hS1 hP1
  have HO := Lib.hid (show (∃ d', DRow w1 g d' ∧ d'.size = z ∧ d'.toList.map (·.1) = srtD (L.map (·.1)) ∧ ∀ k ∈ d'.toList.map (·.2), k ∈ L.map (·.2.2)) ∧ Within g (g + 1) w w1 from ⟨⟨d', hR1, f1, f2, f3⟩, hW1⟩)
  clear hR1 hS1 hP1 hW1 f1 f2 f3
  go_wp2
  go_end0
  exact ⟨by rfl, HO.out⟩
end Go.Proofs.YtifbffianbgeaaaGreat
namespace Go.Proofs.YtifbffianbgeaaaGreat.facts
open Go.RowKit Go.Proofs.YtifbffianbgeaaaGreat
theorem laid : (laidOutB Tryz.pinned.checked.prog) = true := by kernel_rfl
theorem rowed : (mapsRowed Tryz.pinned.checked.prog) = true := by kernel_rfl
theorem stops : (Tryz.pinned.checked.prog.stops == []) = true := by kernel_rfl
theorem knobs : (Tryz.pinned.checked.prog.stopKnobs == []) = true := by kernel_rfl
theorem keys : (Rows.fnExactCompareNetlistsRow.plainKeys == Tryz.pinned.checked.prog.plainKeys) = true := by kernel_rfl
theorem heard : (Tryz.pinned.checked.prog.stopsHeard) = true := by kernel_rfl
theorem enter : (Tryz.pinned.checked.prog.mayEnter) = true := by kernel_rfl
theorem lifts : (Rows.fnExactCompareNetlistsRow.lifted == Tryz.pinned.checked.prog.liftsFinal) = true := by kernel_rfl
theorem make : (Tryz.pinned.checked.prog.make == some Rows.fnExactCompareNetlistsRow.make) = true := by kernel_rfl
theorem own : ownKnob Tryz.prog.godebug = none := by kernel_rfl
theorem laidOut : laidOutB Tryz.prog = true := laid
end Go.Proofs.YtifbffianbgeaaaGreat.facts
