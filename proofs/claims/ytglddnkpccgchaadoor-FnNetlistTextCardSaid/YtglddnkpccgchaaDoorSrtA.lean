/- Sorting a row in place: the plain part (rotations; the merge of two sorted rows; the one sorted order of devices). -/
import Derived.Test.YtglddnkpccgchaaDoorRank0
import Derived.Test.YtglddnkpccgchaaDoorCmps
import Derived.Sort.LotA
import Derived.Deep.DeepCutAuto
import Derived.Deep.RegionLaw
import Derived.Shelf.Abstract
import Derived.Deep.RegionHeldLaw
namespace Go.Proofs.YtglddnkpccgchaaDoor
open Go.RowKit
open Go.Sort (swp PermIn SortedIn SWO size_swp swp_get)
set_option linter.unusedVariables false
set_option linter.unusedSimpArgs false

/-- Where the element at k comes from when the parts [a, m) and [m, b) change places. -/
def rotI (a m b k : Nat) : Nat := if k < a then k else if b ≤ k then k else if k < a + (b - m) then k + (m - a) else k - (b - m)
/-- Where the element at k comes from when the n elements from a on change places with those from b on. -/
def swI (a b n k : Nat) : Nat := if k < a then k else if k < a + n then k + (b - a) else if k < b then k else if k < b + n then k - (b - a) else k
theorem rotI_big {i j m k : Nat} (hj : j < i) (hi : i ≤ m) : rotI (m - i) m (m + j) k = swI (m - i) m j (rotI (m - i + j) m (m + j) k) := by
  unfold rotI swI
  repeat' split
  all_goals omega
theorem rotI_small {i j m k : Nat} (hj : i < j) (hi : i ≤ m) : rotI (m - i) m (m + j) k = swI (m - i) (m + j - i) i (rotI (m - i) m (m + j - i) k) := by
  unfold rotI swI
  repeat' split
  all_goals omega
theorem rotI_eq {i m k : Nat} (hi : i ≤ m) : rotI (m - i) m (m + i) k = swI (m - i) m i k := by
  unfold rotI swI
  repeat' split
  all_goals omega
theorem rotI_none (a m b k : Nat) (h : m ≤ a ∨ b ≤ m) (h1 : a ≤ m) (h2 : m ≤ b) : rotI a m b k = k := by
  unfold rotI
  repeat' split
  all_goals omega
/-- One exchange more of a row of exchanges. -/
def tauI (i j k : Nat) : Nat := if k = i then j else if k = j then i else k
theorem swI_step {a b n k : Nat} (h : a + n < b) : swI a b (n + 1) k = swI a b n (tauI (a + n) (b + n) k) := by
  unfold swI tauI
  repeat' split
  all_goals omega
theorem swI_zero (a b k : Nat) (h : a ≤ b) : swI a b 0 k = k := by
  unfold swI
  repeat' split
  all_goals omega
theorem rotI_up {a i k : Nat} (h : a ≤ i) : rotI a (a + 1) (i + 2) k = rotI a (a + 1) (i + 1) (tauI i (i + 1) k) := by
  unfold rotI tauI
  repeat' split
  all_goals omega
theorem rotI_down {i m k : Nat} (h : i ≤ m) (h0 : 0 < i): rotI (i - 1) m (m + 1) k = rotI i m (m + 1) (tauI i (i - 1) k) := by
  unfold rotI tauI
  repeat' split
  all_goals omega

section
variable {α : Type} [Inhabited α]
/-- d' holds at k what d holds at f k. -/
def Fol (f : Nat → Nat) (d d' : Array α) : Prop := d'.size = d.size ∧ ∀ k, k < d.size → d'[k]! = d[f k]!
theorem Fol.id (d : Array α) {f : Nat → Nat} (h : ∀ k, f k = k) : Fol f d d := ⟨rfl, fun k _ => by rw [h]⟩
theorem Fol.swp {f g : Nat → Nat} {d d' : Array α} (h : Fol f d d') {i j : Nat} (hi : i < d.size) (hj : j < d.size) (hg : ∀ k, g k = f (tauI i j k)) : Fol g d (swp d' i j) := by
  refine ⟨by rw [size_swp]; exact h.1, fun k hk => ?_⟩
  rw [swp_get d' (by rw [h.1]; exact hi) (by rw [h.1]; exact hj), hg]
  unfold tauI
  by_cases h1 : k = j
  · subst h1
    by_cases h2 : k = i
    · subst h2; simp; exact h.2 _ hk
    · simp [h2]; exact h.2 _ hi
  · by_cases h2 : k = i
    · subst h2; simp [h1]; exact h.2 _ hj
    · simp [h1, h2]; exact h.2 _ hk
theorem Fol.then {f g e : Nat → Nat} {d d' d'' : Array α} (h : Fol f d d') (h' : Fol g d' d'') (hb : ∀ k, k < d.size → g k < d.size) (he : ∀ k, e k = f (g k)) : Fol e d d'' :=
  ⟨h'.1.trans h.1, fun k hk => by rw [h'.2 k (by rw [h.1]; exact hk), h.2 _ (hb k hk), he]⟩
theorem rotI_lt {a m b k n : Nat} (h1 : a ≤ m) (h2 : m ≤ b) (h3 : b ≤ n) (hk : k < n) : rotI a m b k < n := by
  unfold rotI
  repeat' split
  all_goals omega
theorem swI_lt {a b c k n : Nat} (h1 : a + c ≤ b) (h3 : b + c ≤ n) (hk : k < n) : swI a b c k < n := by
  unfold swI
  repeat' split
  all_goals omega
theorem PermIn.refl' (a b : Nat) (d : Array α) : PermIn a b d d := Go.Sort.permIn_refl d a b
theorem PermIn.on {a b : Nat} {d d' d'' : Array α} (h1 : PermIn a b d d') (h2 : PermIn a b d' d'') : PermIn a b d d'' := Go.Sort.permIn_trans d d' d'' a b h1 h2
theorem PermIn.wide {a b a' b' : Nat} {d d' : Array α} (h : PermIn a b d d') (h1 : a' ≤ a) (h2 : b ≤ b') (h3 : b' ≤ d.size) : PermIn a' b' d d' := Go.Sort.permIn_mono d d' a b a' b' h1 h2 h3 h
theorem PermIn.swp {a b i j : Nat} {d d' : Array α} (h : PermIn a b d d') (h1 : a ≤ i) (h2 : i < b) (h3 : a ≤ j) (h4 : j < b) (h5 : b ≤ d.size) : PermIn a b d (swp d' i j) :=
  PermIn.on h (Go.Sort.swp_permIn d' a b i j h1 h2 h3 h4 (by rw [h.1]; exact h5))

variable {lt : α → α → Bool}
theorem SortedIn.sub {a b a' b' : Nat} {d : Array α} (h : SortedIn lt a b d) (h1 : a ≤ a') (h2 : b' ≤ b) : SortedIn lt a' b' d := fun i j hi hij hj => h i j (by omega) hij (by omega)
theorem SortedIn.one (hS : SWO lt) {a b : Nat} (d : Array α) (h : b ≤ a + 1) : SortedIn lt a b d := fun i j hi hij hj => by omega
theorem SortedIn.le (hS : SWO lt) {a b i j : Nat} {d : Array α} (h : SortedIn lt a b d) (hi : a ≤ i) (hij : i ≤ j) (hj : j < b) : lt d[j]! d[i]! = false := by
  rcases Nat.lt_or_eq_of_le hij with h' | rfl
  · exact h i j hi h' hj
  · exact hS.irrefl _
theorem SortedIn.out {a b x y : Nat} {d d' : Array α} (h : SortedIn lt a b d) (hp : PermIn x y d d') (hd : b ≤ x ∨ y ≤ a) : SortedIn lt a b d' := fun i j hi hij hj => by
  rw [hp.2.1 i (by omega), hp.2.1 j (by omega)]; exact h i j hi hij hj
/-- Two sorted parts, nothing of the second less than anything of the first. -/
theorem SortedIn.join {a m b : Nat} {d : Array α} (h1 : SortedIn lt a m d) (h2 : SortedIn lt m b d) (h : ∀ i j, a ≤ i → i < m → m ≤ j → j < b → lt d[j]! d[i]! = false) : SortedIn lt a b d := fun i j hi hij hj => by
  by_cases hm : j < m
  · exact h1 i j hi hij hm
  · by_cases hm' : i < m
    · exact h i j hi hm' (by omega) hj
    · exact h2 i j (by omega) hij hj
/-- What lies between two parts stays when each is permuted by itself. -/
theorem apart_perm {a m b x y : Nat} {d d' : Array α} (hb : b ≤ d.size) (hp : PermIn x y d d') (hxy : (a ≤ x ∧ y ≤ m) ∨ (m ≤ x ∧ y ≤ b)) (hs : y ≤ d.size)
    (h : ∀ i j, a ≤ i → i < m → m ≤ j → j < b → lt d[j]! d[i]! = false) : ∀ i j, a ≤ i → i < m → m ≤ j → j < b → lt d'[j]! d'[i]! = false := by
  intro i j hi him hj hjb
  rcases hxy with h' | h'
  · rw [hp.2.1 j (by omega)]
    by_cases hin : x ≤ i ∧ i < y
    · exact Go.Sort.permIn_all d d' x y (fun z => lt d[j]! z = false) hs hp (fun k hk hk' => h k j (by omega) (by omega) hj hjb) i hin.1 hin.2
    · rw [hp.2.1 i (by omega)]; exact h i j hi him hj hjb
  · rw [hp.2.1 i (by omega)]
    by_cases hin : x ≤ j ∧ j < y
    · exact Go.Sort.permIn_all d d' x y (fun z => lt z d[i]! = false) hs hp (fun k hk hk' => h i k hi him (by omega) (by omega)) j hin.1 hin.2
    · rw [hp.2.1 j (by omega)]; exact h i j hi him hj hjb

/-- One element ahead of a sorted part: it goes to its place. -/
theorem merge_first (hS : SWO lt) {a b i : Nat} {d d' : Array α} (hs : SortedIn lt (a + 1) b d) (h1 : a + 1 ≤ i) (h2 : i ≤ b) (hb : b ≤ d.size)
    (hl : i = a + 1 ∨ lt d[i - 1]! d[a]! = true) (hr : i = b ∨ lt d[i]! d[a]! = false) (hf : Fol (rotI a (a + 1) i) d d') : SortedIn lt a b d' := by
  intro p q hp hpq hq
  rw [hf.2 p (by omega), hf.2 q (by omega)]
  have e1 : ∀ k, a ≤ k → k < i - 1 → rotI a (a + 1) i k = k + 1 := fun k h h' => by unfold rotI; (repeat' split) <;> omega
  have e2 : rotI a (a + 1) i (i - 1) = a := by unfold rotI; (repeat' split) <;> omega
  have e3 : ∀ k, i ≤ k → rotI a (a + 1) i k = k := fun k h => by unfold rotI; (repeat' split) <;> omega
  by_cases hq1 : q < i - 1
  · rw [e1 p hp (by omega), e1 q (by omega) hq1]
    exact hs _ _ (by omega) (by omega) (by omega)
  · by_cases hq2 : q = i - 1
    · subst hq2
      rw [e2, e1 p hp (by omega)]
      rcases hl with hl | hl
      · omega
      · exact hS.ntrans _ _ _ (Go.Sort.SWO.asymmA hS hl) (SortedIn.le hS hs (by omega) (by omega) (by omega))
    · rw [e3 q (by omega)]
      by_cases hp1 : p < i - 1
      · rw [e1 p hp hp1]
        exact hs _ _ (by omega) (by omega) (by omega)
      · by_cases hp2 : p = i - 1
        · subst hp2
          rw [e2]
          rcases hr with hr | hr
          · omega
          · exact hS.ntrans _ _ _ (SortedIn.le hS hs (by omega) (show i ≤ q by omega) hq) hr
        · rw [e3 p (by omega)]
          exact hs _ _ (by omega) hpq hq
/-- One element behind a sorted part: it goes to its place. -/
theorem merge_last (hS : SWO lt) {a m i : Nat} {d d' : Array α} (hs : SortedIn lt a m d) (h1 : a ≤ i) (h2 : i ≤ m) (hb : m + 1 ≤ d.size)
    (hl : i = a ∨ lt d[m]! d[i - 1]! = false) (hr : i = m ∨ lt d[m]! d[i]! = true) (hf : Fol (rotI i m (m + 1)) d d') : SortedIn lt a (m + 1) d' := by
  intro p q hp hpq hq
  rw [hf.2 p (by omega), hf.2 q (by omega)]
  have e1 : ∀ k, k < i → rotI i m (m + 1) k = k := fun k h => by unfold rotI; (repeat' split) <;> omega
  have e2 : rotI i m (m + 1) i = m := by unfold rotI; (repeat' split) <;> omega
  have e3 : ∀ k, i < k → k ≤ m → rotI i m (m + 1) k = k - 1 := fun k h h' => by unfold rotI; (repeat' split) <;> omega
  by_cases hq1 : q < i
  · rw [e1 q hq1, e1 p (by omega)]
    exact hs _ _ hp hpq (by omega)
  · by_cases hq2 : q = i
    · subst hq2
      rw [e2, e1 p hpq]
      rcases hl with hl | hl
      · omega
      · exact hS.ntrans _ _ _ hl (SortedIn.le hS hs hp (by omega) (by omega))
    · rw [e3 q (by omega) (by omega)]
      by_cases hp1 : p < i
      · rw [e1 p hp1]
        exact hs _ _ hp (by omega) (by omega)
      · by_cases hp2 : p = i
        · subst hp2
          rw [e2]
          rcases hr with hr | hr
          · omega
          · exact hS.ntrans _ _ _ (SortedIn.le hS hs hp (show p ≤ q - 1 by omega) (by omega)) (Go.Sort.SWO.asymmA hS hr)
        · rw [e3 p (by omega) (by omega)]
          exact hs _ _ (by omega) (by omega) (by omega)
/-- The rotation of the general merge: s and e are where the middle parts begin and end. -/
theorem merge_mid (hS : SWO lt) {a m b s e mid : Nat} {d d' : Array α} (h1 : SortedIn lt a m d) (h2 : SortedIn lt m b d) (has : a ≤ s) (hsm : s ≤ m) (hme : m ≤ e) (heb : e ≤ b) (hb : b ≤ d.size) (hse : s + e = mid + m)
    (hl : s = a ∨ e = b ∨ lt d[e]! d[s - 1]! = false) (hr : s = m ∨ e = m ∨ lt d[e - 1]! d[s]! = true) (hf : Fol (rotI s m e) d d') :
    (∀ i j, a ≤ i → i < mid → mid ≤ j → j < b → lt d'[j]! d'[i]! = false) ∧ (SortedIn lt a s d' ∧ SortedIn lt s mid d') ∧ (SortedIn lt mid e d' ∧ SortedIn lt e b d') := by
  have hms : s ≤ mid ∧ mid ≤ e := by omega
  have e1 : ∀ k, k < s → rotI s m e k = k := fun k h => by unfold rotI; (repeat' split) <;> omega
  have e2 : ∀ k, s ≤ k → k < mid → rotI s m e k = k + (m - s) := fun k h h' => by unfold rotI; (repeat' split) <;> omega
  have e3 : ∀ k, mid ≤ k → k < e → rotI s m e k = k - (e - m) := fun k h h' => by unfold rotI; (repeat' split) <;> omega
  have e4 : ∀ k, e ≤ k → rotI s m e k = k := fun k h => by unfold rotI; (repeat' split) <;> omega
  refine ⟨fun i j hi him hj hjb => ?_, ⟨fun i j hi hij hj => ?_, fun i j hi hij hj => ?_⟩, ⟨fun i j hi hij hj => ?_, fun i j hi hij hj => ?_⟩⟩ <;> rw [hf.2 i (by omega), hf.2 j (by omega)]
  · by_cases hi1 : i < s
    · rw [e1 i hi1]
      by_cases hj1 : j < e
      · rw [e3 j hj hj1]; exact h1 _ _ hi (by omega) (by omega)
      · rw [e4 j (by omega)]
        rcases hl with hl | hl | hl
        · omega
        · omega
        · exact hS.ntrans _ _ _ (hS.ntrans _ _ _ (SortedIn.le hS h2 hme (show e ≤ j by omega) hjb) hl) (SortedIn.le hS h1 hi (show i ≤ s - 1 by omega) (by omega))
    · rw [e2 i (by omega) him]
      by_cases hj1 : j < e
      · rw [e3 j hj hj1]
        rcases hr with hr | hr | hr
        · omega
        · omega
        · exact hS.ntrans _ _ _ (hS.ntrans _ _ _ (SortedIn.le hS h1 has (show s ≤ j - (e - m) by omega) (by omega)) (Go.Sort.SWO.asymmA hS hr)) (SortedIn.le hS h2 (show m ≤ i + (m - s) by omega) (by omega) (by omega))
      · rw [e4 j (by omega)]; exact h2 _ _ (by omega) (by omega) hjb
  · rw [e1 i (by omega), e1 j hj]; exact h1 _ _ hi hij (by omega)
  · rw [e2 i hi (by omega), e2 j (by omega) hj]; exact h2 _ _ (by omega) (by omega) (by omega)
  · rw [e3 i hi (by omega), e3 j (by omega) hj]; exact h1 _ _ (by omega) (by omega) (by omega)
  · rw [e4 i hi, e4 j (by omega)]; exact h2 _ _ (by omega) hij hj
end

/-! ### devices -/
instance : Inhabited Dv := ⟨⟨0, [], 0, 0⟩⟩
def dcf (x y : Dv) : Int := devcmp x.kind y.kind x.pins y.pins x.wd y.wd x.len y.len
def dlt (x y : Dv) : Bool := decide (dcf x y < 0)
def dltP (x y : Dv × Nat) : Bool := dlt x.1 y.1
theorem or2_flip {a b c d : Int} (h1 : a = - b) (h2 : c = - d) : or2 a c = - or2 b d := by
  unfold or2; repeat' split
  all_goals omega
theorem sgn_flip (a b : Int) : sgn a b = - sgn b a := by unfold sgn; (repeat' split) <;> omega
theorem dcf_flip (x y : Dv) : dcf x y = - dcf y x := or2_flip (sgn_flip _ _) (or2_flip (lcmp_flip _ _) (or2_flip (sgn_flip _ _) (sgn_flip _ _)))
theorem or2_zero {a b : Int} : or2 a b = 0 ↔ a = 0 ∧ b = 0 := by unfold or2; split <;> omega
theorem sgn_zero {a b : Int} : sgn a b = 0 ↔ a = b := by unfold sgn; (repeat' split) <;> omega
theorem dcf_zero {x y : Dv} : dcf x y = 0 ↔ x = y := by
  unfold dcf devcmp
  rw [or2_zero, or2_zero, or2_zero, sgn_zero, sgn_zero, sgn_zero, lcmp_zero]
  constructor
  · rintro ⟨h1, h2, h3, h4⟩; cases x; cases y; simp at *; exact ⟨h1, h2, h3, h4⟩
  · rintro rfl; exact ⟨rfl, rfl, rfl, rfl⟩
theorem or2_ntrans {a b c d e f : Int} (h1 : 0 ≤ a → 0 ≤ c → 0 ≤ e) (h2 : 0 ≤ b → 0 ≤ d → 0 ≤ f) (z1 : e = 0 → 0 ≤ a → 0 ≤ c → a = 0 ∧ c = 0) (ha : 0 ≤ or2 a b) (hb : 0 ≤ or2 c d) : 0 ≤ or2 e f := by
  have pa : 0 ≤ a := by unfold or2 at ha; split at ha <;> omega
  have pc : 0 ≤ c := by unfold or2 at hb; split at hb <;> omega
  by_cases x : e = 0
  · obtain ⟨y1, y2⟩ := z1 x pa pc
    rw [y1, or2_z] at ha
    rw [y2, or2_z] at hb
    rw [x, or2_z]
    exact h2 ha hb
  · have := h1 pa pc
    rw [or2_ne x]; exact this
theorem sgn_ntrans {a b c : Int} (h1 : 0 ≤ sgn a b) (h2 : 0 ≤ sgn b c) : 0 ≤ sgn a c := by
  unfold sgn at *; repeat' split
  all_goals (repeat' split at h1)
  all_goals (repeat' split at h2)
  all_goals omega
theorem sgn_nz {a b c : Int} (h : sgn a c = 0) (h1 : 0 ≤ sgn a b) (h2 : 0 ≤ sgn b c) : sgn a b = 0 ∧ sgn b c = 0 := by
  unfold sgn at *
  repeat' split at h
  all_goals (repeat' split at h1)
  all_goals (repeat' split at h2)
  all_goals (first | omega | (constructor <;> (repeat' split) <;> omega))
theorem lcmp_nz {a b c : List Int} (h : lcmp a c = 0) (h1 : 0 ≤ lcmp a b) (h2 : 0 ≤ lcmp b c) : lcmp a b = 0 ∧ lcmp b c = 0 := by
  have e := (lcmp_zero a c).1 h
  subst e
  have := lcmp_flip a b
  omega
theorem dcf_ntrans {x y z : Dv} (h1 : 0 ≤ dcf x y) (h2 : 0 ≤ dcf y z) : 0 ≤ dcf x z :=
  or2_ntrans sgn_ntrans (or2_ntrans (lcmp_ntrans _ _ _) (or2_ntrans sgn_ntrans sgn_ntrans sgn_nz) lcmp_nz) sgn_nz h1 h2
theorem dlt_false {x y : Dv} : dlt x y = false ↔ 0 ≤ dcf x y := by simp [dlt]
theorem dlt_swo : SWO dlt where
  irrefl x := by rw [dlt_false, dcf_zero.2 rfl]; exact Int.le_refl _
  ntrans x y z h1 h2 := dlt_false.2 (dcf_ntrans (dlt_false.1 h1) (dlt_false.1 h2))
  trans x y z h1 h2 := by
    simp only [dlt, decide_eq_true_eq] at *
    have f1 := dcf_flip x y; have f2 := dcf_flip y z; have f3 := dcf_flip x z
    have a1 := @dcf_ntrans z y x (by omega) (by omega)
    by_cases e : dcf x z = 0
    · have := dcf_zero.1 e; subst this; omega
    · omega
theorem dltP_swo : SWO dltP where
  irrefl x := dlt_swo.irrefl _
  trans x y z := dlt_swo.trans _ _ _
  ntrans x y z := dlt_swo.ntrans _ _ _
/-- Devices in order. -/
def srtD (ds : List Dv) : List Dv := ds.mergeSort (fun x y => !dlt y x)
theorem srtD_perm (ds : List Dv) : (srtD ds).Perm ds := List.mergeSort_perm _ _
theorem length_srtD (ds : List Dv) : (srtD ds).length = ds.length := (srtD_perm ds).length_eq
theorem srtD_pairwise (ds : List Dv) : (srtD ds).Pairwise (fun x y => dlt y x = false) := by
  have h := List.pairwise_mergeSort (le := fun x y => !dlt y x) (fun a b c h1 h2 => by
    simp only [Bool.not_eq_true'] at *
    exact dlt_swo.ntrans _ _ _ h2 h1) (fun a b => by
    have := dcf_flip a b
    simp [dlt]; omega) ds
  exact h.imp (fun h => by simpa using h)
theorem srtD_of {ds es : List Dv} (h : es.Perm ds) (hs : es.Pairwise (fun x y => dlt y x = false)) : es = srtD ds :=
  List.Perm.eq_of_pairwise (fun a b _ _ h1 h2 => by
    rw [dlt_false] at h1 h2
    have := dcf_flip a b
    exact dcf_zero.1 (by omega)) hs (srtD_pairwise ds) (h.trans (srtD_perm ds).symm)
end Go.Proofs.YtglddnkpccgchaaDoor

/- A row of devices that is put in order in place: what lies in memory. -/
namespace Go.Proofs.YtglddnkpccgchaaDoor
open Go.RowKit
open Go.Sort (swp PermIn SortedIn SWO size_swp swp_get swp_other swp_left swp_right)
set_option linter.unusedVariables false
set_option linter.unusedSimpArgs false

/-- The cells cs hold these devices one behind another, the pins of each in the block beside it. -/
def RowC (w : World) (g : Nat) (d : Array (Dv × Nat)) (cs : Array Value) : Prop := ∀ i, i < d.size → (∃ pv, Cs4 cs i (.int .i64 d[i]!.1.kind) pv (.int .i64 d[i]!.1.wd) (.int .i64 d[i]!.1.len) ∧ OwnR w d[i]!.2 (d[i]!.2 + 1) pv d[i]!.1.pins) ∧ d[i]!.2 ≠ g
def DRow (w : World) (g : Nat) (d : Array (Dv × Nat)) : Prop := ∃ cs, Blk w g cs 52 ∧ RowC w g d cs
section
variable {w w' : World} {g : Nat} {d d' : Array (Dv × Nat)} {cs : Array Value}
theorem RowC.past (hb : Within g (g + 1) w w') (h : RowC w g d cs) : RowC w' g d cs := fun i hi => by
  obtain ⟨⟨pv, a, b⟩, c⟩ := h i hi
  exact ⟨⟨pv, a, b.past hb (by omega)⟩, c⟩
theorem Within.ofBelow {lo hi : Nat} (h : Below w.heap.size w w') : Within lo hi w w' := ⟨h.os, h.tape, h.output, h.size, fun k hk _ => h.block k hk⟩
theorem DRow.by (hb : Below w.heap.size w w') (h : DRow w g d) : DRow w' g d := by
  obtain ⟨cs, a, b⟩ := h
  exact ⟨cs, Blk.by hb a, b.past (Within.ofBelow hb)⟩
theorem DRow.lt (h : DRow w g d) : g < w.heap.size := by obtain ⟨cs, a, b⟩ := h; exact a.lt
/-- Two elements exchanged. -/
theorem RowC.swp (h : RowC w g d cs) {i j : Nat} (hi : i < d.size) (hj : j < d.size) (hij : i ≠ j) {pi pj : Value}
    (hci : Cs4 cs i (.int .i64 d[i]!.1.kind) pi (.int .i64 d[i]!.1.wd) (.int .i64 d[i]!.1.len)) (hoi : OwnR w d[i]!.2 (d[i]!.2 + 1) pi d[i]!.1.pins)
    (hcj : Cs4 cs j (.int .i64 d[j]!.1.kind) pj (.int .i64 d[j]!.1.wd) (.int .i64 d[j]!.1.len)) (hoj : OwnR w d[j]!.2 (d[j]!.2 + 1) pj d[j]!.1.pins) :
    RowC w g (swp d i j) (set4 (set4 cs i (.int .i64 d[j]!.1.kind) pj (.int .i64 d[j]!.1.wd) (.int .i64 d[j]!.1.len)) j (.int .i64 d[i]!.1.kind) pi (.int .i64 d[i]!.1.wd) (.int .i64 d[i]!.1.len)) := by
  intro k hk
  rw [size_swp] at hk
  have si := (Array.getElem?_eq_some_iff.1 hci.2.2.2).1
  have sj := (Array.getElem?_eq_some_iff.1 hcj.2.2.2).1
  have sz : ∀ (cs : Array Value) (k : Nat) (a b c d : Value), (set4 cs k a b c d).size = cs.size := fun cs k a b c d => by simp [set4]
  by_cases e1 : k = j
  · subst e1
    rw [swp_right d i k hj]
    exact ⟨⟨pi, set4_same _ _ _ _ _ _ (by rw [sz]; exact sj), hoi⟩, (h i hi).2⟩
  · by_cases e2 : k = i
    · subst e2
      rw [swp_left d k j hi hij]
      refine ⟨⟨pj, (set4_same cs k (.int .i64 d[j]!.1.kind) pj (.int .i64 d[j]!.1.wd) (.int .i64 d[j]!.1.len) si).at_ (fun q h1 h2 => set4_other _ _ _ _ _ _ _ (by omega)), hoj⟩, (h j hj).2⟩
    · rw [swp_other d i j k e2 e1]
      obtain ⟨⟨pv, a, b⟩, c⟩ := h k hk
      exact ⟨⟨pv, a.at_ (fun q h1 h2 => by rw [set4_other _ _ _ _ _ _ _ (by omega), set4_other _ _ _ _ _ _ _ (by omega)]), b⟩, c⟩
theorem getBang (d : Array (Dv × Nat)) (i : Nat) (h : i < d.size) : d[i]! = d[i] := by simp [h]
theorem list_getBang (d : Array (Dv × Nat)) (i : Nat) (p : Dv × Nat) (h : d.toList[i]? = some p) : i < d.size ∧ d[i]! = p := by
  have hi : i < d.size := by have := (List.getElem?_eq_some_iff.1 h).1; simpa using this
  refine ⟨hi, ?_⟩
  rw [getBang d i hi]
  rw [List.getElem?_eq_getElem (by simpa using hi)] at h
  simpa using h
theorem OwnDs.row {lo hi : Nat} {sv : Value} {ds : List Dv} (h : OwnDs w lo hi sv ds) (hne : ds ≠ []) :
    ∃ (g cap : Nat) (d : Array (Dv × Nat)), sv = .slice (some ⟨g, 0, none⟩) d.size cap ∧ d.size = ds.length ∧ (lo ≤ g ∧ g < hi) ∧ ds.length ≤ cap ∧ cap ≤ maxLen ∧ DRow w g d ∧ d.toList.map (·.1) = ds ∧ (d.toList.map (·.2)).Nodup ∧ (∀ p ∈ d.toList, lo ≤ p.2 ∧ p.2 < hi ∧ p.2 ≠ g) := by
  rcases h with ⟨_, _, _, h⟩ | ⟨g, cap, cs, f, h1, h2, h3, h4, h5, h6, h7⟩
  · exact absurd h hne
  · have hsz : ((List.range ds.length).map fun i => (ds.getD i default, f i)).toArray.size = ds.length := by simp
    have hget : ∀ i (hi : i < ds.length), ((List.range ds.length).map fun i => (ds.getD i default, f i)).toArray[i]! = (ds[i], f i) := by
      intro i hi
      rw [getBang _ _ (by rw [hsz]; exact hi)]
      simp [hi]
    refine ⟨g, cap, ((List.range ds.length).map fun i => (ds.getD i default, f i)).toArray, by rw [hsz]; exact h1, hsz, h2, h3, h4, ⟨cs, h5, fun i hi => ?_⟩, ?_, ?_, ?_⟩
    · rw [hsz] at hi
      rw [hget i hi]
      obtain ⟨⟨pv, a, b⟩, c⟩ := h6 i ds[i] (List.getElem?_eq_getElem hi)
      exact ⟨⟨pv, a, b⟩, c.2.2⟩
    · apply List.ext_getElem?
      intro i
      by_cases hi : i < ds.length
      · simp [hi]
      · simp [hi]
    · rw [List.nodup_iff_pairwise_ne, List.pairwise_iff_getElem]
      intro i j hi hj hij
      simp at hi hj ⊢
      exact h7 i j hi hj (by omega)
    · intro p hp
      simp at hp
      obtain ⟨i, hi, rfl⟩ := hp
      exact (h6 i ds[i] (List.getElem?_eq_getElem hi)).2
theorem DRow.own {lo hi cap : Nat} (h : DRow w g d) (hg : lo ≤ g ∧ g < hi) (h1 : d.size ≤ cap) (h2 : cap ≤ maxLen) (hn : (d.toList.map (·.2)).Nodup) (hb : ∀ p ∈ d.toList, lo ≤ p.2 ∧ p.2 < hi ∧ p.2 ≠ g) :
    OwnDs w lo hi (.slice (some ⟨g, 0, none⟩) d.size cap) (d.toList.map (·.1)) := by
  obtain ⟨cs, hB, hR⟩ := h
  refine .inr ⟨g, cap, cs, fun i => d[i]!.2, by simp, hg, by simpa using h1, h2, hB, fun i x hx => ?_, fun i j hi hj hij => ?_⟩
  · rw [List.getElem?_map] at hx
    obtain ⟨p, hp, rfl⟩ : ∃ p, d.toList[i]? = some p ∧ p.1 = x := by
      cases h : d.toList[i]? with
      | none => rw [h] at hx; simp at hx
      | some p => rw [h] at hx; exact ⟨p, rfl, by simpa using hx⟩
    obtain ⟨hi, e⟩ := list_getBang d i p hp
    obtain ⟨⟨pv, a, b⟩, c⟩ := hR i hi
    rw [e] at a b
    dsimp only
    rw [e]
    exact ⟨⟨pv, a, b⟩, hb p (List.mem_of_getElem? hp)⟩
  · simp at hi hj
    rw [List.nodup_iff_pairwise_ne, List.pairwise_iff_getElem] at hn
    dsimp only
    rw [getBang d i hi, getBang d j hj]
    rcases Nat.lt_or_gt_of_ne hij with h | h
    · have := hn i j (by simpa using hi) (by simpa using hj) h
      simpa using this
    · have := hn j i (by simpa using hj) (by simpa using hi) h
      simpa using this.symm
theorem PermIn.list (h : PermIn 0 d.size d d') : d'.toList.Perm d.toList := by
  have h3 := h.2.2
  have e1 : (d'.extract 0 d.size) = d' := by rw [← h.1]; simp
  have e2 : (d.extract 0 d.size) = d := by simp
  rwa [e1, e2] at h3
theorem SortedIn.list (h : SortedIn dltP 0 d.size d) : (d.toList.map (·.1)).Pairwise (fun x y => dlt y x = false) := by
  rw [List.pairwise_map, List.pairwise_iff_getElem]
  intro i j hi hj hij
  have := h i j (Nat.zero_le _) hij (by simpa using hj)
  rw [getBang d i (by simpa using hi), getBang d j (by simpa using hj)] at this
  simpa [dltP] using this
/-- Sorted: the devices in order, in the same memory. -/
theorem DRow.sorted {lo hi cap : Nat} {ds : List Dv} (h : DRow w g d') (hp : PermIn 0 d.size d d') (hs : SortedIn dltP 0 d.size d') (he : d.toList.map (·.1) = ds) (hg : lo ≤ g ∧ g < hi) (h1 : ds.length ≤ cap) (h2 : cap ≤ maxLen) (hn : (d.toList.map (·.2)).Nodup) (hb : ∀ p ∈ d.toList, lo ≤ p.2 ∧ p.2 < hi ∧ p.2 ≠ g) :
    OwnDs w lo hi (.slice (some ⟨g, 0, none⟩) d.size cap) (srtD ds) := by
  have hP := PermIn.list hp
  have hsz := hp.1
  rw [← hsz] at hs ⊢
  have e : d'.toList.map (·.1) = srtD ds := srtD_of (by rw [← he]; exact hP.map _) (SortedIn.list hs)
  rw [← e]
  have hl : d.size = ds.length := by rw [← he]; simp
  exact h.own hg (by omega) h2 ((hP.map (·.2)).nodup_iff.2 hn) (fun p hp => hb p (hP.mem_iff.1 hp))
end
/-- The world behind an exchange: eight stores and a draw. -/
theorem swap_cells {w : World} {g : Nat} {cs : Array Value} {T : TypeId} (h : Blk w g cs T) (i j : Nat) (a b c d a' b' c' d' : Value) :
    ∃ W, W = ((((((((w.setCell ⟨g, i * 4, none⟩ a).setCell ⟨g, i * 4 + 1, none⟩ b).setCell ⟨g, i * 4 + 2, none⟩ c).setCell ⟨g, i * 4 + 3, none⟩ d).setCell ⟨g, j * 4, none⟩ a').setCell ⟨g, j * 4 + 1, none⟩ b').setCell ⟨g, j * 4 + 2, none⟩ c').setCell ⟨g, j * 4 + 3, none⟩ d').drew ∧
      Blk W g (set4 (set4 cs i a b c d) j a' b' c' d') T ∧ Within g (g + 1) w W :=
  ⟨_, rfl, ((((((((h.set _ _).set _ _).set _ _).set _ _).set _ _).set _ _).set _ _).set _ _).drew,
    (((((((((Within.off _).on (Within.off _)).on (Within.off _)).on (Within.off _)).on (Within.off _)).on (Within.off _)).on (Within.off _)).on (Within.off _)).on (Within.ofBelow ((Below.refl _ _).drew)))⟩
/-- What is asked of the function that compares: the order of devices. -/
def DCmp (gf : Nat) (lb : Array Value) : Prop := ∀ (W : World) (x y : Dv) (sx sy : Value), IntSl W sx x.pins → IntSl W sy y.pins → Calls Tryd.prog gf (#[.agg #[.int .i64 x.kind, sx, .int .i64 x.wd, .int .i64 x.len], .agg #[.int .i64 y.kind, sy, .int .i64 y.wd, .int .i64 y.len]] ++ lb) W fun e w' => e = .returned (.int .i64 (dcf x y)) ∧ Below W.heap.size W w'
end Go.Proofs.YtglddnkpccgchaaDoor

/- slices.SortStableFunc's own functions at devices: exchanging two ranges. -/
namespace Go.Proofs.YtglddnkpccgchaaDoor
open Go.RowKit
open Go.Sort (swp PermIn SortedIn SWO size_swp swp_get swp_other swp_left swp_right)
set_option linter.unusedVariables false
set_option linter.unusedSimpArgs false

/-- What is still to be done of a rotation. -/
def RotLeft (a m b i j : Nat) (d dk : Array (Dv × Nat)) : Prop := ∀ k, k < d.size → dk[rotI (m - i) m (m + j) k]! = d[rotI a m b k]!
theorem RotLeft.big {a m b i j : Nat} {d dk de : Array (Dv × Nat)} (h : RotLeft a m b i j d dk) (hs : dk.size = d.size) (hj : j < i) (hi : i ≤ m) (hb : m + j ≤ d.size) (hf : Fol (swI (m - i) m j) dk de) : RotLeft a m b (i - j) j d de := by
  intro k hk
  rw [← h k hk, rotI_big hj hi, show m - (i - j) = m - i + j by omega]
  exact hf.2 _ (by rw [hs]; exact rotI_lt (by omega) (by omega) hb hk)
theorem RotLeft.small {a m b i j : Nat} {d dk de : Array (Dv × Nat)} (h : RotLeft a m b i j d dk) (hs : dk.size = d.size) (hj : i < j) (hi : i ≤ m) (hb : m + j ≤ d.size) (hf : Fol (swI (m - i) (m + j - i) i) dk de) : RotLeft a m b i (j - i) d de := by
  intro k hk
  rw [← h k hk, rotI_small hj hi, show m + (j - i) = m + j - i by omega]
  exact hf.2 _ (by rw [hs]; exact rotI_lt (by omega) (by omega) (by omega) hk)
theorem RotLeft.done {a m b i : Nat} {d dk de : Array (Dv × Nat)} (h : RotLeft a m b i i d dk) (hs : dk.size = d.size) (hi : i ≤ m) (hb : m + i ≤ d.size) (hf : Fol (swI (m - i) m i) dk de) : Fol (rotI a m b) d de := by
  refine ⟨hf.1.trans hs, fun k hk => ?_⟩
  rw [← h k hk, rotI_eq hi]
  exact hf.2 _ (by rw [hs]; exact hk)

end Go.Proofs.YtglddnkpccgchaaDoor

/- slices.SortStableFunc's own functions at devices: the insertion sort. -/
namespace Go.Proofs.YtglddnkpccgchaaDoor
open Go.RowKit
open Go.Sort (swp PermIn SortedIn SWO size_swp swp_get swp_other swp_left swp_right Ins)
set_option linter.unusedVariables false
set_option linter.unusedSimpArgs false

end Go.Proofs.YtglddnkpccgchaaDoor

/- slices.SortStableFunc's own functions at devices: the merge of two sorted parts, one of which has one element. -/
namespace Go.Proofs.YtglddnkpccgchaaDoor
open Go.RowKit
open Go.Sort (swp PermIn SortedIn SWO size_swp swp_get swp_other swp_left swp_right Ins)
set_option linter.unusedVariables false
set_option linter.unusedSimpArgs false

end Go.Proofs.YtglddnkpccgchaaDoor

/- slices.SortStableFunc's own functions at devices: the merge of two sorted parts. -/
namespace Go.Proofs.YtglddnkpccgchaaDoor
open Go.RowKit
open Go.Sort (swp PermIn SortedIn SWO size_swp swp_get swp_other swp_left swp_right Ins)
set_option linter.unusedVariables false
set_option linter.unusedSimpArgs false

theorem merge_done {a mid b : Nat} {d d1 d2 d3 : Array (Dv × Nat)} (hbd : b ≤ d.size) (ham : a ≤ mid) (hmb : mid ≤ b) (hP1 : PermIn a b d d1) (hx : ∀ i j, a ≤ i → i < mid → mid ≤ j → j < b → dltP d1[j]! d1[i]! = false)
    (hS2 : SortedIn dltP a mid d2) (hP2 : PermIn a mid d1 d2) (hS3 : SortedIn dltP mid b d3) (hP3 : PermIn mid b d2 d3) : SortedIn dltP a b d3 ∧ PermIn a b d d3 := by
  have z1 : d1.size = d.size := hP1.1
  have z2 : d2.size = d.size := hP2.1.trans z1
  have x2 := apart_perm (by rw [z1]; exact hbd) hP2 (.inl ⟨Nat.le_refl _, Nat.le_refl _⟩) (by rw [z1]; omega) hx
  have x3 := apart_perm (by rw [z2]; exact hbd) hP3 (.inr ⟨Nat.le_refl _, Nat.le_refl _⟩) (by rw [z2]; omega) x2
  exact ⟨SortedIn.join (SortedIn.out hS2 hP3 (.inl (Nat.le_refl _))) hS3 x3, PermIn.on hP1 (PermIn.on (PermIn.wide hP2 (Nat.le_refl _) hmb (by rw [z1]; exact hbd)) (PermIn.wide hP3 ham (Nat.le_refl _) (by rw [z2]; exact hbd)))⟩

end Go.Proofs.YtglddnkpccgchaaDoor

/- slices.SortStableFunc at fewer than 40 devices. -/
namespace Go.Proofs.YtglddnkpccgchaaDoor
open Go.RowKit
open Go.Sort (swp PermIn SortedIn SWO size_swp swp_get swp_other swp_left swp_right Ins)
set_option linter.unusedVariables false
set_option linter.unusedSimpArgs false

end Go.Proofs.YtglddnkpccgchaaDoor

/- slices.SortStableFunc at fewer than 40 devices: as a whole. -/
namespace Go.Proofs.YtglddnkpccgchaaDoor
open Go.RowKit
open Go.Sort (swp PermIn SortedIn SWO size_swp swp_get swp_other swp_left swp_right Ins)
set_option linter.unusedVariables false
set_option linter.unusedSimpArgs false

end Go.Proofs.YtglddnkpccgchaaDoor
