/- Contracts and plain laws, part 10, for the statement's proof. -/
import Derived.Test.YtacbdmngcdhgoaaGreatPkRrLaw9
import Derived.Sort.LotA
import Derived.Deep.DeepCutAuto
import Derived.Deep.RegionLaw
import Derived.Shelf.Abstract
import Derived.Deep.RegionHeldLaw
import Derived.Deep.AppendLies
import Derived.Deep.AppendSrc
namespace Go.Proofs.YtacbdmngcdhgoaaGreat
open Go.RowKit
open Go.Sort (swp PermIn SortedIn SWO size_swp swp_get)
set_option linter.unusedVariables false
set_option linter.unusedSimpArgs false
def rotI (a m b k : Nat) : Nat := if k < a then k else if b ≤ k then k else if k < a + (b - m) then k + (m - a) else k - (b - m)
def swI (a b n k : Nat) : Nat := if k < a then k else if k < a + n then k + (b - a) else if k < b then k else if k < b + n then k - (b - a) else k
theorem rotI_big {i j m k : Nat} (hj : j < i) (hi : i ≤ m) : rotI (m - i) m (m + j) k = swI (m - i) m j (rotI (m - i + j) m (m + j) k) := by
  unfold rotI swI
  repeat' split
  all_goals omega
theorem rotI_small {i j m k : Nat} (hj : i < j) (hi : i ≤ m) : rotI (m - i) m (m + j) k = swI (m - i) (m + j - i) i (rotI (m - i) m (m + j - i) k) := by
  unfold rotI swI
  repeat' split
  all_goals omega
theorem rotI_eq {i m k : Nat} (hi : i ≤ m) : rotI (m - i) m (m + i) k = swI (m - i) m i k := by
  unfold rotI swI
  repeat' split
  all_goals omega
theorem rotI_none (a m b k : Nat) (h : m ≤ a ∨ b ≤ m) (h1 : a ≤ m) (h2 : m ≤ b) : rotI a m b k = k := by
  unfold rotI
  repeat' split
  all_goals omega
def tauI (i j k : Nat) : Nat := if k = i then j else if k = j then i else k
theorem swI_step {a b n k : Nat} (h : a + n < b) : swI a b (n + 1) k = swI a b n (tauI (a + n) (b + n) k) := by
  unfold swI tauI
  repeat' split
  all_goals omega
theorem swI_zero (a b k : Nat) (h : a ≤ b) : swI a b 0 k = k := by
  unfold swI
  repeat' split
  all_goals omega
theorem rotI_up {a i k : Nat} (h : a ≤ i) : rotI a (a + 1) (i + 2) k = rotI a (a + 1) (i + 1) (tauI i (i + 1) k) := by
  unfold rotI tauI
  repeat' split
  all_goals omega
theorem rotI_down {i m k : Nat} (h : i ≤ m) (h0 : 0 < i): rotI (i - 1) m (m + 1) k = rotI i m (m + 1) (tauI i (i - 1) k) := by
  unfold rotI tauI
  repeat' split
  all_goals omega
section
variable {α : Type} [Inhabited α]
def Fol (f : Nat → Nat) (d d' : Array α) : Prop := d'.size = d.size ∧ ∀ k, k < d.size → d'[k]! = d[f k]!
theorem Fol.id (d : Array α) {f : Nat → Nat} (h : ∀ k, f k = k) : Fol f d d := ⟨rfl, fun k _ => by rw [h]⟩
theorem Fol.swp {f g : Nat → Nat} {d d' : Array α} (h : Fol f d d') {i j : Nat} (hi : i < d.size) (hj : j < d.size) (hg : ∀ k, g k = f (tauI i j k)) : Fol g d (swp d' i j) := by
  refine ⟨by rw [size_swp]; exact h.1, fun k hk => ?_⟩
  rw [swp_get d' (by rw [h.1]; exact hi) (by rw [h.1]; exact hj), hg]
  unfold tauI
  by_cases h1 : k = j
  · subst h1
    by_cases h2 : k = i
    · subst h2; simp; exact h.2 _ hk
    · simp [h2]; exact h.2 _ hi
  · by_cases h2 : k = i
    · subst h2; simp [h1]; exact h.2 _ hj
    · simp [h1, h2]; exact h.2 _ hk
theorem Fol.then {f g e : Nat → Nat} {d d' d'' : Array α} (h : Fol f d d') (h' : Fol g d' d'') (hb : ∀ k, k < d.size → g k < d.size) (he : ∀ k, e k = f (g k)) : Fol e d d'' :=
  ⟨h'.1.trans h.1, fun k hk => by rw [h'.2 k (by rw [h.1]; exact hk), h.2 _ (hb k hk), he]⟩
theorem rotI_lt {a m b k n : Nat} (h1 : a ≤ m) (h2 : m ≤ b) (h3 : b ≤ n) (hk : k < n) : rotI a m b k < n := by
  unfold rotI
  repeat' split
  all_goals omega
theorem PermIn.refl' (a b : Nat) (d : Array α) : PermIn a b d d := Go.Sort.permIn_refl d a b
theorem PermIn.on {a b : Nat} {d d' d'' : Array α} (h1 : PermIn a b d d') (h2 : PermIn a b d' d'') : PermIn a b d d'' := Go.Sort.permIn_trans d d' d'' a b h1 h2
theorem PermIn.wide {a b a' b' : Nat} {d d' : Array α} (h : PermIn a b d d') (h1 : a' ≤ a) (h2 : b ≤ b') (h3 : b' ≤ d.size) : PermIn a' b' d d' := Go.Sort.permIn_mono d d' a b a' b' h1 h2 h3 h
theorem PermIn.swp {a b i j : Nat} {d d' : Array α} (h : PermIn a b d d') (h1 : a ≤ i) (h2 : i < b) (h3 : a ≤ j) (h4 : j < b) (h5 : b ≤ d.size) : PermIn a b d (swp d' i j) :=
  PermIn.on h (Go.Sort.swp_permIn d' a b i j h1 h2 h3 h4 (by rw [h.1]; exact h5))
variable {lt : α → α → Bool}
theorem SortedIn.sub {a b a' b' : Nat} {d : Array α} (h : SortedIn lt a b d) (h1 : a ≤ a') (h2 : b' ≤ b) : SortedIn lt a' b' d := fun i j hi hij hj => h i j (by omega) hij (by omega)
theorem SortedIn.one (hS : SWO lt) {a b : Nat} (d : Array α) (h : b ≤ a + 1) : SortedIn lt a b d := fun i j hi hij hj => by omega
theorem SortedIn.le (hS : SWO lt) {a b i j : Nat} {d : Array α} (h : SortedIn lt a b d) (hi : a ≤ i) (hij : i ≤ j) (hj : j < b) : lt d[j]! d[i]! = false := by
  rcases Nat.lt_or_eq_of_le hij with h' | rfl
  · exact h i j hi h' hj
  · exact hS.irrefl _
theorem SortedIn.out {a b x y : Nat} {d d' : Array α} (h : SortedIn lt a b d) (hp : PermIn x y d d') (hd : b ≤ x ∨ y ≤ a) : SortedIn lt a b d' := fun i j hi hij hj => by
  rw [hp.2.1 i (by omega), hp.2.1 j (by omega)]; exact h i j hi hij hj
theorem SortedIn.join {a m b : Nat} {d : Array α} (h1 : SortedIn lt a m d) (h2 : SortedIn lt m b d) (h : ∀ i j, a ≤ i → i < m → m ≤ j → j < b → lt d[j]! d[i]! = false) : SortedIn lt a b d := fun i j hi hij hj => by
  by_cases hm : j < m
  · exact h1 i j hi hij hm
  · by_cases hm' : i < m
    · exact h i j hi hm' (by omega) hj
    · exact h2 i j (by omega) hij hj
theorem apart_perm {a m b x y : Nat} {d d' : Array α} (hb : b ≤ d.size) (hp : PermIn x y d d') (hxy : (a ≤ x ∧ y ≤ m) ∨ (m ≤ x ∧ y ≤ b)) (hs : y ≤ d.size)
    (h : ∀ i j, a ≤ i → i < m → m ≤ j → j < b → lt d[j]! d[i]! = false) : ∀ i j, a ≤ i → i < m → m ≤ j → j < b → lt d'[j]! d'[i]! = false := by
  intro i j hi him hj hjb
  rcases hxy with h' | h'
  · rw [hp.2.1 j (by omega)]
    by_cases hin : x ≤ i ∧ i < y
    · exact Go.Sort.permIn_all d d' x y (fun z => lt d[j]! z = false) hs hp (fun k hk hk' => h k j (by omega) (by omega) hj hjb) i hin.1 hin.2
    · rw [hp.2.1 i (by omega)]; exact h i j hi him hj hjb
  · rw [hp.2.1 i (by omega)]
    by_cases hin : x ≤ j ∧ j < y
    · exact Go.Sort.permIn_all d d' x y (fun z => lt z d[i]! = false) hs hp (fun k hk hk' => h i k hi him (by omega) (by omega)) j hin.1 hin.2
    · rw [hp.2.1 j (by omega)]; exact h i j hi him hj hjb
theorem merge_first (hS : SWO lt) {a b i : Nat} {d d' : Array α} (hs : SortedIn lt (a + 1) b d) (h1 : a + 1 ≤ i) (h2 : i ≤ b) (hb : b ≤ d.size)
    (hl : i = a + 1 ∨ lt d[i - 1]! d[a]! = true) (hr : i = b ∨ lt d[i]! d[a]! = false) (hf : Fol (rotI a (a + 1) i) d d') : SortedIn lt a b d' := by
  intro p q hp hpq hq
  rw [hf.2 p (by omega), hf.2 q (by omega)]
  have e1 : ∀ k, a ≤ k → k < i - 1 → rotI a (a + 1) i k = k + 1 := fun k h h' => by unfold rotI; (repeat' split) <;> omega
  have e2 : rotI a (a + 1) i (i - 1) = a := by unfold rotI; (repeat' split) <;> omega
  have e3 : ∀ k, i ≤ k → rotI a (a + 1) i k = k := fun k h => by unfold rotI; (repeat' split) <;> omega
  by_cases hq1 : q < i - 1
  · rw [e1 p hp (by omega), e1 q (by omega) hq1]
    exact hs _ _ (by omega) (by omega) (by omega)
  · by_cases hq2 : q = i - 1
    · subst hq2
      rw [e2, e1 p hp (by omega)]
      rcases hl with hl | hl
      · omega
      · exact hS.ntrans _ _ _ (Go.Sort.SWO.asymmA hS hl) (SortedIn.le hS hs (by omega) (by omega) (by omega))
    · rw [e3 q (by omega)]
      by_cases hp1 : p < i - 1
      · rw [e1 p hp hp1]
        exact hs _ _ (by omega) (by omega) (by omega)
      · by_cases hp2 : p = i - 1
        · subst hp2
          rw [e2]
          rcases hr with hr | hr
          · omega
          · exact hS.ntrans _ _ _ (SortedIn.le hS hs (by omega) (show i ≤ q by omega) hq) hr
        · rw [e3 p (by omega)]
          exact hs _ _ (by omega) hpq hq
theorem merge_last (hS : SWO lt) {a m i : Nat} {d d' : Array α} (hs : SortedIn lt a m d) (h1 : a ≤ i) (h2 : i ≤ m) (hb : m + 1 ≤ d.size)
    (hl : i = a ∨ lt d[m]! d[i - 1]! = false) (hr : i = m ∨ lt d[m]! d[i]! = true) (hf : Fol (rotI i m (m + 1)) d d') : SortedIn lt a (m + 1) d' := by
  intro p q hp hpq hq
  rw [hf.2 p (by omega), hf.2 q (by omega)]
  have e1 : ∀ k, k < i → rotI i m (m + 1) k = k := fun k h => by unfold rotI; (repeat' split) <;> omega
  have e2 : rotI i m (m + 1) i = m := by unfold rotI; (repeat' split) <;> omega
  have e3 : ∀ k, i < k → k ≤ m → rotI i m (m + 1) k = k - 1 := fun k h h' => by unfold rotI; (repeat' split) <;> omega
  by_cases hq1 : q < i
  · rw [e1 q hq1, e1 p (by omega)]
    exact hs _ _ hp hpq (by omega)
  · by_cases hq2 : q = i
    · subst hq2
      rw [e2, e1 p hpq]
      rcases hl with hl | hl
      · omega
      · exact hS.ntrans _ _ _ hl (SortedIn.le hS hs hp (by omega) (by omega))
    · rw [e3 q (by omega) (by omega)]
      by_cases hp1 : p < i
      · rw [e1 p hp1]
        exact hs _ _ hp (by omega) (by omega)
      · by_cases hp2 : p = i
        · subst hp2
          rw [e2]
          rcases hr with hr | hr
          · omega
          · exact hS.ntrans _ _ _ (SortedIn.le hS hs hp (show p ≤ q - 1 by omega) (by omega)) (Go.Sort.SWO.asymmA hS hr)
        · rw [e3 p (by omega) (by omega)]
          exact hs _ _ (by omega) (by omega) (by omega)
theorem merge_mid (hS : SWO lt) {a m b s e mid : Nat} {d d' : Array α} (h1 : SortedIn lt a m d) (h2 : SortedIn lt m b d) (has : a ≤ s) (hsm : s ≤ m) (hme : m ≤ e) (heb : e ≤ b) (hb : b ≤ d.size) (hse : s + e = mid + m)
    (hl : s = a ∨ e = b ∨ lt d[e]! d[s - 1]! = false) (hr : s = m ∨ e = m ∨ lt d[e - 1]! d[s]! = true) (hf : Fol (rotI s m e) d d') :
    (∀ i j, a ≤ i → i < mid → mid ≤ j → j < b → lt d'[j]! d'[i]! = false) ∧ (SortedIn lt a s d' ∧ SortedIn lt s mid d') ∧ (SortedIn lt mid e d' ∧ SortedIn lt e b d') := by
  have hms : s ≤ mid ∧ mid ≤ e := by omega
  have e1 : ∀ k, k < s → rotI s m e k = k := fun k h => by unfold rotI; (repeat' split) <;> omega
  have e2 : ∀ k, s ≤ k → k < mid → rotI s m e k = k + (m - s) := fun k h h' => by unfold rotI; (repeat' split) <;> omega
  have e3 : ∀ k, mid ≤ k → k < e → rotI s m e k = k - (e - m) := fun k h h' => by unfold rotI; (repeat' split) <;> omega
  have e4 : ∀ k, e ≤ k → rotI s m e k = k := fun k h => by unfold rotI; (repeat' split) <;> omega
  refine ⟨fun i j hi him hj hjb => ?_, ⟨fun i j hi hij hj => ?_, fun i j hi hij hj => ?_⟩, ⟨fun i j hi hij hj => ?_, fun i j hi hij hj => ?_⟩⟩ <;> rw [hf.2 i (by omega), hf.2 j (by omega)]
  · by_cases hi1 : i < s
    · rw [e1 i hi1]
      by_cases hj1 : j < e
      · rw [e3 j hj hj1]; exact h1 _ _ hi (by omega) (by omega)
      · rw [e4 j (by omega)]
        rcases hl with hl | hl | hl
        · omega
        · omega
        · exact hS.ntrans _ _ _ (hS.ntrans _ _ _ (SortedIn.le hS h2 hme (show e ≤ j by omega) hjb) hl) (SortedIn.le hS h1 hi (show i ≤ s - 1 by omega) (by omega))
    · rw [e2 i (by omega) him]
      by_cases hj1 : j < e
      · rw [e3 j hj hj1]
        rcases hr with hr | hr | hr
        · omega
        · omega
        · exact hS.ntrans _ _ _ (hS.ntrans _ _ _ (SortedIn.le hS h1 has (show s ≤ j - (e - m) by omega) (by omega)) (Go.Sort.SWO.asymmA hS hr)) (SortedIn.le hS h2 (show m ≤ i + (m - s) by omega) (by omega) (by omega))
      · rw [e4 j (by omega)]; exact h2 _ _ (by omega) (by omega) hjb
  · rw [e1 i (by omega), e1 j hj]; exact h1 _ _ hi hij (by omega)
  · rw [e2 i hi (by omega), e2 j (by omega) hj]; exact h2 _ _ (by omega) (by omega) (by omega)
  · rw [e3 i hi (by omega), e3 j (by omega) hj]; exact h1 _ _ (by omega) (by omega) (by omega)
  · rw [e4 i hi, e4 j (by omega)]; exact h2 _ _ (by omega) hij hj
end
/-! ### devices -/
instance : Inhabited Dv := ⟨⟨0, [], 0, 0⟩⟩
def dcf (x y : Dv) : Int := devcmp x.kind y.kind x.pins y.pins x.wd y.wd x.len y.len
def dlt (x y : Dv) : Bool := decide (dcf x y < 0)
def dltP (x y : Dv × Nat) : Bool := dlt x.1 y.1
theorem or2_flip {a b c d : Int} (h1 : a = - b) (h2 : c = - d) : or2 a c = - or2 b d := by
  unfold or2; repeat' split
  all_goals omega
theorem sgn_flip (a b : Int) : sgn a b = - sgn b a := by unfold sgn; (repeat' split) <;> omega
theorem dcf_flip (x y : Dv) : dcf x y = - dcf y x := or2_flip (sgn_flip _ _) (or2_flip (lcmp_flip _ _) (or2_flip (sgn_flip _ _) (sgn_flip _ _)))
theorem or2_zero {a b : Int} : or2 a b = 0 ↔ a = 0 ∧ b = 0 := by unfold or2; split <;> omega
theorem sgn_zero {a b : Int} : sgn a b = 0 ↔ a = b := by unfold sgn; (repeat' split) <;> omega
theorem dcf_zero {x y : Dv} : dcf x y = 0 ↔ x = y := by
  unfold dcf devcmp
  rw [or2_zero, or2_zero, or2_zero, sgn_zero, sgn_zero, sgn_zero, lcmp_zero]
  constructor
  · rintro ⟨h1, h2, h3, h4⟩; cases x; cases y; simp at *; exact ⟨h1, h2, h3, h4⟩
  · rintro rfl; exact ⟨rfl, rfl, rfl, rfl⟩
theorem or2_ntrans {a b c d e f : Int} (h1 : 0 ≤ a → 0 ≤ c → 0 ≤ e) (h2 : 0 ≤ b → 0 ≤ d → 0 ≤ f) (z1 : e = 0 → 0 ≤ a → 0 ≤ c → a = 0 ∧ c = 0) (ha : 0 ≤ or2 a b) (hb : 0 ≤ or2 c d) : 0 ≤ or2 e f := by
  have pa : 0 ≤ a := by unfold or2 at ha; split at ha <;> omega
  have pc : 0 ≤ c := by unfold or2 at hb; split at hb <;> omega
  by_cases x : e = 0
  · obtain ⟨y1, y2⟩ := z1 x pa pc
    rw [y1, or2_z] at ha
    rw [y2, or2_z] at hb
    rw [x, or2_z]
    exact h2 ha hb
  · have := h1 pa pc
    rw [or2_ne x]; exact this
theorem sgn_ntrans {a b c : Int} (h1 : 0 ≤ sgn a b) (h2 : 0 ≤ sgn b c) : 0 ≤ sgn a c := by
  unfold sgn at *; repeat' split
  all_goals (repeat' split at h1)
  all_goals (repeat' split at h2)
  all_goals omega
theorem sgn_nz {a b c : Int} (h : sgn a c = 0) (h1 : 0 ≤ sgn a b) (h2 : 0 ≤ sgn b c) : sgn a b = 0 ∧ sgn b c = 0 := by
  unfold sgn at *
  repeat' split at h
  all_goals (repeat' split at h1)
  all_goals (repeat' split at h2)
  all_goals (first | omega | (constructor <;> (repeat' split) <;> omega))
theorem lcmp_nz {a b c : List Int} (h : lcmp a c = 0) (h1 : 0 ≤ lcmp a b) (h2 : 0 ≤ lcmp b c) : lcmp a b = 0 ∧ lcmp b c = 0 := by
  have e := (lcmp_zero a c).1 h
  subst e
  have := lcmp_flip a b
  omega
theorem dcf_ntrans {x y z : Dv} (h1 : 0 ≤ dcf x y) (h2 : 0 ≤ dcf y z) : 0 ≤ dcf x z :=
  or2_ntrans sgn_ntrans (or2_ntrans (lcmp_ntrans _ _ _) (or2_ntrans sgn_ntrans sgn_ntrans sgn_nz) lcmp_nz) sgn_nz h1 h2
theorem dlt_false {x y : Dv} : dlt x y = false ↔ 0 ≤ dcf x y := by simp [dlt]
theorem dlt_swo : SWO dlt where
  irrefl x := by rw [dlt_false, dcf_zero.2 rfl]; exact Int.le_refl _
  ntrans x y z h1 h2 := dlt_false.2 (dcf_ntrans (dlt_false.1 h1) (dlt_false.1 h2))
  trans x y z h1 h2 := by
    simp only [dlt, decide_eq_true_eq] at *
    have f1 := dcf_flip x y; have f2 := dcf_flip y z; have f3 := dcf_flip x z
    have a1 := @dcf_ntrans z y x (by omega) (by omega)
    by_cases e : dcf x z = 0
    · have := dcf_zero.1 e; subst this; omega
    · omega
theorem dltP_swo : SWO dltP where
  irrefl x := dlt_swo.irrefl _
  trans x y z := dlt_swo.trans _ _ _
  ntrans x y z := dlt_swo.ntrans _ _ _
def srtD (ds : List Dv) : List Dv := ds.mergeSort (fun x y => !dlt y x)
theorem srtD_perm (ds : List Dv) : (srtD ds).Perm ds := List.mergeSort_perm _ _
theorem length_srtD (ds : List Dv) : (srtD ds).length = ds.length := (srtD_perm ds).length_eq
theorem srtD_pairwise (ds : List Dv) : (srtD ds).Pairwise (fun x y => dlt y x = false) := by
  have h := List.pairwise_mergeSort (le := fun x y => !dlt y x) (fun a b c h1 h2 => by
    simp only [Bool.not_eq_true'] at *
    exact dlt_swo.ntrans _ _ _ h2 h1) (fun a b => by
    have := dcf_flip a b
    simp [dlt]; omega) ds
  exact h.imp (fun h => by simpa using h)
theorem srtD_of {ds es : List Dv} (h : es.Perm ds) (hs : es.Pairwise (fun x y => dlt y x = false)) : es = srtD ds :=
  List.Perm.eq_of_pairwise (fun a b _ _ h1 h2 => by
    rw [dlt_false] at h1 h2
    have := dcf_flip a b
    exact dcf_zero.1 (by omega)) hs (srtD_pairwise ds) (h.trans (srtD_perm ds).symm)
/- A row of devices that is put in order in place: what lies in memory. -/
open Go.Sort (swp PermIn SortedIn SWO size_swp swp_get swp_other swp_left swp_right)
def RowC (w : World) (g : Nat) (d : Array (Dv × Nat)) (cs : Array Value) : Prop := ∀ i, i < d.size → (∃ pv, Cs4 cs i (.int .i64 d[i]!.1.kind) pv (.int .i64 d[i]!.1.wd) (.int .i64 d[i]!.1.len) ∧ OwnR w d[i]!.2 (d[i]!.2 + 1) pv d[i]!.1.pins) ∧ d[i]!.2 ≠ g
def DRow (w : World) (g : Nat) (d : Array (Dv × Nat)) : Prop := ∃ cs, Blk w g cs 46 ∧ RowC w g d cs
section
variable {w w' : World} {g : Nat} {d d' : Array (Dv × Nat)} {cs : Array Value}
theorem RowC.past (hb : Within g (g + 1) w w') (h : RowC w g d cs) : RowC w' g d cs := fun i hi => by
  obtain ⟨⟨pv, a, b⟩, c⟩ := h i hi
  exact ⟨⟨pv, a, b.past hb (by omega)⟩, c⟩
theorem Within.ofBelow {lo hi : Nat} (h : Below w.heap.size w w') : Within lo hi w w' := ⟨h.os, h.tape, h.output, h.size, fun k hk _ => h.block k hk⟩
theorem DRow.by (hb : Below w.heap.size w w') (h : DRow w g d) : DRow w' g d := by
  obtain ⟨cs, a, b⟩ := h
  exact ⟨cs, Blk.by hb a, b.past (Within.ofBelow hb)⟩
theorem DRow.lt (h : DRow w g d) : g < w.heap.size := by obtain ⟨cs, a, b⟩ := h; exact a.lt
theorem RowC.swp (h : RowC w g d cs) {i j : Nat} (hi : i < d.size) (hj : j < d.size) (hij : i ≠ j) {pi pj : Value}
    (hci : Cs4 cs i (.int .i64 d[i]!.1.kind) pi (.int .i64 d[i]!.1.wd) (.int .i64 d[i]!.1.len)) (hoi : OwnR w d[i]!.2 (d[i]!.2 + 1) pi d[i]!.1.pins)
    (hcj : Cs4 cs j (.int .i64 d[j]!.1.kind) pj (.int .i64 d[j]!.1.wd) (.int .i64 d[j]!.1.len)) (hoj : OwnR w d[j]!.2 (d[j]!.2 + 1) pj d[j]!.1.pins) :
    RowC w g (swp d i j) (set4 (set4 cs i (.int .i64 d[j]!.1.kind) pj (.int .i64 d[j]!.1.wd) (.int .i64 d[j]!.1.len)) j (.int .i64 d[i]!.1.kind) pi (.int .i64 d[i]!.1.wd) (.int .i64 d[i]!.1.len)) := by
  intro k hk
  rw [size_swp] at hk
  have si := (Array.getElem?_eq_some_iff.1 hci.2.2.2).1
  have sj := (Array.getElem?_eq_some_iff.1 hcj.2.2.2).1
  have sz : ∀ (cs : Array Value) (k : Nat) (a b c d : Value), (set4 cs k a b c d).size = cs.size := fun cs k a b c d => by simp [set4]
  by_cases e1 : k = j
  · subst e1
    rw [swp_right d i k hj]
    exact ⟨⟨pi, set4_same _ _ _ _ _ _ (by rw [sz]; exact sj), hoi⟩, (h i hi).2⟩
  · by_cases e2 : k = i
    · subst e2
      rw [swp_left d k j hi hij]
      refine ⟨⟨pj, (set4_same cs k (.int .i64 d[j]!.1.kind) pj (.int .i64 d[j]!.1.wd) (.int .i64 d[j]!.1.len) si).at_ (fun q h1 h2 => set4_other _ _ _ _ _ _ _ (by omega)), hoj⟩, (h j hj).2⟩
    · rw [swp_other d i j k e2 e1]
      obtain ⟨⟨pv, a, b⟩, c⟩ := h k hk
      exact ⟨⟨pv, a.at_ (fun q h1 h2 => by rw [set4_other _ _ _ _ _ _ _ (by omega), set4_other _ _ _ _ _ _ _ (by omega)]), b⟩, c⟩
theorem getBang (d : Array (Dv × Nat)) (i : Nat) (h : i < d.size) : d[i]! = d[i] := by simp [h]
theorem list_getBang (d : Array (Dv × Nat)) (i : Nat) (p : Dv × Nat) (h : d.toList[i]? = some p) : i < d.size ∧ d[i]! = p := by
  have hi : i < d.size := by have := (List.getElem?_eq_some_iff.1 h).1; simpa using this
  refine ⟨hi, ?_⟩
  rw [getBang d i hi]
  rw [List.getElem?_eq_getElem (by simpa using hi)] at h
  simpa using h
theorem OwnDs.row {lo hi : Nat} {sv : Value} {ds : List Dv} (h : OwnDs w lo hi sv ds) (hne : ds ≠ []) :
    ∃ (g cap : Nat) (d : Array (Dv × Nat)), sv = .slice (some ⟨g, 0, none⟩) d.size cap ∧ d.size = ds.length ∧ (lo ≤ g ∧ g < hi) ∧ ds.length ≤ cap ∧ cap ≤ maxLen ∧ DRow w g d ∧ d.toList.map (·.1) = ds ∧ (d.toList.map (·.2)).Nodup ∧ (∀ p ∈ d.toList, lo ≤ p.2 ∧ p.2 < hi ∧ p.2 ≠ g) := by
  rcases h with ⟨_, _, _, h⟩ | ⟨g, cap, cs, f, h1, h2, h3, h4, h5, h6, h7⟩
  · exact absurd h hne
  · have hsz : ((List.range ds.length).map fun i => (ds.getD i default, f i)).toArray.size = ds.length := by simp
    have hget : ∀ i (hi : i < ds.length), ((List.range ds.length).map fun i => (ds.getD i default, f i)).toArray[i]! = (ds[i], f i) := by
      intro i hi
      rw [getBang _ _ (by rw [hsz]; exact hi)]
      simp [hi]
    refine ⟨g, cap, ((List.range ds.length).map fun i => (ds.getD i default, f i)).toArray, by rw [hsz]; exact h1, hsz, h2, h3, h4, ⟨cs, h5, fun i hi => ?_⟩, ?_, ?_, ?_⟩
    · rw [hsz] at hi
      rw [hget i hi]
      obtain ⟨⟨pv, a, b⟩, c⟩ := h6 i ds[i] (List.getElem?_eq_getElem hi)
      exact ⟨⟨pv, a, b⟩, c.2.2⟩
    · apply List.ext_getElem?
      intro i
      by_cases hi : i < ds.length
      · simp [hi]
      · simp [hi]
    · rw [List.nodup_iff_pairwise_ne, List.pairwise_iff_getElem]
      intro i j hi hj hij
      simp at hi hj ⊢
      exact h7 i j hi hj (by omega)
    · intro p hp
      simp at hp
      obtain ⟨i, hi, rfl⟩ := hp
      exact (h6 i ds[i] (List.getElem?_eq_getElem hi)).2
theorem DRow.own {lo hi cap : Nat} (h : DRow w g d) (hg : lo ≤ g ∧ g < hi) (h1 : d.size ≤ cap) (h2 : cap ≤ maxLen) (hn : (d.toList.map (·.2)).Nodup) (hb : ∀ p ∈ d.toList, lo ≤ p.2 ∧ p.2 < hi ∧ p.2 ≠ g) :
    OwnDs w lo hi (.slice (some ⟨g, 0, none⟩) d.size cap) (d.toList.map (·.1)) := by
  obtain ⟨cs, hB, hR⟩ := h
  refine .inr ⟨g, cap, cs, fun i => d[i]!.2, by simp, hg, by simpa using h1, h2, hB, fun i x hx => ?_, fun i j hi hj hij => ?_⟩
  · rw [List.getElem?_map] at hx
    obtain ⟨p, hp, rfl⟩ : ∃ p, d.toList[i]? = some p ∧ p.1 = x := by
      cases h : d.toList[i]? with
      | none => rw [h] at hx; simp at hx
      | some p => rw [h] at hx; exact ⟨p, rfl, by simpa using hx⟩
    obtain ⟨hi, e⟩ := list_getBang d i p hp
    obtain ⟨⟨pv, a, b⟩, c⟩ := hR i hi
    rw [e] at a b
    dsimp only
    rw [e]
    exact ⟨⟨pv, a, b⟩, hb p (List.mem_of_getElem? hp)⟩
  · simp at hi hj
    rw [List.nodup_iff_pairwise_ne, List.pairwise_iff_getElem] at hn
    dsimp only
    rw [getBang d i hi, getBang d j hj]
    rcases Nat.lt_or_gt_of_ne hij with h | h
    · have := hn i j (by simpa using hi) (by simpa using hj) h
      simpa using this
    · have := hn j i (by simpa using hj) (by simpa using hi) h
      simpa using this.symm
theorem PermIn.list (h : PermIn 0 d.size d d') : d'.toList.Perm d.toList := by
  have h3 := h.2.2
  have e1 : (d'.extract 0 d.size) = d' := by rw [← h.1]; simp
  have e2 : (d.extract 0 d.size) = d := by simp
  rwa [e1, e2] at h3
theorem SortedIn.list (h : SortedIn dltP 0 d.size d) : (d.toList.map (·.1)).Pairwise (fun x y => dlt y x = false) := by
  rw [List.pairwise_map, List.pairwise_iff_getElem]
  intro i j hi hj hij
  have := h i j (Nat.zero_le _) hij (by simpa using hj)
  rw [getBang d i (by simpa using hi), getBang d j (by simpa using hj)] at this
  simpa [dltP] using this
theorem DRow.sorted {lo hi cap : Nat} {ds : List Dv} (h : DRow w g d') (hp : PermIn 0 d.size d d') (hs : SortedIn dltP 0 d.size d') (he : d.toList.map (·.1) = ds) (hg : lo ≤ g ∧ g < hi) (h1 : ds.length ≤ cap) (h2 : cap ≤ maxLen) (hn : (d.toList.map (·.2)).Nodup) (hb : ∀ p ∈ d.toList, lo ≤ p.2 ∧ p.2 < hi ∧ p.2 ≠ g) :
    OwnDs w lo hi (.slice (some ⟨g, 0, none⟩) d.size cap) (srtD ds) := by
  have hP := PermIn.list hp
  have hsz := hp.1
  rw [← hsz] at hs ⊢
  have e : d'.toList.map (·.1) = srtD ds := srtD_of (by rw [← he]; exact hP.map _) (SortedIn.list hs)
  rw [← e]
  have hl : d.size = ds.length := by rw [← he]; simp
  exact h.own hg (by omega) h2 ((hP.map (·.2)).nodup_iff.2 hn) (fun p hp => hb p (hP.mem_iff.1 hp))
end
theorem swap_cells {w : World} {g : Nat} {cs : Array Value} {T : TypeId} (h : Blk w g cs T) (i j : Nat) (a b c d a' b' c' d' : Value) :
    ∃ W, W = ((((((((w.setCell ⟨g, i * 4, none⟩ a).setCell ⟨g, i * 4 + 1, none⟩ b).setCell ⟨g, i * 4 + 2, none⟩ c).setCell ⟨g, i * 4 + 3, none⟩ d).setCell ⟨g, j * 4, none⟩ a').setCell ⟨g, j * 4 + 1, none⟩ b').setCell ⟨g, j * 4 + 2, none⟩ c').setCell ⟨g, j * 4 + 3, none⟩ d').drew ∧
      Blk W g (set4 (set4 cs i a b c d) j a' b' c' d') T ∧ Within g (g + 1) w W :=
  ⟨_, rfl, ((((((((h.set _ _).set _ _).set _ _).set _ _).set _ _).set _ _).set _ _).set _ _).drew,
    (((((((((Within.off _).on (Within.off _)).on (Within.off _)).on (Within.off _)).on (Within.off _)).on (Within.off _)).on (Within.off _)).on (Within.off _)).on (Within.ofBelow ((Below.refl _ _).drew)))⟩
def DCmp (gf : Nat) (lb : Array Value) : Prop := ∀ (W : World) (x y : Dv) (sx sy : Value), IntSl W sx x.pins → IntSl W sy y.pins → Calls Tryz.prog gf (#[.agg #[.int .i64 x.kind, sx, .int .i64 x.wd, .int .i64 x.len], .agg #[.int .i64 y.kind, sy, .int .i64 y.wd, .int .i64 y.len]] ++ lb) W fun e w' => e = .returned (.int .i64 (dcf x y)) ∧ Below W.heap.size W w'
/- slices.SortStableFunc's own functions at devices: exchanging two ranges. -/
set_option maxRecDepth 100000 in
set_option maxHeartbeats 4000000 in
theorem swapRange_any (g cap a b n : Nat) (cmpv : Value) (d : Array (Dv × Nat)) (w : World) (h : DRow w g d) (hab : a + n ≤ b) (hbn : b + n ≤ d.size) (hsz : d.size ≤ 1000) (hcap : d.size ≤ cap) :
    Calls Tryz.prog 126 #[.slice (some ⟨g, 0, none⟩) d.size cap, .int .i64 a, .int .i64 b, .int .i64 n, cmpv] w fun e w' =>
      e = .returned (.tuple #[]) ∧ ∃ d', DRow w' g d' ∧ Fol (swI a b n) d d' ∧ PermIn a (b + n) d d' ∧ Within g (g + 1) w w' := by
  obtain ⟨cs0, hB0, hR0⟩ := h
  have HR0 := Lib.hid hR0
  have HF0 := Lib.hid (Fol.id d (f := swI a b 0) (fun k => swI_zero a b k (by omega)))
  have HP0 := Lib.hid (PermIn.refl' a (b + n) d)
  clear hR0
  go_enter Tryz.func126, Tryz.ntmps126
  go_wp2
  go_loopw [10] (fun i wr => ∃ (k : Nat) (dk : Array (Dv × Nat)), k ≤ n ∧ i = .int .i64 k ∧ Hid (dk.size = d.size) ∧ (∃ cs : Array Value, Blk wr g cs 46 ∧ Hid (RowC wr g dk cs)) ∧ Hid (Fol (swI a b k) d dk) ∧ Hid (PermIn a (b + n) d dk) ∧ Within g (g + 1) w wr) (fun i _ => n - (intOf i).toNat)
  case atStart => exact ⟨0, d, Nat.zero_le _, rfl, Lib.hid rfl, ⟨cs0, hB0, HR0⟩, HF0, HP0, Within.refl _ _ _⟩
  case round =>
    clear HR0 HF0 HP0 hB0
    obtain ⟨k, dk, hk, rfl, HS, ⟨cs, hB, HR⟩, HF, HP, hW⟩ := hrel
    by_cases hlt : k < n
    · obtain ⟨⟨pi, hci, hoi⟩, _⟩ := HR.out (a + k) (by rw [HS.out]; omega)
      obtain ⟨⟨pj, hcj, hoj⟩, _⟩ := HR.out (b + k) (by rw [HS.out]; omega)
      have HRS := Lib.hid (HR.out.swp (i := a + k) (j := b + k) (by rw [HS.out]; omega) (by rw [HS.out]; omega) (by omega) hci hoi hcj hoj)
      have HFS := Lib.hid (HF.out.swp (i := a + k) (j := b + k) (by omega) (by omega) (fun q => swI_step (a := a) (b := b) (n := k) (k := q) (by omega)))
      have HPS := Lib.hid (PermIn.swp HP.out (i := a + k) (j := b + k) (by omega) (by omega) (by omega) (by omega) hbn)
      have HSS := Lib.hid (show (swp dk (a + k) (b + k)).size = d.size by rw [size_swp]; exact HS.out)
      obtain ⟨a1, c1, rfl⟩ := hoi.sl.len
      obtain ⟨a2, c2, rfl⟩ := hoj.sl.len
      generalize swp dk (a + k) (b + k) = ds at HRS HFS HPS HSS
      generalize dk[a + k]! = xi at *
      generalize dk[b + k]! = xj at *
      obtain ⟨⟨ki, psi, wi, li⟩, fi⟩ := xi
      obtain ⟨⟨kj, psj, wj, lj⟩, fj⟩ := xj
      dsimp only at *
      obtain ⟨ni, hni⟩ : ∃ ni, psi.length = ni := ⟨_, rfl⟩
      obtain ⟨nj, hnj⟩ : ∃ nj, psj.length = nj := ⟨_, rfl⟩
      rw [hni] at hci HRS
      rw [hnj] at hcj HRS
      obtain ⟨p0, p1, p2, p3⟩ := hci
      obtain ⟨q0, q1, q2, q3⟩ := hcj
      have hBc := hB.cell
      have hBf := hB.free
      have hBl := hB.lt
      have i0 : (0 : Int) ≤ (a : Int) + (k : Int) := by omega
      have i1 : (a : Int) + (k : Int) < (d.size : Int) := by omega
      have j0 : (0 : Int) ≤ (b : Int) + (k : Int) := by omega
      have j1 : (b : Int) + (k : Int) < (d.size : Int) := by omega
      have hwi : IntKind.i64.wrap ((a : Int) + (k : Int)) = (a : Int) + (k : Int) := by rw [IntKind.wrap_i64]; omega
      have hwj : IntKind.i64.wrap ((b : Int) + (k : Int)) = (b : Int) + (k : Int) := by rw [IntKind.wrap_i64]; omega
      have ei : ((a : Int) + (k : Int)).toNat = a + k := by omega
      have ej : ((b : Int) + (k : Int)).toNat = b + k := by omega
      clear hni hnj hoi hoj
      go_wp2_with fail
      go_region
      all_goals go_wp2_with fail
      obtain ⟨W8, hW8, hB8, hWW⟩ := swap_cells hB (a + k) (b + k) (.int .i64 kj) (.slice a2 nj c2) (.int .i64 wj) (.int .i64 lj) (.int .i64 ki) (.slice a1 ni c1) (.int .i64 wi) (.int .i64 li)
      rw [← hW8]
      exact ⟨⟨k + 1, ds, by omega, by go_num, HSS, ⟨_, hB8, Lib.hid (HRS.out.past hWW)⟩, HFS, HPS, hW.on hWW⟩, by simp [intOf]; omega⟩
    · obtain rfl : k = n := by omega
      go_wp2
      go_end0
      exact ⟨by rfl, dk, ⟨cs, hB, HR.out⟩, HF.out, HP.out, hW⟩
def RotLeft (a m b i j : Nat) (d dk : Array (Dv × Nat)) : Prop := ∀ k, k < d.size → dk[rotI (m - i) m (m + j) k]! = d[rotI a m b k]!
theorem RotLeft.big {a m b i j : Nat} {d dk de : Array (Dv × Nat)} (h : RotLeft a m b i j d dk) (hs : dk.size = d.size) (hj : j < i) (hi : i ≤ m) (hb : m + j ≤ d.size) (hf : Fol (swI (m - i) m j) dk de) : RotLeft a m b (i - j) j d de := by
  intro k hk
  rw [← h k hk, rotI_big hj hi, show m - (i - j) = m - i + j by omega]
  exact hf.2 _ (by rw [hs]; exact rotI_lt (by omega) (by omega) hb hk)
theorem RotLeft.small {a m b i j : Nat} {d dk de : Array (Dv × Nat)} (h : RotLeft a m b i j d dk) (hs : dk.size = d.size) (hj : i < j) (hi : i ≤ m) (hb : m + j ≤ d.size) (hf : Fol (swI (m - i) (m + j - i) i) dk de) : RotLeft a m b i (j - i) d de := by
  intro k hk
  rw [← h k hk, rotI_small hj hi, show m + (j - i) = m + j - i by omega]
  exact hf.2 _ (by rw [hs]; exact rotI_lt (by omega) (by omega) (by omega) hk)
theorem RotLeft.done {a m b i : Nat} {d dk de : Array (Dv × Nat)} (h : RotLeft a m b i i d dk) (hs : dk.size = d.size) (hi : i ≤ m) (hb : m + i ≤ d.size) (hf : Fol (swI (m - i) m i) dk de) : Fol (rotI a m b) d de := by
  refine ⟨hf.1.trans hs, fun k hk => ?_⟩
  rw [← h k hk, rotI_eq hi]
  exact hf.2 _ (by rw [hs]; exact hk)
set_option maxRecDepth 100000 in
set_option maxHeartbeats 4000000 in
theorem rotate_any (g cap a m b : Nat) (cmpv : Value) (d : Array (Dv × Nat)) (w : World) (h : DRow w g d) (ham : a < m) (hmb : m < b) (hbd : b ≤ d.size) (hsz : d.size ≤ 1000) (hcap : d.size ≤ cap) :
    Calls Tryz.prog 125 #[.slice (some ⟨g, 0, none⟩) d.size cap, .int .i64 a, .int .i64 m, .int .i64 b, cmpv] w fun e w' =>
      e = .returned (.tuple #[]) ∧ ∃ d', DRow w' g d' ∧ Fol (rotI a m b) d d' ∧ PermIn a b d d' ∧ Within g (g + 1) w w' := by
  have HR0 := Lib.hid h
  have HP0 := Lib.hid (PermIn.refl' a b d)
  have HL0 := Lib.hid (show RotLeft a m b (m - a) (b - m) d d from fun k hk => by rw [show m - (m - a) = a by omega, show m + (b - m) = b by omega])
  clear h
  have w1 : IntKind.i64.wrap ((m : Int) - (a : Int)) = ((m - a : Nat) : Int) := by rw [IntKind.wrap_i64]; omega
  have w2 : IntKind.i64.wrap ((b : Int) - (m : Int)) = ((b - m : Nat) : Int) := by rw [IntKind.wrap_i64]; omega
  go_enter Tryz.func125, Tryz.ntmps125
  go_wp2
  go_loopw [10, 11] (fun vi vj wr => ∃ (i j : Nat) (dk : Array (Dv × Nat)), (1 ≤ i ∧ i ≤ m - a) ∧ (1 ≤ j ∧ j ≤ b - m) ∧ vi = .int .i64 i ∧ vj = .int .i64 j ∧ Hid (dk.size = d.size) ∧ Hid (DRow wr g dk) ∧ Hid (RotLeft a m b i j d dk) ∧ Hid (PermIn a b d dk) ∧ Within g (g + 1) w wr) (fun vi vj _ => (intOf vi).toNat + (intOf vj).toNat)
  case atStart => exact ⟨m - a, b - m, d, by omega, by omega, rfl, rfl, Lib.hid rfl, HR0, HL0, HP0, Within.refl _ _ _⟩
  case round =>
    clear HR0 HL0 HP0 w1 w2
    obtain ⟨i, j, dk, ⟨hi1, hi2⟩, ⟨hj1, hj2⟩, rfl, rfl, HS, HR, HL, HP, hW⟩ := hrel
    have ei : ((m : Int) - (i : Int)) = ((m - i : Nat) : Int) := by omega
    have wi : IntKind.i64.wrap ((m : Int) - (i : Int)) = ((m - i : Nat) : Int) := by rw [IntKind.wrap_i64]; omega
    by_cases heq : i = j
    · subst heq
      have HC := Lib.hid (swapRange_any g cap (m - i) m i cmpv dk wr HR.out (by omega) (by rw [HS.out]; omega) (by rw [HS.out]; exact hsz) (by rw [HS.out]; exact hcap))
      rw [HS.out] at HC
      go_wp2_with (go_at_call 126; refine HC.out.mono ?_; rintro e w1 ⟨rfl, de, hR, hF, hQ, hW1⟩)
      go_end0
      exact ⟨by rfl, de, hR, HL.out.done HS.out (by omega) (by omega) hF, PermIn.on HP.out (PermIn.wide hQ (by omega) (by omega) (by rw [HS.out]; omega)), hW.on hW1⟩
    · have q1 : ((i : Int) == (j : Int)) = false := by simp; omega
      have q2 : ((i : Int) != (j : Int)) = true := by simp; omega
      by_cases hlt : j < i
      · have HC := Lib.hid (swapRange_any g cap (m - i) m j cmpv dk wr HR.out (by omega) (by rw [HS.out]; omega) (by rw [HS.out]; exact hsz) (by rw [HS.out]; exact hcap))
        rw [HS.out] at HC
        have wj : IntKind.i64.wrap ((i : Int) - (j : Int)) = ((i - j : Nat) : Int) := by rw [IntKind.wrap_i64]; omega
        have q3 : (j : Int) < (i : Int) := by omega
        go_wp2_with (go_at_call 126; refine HC.out.mono ?_; rintro e w1 ⟨rfl, de, hR, hF, hQ, hW1⟩)
        exact ⟨⟨i - j, j, de, by omega, by omega, rfl, rfl, Lib.hid (hF.1.trans HS.out), Lib.hid hR, Lib.hid (HL.out.big HS.out hlt (by omega) (by omega) hF), Lib.hid (PermIn.on HP.out (PermIn.wide hQ (by omega) (by omega) (by rw [HS.out]; omega))), hW.on hW1⟩, by simp [intOf]; omega⟩
      · have HC := Lib.hid (swapRange_any g cap (m - i) (m + j - i) i cmpv dk wr HR.out (by omega) (by rw [HS.out]; omega) (by rw [HS.out]; exact hsz) (by rw [HS.out]; exact hcap))
        rw [HS.out] at HC
        have wj : IntKind.i64.wrap ((j : Int) - (i : Int)) = ((j - i : Nat) : Int) := by rw [IntKind.wrap_i64]; omega
        have wk : IntKind.i64.wrap ((m : Int) + (j : Int)) = (m : Int) + (j : Int) := by rw [IntKind.wrap_i64]; omega
        have wl : IntKind.i64.wrap ((m : Int) + (j : Int) - (i : Int)) = ((m + j - i : Nat) : Int) := by rw [IntKind.wrap_i64]; omega
        have q3 : ¬ (j : Int) < (i : Int) := by omega
        go_wp2_with (go_at_call 126; refine HC.out.mono ?_; rintro e w1 ⟨rfl, de, hR, hF, hQ, hW1⟩)
        exact ⟨⟨i, j - i, de, by omega, by omega, rfl, rfl, Lib.hid (hF.1.trans HS.out), Lib.hid hR, Lib.hid (HL.out.small HS.out (by omega) (by omega) (by omega) hF), Lib.hid (PermIn.on HP.out (PermIn.wide hQ (by omega) (by omega) (by rw [HS.out]; omega))), hW.on hW1⟩, by simp [intOf]; omega⟩
/- slices.SortStableFunc's own functions at devices: the insertion sort. -/
open Go.Sort (swp PermIn SortedIn SWO size_swp swp_get swp_other swp_left swp_right Ins)
set_option maxRecDepth 100000 in
set_option maxHeartbeats 4000000 in
theorem insSort_any (gf : Nat) (lb : Array Value) (eg : ∀ args w, (callFunc gf args).run Tryz.prog w = .ok (.enter gf args) w) (hc : DCmp gf lb) (g cap a b : Nat) (d : Array (Dv × Nat)) (w : World) (h : DRow w g d) (hab : a ≤ b) (hbd : b ≤ d.size) (hsz : d.size ≤ 1000) (hcap : d.size ≤ cap) :
    Calls Tryz.prog 119 #[.slice (some ⟨g, 0, none⟩) d.size cap, .int .i64 a, .int .i64 b, .func (.func gf) #[] lb] w fun e w' =>
      e = .returned (.tuple #[]) ∧ ∃ d', DRow w' g d' ∧ SortedIn dltP a b d' ∧ PermIn a b d d' ∧ Within g (g + 1) w w' := by
  have HR0 := Lib.hid h
  have HC := Lib.hid hc
  have HP0 := Lib.hid (PermIn.refl' a b d)
  have HS0 := Lib.hid (SortedIn.one dltP_swo (a := a) (b := a + 1) d (Nat.le_refl _))
  clear h hc
  go_enter Tryz.func119, Tryz.ntmps119
  go_wp2
  go_loopw [8] (fun vi wr => ∃ (i : Nat) (dk : Array (Dv × Nat)), a < i ∧ i ≤ b + 1 ∧ vi = .int .i64 i ∧ Hid (dk.size = d.size) ∧ Hid (DRow wr g dk) ∧ Hid (SortedIn dltP a i dk) ∧ Hid (PermIn a b d dk) ∧ Within g (g + 1) w wr) (fun vi _ => b + 1 - (intOf vi).toNat)
  case atStart => exact ⟨a + 1, d, by omega, by omega, by go_num, Lib.hid rfl, HR0, HS0, HP0, Within.refl _ _ _⟩
  case round =>
    clear HR0 HS0 HP0
    obtain ⟨i, dk, hai, hib, rfl, HS, HR, HT, HP, hW⟩ := hrel
    by_cases hlt : i < b
    · have HI0 := Lib.hid (show Ins dltP a i i dk from ⟨fun p q hp hpq hq _ hqi => HT.out p q hp hpq (by omega), fun q h1 h2 => by omega⟩)
      have i1 : (i : Int) < (b : Int) := by omega
      obtain ⟨wo, rfl⟩ : ∃ wo, wo = wr := ⟨_, rfl⟩
      go_wp2
      go_loopw [9] (fun vj wr => ∃ (j : Nat) (dj : Array (Dv × Nat)), a ≤ j ∧ j ≤ i ∧ vj = .int .i64 j ∧ Hid (dj.size = d.size) ∧ Hid (DRow wr g dj) ∧ Hid (Ins dltP a j i dj) ∧ Hid (PermIn a b d dj) ∧ Within g (g + 1) w wr) (fun vj _ => (intOf vj).toNat)
      case atStart => exact ⟨i, dk, by omega, Nat.le_refl _, rfl, HS, HR, HI0, HP, hW⟩
      case round =>
        clear HS HR HI0 HP hW HT
        obtain ⟨j, dj, haj, hji, rfl, HS, HR, HI, HP, hW⟩ := hrel
        by_cases hja : a < j
        · obtain ⟨jp, rfl⟩ : ∃ jp, j = jp + 1 := ⟨j - 1, by omega⟩
          obtain ⟨cs, hB, hRC⟩ := HR.out
          obtain ⟨⟨pi, hci, hoi⟩, _⟩ := hRC (jp + 1) (by rw [HS.out]; omega)
          obtain ⟨⟨pj, hcj, hoj⟩, _⟩ := hRC jp (by rw [HS.out]; omega)
          have HRS := Lib.hid (RowC.swp hRC (i := jp + 1) (j := jp) (by rw [HS.out]; omega) (by rw [HS.out]; omega) (by omega) hci hoi hcj hoj)
          have HPS := Lib.hid (PermIn.swp HP.out (i := jp + 1) (j := jp) (by omega) (by omega) (by omega) (by omega) hbd)
          have HSS := Lib.hid (show (swp dj (jp + 1) jp).size = d.size by rw [size_swp]; exact HS.out)
          have HIS := Lib.hid (fun hl => Ins.step HI.out hl (by omega) (by rw [HS.out]; omega))
          have HIT := Lib.hid (fun hs => Ins.stop dltP_swo HI.out (.inr hs))
          have HCL := Lib.hid (fun W h1 h2 => HC.out W dj[jp + 1]!.1 dj[jp]!.1 pi pj h1 h2)
          simp only [Nat.add_sub_cancel] at HIT
          obtain ⟨a1, c1, rfl⟩ := hoi.sl.len
          obtain ⟨a2, c2, rfl⟩ := hoj.sl.len
          have HX := Lib.hid hoi.sl
          have HY := Lib.hid hoj.sl
          generalize swp dj (jp + 1) jp = ds at HRS HPS HSS HIS
          have HLT := Lib.hid (show dltP dj[jp + 1]! dj[jp]! = decide (dcf dj[jp + 1]!.1 dj[jp]!.1 < 0) from rfl)
          generalize dj[jp + 1]! = xi at *
          generalize dj[jp]! = xj at *
          obtain ⟨⟨ki, psi, wi, li⟩, fi⟩ := xi
          obtain ⟨⟨kj, psj, wj, lj⟩, fj⟩ := xj
          dsimp only at *
          generalize dltP (⟨ki, psi, wi, li⟩, fi) (⟨kj, psj, wj, lj⟩, fj) = lt at *
          generalize dcf ⟨ki, psi, wi, li⟩ ⟨kj, psj, wj, lj⟩ = r at *
          obtain ⟨ni, hni⟩ : ∃ ni, psi.length = ni := ⟨_, rfl⟩
          obtain ⟨nj, hnj⟩ : ∃ nj, psj.length = nj := ⟨_, rfl⟩
          rw [hni] at hci HRS HCL HX
          rw [hnj] at hcj HRS HCL HY
          obtain ⟨p0, p1, p2, p3⟩ := hci
          obtain ⟨q0, q1, q2, q3⟩ := hcj
          have hBc := hB.cell
          have hBl := hB.lt
          have i0 : (0 : Int) ≤ (jp : Int) + 1 := by omega
          have i2 : (jp : Int) + 1 < (d.size : Int) := by omega
          have i3 : (jp : Int) < (d.size : Int) := by omega
          have i4 : (a : Int) < (jp : Int) + 1 := by omega
          have ei : ((jp : Int) + 1).toNat = jp + 1 := by omega
          have wjp : IntKind.i64.wrap (jp : Int) = (jp : Int) := by rw [IntKind.wrap_i64]; omega
          have HRC := Lib.hid hRC
          clear hni hnj hoi hoj hRC
          by_cases hr : r < 0
          · have HLT2 := Lib.hid (HLT.out.trans (decide_eq_true hr))
            go_wp2_with fail
            go_region_held3 (fun w' => (Blk w' g cs 46 ∧ ∀ o, w'.cell? ⟨g, o, none⟩ = cs[o]?) ∧ Below wr.heap.size wr w') (((try (obtain ⟨⟨hS0, _⟩, hSB⟩ := hHeld)); refine ⟨Blk.both ?_, ?_⟩ <;> first | ((repeat (first | (with_reducible assumption) | (with_reducible refine Blk.drewN ?_ _) | (with_reducible refine Blk.drew ?_) | ((with_reducible refine Blk.new _ ?_); focus (first | omega | (simp; done) | (simp; omega))) | (with_reducible refine Blk.past ?_ _) | ((with_reducible refine Blk.apart ?_ _ _ _ ?_); rotate_left; focus (first | omega | (simp; done) | (simp; omega))) | (with_reducible refine Blk.by (by assumption) ?_))); done) | ((repeat (first | (with_reducible exact Below.refl _ _) | (with_reducible refine below_drewN ?_ _) | (with_reducible refine Below.drew ?_) | (with_reducible refine below_al ?_ _) | (with_reducible refine below_on (by assumption) ?_) | ((with_reducible refine Below.setCell ?_ ?_ _); rotate_left; focus (first | omega | (simp; done) | (simp; omega))) | (with_reducible assumption))); done)))
              (first | (go_at_fn gf; refine (HCL.out _ (HX.out.by blwT) (HY.out.by blwT)).mono ?_; rintro e w1 ⟨rfl, hb1⟩))
            all_goals
              have hb2 : Below wr.heap.size wr w1 := blwT
              have kB := Blk.by hb2 hB
              have hBc1 := kB.cell
              have hBf1 := kB.free
              have hBl1 := kB.lt
              clear hBc hBl
              go_wp2_with fail
              go_region
              all_goals go_wp2_with fail
              obtain ⟨W8, hW8, hB8, hWW⟩ := swap_cells kB (jp + 1) jp (.int .i64 kj) (.slice a2 nj c2) (.int .i64 wj) (.int .i64 lj) (.int .i64 ki) (.slice a1 ni c1) (.int .i64 wi) (.int .i64 li)
              rw [← hW8]
              have hW9 := (Within.ofBelow (lo := g) (hi := g + 1) hb2).on hWW
              exact ⟨⟨jp, ds, by omega, by omega, by rfl, HSS, Lib.hid ⟨_, hB8, HRS.out.past hW9⟩, Lib.hid (HIS.out HLT2.out), HPS, hW.on hW9⟩, by simp [intOf]⟩
          · have HLT2 := Lib.hid (HLT.out.trans (decide_eq_false hr))
            have HR1 := HR
            go_wp2_with fail
            go_region_held3 (fun w' => (Blk w' g cs 46 ∧ ∀ o, w'.cell? ⟨g, o, none⟩ = cs[o]?) ∧ Below wr.heap.size wr w') (((try (obtain ⟨⟨hS0, _⟩, hSB⟩ := hHeld)); refine ⟨Blk.both ?_, ?_⟩ <;> first | ((repeat (first | (with_reducible assumption) | (with_reducible refine Blk.drewN ?_ _) | (with_reducible refine Blk.drew ?_) | ((with_reducible refine Blk.new _ ?_); focus (first | omega | (simp; done) | (simp; omega))) | (with_reducible refine Blk.past ?_ _) | ((with_reducible refine Blk.apart ?_ _ _ _ ?_); rotate_left; focus (first | omega | (simp; done) | (simp; omega))) | (with_reducible refine Blk.by (by assumption) ?_))); done) | ((repeat (first | (with_reducible exact Below.refl _ _) | (with_reducible refine below_drewN ?_ _) | (with_reducible refine Below.drew ?_) | (with_reducible refine below_al ?_ _) | (with_reducible refine below_on (by assumption) ?_) | ((with_reducible refine Below.setCell ?_ ?_ _); rotate_left; focus (first | omega | (simp; done) | (simp; omega))) | (with_reducible assumption))); done)))
              (first | (go_at_fn gf; refine (HCL.out _ (HX.out.by blwT) (HY.out.by blwT)).mono ?_; rintro e w1 ⟨rfl, hb1⟩))
            all_goals
              have hb2 : Below wr.heap.size wr w1 := blwT
              go_wp2_with fail
              exact ⟨⟨i + 1, dj, by omega, by omega, by go_num, HS, Lib.hid (HR.out.by hb2), Lib.hid (HIT.out HLT2.out), HP, hW.on (Within.ofBelow hb2)⟩, by simp [intOf]; omega⟩
        · obtain rfl : j = a := by omega
          have i4 : decide ((j : Int) > (j : Int)) = false := by simp
          have HIT := Lib.hid (Ins.stop dltP_swo HI.out (.inl (Nat.le_refl _)))
          go_wp2_with fail
          go_region
          all_goals
            go_wp2_with fail
            exact ⟨⟨i + 1, dj, by omega, by omega, by go_num, HS, Lib.hid (HR.out.by (below_of_drewN _ 1)), HIT, HP, hW.on (Within.ofBelow (below_of_drewN _ 1))⟩, by simp [intOf]; omega⟩
    · have i1 : ¬ (i : Int) < (b : Int) := by omega
      go_wp2
      go_end0
      exact ⟨by rfl, dk, HR.out, SortedIn.sub HT.out (Nat.le_refl _) (by omega), HP.out, hW⟩
/- slices.SortStableFunc's own functions at devices: the merge of two sorted parts, one of which has one element. -/
set_option maxRecDepth 100000 in
set_option maxHeartbeats 4000000 in
theorem symMerge_first (gf : Nat) (lb : Array Value) (eg : ∀ args w, (callFunc gf args).run Tryz.prog w = .ok (.enter gf args) w) (hc : DCmp gf lb) (g cap a m b : Nat) (d : Array (Dv × Nat)) (w : World) (h : DRow w g d) (hm : m = a + 1) (hmb : m < b) (hbd : b ≤ d.size) (hsz : d.size ≤ 1000) (hcap : d.size ≤ cap) (hs : SortedIn dltP (a + 1) b d) :
    Calls Tryz.prog 120 #[.slice (some ⟨g, 0, none⟩) d.size cap, .int .i64 a, .int .i64 m, .int .i64 b, .func (.func gf) #[] lb] w fun e w' =>
      e = .returned (.tuple #[]) ∧ ∃ d', DRow w' g d' ∧ SortedIn dltP a b d' ∧ PermIn a b d d' ∧ Within g (g + 1) w w' := by
  have HR0 := Lib.hid h
  have HC := Lib.hid hc
  have HP0 := Lib.hid (PermIn.refl' a b d)
  have HS := Lib.hid hs
  have HM := Lib.hid (fun (i : Nat) d' h1 h2 h3 h4 h5 => @merge_first _ _ dltP dltP_swo a b i d d' hs h1 h2 hbd h3 h4 h5)
  have w0 : IntKind.i64.wrap ((m : Int) - (a : Int)) = 1 := by rw [IntKind.wrap_i64]; omega
  have HF0 := Lib.hid (Fol.id d (f := rotI a (a + 1) (a + 1)) (fun k => rotI_none a (a + 1) (a + 1) k (.inr (Nat.le_refl _)) (Nat.le_succ _) (Nat.le_refl _)))
  have HMA := Lib.hid hm
  have hm1 : a < m := by omega
  have hm2 : m ≤ a + 1 := by omega
  clear h hc hs hm
  go_enter Tryz.func120, Tryz.ntmps120
  go_wp2
  go_loopw [10, 11] (fun vi vj wr => ∃ (p q : Nat), m ≤ p ∧ p ≤ q ∧ q ≤ b ∧ vi = .int .i64 p ∧ vj = .int .i64 q ∧ Hid (p = a + 1 ∨ dltP d[p - 1]! d[a]! = true) ∧ Hid (q = b ∨ dltP d[q]! d[a]! = false) ∧ Hid (DRow wr g d) ∧ Within g (g + 1) w wr) (fun vi vj _ => (intOf vj - intOf vi).toNat)
  case atStart => exact ⟨m, b, Nat.le_refl _, by omega, Nat.le_refl _, rfl, rfl, Lib.hid (.inl HMA.out), Lib.hid (.inl rfl), HR0, Within.refl _ _ _⟩
  case round =>
    clear HR0
    obtain ⟨p, q, hmp, hpq', hqb, rfl, rfl, HL, HH, HR, hW⟩ := hrel
    by_cases hpq : p < q
    · obtain ⟨t, ht⟩ : ∃ t, (p + q) / 2 = t := ⟨_, rfl⟩
      have ht1 : p ≤ t ∧ t < q := by omega
      obtain ⟨cs, hB, hRC⟩ := HR.out
      obtain ⟨⟨pi, hci, hoi⟩, _⟩ := hRC t (by omega)
      obtain ⟨⟨pj, hcj, hoj⟩, _⟩ := hRC a (by omega)
      have HCL := Lib.hid (fun W h1 h2 => HC.out W d[t]!.1 d[a]!.1 pi pj h1 h2)
      obtain ⟨a1, c1, rfl⟩ := hoi.sl.len
      obtain ⟨a2, c2, rfl⟩ := hoj.sl.len
      have HX := Lib.hid hoi.sl
      have HY := Lib.hid hoj.sl
      have HLT := Lib.hid (show dltP d[t]! d[a]! = decide (dcf d[t]!.1 d[a]!.1 < 0) from rfl)
      generalize dcf d[t]!.1 d[a]!.1 = r at HCL HLT
      generalize d[t]!.1 = xi at hci HCL HX
      generalize d[a]!.1 = xj at hcj HCL HY
      obtain ⟨ki, psi, wi, li⟩ := xi
      obtain ⟨kj, psj, wj, lj⟩ := xj
      dsimp only at hci hcj HCL HX HY
      obtain ⟨ni, hni⟩ : ∃ ni, psi.length = ni := ⟨_, rfl⟩
      obtain ⟨nj, hnj⟩ : ∃ nj, psj.length = nj := ⟨_, rfl⟩
      rw [hni] at hci HCL HX
      rw [hnj] at hcj HCL HY
      obtain ⟨p0, p1, p2, p3⟩ := hci
      obtain ⟨q0, q1, q2, q3⟩ := hcj
      have hBc := hB.cell
      have hBl := hB.lt
      have i0 : (p : Int) < (q : Int) := by omega
      have i1 : (0 : Int) ≤ (t : Int) := by omega
      have i2 : (t : Int) < (d.size : Int) := by omega
      have i3 : (a : Int) < (d.size : Int) := by omega
      have e1 : IntKind.i64.wrap ((p : Int) + (q : Int)) = (p : Int) + (q : Int) := by rw [IntKind.wrap_i64]; omega
      have e2 : IntKind.u64.wrap ((p : Int) + (q : Int)) = (p : Int) + (q : Int) := by simp [IntKind.wrap, IntKind.bits, IntKind.signed]; omega
      clear hni hnj hoi hoj hRC
      go_upto_region 5 with fail
      rw [show ((p : Int) + (q : Int)) / 2 = (t : Int) by omega]
      clear ht
      by_cases hr : r < 0
      · have HLT2 := Lib.hid (HLT.out.trans (decide_eq_true hr))
        go_region_held3 (fun w' => (Blk w' g cs 46 ∧ ∀ o, w'.cell? ⟨g, o, none⟩ = cs[o]?) ∧ Below wr.heap.size wr w') (((try (obtain ⟨⟨hS0, _⟩, hSB⟩ := hHeld)); refine ⟨Blk.both ?_, ?_⟩ <;> first | ((repeat (first | (with_reducible assumption) | (with_reducible refine Blk.drewN ?_ _) | (with_reducible refine Blk.drew ?_) | ((with_reducible refine Blk.new _ ?_); focus (first | omega | (simp; done) | (simp; omega))) | (with_reducible refine Blk.past ?_ _) | ((with_reducible refine Blk.apart ?_ _ _ _ ?_); rotate_left; focus (first | omega | (simp; done) | (simp; omega))) | (with_reducible refine Blk.by (by assumption) ?_))); done) | ((repeat (first | (with_reducible exact Below.refl _ _) | (with_reducible refine below_drewN ?_ _) | (with_reducible refine Below.drew ?_) | (with_reducible refine below_al ?_ _) | (with_reducible refine below_on (by assumption) ?_) | ((with_reducible refine Below.setCell ?_ ?_ _); rotate_left; focus (first | omega | (simp; done) | (simp; omega))) | (with_reducible assumption))); done)))
          (first | (go_at_fn gf; refine (HCL.out _ (HX.out.by blwT) (HY.out.by blwT)).mono ?_; rintro e w1 ⟨rfl, hb1⟩))
        all_goals
          have hb2 : Below wr.heap.size wr w1 := blwT
          go_wp2_with fail
          exact ⟨⟨t + 1, q, by omega, by omega, hqb, by go_num, rfl, Lib.hid (.inr HLT2.out), HH, Lib.hid (HR.out.by hb2), hW.on (Within.ofBelow hb2)⟩, by simp [intOf]; omega⟩
      · have HLT2 := Lib.hid (HLT.out.trans (decide_eq_false hr))
        go_region_held3 (fun w' => (Blk w' g cs 46 ∧ ∀ o, w'.cell? ⟨g, o, none⟩ = cs[o]?) ∧ Below wr.heap.size wr w') (((try (obtain ⟨⟨hS0, _⟩, hSB⟩ := hHeld)); refine ⟨Blk.both ?_, ?_⟩ <;> first | ((repeat (first | (with_reducible assumption) | (with_reducible refine Blk.drewN ?_ _) | (with_reducible refine Blk.drew ?_) | ((with_reducible refine Blk.new _ ?_); focus (first | omega | (simp; done) | (simp; omega))) | (with_reducible refine Blk.past ?_ _) | ((with_reducible refine Blk.apart ?_ _ _ _ ?_); rotate_left; focus (first | omega | (simp; done) | (simp; omega))) | (with_reducible refine Blk.by (by assumption) ?_))); done) | ((repeat (first | (with_reducible exact Below.refl _ _) | (with_reducible refine below_drewN ?_ _) | (with_reducible refine Below.drew ?_) | (with_reducible refine below_al ?_ _) | (with_reducible refine below_on (by assumption) ?_) | ((with_reducible refine Below.setCell ?_ ?_ _); rotate_left; focus (first | omega | (simp; done) | (simp; omega))) | (with_reducible assumption))); done)))
          (first | (go_at_fn gf; refine (HCL.out _ (HX.out.by blwT) (HY.out.by blwT)).mono ?_; rintro e w1 ⟨rfl, hb1⟩))
        all_goals
          have hb2 : Below wr.heap.size wr w1 := blwT
          go_wp2_with fail
          exact ⟨⟨p, t, by omega, by omega, by omega, rfl, rfl, HL, Lib.hid (.inr HLT2.out), Lib.hid (HR.out.by hb2), hW.on (Within.ofBelow hb2)⟩, by simp [intOf]; omega⟩
    · obtain rfl : p = q := by omega
      obtain ⟨ip, rfl⟩ : ∃ ip, p = ip + 1 := ⟨p - 1, by omega⟩
      have i3 : ¬ ((ip : Int) + 1) < ((ip : Int) + 1) := by omega
      have wip : IntKind.i64.wrap (ip : Int) = (ip : Int) := by rw [IntKind.wrap_i64]; omega
      obtain ⟨wo, rfl⟩ : ∃ wo, wo = wr := ⟨_, rfl⟩
      go_wp2
      go_loopw [13] (fun vk wr => ∃ (k : Nat) (dk : Array (Dv × Nat)), a ≤ k ∧ k ≤ ip ∧ vk = .int .i64 k ∧ Hid (dk.size = d.size) ∧ Hid (DRow wr g dk) ∧ Hid (Fol (rotI a (a + 1) (k + 1)) d dk) ∧ Hid (PermIn a b d dk) ∧ Within g (g + 1) w wr) (fun vk _ => ip - (intOf vk).toNat)
      case atStart => exact ⟨a, d, Nat.le_refl _, by omega, rfl, Lib.hid rfl, HR, HF0, HP0, hW⟩
      case round =>
        clear HR hW HF0 HP0
        obtain ⟨k, dk, hak, hki, rfl, HZ, HR, HF, HP, hW⟩ := hrel
        by_cases hlt : k < ip
        · obtain ⟨cs, hB, hRC⟩ := HR.out
          obtain ⟨⟨pi, hci, hoi⟩, _⟩ := hRC k (by rw [HZ.out]; omega)
          obtain ⟨⟨pj, hcj, hoj⟩, _⟩ := hRC (k + 1) (by rw [HZ.out]; omega)
          have HRS := Lib.hid (RowC.swp hRC (i := k) (j := k + 1) (by rw [HZ.out]; omega) (by rw [HZ.out]; omega) (by omega) hci hoi hcj hoj)
          have HPS := Lib.hid (PermIn.swp HP.out (i := k) (j := k + 1) (by omega) (by omega) (by omega) (by omega) hbd)
          have HSS := Lib.hid (show (swp dk k (k + 1)).size = d.size by rw [size_swp]; exact HZ.out)
          have HFS := Lib.hid (HF.out.swp (i := k) (j := k + 1) (by omega) (by omega) (fun q => rotI_up (a := a) (i := k) (k := q) hak))
          obtain ⟨a1, c1, rfl⟩ := hoi.sl.len
          obtain ⟨a2, c2, rfl⟩ := hoj.sl.len
          generalize swp dk k (k + 1) = ds at HRS HPS HSS HFS
          generalize dk[k]! = xi at *
          generalize dk[k + 1]! = xj at *
          obtain ⟨⟨ki, psi, wi, li⟩, fi⟩ := xi
          obtain ⟨⟨kj, psj, wj, lj⟩, fj⟩ := xj
          dsimp only at *
          obtain ⟨ni, hni⟩ : ∃ ni, psi.length = ni := ⟨_, rfl⟩
          obtain ⟨nj, hnj⟩ : ∃ nj, psj.length = nj := ⟨_, rfl⟩
          rw [hni] at hci HRS
          rw [hnj] at hcj HRS
          obtain ⟨p0, p1, p2, p3⟩ := hci
          obtain ⟨q0, q1, q2, q3⟩ := hcj
          have hBc := hB.cell
          have hBf := hB.free
          have hBl := hB.lt
          have i0 : (0 : Int) ≤ (k : Int) := by omega
          have i1 : (k : Int) < (d.size : Int) := by omega
          have j0 : (0 : Int) ≤ (k : Int) + 1 := by omega
          have j1 : (k : Int) + 1 < (d.size : Int) := by omega
          have j2 : (k : Int) < (ip : Int) := by omega
          have wk : IntKind.i64.wrap ((k : Int) + 1) = (k : Int) + 1 := by rw [IntKind.wrap_i64]; omega
          have ek : ((k : Int) + 1).toNat = k + 1 := by omega
          clear hni hnj hoi hoj hRC
          go_wp2_with fail
          go_region
          all_goals go_wp2_with fail
          obtain ⟨W8, hW8, hB8, hWW⟩ := swap_cells hB k (k + 1) (.int .i64 kj) (.slice a2 nj c2) (.int .i64 wj) (.int .i64 lj) (.int .i64 ki) (.slice a1 ni c1) (.int .i64 wi) (.int .i64 li)
          rw [← hW8]
          exact ⟨⟨k + 1, ds, by omega, by omega, by go_num, HSS, Lib.hid ⟨_, hB8, HRS.out.past hWW⟩, HFS, HPS, hW.on hWW⟩, by simp [intOf]; omega⟩
        · obtain rfl : k = ip := by omega
          have i4 : ¬ (k : Int) < (k : Int) := by omega
          go_wp2
          (try simp only [Exit.inBlock, Exit.then]); refine bodyPost_ret (results_none rfl _ _ _) rfl ?_
          exact ⟨by rfl, dk, HR.out, HM.out (k + 1) dk (by omega) (by omega) HL.out HH.out HF.out, HP.out, hW⟩
set_option maxRecDepth 100000 in
set_option maxHeartbeats 4000000 in
theorem symMerge_last (gf : Nat) (lb : Array Value) (eg : ∀ args w, (callFunc gf args).run Tryz.prog w = .ok (.enter gf args) w) (hc : DCmp gf lb) (g cap a m b : Nat) (d : Array (Dv × Nat)) (w : World) (h : DRow w g d) (hm : b = m + 1) (ham : a + 1 < m) (hbd : b ≤ d.size) (hsz : d.size ≤ 1000) (hcap : d.size ≤ cap) (hs : SortedIn dltP a m d) :
    Calls Tryz.prog 120 #[.slice (some ⟨g, 0, none⟩) d.size cap, .int .i64 a, .int .i64 m, .int .i64 b, .func (.func gf) #[] lb] w fun e w' =>
      e = .returned (.tuple #[]) ∧ ∃ d', DRow w' g d' ∧ SortedIn dltP a b d' ∧ PermIn a b d d' ∧ Within g (g + 1) w w' := by
  have HR0 := Lib.hid h
  have HC := Lib.hid hc
  have HP0 := Lib.hid (PermIn.refl' a b d)
  have HS := Lib.hid hs
  have HM := Lib.hid (fun (i : Nat) d' h1 h2 h3 h4 h5 => @merge_last _ _ dltP dltP_swo a m i d d' hs h1 h2 (by omega) h3 h4 h5)
  have w0 : IntKind.i64.wrap ((b : Int) - (m : Int)) = 1 := by rw [IntKind.wrap_i64]; omega
  have w9 : IntKind.i64.wrap ((m : Int) - (a : Int)) = (m : Int) - (a : Int) := by rw [IntKind.wrap_i64]; omega
  have w8 : ((m : Int) - (a : Int) == 1) = false := by simp; omega
  have HF0 := Lib.hid (Fol.id d (f := rotI m m (m + 1)) (fun k => rotI_none m m (m + 1) k (.inl (Nat.le_refl _)) (Nat.le_refl _) (Nat.le_succ _)))
  have HBM := Lib.hid (show SortedIn dltP a b = SortedIn dltP a (m + 1) by rw [hm])
  have HMA := Lib.hid hm
  have hm1 : m < b := by omega
  have hm2 : b ≤ m + 1 := by omega
  clear h hc hs hm
  go_enter Tryz.func120, Tryz.ntmps120
  go_wp2
  go_loopw [14, 15] (fun vi vj wr => ∃ (p q : Nat), a ≤ p ∧ p ≤ q ∧ q ≤ m ∧ vi = .int .i64 p ∧ vj = .int .i64 q ∧ Hid (p = a ∨ dltP d[m]! d[p - 1]! = false) ∧ Hid (q = m ∨ dltP d[m]! d[q]! = true) ∧ Hid (DRow wr g d) ∧ Within g (g + 1) w wr) (fun vi vj _ => (intOf vj - intOf vi).toNat)
  case atStart => exact ⟨a, m, Nat.le_refl _, by omega, Nat.le_refl _, rfl, rfl, Lib.hid (.inl rfl), Lib.hid (.inl rfl), HR0, Within.refl _ _ _⟩
  case round =>
    clear HR0
    obtain ⟨p, q, hmp, hpq', hqb, rfl, rfl, HL, HH, HR, hW⟩ := hrel
    by_cases hpq : p < q
    · obtain ⟨t, ht⟩ : ∃ t, (p + q) / 2 = t := ⟨_, rfl⟩
      have ht1 : p ≤ t ∧ t < q := by omega
      obtain ⟨cs, hB, hRC⟩ := HR.out
      obtain ⟨⟨pi, hci, hoi⟩, _⟩ := hRC m (by omega)
      obtain ⟨⟨pj, hcj, hoj⟩, _⟩ := hRC t (by omega)
      have HCL := Lib.hid (fun W h1 h2 => HC.out W d[m]!.1 d[t]!.1 pi pj h1 h2)
      obtain ⟨a1, c1, rfl⟩ := hoi.sl.len
      obtain ⟨a2, c2, rfl⟩ := hoj.sl.len
      have HX := Lib.hid hoi.sl
      have HY := Lib.hid hoj.sl
      have HLT := Lib.hid (show dltP d[m]! d[t]! = decide (dcf d[m]!.1 d[t]!.1 < 0) from rfl)
      generalize dcf d[m]!.1 d[t]!.1 = r at HCL HLT
      generalize d[m]!.1 = xi at hci HCL HX
      generalize d[t]!.1 = xj at hcj HCL HY
      obtain ⟨ki, psi, wi, li⟩ := xi
      obtain ⟨kj, psj, wj, lj⟩ := xj
      dsimp only at hci hcj HCL HX HY
      obtain ⟨ni, hni⟩ : ∃ ni, psi.length = ni := ⟨_, rfl⟩
      obtain ⟨nj, hnj⟩ : ∃ nj, psj.length = nj := ⟨_, rfl⟩
      rw [hni] at hci HCL HX
      rw [hnj] at hcj HCL HY
      obtain ⟨p0, p1, p2, p3⟩ := hci
      obtain ⟨q0, q1, q2, q3⟩ := hcj
      have hBc := hB.cell
      have hBl := hB.lt
      have i0 : (p : Int) < (q : Int) := by omega
      have i1 : (0 : Int) ≤ (t : Int) := by omega
      have i2 : (t : Int) < (d.size : Int) := by omega
      have i3 : (m : Int) < (d.size : Int) := by omega
      have e1 : IntKind.i64.wrap ((p : Int) + (q : Int)) = (p : Int) + (q : Int) := by rw [IntKind.wrap_i64]; omega
      have e2 : IntKind.u64.wrap ((p : Int) + (q : Int)) = (p : Int) + (q : Int) := by simp [IntKind.wrap, IntKind.bits, IntKind.signed]; omega
      clear hni hnj hoi hoj hRC
      go_upto_region 17 with fail
      rw [show ((p : Int) + (q : Int)) / 2 = (t : Int) by omega]
      clear ht
      by_cases hr : r < 0
      · have HLT2 := Lib.hid (HLT.out.trans (decide_eq_true hr))
        go_region_held3 (fun w' => (Blk w' g cs 46 ∧ ∀ o, w'.cell? ⟨g, o, none⟩ = cs[o]?) ∧ Below wr.heap.size wr w') (((try (obtain ⟨⟨hS0, _⟩, hSB⟩ := hHeld)); refine ⟨Blk.both ?_, ?_⟩ <;> first | ((repeat (first | (with_reducible assumption) | (with_reducible refine Blk.drewN ?_ _) | (with_reducible refine Blk.drew ?_) | ((with_reducible refine Blk.new _ ?_); focus (first | omega | (simp; done) | (simp; omega))) | (with_reducible refine Blk.past ?_ _) | ((with_reducible refine Blk.apart ?_ _ _ _ ?_); rotate_left; focus (first | omega | (simp; done) | (simp; omega))) | (with_reducible refine Blk.by (by assumption) ?_))); done) | ((repeat (first | (with_reducible exact Below.refl _ _) | (with_reducible refine below_drewN ?_ _) | (with_reducible refine Below.drew ?_) | (with_reducible refine below_al ?_ _) | (with_reducible refine below_on (by assumption) ?_) | ((with_reducible refine Below.setCell ?_ ?_ _); rotate_left; focus (first | omega | (simp; done) | (simp; omega))) | (with_reducible assumption))); done)))
          (first | (go_at_fn gf; refine (HCL.out _ (HX.out.by blwT) (HY.out.by blwT)).mono ?_; rintro e w1 ⟨rfl, hb1⟩))
        all_goals
          have hb2 : Below wr.heap.size wr w1 := blwT
          go_wp2_with fail
          exact ⟨⟨p, t, by omega, by omega, by omega, rfl, rfl, HL, Lib.hid (.inr HLT2.out), Lib.hid (HR.out.by hb2), hW.on (Within.ofBelow hb2)⟩, by simp [intOf]; omega⟩
      · have HLT2 := Lib.hid (HLT.out.trans (decide_eq_false hr))
        have hr2 : (!decide (r < 0)) = true := by simp; omega
        go_region_held3 (fun w' => (Blk w' g cs 46 ∧ ∀ o, w'.cell? ⟨g, o, none⟩ = cs[o]?) ∧ Below wr.heap.size wr w') (((try (obtain ⟨⟨hS0, _⟩, hSB⟩ := hHeld)); refine ⟨Blk.both ?_, ?_⟩ <;> first | ((repeat (first | (with_reducible assumption) | (with_reducible refine Blk.drewN ?_ _) | (with_reducible refine Blk.drew ?_) | ((with_reducible refine Blk.new _ ?_); focus (first | omega | (simp; done) | (simp; omega))) | (with_reducible refine Blk.past ?_ _) | ((with_reducible refine Blk.apart ?_ _ _ _ ?_); rotate_left; focus (first | omega | (simp; done) | (simp; omega))) | (with_reducible refine Blk.by (by assumption) ?_))); done) | ((repeat (first | (with_reducible exact Below.refl _ _) | (with_reducible refine below_drewN ?_ _) | (with_reducible refine Below.drew ?_) | (with_reducible refine below_al ?_ _) | (with_reducible refine below_on (by assumption) ?_) | ((with_reducible refine Below.setCell ?_ ?_ _); rotate_left; focus (first | omega | (simp; done) | (simp; omega))) | (with_reducible assumption))); done)))
          (first | (go_at_fn gf; refine (HCL.out _ (HX.out.by blwT) (HY.out.by blwT)).mono ?_; rintro e w1 ⟨rfl, hb1⟩))
        all_goals
          have hb2 : Below wr.heap.size wr w1 := blwT
          go_wp2_with fail
          exact ⟨⟨t + 1, q, by omega, by omega, hqb, by go_num, rfl, Lib.hid (.inr HLT2.out), HH, Lib.hid (HR.out.by hb2), hW.on (Within.ofBelow hb2)⟩, by simp [intOf]; omega⟩
    · obtain rfl : p = q := by omega
      have i3 : ¬ (p : Int) < (p : Int) := by omega
      obtain ⟨wo, rfl⟩ : ∃ wo, wo = wr := ⟨_, rfl⟩
      go_wp2
      go_loopw [17] (fun vk wr => ∃ (k : Nat) (dk : Array (Dv × Nat)), p ≤ k ∧ k ≤ m ∧ vk = .int .i64 k ∧ Hid (dk.size = d.size) ∧ Hid (DRow wr g dk) ∧ Hid (Fol (rotI k m (m + 1)) d dk) ∧ Hid (PermIn a b d dk) ∧ Within g (g + 1) w wr) (fun vk _ => (intOf vk).toNat)
      case atStart => exact ⟨m, d, by omega, Nat.le_refl _, rfl, Lib.hid rfl, HR, HF0, HP0, hW⟩
      case round =>
        clear HR hW HF0 HP0
        obtain ⟨k, dk, hpk, hkm, rfl, HZ, HR, HF, HP, hW⟩ := hrel
        by_cases hlt : p < k
        · obtain ⟨kp, rfl⟩ : ∃ kp, k = kp + 1 := ⟨k - 1, by omega⟩
          obtain ⟨cs, hB, hRC⟩ := HR.out
          obtain ⟨⟨pi, hci, hoi⟩, _⟩ := hRC (kp + 1) (by rw [HZ.out]; omega)
          obtain ⟨⟨pj, hcj, hoj⟩, _⟩ := hRC kp (by rw [HZ.out]; omega)
          have HRS := Lib.hid (RowC.swp hRC (i := kp + 1) (j := kp) (by rw [HZ.out]; omega) (by rw [HZ.out]; omega) (by omega) hci hoi hcj hoj)
          have HPS := Lib.hid (PermIn.swp HP.out (i := kp + 1) (j := kp) (by omega) (by omega) (by omega) (by omega) hbd)
          have HSS := Lib.hid (show (swp dk (kp + 1) kp).size = d.size by rw [size_swp]; exact HZ.out)
          have HFS := Lib.hid (HF.out.swp (i := kp + 1) (j := kp) (g := rotI kp m (m + 1)) (by omega) (by omega) (fun q => by have := rotI_down (i := kp + 1) (m := m) (k := q) hkm (by omega); simpa using this))
          obtain ⟨a1, c1, rfl⟩ := hoi.sl.len
          obtain ⟨a2, c2, rfl⟩ := hoj.sl.len
          generalize swp dk (kp + 1) kp = ds at HRS HPS HSS HFS
          generalize dk[kp + 1]! = xi at *
          generalize dk[kp]! = xj at *
          obtain ⟨⟨ki, psi, wi, li⟩, fi⟩ := xi
          obtain ⟨⟨kj, psj, wj, lj⟩, fj⟩ := xj
          dsimp only at *
          obtain ⟨ni, hni⟩ : ∃ ni, psi.length = ni := ⟨_, rfl⟩
          obtain ⟨nj, hnj⟩ : ∃ nj, psj.length = nj := ⟨_, rfl⟩
          rw [hni] at hci HRS
          rw [hnj] at hcj HRS
          obtain ⟨p0, p1, p2, p3⟩ := hci
          obtain ⟨q0, q1, q2, q3⟩ := hcj
          have hBc := hB.cell
          have hBf := hB.free
          have hBl := hB.lt
          have i0 : (0 : Int) ≤ (kp : Int) := by omega
          have i1 : (kp : Int) < (d.size : Int) := by omega
          have j0 : (0 : Int) ≤ (kp : Int) + 1 := by omega
          have j1 : (kp : Int) + 1 < (d.size : Int) := by omega
          have j2 : (p : Int) < (kp : Int) + 1 := by omega
          have wk : IntKind.i64.wrap (kp : Int) = (kp : Int) := by rw [IntKind.wrap_i64]; omega
          have ek : ((kp : Int) + 1).toNat = kp + 1 := by omega
          clear hni hnj hoi hoj hRC
          go_wp2_with fail
          go_region
          all_goals go_wp2_with fail
          obtain ⟨W8, hW8, hB8, hWW⟩ := swap_cells hB (kp + 1) kp (.int .i64 kj) (.slice a2 nj c2) (.int .i64 wj) (.int .i64 lj) (.int .i64 ki) (.slice a1 ni c1) (.int .i64 wi) (.int .i64 li)
          rw [← hW8]
          exact ⟨⟨kp, ds, by omega, by omega, by rfl, HSS, Lib.hid ⟨_, hB8, HRS.out.past hWW⟩, HFS, HPS, hW.on hWW⟩, by simp [intOf]⟩
        · obtain rfl : k = p := by omega
          have i4 : ¬ (k : Int) < (k : Int) := by omega
          go_wp2
          (try simp only [Exit.inBlock, Exit.then]); refine bodyPost_ret (results_none rfl _ _ _) rfl ?_
          exact ⟨by rfl, dk, HR.out, by rw [HBM.out]; exact HM.out k dk (by omega) (by omega) HL.out HH.out HF.out, HP.out, hW⟩
/- slices.SortStableFunc's own functions at devices: the merge of two sorted parts. -/
def Merges (gf : Nat) (lb : Array Value) (g cap a m b : Nat) (d : Array (Dv × Nat)) (w : World) : Prop :=
    Calls Tryz.prog 120 #[.slice (some ⟨g, 0, none⟩) d.size cap, .int .i64 a, .int .i64 m, .int .i64 b, .func (.func gf) #[] lb] w fun e w' =>
      e = .returned (.tuple #[]) ∧ ∃ d', DRow w' g d' ∧ SortedIn dltP a b d' ∧ PermIn a b d d' ∧ Within g (g + 1) w w'
theorem merge_done {a mid b : Nat} {d d1 d2 d3 : Array (Dv × Nat)} (hbd : b ≤ d.size) (ham : a ≤ mid) (hmb : mid ≤ b) (hP1 : PermIn a b d d1) (hx : ∀ i j, a ≤ i → i < mid → mid ≤ j → j < b → dltP d1[j]! d1[i]! = false)
    (hS2 : SortedIn dltP a mid d2) (hP2 : PermIn a mid d1 d2) (hS3 : SortedIn dltP mid b d3) (hP3 : PermIn mid b d2 d3) : SortedIn dltP a b d3 ∧ PermIn a b d d3 := by
  have z1 : d1.size = d.size := hP1.1
  have z2 : d2.size = d.size := hP2.1.trans z1
  have x2 := apart_perm (by rw [z1]; exact hbd) hP2 (.inl ⟨Nat.le_refl _, Nat.le_refl _⟩) (by rw [z1]; omega) hx
  have x3 := apart_perm (by rw [z2]; exact hbd) hP3 (.inr ⟨Nat.le_refl _, Nat.le_refl _⟩) (by rw [z2]; omega) x2
  exact ⟨SortedIn.join (SortedIn.out hS2 hP3 (.inl (Nat.le_refl _))) hS3 x3, PermIn.on hP1 (PermIn.on (PermIn.wide hP2 (Nat.le_refl _) hmb (by rw [z1]; exact hbd)) (PermIn.wide hP3 ham (Nat.le_refl _) (by rw [z2]; exact hbd)))⟩
set_option maxRecDepth 100000 in
set_option maxHeartbeats 4000000 in
theorem symMerge_mid (gf : Nat) (lb : Array Value) (eg : ∀ args w, (callFunc gf args).run Tryz.prog w = .ok (.enter gf args) w) (hc : DCmp gf lb) (g cap a m b : Nat) (d : Array (Dv × Nat)) (w : World) (h : DRow w g d) (ham : a + 1 < m) (hmb : m + 1 < b) (hbd : b ≤ d.size) (hsz : d.size ≤ 1000) (hcap : d.size ≤ cap) (h1 : SortedIn dltP a m d) (h2 : SortedIn dltP m b d)
    (ih : ∀ (a' m' b' : Nat) (d' : Array (Dv × Nat)) (w' : World), b' - a' < b - a → DRow w' g d' → a' < m' → m' < b' → b' ≤ d'.size → d'.size = d.size → SortedIn dltP a' m' d' → SortedIn dltP m' b' d' → Merges gf lb g cap a' m' b' d' w') :
    Merges gf lb g cap a m b d w := by
  obtain ⟨mid, hmid⟩ : ∃ mid, (a + b) / 2 = mid := ⟨_, rfl⟩
  have hmid1 : a < mid ∧ mid < b := by omega
  have hmid2 : mid - a ≤ b - mid ∧ b - mid ≤ mid - a + 1 := by omega
  obtain ⟨s0, r0, hbr⟩ : ∃ s0 r0 : Nat, (mid < m ∧ s0 + b = mid + m ∧ r0 = mid) ∨ (m ≤ mid ∧ s0 = a ∧ r0 = m) := by
    by_cases q : mid < m
    · exact ⟨mid + m - b, mid, .inl ⟨q, by omega, rfl⟩⟩
    · exact ⟨a, m, .inr ⟨by omega, rfl, rfl⟩⟩
  have hs0 : a ≤ s0 ∧ s0 ≤ r0 ∧ r0 ≤ m ∧ r0 ≤ mid := by omega
  have HR0 := Lib.hid h
  have HC := Lib.hid hc
  have IH := Lib.hid ih
  have HP0 := Lib.hid (PermIn.refl' a b d)
  have HMID := Lib.hid (fun (s : Nat) (d1 : Array (Dv × Nat)) (q1 : a ≤ s) (q2 : s ≤ m) (q3 : s ≤ mid) (q4 : mid + m - s ≤ b) hl hr hf => merge_mid dltP_swo (s := s) (e := mid + m - s) (mid := mid) (d' := d1) h1 h2 q1 q2 (by omega) q4 hbd (by omega) hl hr hf)
  have HL0 := Lib.hid (show s0 = a ∨ mid + m - s0 = b ∨ dltP d[mid + m - s0]! d[s0 - 1]! = false by rcases hbr with ⟨_, q, _⟩ | ⟨_, q, _⟩ <;> omega)
  have HH0 := Lib.hid (show r0 = m ∨ mid + m - r0 = m ∨ dltP d[mid + m - r0 - 1]! d[r0]! = true by rcases hbr with ⟨_, _, q⟩ | ⟨_, _, q⟩ <;> omega)
  have HBR := Lib.hid hbr
  have HM := Lib.hid hmid
  have hpb : mid + m - s0 ≤ b := by rcases hbr with ⟨_, q, _⟩ | ⟨_, q, _⟩ <;> omega
  have w1 : IntKind.i64.wrap ((m : Int) - (a : Int)) = (m : Int) - (a : Int) := by rw [IntKind.wrap_i64]; omega
  have w2 : ((m : Int) - (a : Int) == 1) = false := by simp; omega
  have w3 : IntKind.i64.wrap ((b : Int) - (m : Int)) = (b : Int) - (m : Int) := by rw [IntKind.wrap_i64]; omega
  have w4 : ((b : Int) - (m : Int) == 1) = false := by simp; omega
  have w5 : IntKind.i64.wrap ((a : Int) + (b : Int)) = (a : Int) + (b : Int) := by rw [IntKind.wrap_i64]; omega
  have w6 : IntKind.u64.wrap ((a : Int) + (b : Int)) = (a : Int) + (b : Int) := by simp [IntKind.wrap, IntKind.bits, IntKind.signed]; omega
  have w7 : ((a : Int) + (b : Int)) / 2 = (mid : Int) := by omega
  have w8 : IntKind.i64.wrap ((mid : Int) + (m : Int)) = ((mid + m : Nat) : Int) := by rw [IntKind.wrap_i64]; omega
  have w9 : IntKind.i64.wrap ((mid : Int) + (m : Int) - (b : Int)) = (mid : Int) + (m : Int) - (b : Int) := by rw [IntKind.wrap_i64]; omega
  obtain ⟨P, hP⟩ : ∃ P, mid + m - 1 = P := ⟨_, rfl⟩
  have HPP := Lib.hid hP
  have wA : IntKind.i64.wrap ((mid : Int) + (m : Int) - 1) = (P : Int) := by rw [IntKind.wrap_i64]; omega
  clear hP
  unfold Merges
  clear h hc ih hbr hmid h1 h2
  go_enter Tryz.func120, Tryz.ntmps120
  go_upto_if 140 with fail
  go_cut [20, 21] (fun vs vr wx => vs = .int .i64 s0 ∧ vr = .int .i64 r0 ∧ wx = w)
  case first => as_aux_lemma =>
    rcases HBR.out with ⟨q, q1, q2⟩ | ⟨q, q1, q2⟩
    · have i1 : (mid : Int) < (m : Int) := by omega
      have e1 : (mid : Int) + (m : Int) - (b : Int) = (s0 : Int) := by omega
      have e2 : (mid : Int) = (r0 : Int) := by omega
      clear q1 q2
      go_wp2_with fail
      go_meet
      exact ⟨congrArg (Value.int .i64) (by omega), congrArg (Value.int .i64) (by omega), rfl⟩
    · have i1 : ¬ (mid : Int) < (m : Int) := by omega
      clear q1 q2
      go_wp2_with fail
      go_meet
      exact ⟨congrArg (Value.int .i64) (by rcases HBR.out with ⟨_, _, _⟩ | ⟨_, _, _⟩ <;> omega), congrArg (Value.int .i64) (by rcases HBR.out with ⟨_, _, _⟩ | ⟨_, _, _⟩ <;> omega), rfl⟩
  case rest =>
    obtain ⟨rfl, rfl, rfl⟩ := hcut
    obtain ⟨wo, rfl⟩ : ∃ wo, wo = wc := ⟨_, rfl⟩
    go_wp2
    go_loopw [20, 21] (fun vs vr wr => ∃ (s r : Nat), s0 ≤ s ∧ s ≤ r ∧ r ≤ r0 ∧ vs = .int .i64 s ∧ vr = .int .i64 r ∧ Hid (s = a ∨ mid + m - s = b ∨ dltP d[mid + m - s]! d[s - 1]! = false) ∧ Hid (r = m ∨ mid + m - r = m ∨ dltP d[mid + m - r - 1]! d[r]! = true) ∧ Hid (DRow wr g d) ∧ Within g (g + 1) wo wr) (fun vs vr _ => (intOf vr - intOf vs).toNat)
    case atStart => exact ⟨s0, r0, Nat.le_refl _, by omega, Nat.le_refl _, rfl, rfl, HL0, HH0, HR0, Within.refl _ _ _⟩
    case round =>
      clear HR0 HL0 HH0
      obtain ⟨s, r, hs1, hsr, hr1, rfl, rfl, HL, HH, HR, hW⟩ := hrel
      by_cases hlt : s < r
      · as_aux_lemma =>
        obtain ⟨c, hcc⟩ : ∃ c, (s + r) / 2 = c := ⟨_, rfl⟩
        have hc1 : s ≤ c ∧ c < r := by omega
        obtain ⟨u, hu⟩ : ∃ u, P - c = u := ⟨_, rfl⟩
        have hPP := HPP.out
        have hu1 : u < d.size ∧ u + 1 = mid + m - c ∧ u = mid + m - (c + 1) := by omega
        obtain ⟨cs, hB, hRC⟩ := HR.out
        obtain ⟨⟨pi, hci, hoi⟩, _⟩ := hRC u (by omega)
        obtain ⟨⟨pj, hcj, hoj⟩, _⟩ := hRC c (by omega)
        have HCL := Lib.hid (fun W h1 h2 => HC.out W d[u]!.1 d[c]!.1 pi pj h1 h2)
        obtain ⟨a1, c1, rfl⟩ := hoi.sl.len
        obtain ⟨a2, c2, rfl⟩ := hoj.sl.len
        have HX := Lib.hid hoi.sl
        have HY := Lib.hid hoj.sl
        have HLT := Lib.hid (show dltP d[u]! d[c]! = decide (dcf d[u]!.1 d[c]!.1 < 0) from rfl)
        generalize dcf d[u]!.1 d[c]!.1 = z at HCL HLT
        generalize d[u]!.1 = xi at hci HCL HX
        generalize d[c]!.1 = xj at hcj HCL HY
        obtain ⟨ki, psi, wi, li⟩ := xi
        obtain ⟨kj, psj, wj, lj⟩ := xj
        dsimp only at hci hcj HCL HX HY
        obtain ⟨ni, hni⟩ : ∃ ni, psi.length = ni := ⟨_, rfl⟩
        obtain ⟨nj, hnj⟩ : ∃ nj, psj.length = nj := ⟨_, rfl⟩
        rw [hni] at hci HCL HX
        rw [hnj] at hcj HCL HY
        obtain ⟨p0, p1, p2, p3⟩ := hci
        obtain ⟨q0, q1, q2, q3⟩ := hcj
        have hBc := hB.cell
        have hBl := hB.lt
        have i0 : (s : Int) < (r : Int) := by omega
        have i1 : (0 : Int) ≤ (u : Int) := by omega
        have i2 : (u : Int) < (d.size : Int) := by omega
        have i3 : (c : Int) < (d.size : Int) := by omega
        have i4 : (0 : Int) ≤ (c : Int) := by omega
        have e1 : IntKind.i64.wrap ((s : Int) + (r : Int)) = (s : Int) + (r : Int) := by rw [IntKind.wrap_i64]; omega
        have e2 : IntKind.u64.wrap ((s : Int) + (r : Int)) = (s : Int) + (r : Int) := by simp [IntKind.wrap, IntKind.bits, IntKind.signed]; omega
        have e3 : IntKind.i64.wrap ((P : Int) - (c : Int)) = (u : Int) := by rw [IntKind.wrap_i64]; omega
        have HU := Lib.hid hu1
        clear hni hnj hoi hoj hRC hPP hu hu1
        go_upto_region 35 with fail
        rw [show ((s : Int) + (r : Int)) / 2 = (c : Int) by omega]
        clear hcc
        by_cases hr : z < 0
        · have HLT2 := Lib.hid (HLT.out.trans (decide_eq_true hr))
          go_region_held3 (fun w' => (Blk w' g cs 46 ∧ ∀ o, w'.cell? ⟨g, o, none⟩ = cs[o]?) ∧ Below wr.heap.size wr w') (((try (obtain ⟨⟨hS0, _⟩, hSB⟩ := hHeld)); refine ⟨Blk.both ?_, ?_⟩ <;> first | ((repeat (first | (with_reducible assumption) | (with_reducible refine Blk.drewN ?_ _) | (with_reducible refine Blk.drew ?_) | ((with_reducible refine Blk.new _ ?_); focus (first | omega | (simp; done) | (simp; omega))) | (with_reducible refine Blk.past ?_ _) | ((with_reducible refine Blk.apart ?_ _ _ _ ?_); rotate_left; focus (first | omega | (simp; done) | (simp; omega))) | (with_reducible refine Blk.by (by assumption) ?_))); done) | ((repeat (first | (with_reducible exact Below.refl _ _) | (with_reducible refine below_drewN ?_ _) | (with_reducible refine Below.drew ?_) | (with_reducible refine below_al ?_ _) | (with_reducible refine below_on (by assumption) ?_) | ((with_reducible refine Below.setCell ?_ ?_ _); rotate_left; focus (first | omega | (simp; done) | (simp; omega))) | (with_reducible assumption))); done)))
            (first | (go_at_fn gf; refine (HCL.out _ (HX.out.by blwT) (HY.out.by blwT)).mono ?_; rintro e w1 ⟨rfl, hb1⟩))
          all_goals
            have hb2 : Below wr.heap.size wr w1 := blwT
            go_wp2_with fail
            exact ⟨⟨s, c, by omega, by omega, by omega, rfl, rfl, HL, Lib.hid (.inr (.inr (by rw [← HU.out.2.1]; exact HLT2.out))), Lib.hid (HR.out.by hb2), hW.on (Within.ofBelow hb2)⟩, by simp [intOf]; omega⟩
        · have HLT2 := Lib.hid (HLT.out.trans (decide_eq_false hr))
          have hr2 : (!decide (z < 0)) = true := by simp; omega
          go_region_held3 (fun w' => (Blk w' g cs 46 ∧ ∀ o, w'.cell? ⟨g, o, none⟩ = cs[o]?) ∧ Below wr.heap.size wr w') (((try (obtain ⟨⟨hS0, _⟩, hSB⟩ := hHeld)); refine ⟨Blk.both ?_, ?_⟩ <;> first | ((repeat (first | (with_reducible assumption) | (with_reducible refine Blk.drewN ?_ _) | (with_reducible refine Blk.drew ?_) | ((with_reducible refine Blk.new _ ?_); focus (first | omega | (simp; done) | (simp; omega))) | (with_reducible refine Blk.past ?_ _) | ((with_reducible refine Blk.apart ?_ _ _ _ ?_); rotate_left; focus (first | omega | (simp; done) | (simp; omega))) | (with_reducible refine Blk.by (by assumption) ?_))); done) | ((repeat (first | (with_reducible exact Below.refl _ _) | (with_reducible refine below_drewN ?_ _) | (with_reducible refine Below.drew ?_) | (with_reducible refine below_al ?_ _) | (with_reducible refine below_on (by assumption) ?_) | ((with_reducible refine Below.setCell ?_ ?_ _); rotate_left; focus (first | omega | (simp; done) | (simp; omega))) | (with_reducible assumption))); done)))
            (first | (go_at_fn gf; refine (HCL.out _ (HX.out.by blwT) (HY.out.by blwT)).mono ?_; rintro e w1 ⟨rfl, hb1⟩))
          all_goals
            have hb2 : Below wr.heap.size wr w1 := blwT
            go_wp2_with fail
            exact ⟨⟨c + 1, r, by omega, by omega, by omega, by go_num, rfl, Lib.hid (.inr (.inr (by rw [← HU.out.2.2]; exact HLT2.out))), HH, Lib.hid (HR.out.by hb2), hW.on (Within.ofBelow hb2)⟩, by simp [intOf]; omega⟩
      · obtain rfl : s = r := by omega
        have i3 : ¬ (s : Int) < (s : Int) := by omega
        have has : a ≤ s ∧ s ≤ m ∧ s ≤ mid ∧ mid + m - s ≤ b := by omega
        have HX := Lib.hid (fun d1 hf => HMID.out s d1 has.1 has.2.1 has.2.2.1 has.2.2.2 HL.out HH.out hf)
        obtain ⟨e, he⟩ : ∃ e, mid + m - s = e := ⟨_, rfl⟩
        rw [he] at HX has
        have he1 : m ≤ e ∧ mid ≤ e := by omega
        have HE := Lib.hid he
        have w10 : IntKind.i64.wrap ((mid : Int) + (m : Int) - (s : Int)) = (e : Int) := by rw [IntKind.wrap_i64]; omega
        clear he HL HH
        obtain ⟨cR, hcR⟩ : ∃ c : Bool, decide (s < m ∧ m < e) = c := ⟨_, rfl⟩
        have HcR := Lib.hid hcR
        clear hcR
        go_upto_region 39 with fail
        go_cut [24, 185] (fun ve vb wx => ve = .int .i64 e ∧ vb = .bool cR ∧ wx = wr)
        case first => as_aux_lemma =>
          by_cases x1 : s < m
          · have y1 : (s : Int) < (m : Int) := by omega
            by_cases x2 : m < e
            · have y2 : (m : Int) < (e : Int) := by omega
              go_wp2_with fail
              all_goals (try go_meet)
              exact ⟨rfl, congrArg Value.bool (by rw [← HcR.out]; exact (decide_eq_true ⟨x1, x2⟩).symm), rfl⟩
            · have y2 : ¬ (m : Int) < (e : Int) := by omega
              go_wp2_with fail
              all_goals (try go_meet)
              exact ⟨rfl, congrArg Value.bool (by rw [← HcR.out]; exact (decide_eq_false (fun q => x2 q.2)).symm), rfl⟩
          · have y1 : ¬ (s : Int) < (m : Int) := by omega
            go_wp2_with fail
            all_goals (try go_meet)
            exact ⟨rfl, congrArg Value.bool (by rw [← HcR.out]; exact (decide_eq_false (fun q => x1 q.1)).symm), rfl⟩
        case rest =>
          obtain ⟨rfl, rfl, rfl⟩ := hcut
          go_upto_if 185 with fail
          go_cut [24] (fun ve wx => ve = .int .i64 e ∧ ∃ d1, Hid (DRow wx g d1) ∧ Hid (Fol (rotI s m e) d d1) ∧ Hid (PermIn a b d d1) ∧ Within g (g + 1) wo wx)
          case first => as_aux_lemma =>
            cases cR with
            | true =>
              obtain ⟨hr1, hr2⟩ := of_decide_eq_true HcR.out
              have HCR := Lib.hid (rotate_any g cap s m e (.func (.func gf) #[] lb) d wc HR.out hr1 hr2 (by omega) hsz hcap)
              go_wp2_with (go_at_call 125; refine HCR.out.mono ?_; rintro e1 w1 ⟨rfl, d1, hR1, hF1, hP1, hW1⟩)
              all_goals (try go_meet)
              exact ⟨rfl, d1, Lib.hid hR1, Lib.hid hF1, Lib.hid (PermIn.wide hP1 (by omega) (by omega) hbd), hW.on hW1⟩
            | false =>
              have hno := of_decide_eq_false HcR.out
              have HFI := Lib.hid (Fol.id d (f := rotI s m e) (fun k => rotI_none s m e k (by omega) (by omega) (by omega)))
              go_wp2_with fail
              all_goals (try go_meet)
              exact ⟨rfl, d, HR, HFI, HP0, hW⟩
          case rest =>
            clear HR hW HcR
            obtain ⟨rfl, d1, HR, HF, HP1, hW⟩ := hcut
            obtain ⟨hx, ⟨ha1, ha2⟩, ⟨hb1, hb2⟩⟩ := HX.out d1 HF.out
            have HXX := Lib.hid hx
            have HA1 := Lib.hid ha1
            have HA2 := Lib.hid ha2
            have HB1 := Lib.hid hb1
            have HB2 := Lib.hid hb2
            have HZ1 := Lib.hid (show d1.size = d.size from HP1.out.1)
            clear hx ha1 ha2 hb1 hb2 HF HX
            obtain ⟨cS, hcS⟩ : ∃ c : Bool, decide (a < s ∧ s < mid) = c := ⟨_, rfl⟩
            have HcS := Lib.hid hcS
            clear hcS
            go_upto_region 41 with fail
            go_cut [24, 199] (fun ve vb wx => ve = .int .i64 e ∧ vb = .bool cS ∧ wx = wc)
            case first => as_aux_lemma =>
              by_cases x1 : a < s
              · have y1 : (a : Int) < (s : Int) := by omega
                by_cases x2 : s < mid
                · have y2 : (s : Int) < (mid : Int) := by omega
                  go_wp2_with fail
                  all_goals (try go_meet)
                  exact ⟨rfl, congrArg Value.bool (by rw [← HcS.out]; exact (decide_eq_true ⟨x1, x2⟩).symm), rfl⟩
                · have y2 : ¬ (s : Int) < (mid : Int) := by omega
                  go_wp2_with fail
                  all_goals (try go_meet)
                  exact ⟨rfl, congrArg Value.bool (by rw [← HcS.out]; exact (decide_eq_false (fun q => x2 q.2)).symm), rfl⟩
              · have y1 : ¬ (a : Int) < (s : Int) := by omega
                go_wp2_with fail
                all_goals (try go_meet)
                exact ⟨rfl, congrArg Value.bool (by rw [← HcS.out]; exact (decide_eq_false (fun q => x1 q.1)).symm), rfl⟩
            case rest =>
              obtain ⟨rfl, rfl, rfl⟩ := hcut
              go_upto_if 199 with fail
              go_cut [24] (fun ve wx => ve = .int .i64 e ∧ ∃ d2, Hid (DRow wx g d2) ∧ Hid (SortedIn dltP a mid d2) ∧ Hid (PermIn a mid d1 d2) ∧ Within g (g + 1) wo wx)
              case first => as_aux_lemma =>
                cases cS with
                | true =>
                  obtain ⟨hr1, hr2⟩ := of_decide_eq_true HcS.out
                  have hih := IH.out a s mid d1 wc (by omega) HR.out hr1 hr2 (by rw [HZ1.out]; omega) HZ1.out HA1.out HA2.out
                  unfold Merges at hih
                  rw [HZ1.out] at hih
                  have HCR := Lib.hid hih
                  clear hih
                  go_wp2_with (go_at_call 120; refine HCR.out.mono ?_; rintro e1 w1 ⟨rfl, d2, hR1, hF1, hP1, hW1⟩)
                  all_goals (try go_meet)
                  exact ⟨rfl, d2, Lib.hid hR1, Lib.hid hF1, Lib.hid hP1, hW.on hW1⟩
                | false =>
                  have hno := of_decide_eq_false HcS.out
                  have HSI := Lib.hid (show SortedIn dltP a mid d1 by
                    by_cases q : a < s
                    · have q2 : s = mid := by omega
                      have := HA1.out
                      rwa [q2] at this
                    · have q2 : s = a := by omega
                      have := HA2.out
                      rwa [q2] at this)
                  have HPI := Lib.hid (PermIn.refl' a mid d1)
                  go_wp2_with fail
                  all_goals (try go_meet)
                  exact ⟨rfl, d1, HR, HSI, HPI, hW⟩
              case rest =>
                clear HR hW HcS HA1 HA2
                obtain ⟨rfl, d2, HR, HS2, HP2, hW⟩ := hcut
                have HZ2 := Lib.hid (show d2.size = d.size from HP2.out.1.trans HZ1.out)
                have HB3 := Lib.hid (SortedIn.out HB1.out HP2.out (.inr (Nat.le_refl _)))
                have HB4 := Lib.hid (SortedIn.out HB2.out HP2.out (.inr (by omega)))
                obtain ⟨cT, hcT⟩ : ∃ c : Bool, decide (mid < e ∧ e < b) = c := ⟨_, rfl⟩
                have HcT := Lib.hid hcT
                clear hcT
                go_upto_region 43 with fail
                go_cut [24, 213] (fun ve vb wx => ve = .int .i64 e ∧ vb = .bool cT ∧ wx = wc)
                case first => as_aux_lemma =>
                  by_cases x1 : mid < e
                  · have y1 : (mid : Int) < (e : Int) := by omega
                    by_cases x2 : e < b
                    · have y2 : (e : Int) < (b : Int) := by omega
                      go_wp2_with fail
                      all_goals (try go_meet)
                      exact ⟨rfl, congrArg Value.bool (by rw [← HcT.out]; exact (decide_eq_true ⟨x1, x2⟩).symm), rfl⟩
                    · have y2 : ¬ (e : Int) < (b : Int) := by omega
                      go_wp2_with fail
                      all_goals (try go_meet)
                      exact ⟨rfl, congrArg Value.bool (by rw [← HcT.out]; exact (decide_eq_false (fun q => x2 q.2)).symm), rfl⟩
                  · have y1 : ¬ (mid : Int) < (e : Int) := by omega
                    go_wp2_with fail
                    all_goals (try go_meet)
                    exact ⟨rfl, congrArg Value.bool (by rw [← HcT.out]; exact (decide_eq_false (fun q => x1 q.1)).symm), rfl⟩
                case rest =>
                  obtain ⟨rfl, rfl, rfl⟩ := hcut
                  as_aux_lemma =>
                  cases cT with
                  | true =>
                    obtain ⟨hr1, hr2⟩ := of_decide_eq_true HcT.out
                    have hih := IH.out mid e b d2 wc (by omega) HR.out hr1 hr2 (by rw [HZ2.out]; omega) HZ2.out HB3.out HB4.out
                    unfold Merges at hih
                    rw [HZ2.out] at hih
                    have HCR := Lib.hid hih
                    clear hih
                    go_wp2_with (go_at_call 120; refine HCR.out.mono ?_; rintro e1 w1 ⟨rfl, d3, hR1, hF1, hP1, hW1⟩)
                    go_end0
                    have hdone := merge_done hbd (by omega) (by omega) HP1.out HXX.out HS2.out HP2.out hF1 hP1
                    exact ⟨by rfl, d3, hR1, hdone.1, hdone.2, hW.on hW1⟩
                  | false =>
                    have hno := of_decide_eq_false HcT.out
                    have HSI := Lib.hid (show SortedIn dltP mid b d2 by
                      by_cases q : mid < e
                      · have q2 : e = b := by omega
                        have := HB3.out
                        rwa [q2] at this
                      · have q2 : e = mid := by omega
                        have := HB4.out
                        rwa [q2] at this)
                    go_wp2
                    go_end0
                    have hdone := merge_done hbd (by omega) (by omega) HP1.out HXX.out HS2.out HP2.out HSI.out (PermIn.refl' mid b d2)
                    exact ⟨by rfl, d2, HR.out, hdone.1, hdone.2, hW⟩
/- slices.SortStableFunc at fewer than 40 devices. -/
theorem symMerge_any (gf : Nat) (lb : Array Value) (eg : ∀ args w, (callFunc gf args).run Tryz.prog w = .ok (.enter gf args) w) (hc : DCmp gf lb) (g cap : Nat) : ∀ (N a m b : Nat) (d : Array (Dv × Nat)) (w : World), b - a ≤ N → DRow w g d → a < m → m < b → b ≤ d.size → d.size ≤ 1000 → d.size ≤ cap → SortedIn dltP a m d → SortedIn dltP m b d → Merges gf lb g cap a m b d w
  | 0, a, m, b, d, w, hN, h, h1, h2, _, _, _, _, _ => by omega
  | N + 1, a, m, b, d, w, hN, h, h1, h2, h3, h4, h5, h6, h7 => by
    by_cases q1 : m = a + 1
    · exact symMerge_first gf lb eg hc g cap a m b d w h q1 h2 h3 h4 h5 (by rw [← q1]; exact h7)
    · by_cases q2 : b = m + 1
      · exact symMerge_last gf lb eg hc g cap a m b d w h q2 (by omega) h3 h4 h5 h6
      · exact symMerge_mid gf lb eg hc g cap a m b d w h (by omega) (by omega) h3 h4 h5 h6 h7 (fun a' m' b' d' w' e1 e2 e3 e4 e5 e6 e7 e8 => symMerge_any gf lb eg hc g cap N a' m' b' d' w' (by omega) e2 e3 e4 e5 (by omega) (by omega) e7 e8)
set_option maxRecDepth 100000 in
set_option maxHeartbeats 4000000 in
theorem stable_any (gf : Nat) (lb : Array Value) (eg : ∀ args w, (callFunc gf args).run Tryz.prog w = .ok (.enter gf args) w) (hc : DCmp gf lb) (g cap n : Nat) (d : Array (Dv × Nat)) (w : World) (h : DRow w g d) (hn : d.size = n) (hsz : n < 40) (hcap : n ≤ cap) :
    Calls Tryz.prog 101 #[.slice (some ⟨g, 0, none⟩) n cap, .int .i64 n, .func (.func gf) #[] lb] w fun e w' =>
      e = .returned (.tuple #[]) ∧ ∃ d', DRow w' g d' ∧ SortedIn dltP 0 n d' ∧ PermIn 0 n d d' ∧ Within g (g + 1) w w' := by
  by_cases hlt : n < 20
  · have HI := Lib.hid (insSort_any gf lb eg hc g cap 0 n d w h (by omega) (by omega) (by omega) (by omega))
    rw [hn] at HI
    have i1 : ¬ (20 : Int) ≤ (n : Int) := by omega
    have i2 : ¬ (20 : Int) < (n : Int) := by omega
    clear h hc
    have HN := Lib.hid hn
    clear hn
    go_enter Tryz.func101, Tryz.ntmps101
    go_wp2
    refine wp_loop_rounds 1 ?_
    rw [rounds_succ]
    go_wp2_with (go_at_call 119; refine HI.out.mono ?_; rintro e w1 ⟨rfl, d1, hR1, hS1, hP1, hW1⟩)
    refine wp_loop_rounds 1 ?_
    rw [rounds_succ]
    go_wp2
    go_end0
    exact ⟨by rfl, d1, hR1, hS1, hP1, hW1⟩
  · have H1 := Lib.hid (insSort_any gf lb eg hc g cap 0 20 d w h (by omega) (by omega) (by omega) (by omega))
    have H2 := Lib.hid (fun d1 w1 (hR : DRow w1 g d1) (hz : d1.size = n) => by
      have := insSort_any gf lb eg hc g cap 20 n d1 w1 hR (by omega) (by omega) (by omega) (by omega)
      rw [hz] at this
      exact this)
    have H3 := Lib.hid (fun d1 w1 (hR : DRow w1 g d1) (hz : d1.size = n) (hq : 20 < n) (hs1 : SortedIn dltP 0 20 d1) (hs2 : SortedIn dltP 20 n d1) => by
      have := symMerge_any gf lb eg hc g cap (n - 0) 0 20 n d1 w1 (Nat.le_refl _) hR (by omega) hq (by omega) (by omega) (by omega) hs1 hs2
      unfold Merges at this
      rw [hz] at this
      exact this)
    rw [hn] at H1
    have i1 : (20 : Int) ≤ (n : Int) := by omega
    have i2 : ¬ (40 : Int) ≤ (n : Int) := by omega
    have i3 : ¬ (40 : Int) < (n : Int) := by omega
    clear h hc
    have HN := Lib.hid hn
    clear hn
    go_enter Tryz.func101, Tryz.ntmps101
    go_wp2
    refine wp_loop_rounds 2 ?_
    rw [rounds_succ]
    go_wp2_with (go_at_call 119; refine H1.out.mono ?_; rintro e w1 ⟨rfl, d1, hR1, hS1, hP1, hW1⟩)
    have HR1 := Lib.hid hR1
    have HS1 := Lib.hid hS1
    have HP1 := Lib.hid hP1
    have HZ1 := Lib.hid (hP1.1.trans HN.out)
    clear hR1 hS1 hP1 H1
    rw [rounds_succ]
    go_wp2_with (go_at_call 119; refine (H2.out d1 w1 HR1.out HZ1.out).mono ?_; rintro e w2 ⟨rfl, d2, hR2, hS2, hP2, hW2⟩)
    have HR2 := Lib.hid hR2
    have HS2 := Lib.hid hS2
    have HP2 := Lib.hid hP2
    have HZ2 := Lib.hid (hP2.1.trans HZ1.out)
    have HS3 := Lib.hid (SortedIn.out HS1.out hP2 (.inl (Nat.le_refl _)))
    have HP3 := Lib.hid (PermIn.on (PermIn.wide HP1.out (Nat.le_refl _) (show 20 ≤ n by omega) (by rw [HN.out]; exact Nat.le_refl _)) (PermIn.wide hP2 (Nat.zero_le _) (Nat.le_refl _) (by rw [HZ1.out]; exact Nat.le_refl _)))
    clear hR2 hS2 hP2
    by_cases hq : 20 < n
    · have i4 : (20 : Int) < (n : Int) := by omega
      refine wp_loop_rounds 2 ?_
      rw [rounds_succ]
      go_wp2
      refine wp_loop_rounds 1 ?_
      rw [rounds_succ]
      go_wp2_with (go_at_call 120; refine (H3.out d2 w2 HR2.out HZ2.out hq HS3.out HS2.out).mono ?_; rintro e w3 ⟨rfl, d3, hR3, hS3, hP3, hW3⟩)
      rw [rounds_succ]
      go_wp2
      go_end0
      exact ⟨by rfl, d3, hR3, hS3, PermIn.on HP3.out hP3, (hW1.on hW2).on hW3⟩
    · have hn20 : n = 20 := by omega
      have HS4 := Lib.hid (show SortedIn dltP 0 n d2 by rw [hn20]; exact HS3.out)
      have i4 : ¬ (20 : Int) < (n : Int) := by omega
      clear hn20
      refine wp_loop_rounds 1 ?_
      rw [rounds_succ]
      go_wp2
      go_end0
      exact ⟨by rfl, d2, HR2.out, HS4.out, HP3.out, hW1.on hW2⟩
/- slices.SortStableFunc at fewer than 40 devices: as a whole. -/
set_option maxRecDepth 100000 in
set_option maxHeartbeats 1000000 in
theorem insSort_none (gf : Nat) (lb : Array Value) (a : Option Addr) (c : Nat) (w : World) :
    Calls Tryz.prog 119 #[.slice a 0 c, .int .i64 0, .int .i64 0, .func (.func gf) #[] lb] w fun e w' => e = .returned (.tuple #[]) ∧ w = w' := by
  go_enter Tryz.func119, Tryz.ntmps119
  go_wp2
  refine wp_loop_rounds 1 ?_
  rw [rounds_succ]
  go_wp2
  go_end0
  exact ⟨by rfl, by rfl⟩
set_option maxRecDepth 100000 in
set_option maxHeartbeats 1000000 in
theorem stable_none (gf : Nat) (lb : Array Value) (a : Option Addr) (c : Nat) (w : World) :
    Calls Tryz.prog 101 #[.slice a 0 c, .int .i64 0, .func (.func gf) #[] lb] w fun e w' => e = .returned (.tuple #[]) ∧ w = w' := by
  go_enter Tryz.func101, Tryz.ntmps101
  go_wp2
  refine wp_loop_rounds 1 ?_
  rw [rounds_succ]
  go_wp2_with (go_at_call 119; refine (insSort_none gf lb a c _).mono ?_; rintro e w1 ⟨rfl, rfl⟩)
  refine wp_loop_rounds 1 ?_
  rw [rounds_succ]
  go_wp2
  go_end0
  exact ⟨by rfl, by rfl⟩
set_option maxRecDepth 100000 in
set_option maxHeartbeats 4000000 in
theorem sortStableD_any (gf : Nat) (lb : Array Value) (eg : ∀ args w, (callFunc gf args).run Tryz.prog w = .ok (.enter gf args) w) (hc : DCmp gf lb) (lo hi : Nat) (sv : Value) (ds : List Dv) (w : World) (h : OwnDs w lo hi sv ds) (hsz : ds.length < 40) :
    Calls Tryz.prog 61 #[sv, .func (.func gf) #[] lb] w fun e w' => e = .returned (.tuple #[]) ∧ OwnDs w' lo hi sv (srtD ds) ∧ Within lo hi w w' := by
  by_cases h0 : ds = []
  · subst h0
    have HO := Lib.hid h
    obtain ⟨a, c, rfl⟩ := h.sl.sized
    clear h
    have e0 : srtD [] = [] := by simp [srtD]
    rw [e0]
    go_enter Tryz.func61, Tryz.ntmps61
    go_wp2_with (go_at_call 101; refine (stable_none gf lb a c _).mono ?_; rintro e w1 ⟨rfl, rfl⟩)
    go_end0
    exact ⟨by rfl, HO.out, Within.refl _ _ _⟩
  · obtain ⟨g, cap, d, rfl, hdz, hg, h1, h2, hR, hds, hnd, hbd⟩ := h.row h0
    have HI := Lib.hid (stable_any gf lb eg hc g cap d.size d w hR rfl (by omega) (by omega))
    have HD := Lib.hid (fun w' d' a b c => @DRow.sorted w' g d d' lo hi cap ds a b c hds hg h1 h2 hnd hbd)
    have HSZ := Lib.hid (show g < hi by omega)
    have HG := Lib.hid hg
    clear h hR hdz hds hnd hbd h1 h2 hsz hg
    generalize d.size = n at *
    go_enter Tryz.func61, Tryz.ntmps61
    go_wp2_with (go_at_call 101; refine HI.out.mono ?_; rintro e w1 ⟨rfl, d1, hR1, hS1, hP1, hW1⟩)
    go_end0
    exact ⟨by rfl, HD.out w1 d1 hR1 hP1 hS1, hW1.sub HG.out.1 (by have := HG.out.2; omega)⟩
abbrev Tr := Dv × Value × Nat
def tcell (t : Tr) : List Value := [.int .i64 t.1.kind, t.2.1, .int .i64 t.1.wd, .int .i64 t.1.len]
def tcells (L : List Tr) : List Value := L.flatMap tcell
theorem tcells_append (L M : List Tr) : tcells (L ++ M) = tcells L ++ tcells M := List.flatMap_append
theorem tcells_get (L : List Tr) (i : Nat) (t : Tr) (h : L[i]? = some t) : (tcells L)[i * 4]? = some (.int .i64 t.1.kind) ∧ (tcells L)[i * 4 + 1]? = some t.2.1 ∧ (tcells L)[i * 4 + 2]? = some (.int .i64 t.1.wd) ∧ (tcells L)[i * 4 + 3]? = some (.int .i64 t.1.len) := by
  induction L generalizing i with
  | nil => simp at h
  | cons y ys ih =>
    cases i with
    | zero => simp at h; subst h; exact ⟨rfl, rfl, rfl, rfl⟩
    | succ i =>
      simp at h
      have e : ∀ r, (tcells (y :: ys))[(i + 1) * 4 + r]? = (tcells ys)[i * 4 + r]? := by
        intro r
        show (Value.int .i64 y.1.kind :: y.2.1 :: Value.int .i64 y.1.wd :: Value.int .i64 y.1.len :: tcells ys)[(i + 1) * 4 + r]? = _
        rw [show (i + 1) * 4 + r = (i * 4 + r) + 1 + 1 + 1 + 1 by omega]
        simp only [List.getElem?_cons_succ]
      have e0 := e 0
      simp only [Nat.add_zero] at e0
      rw [e0, e 1, e 2, e 3]
      exact ih i h
def Out (w : World) (lo : Nat) (v : Value) (L : List Tr) : Prop := lo ≤ w.heap.size ∧ w.ownsRow lo 46 4 v L.length (tcells L) ∧
  (∀ t ∈ L, (OwnR w t.2.2 (t.2.2 + 1) t.2.1 t.1.pins ∧ lo ≤ t.2.2 ∧ t.2.2 < w.heap.size) ∧ v.ownBlock ≠ some t.2.2) ∧ (L.map (·.2.2)).Nodup
section
variable {w w' : World} {lo : Nat} {v : Value} {L : List Tr}
theorem Out.by (hb : Below w.heap.size w w') (h : Out w lo v L) : Out w' lo v L := by
  obtain ⟨h0, h1, h2, h3⟩ := h
  refine ⟨Nat.le_trans h0 hb.size, row_same h1 (fun g hg => hb.block g (h1.lt g hg).2), fun t ht => ?_, h3⟩
  obtain ⟨⟨a, b, c⟩, d⟩ := h2 t ht
  exact ⟨⟨OwnR.by hb a, b, Nat.lt_of_lt_of_le c hb.size⟩, d⟩
theorem Out.sized (h : Out w lo v L) : ∃ a c, v = .slice a L.length c := by
  obtain ⟨_, ⟨_, h1⟩, _⟩ := h
  rcases h1 with ⟨h1, h2⟩ | ⟨g, cap, cur, e1, _⟩
  · exact ⟨none, 0, by rw [h1, h2]⟩
  · exact ⟨_, _, e1⟩
theorem row_cur {g cap n : Nat} {cur : Array Value} {xs : List Value} (e7 : cur.toList.take (n * 4) = xs) : ∀ (j : Nat) u, xs[j]? = some u → cur[j]? = some u := by
  intro j u hu
  rw [← e7] at hu
  have hj : j < n * 4 := by
    have := (List.getElem?_eq_some_iff.1 hu).1
    rw [List.length_take] at this; omega
  rw [List.getElem?_take_of_lt hj] at hu
  simpa using hu
theorem Out.own (h : Out w lo v L) : OwnDs w lo w.heap.size v (L.map (·.1)) := by
  obtain ⟨h0, ⟨hlen, h1⟩, h2, h3⟩ := h
  rcases h1 with ⟨h1, hn⟩ | ⟨g, cap, cur, e1, e2, e3, e4, e5, e6, e7⟩
  · exact .inl ⟨_, _, h1, by rw [List.eq_nil_of_length_eq_zero hn]; rfl⟩
  · have hcur := row_cur (g := g) (cap := cap) e7
    have hgl : g < w.heap.size := (Array.getElem?_eq_some_iff.1 e3).1
    refine .inr ⟨g, cap, cur, fun i => (L.getD i default).2.2, by simpa using e1, ⟨e2, hgl⟩, by simpa using e4, e5, e3, fun i x hx => ?_, fun i j hi hj hij => ?_⟩
    · rw [List.getElem?_map] at hx
      obtain ⟨t, ht, rfl⟩ : ∃ t, L[i]? = some t ∧ t.1 = x := by
        cases h : L[i]? with
        | none => rw [h] at hx; simp at hx
        | some t => rw [h] at hx; exact ⟨t, rfl, by simpa using hx⟩
      have hgD : L.getD i default = t := by simp [ht]
      dsimp only
      rw [hgD]
      obtain ⟨⟨a, b, c⟩, d⟩ := h2 t (List.mem_of_getElem? ht)
      obtain ⟨q0, q1, q2, q3⟩ := tcells_get L i t ht
      exact ⟨⟨t.2.1, ⟨hcur _ _ q0, hcur _ _ q1, hcur _ _ q2, hcur _ _ q3⟩, a⟩, b, c, fun e => d (by rw [e1, e]; rfl)⟩
    · simp at hi hj
      have hn := List.pairwise_iff_getElem.1 (List.nodup_iff_pairwise_ne.1 h3)
      have e1 : L.getD i default = L[i] := by simp [hi]
      have e2 : L.getD j default = L[j] := by simp [hj]
      dsimp only
      rw [e1, e2]
      rcases Nat.lt_or_gt_of_ne hij with h | h
      · have := hn i j (by simpa using hi) (by simpa using hj) h
        simpa using this
      · have := hn j i (by simpa using hj) (by simpa using hi) h
        simpa using this.symm
theorem Out.one (h : Out w lo v L) : ∀ t ∈ L, t.2.1.oneCell' = true := by
  intro t ht
  obtain ⟨⟨a, b, c⟩, d⟩ := h.2.2.1 t ht
  rcases a with ⟨_, _, e, _⟩ | ⟨_, _, _, e, _⟩ <;> rw [e] <;> rfl
end
/- The program's SortDevices. -/
def sortS (x : Nl) : Nl := ⟨x.nets, srtD x.ds, x.ps⟩
theorem ownNl_nil (w : World) (lo hi : Nat) (h : lo ≤ hi) : OwnNl w lo hi (.agg #[.int .i64 0, .slice none 0 0, .slice none 0 0]) ⟨0, [], []⟩ :=
  ⟨_, _, lo, hi, hi, hi, rfl, .inl ⟨_, _, rfl, rfl⟩, .inl ⟨_, _, rfl, rfl⟩, ⟨Nat.le_refl _, Nat.le_refl _⟩, ⟨h, Nat.le_refl _⟩, .inl (Nat.le_refl _)⟩
theorem dcmp_impl : DCmp 62 #[] := fun W x y sx sy hx hy => compareDevices_any x.kind x.wd x.len y.kind y.wd y.len sx sy x.pins y.pins W hx hy
set_option maxRecDepth 100000 in
set_option maxHeartbeats 4000000 in
theorem implSorted_any (x : Nl) (v : Value) (w : World) (h : NlV w v x) (hl : x.ds.length < 40) (hpl : x.ps.length ≤ 1048576) (hpn : ∀ d ∈ x.ds, d.pins.length ≤ 1048576 ∧ d.pins ≠ []) :
    Calls Tryz.prog 28 #[v] w fun e w' => ∃ v', e = .returned v' ∧ OwnNl w' w.heap.size w'.heap.size v' (sortS x) ∧ Below w.heap.size w w' := by
  have HN := Lib.hid h
  have HCP := Lib.hid (fun v w h => copyNetlist_any x v w h (by omega) hpl hpn)
  have HDL := Lib.hid (fun lo hi sv w (h : OwnDs w lo hi sv x.ds) => sortStableD_any 62 #[] (fun _ _ => rfl) dcmp_impl lo hi sv x.ds w h hl)
  obtain ⟨a, c, a', c', rfl⟩ := h.sized
  obtain ⟨nets, ds, ps⟩ := x
  dsimp only [sortS] at HN HCP HDL hl hpl ⊢
  have hsl : (srtD ds).length = ds.length := length_srtD ds
  have HSL := Lib.hid hsl
  clear h hpn hsl
  go_enter Tryz.func28, Tryz.ntmps28
  go_wp2_with fail
  refine (HCP.out _ _ (HN.out.by blwT)).mono ?_
  rintro e w2 ⟨v2, rfl, hO, hb2⟩
  obtain ⟨s1, s2, lo1, hi1, lo2, hi2, rfl, hOD, hOP, hi1', hi2', hap⟩ := hO
  have k1 : Blk w2 (w.heap.size + 1) #[.int .i64 0, .slice none 0 0, .slice none 0 0] 27 := blkT
  have hB2 : Below w.heap.size w w2 := blwT
  have hsz2 := hb2.size
  simp only [World.size_alloc] at hsz2 hi1' hi2'
  obtain ⟨a1, c1, rfl⟩ := hOD.sl.sized
  obtain ⟨a2, c2, rfl⟩ := hOP.sl.sized
  dsimp only at hOD hOP
  have HOD := Lib.hid hOD
  have HOP := Lib.hid hOP
  clear hb2 hOD hOP HN HCP
  have c1' := k1.cell
  have l1 := k1.lt
  go_wp2_with (go_at_call 61; refine (HDL.out lo1 hi1 _ _ (HOD.out.by blwT)).mono ?_; rintro e w3 ⟨rfl, hO3, hw3⟩; have k3 : Blk w3 w2.heap.size #[.int .i64 nets, .slice a1 ds.length c1, .slice a2 ps.length c2] 27 := hw3.blk (Blk.new _ rfl) (by omega); have k1' := hw3.blk (k1.past _) (by omega); have c3' := k3.cell; have f3' := k3.free; have c1'' := k1'.cell; have f1'' := k1'.free; have hne : ¬ w2.heap.size = w.heap.size + 1 := (by omega))
  have hsz3 := hw3.size
  simp only [World.size_alloc] at hsz3
  have hB3 : Below w.heap.size w w3 := hw3.below (below_al hB2 (.cells #[.int .i64 nets, .slice a1 ds.length c1, .slice a2 ps.length c2] 27)) (by omega)
  have hOP3 := (HOP.out.by ((Below.refl _ w2).alloc (Nat.le_refl _) (.cells #[.int .i64 nets, .slice a1 ds.length c1, .slice a2 ps.length c2] 27))).past hw3 (by omega)
  refine bodyPost_ret (v := .agg #[.int .i64 nets, .slice a1 ds.length c1, .slice a2 ps.length c2]) (by simp [results, Tryz.results28, go_sem, *]) rfl ⟨_, rfl, ⟨_, _, lo1, hi1, lo2, hi2, rfl, ?_, ?_, ⟨by omega, by simp; omega⟩, ⟨by omega, by simp; omega⟩, hap⟩, ?_⟩
  · exact (((hO3.past (Within.off _) (by omega)).past (Within.off _) (by omega)).past (Within.off _) (by omega))
  · exact (((hOP3.past (Within.off _) (by omega)).past (Within.off _) (by omega)).past (Within.off _) (by omega))
  · repeat (first | (with_reducible exact hB3) | ((with_reducible refine Below.setCell ?_ ?_ _); rotate_left; focus (simp; try omega)))
/- Bounds of what SortDevices answers. -/
def ZBld (w : World) (g n c : Nat) (ds : List Dv) : Prop := w.ownsRow 0 46 4 (.slice (some ⟨g, 0, none⟩) n c) ds.length (dcells ds (ds.map fun _ => Value.slice none 0 0)) ∧ ds.length = n ∧ (∀ d ∈ ds, d.pins = []) ∧ g < w.heap.size
section
variable {w w' : World} {g n c : Nat} {ds : List Dv}
theorem ZBld.by (hb : Below w.heap.size w w') (h : ZBld w g n c ds) : ZBld w' g n c ds := by
  obtain ⟨h1, h2, h3, h4⟩ := h
  refine ⟨row_same h1 (fun g' hg' => ?_), h2, h3, Nat.lt_of_lt_of_le h4 hb.size⟩
  have : g = g' := by injection hg'
  subst this
  exact hb.block g h4
theorem ZBld.keep {g0 : Nat} (hgr : w.grownBy w' (some g0)) (hne : g ≠ g0) (h : ZBld w g n c ds) : ZBld w' g n c ds := by
  obtain ⟨h1, h2, h3, h4⟩ := h
  refine ⟨row_same h1 (fun g' hg' => ?_), h2, h3, Nat.lt_of_lt_of_le h4 hgr.size⟩
  have : g = g' := by injection hg'
  subst this
  exact hgr.block g h4 (fun e => hne (Option.some.inj e))
theorem ZBld.lit (h : Blk w g #[] 46) : ZBld w g 0 0 [] :=
  ⟨⟨rfl, .inr ⟨g, 0, #[], rfl, Nat.zero_le _, h, Nat.le_refl _, by unfold maxLen; omega, rfl, rfl⟩⟩, rfl, by simp, h.lt⟩
theorem ZBld.sl (h : ZBld w g n c ds) : DvSl w (.slice (some ⟨g, 0, none⟩) n c) ds := by
  obtain ⟨⟨hlen, h1⟩, h2, h3, h4⟩ := h
  rcases h1 with ⟨h1, hn⟩ | ⟨g', cap, cur, e1, e2, e3, e4, e5, e6, e7⟩
  · cases h1
  · obtain ⟨rfl, rfl⟩ : g = g' ∧ c = cap := by
      simp only [Value.slice.injEq, Option.some.injEq, Addr.mk.injEq, and_true] at e1
      exact ⟨e1.1, e1.2.2⟩
    refine .inr ⟨g, 0, c, by rw [h2], e4, e5, fun i x hx => ?_⟩
    have hil : i < ds.length := (List.getElem?_eq_some_iff.1 hx).1
    obtain ⟨q0, q1, q2, q3⟩ := dcells_get ds (ds.map fun _ => Value.slice none 0 0) i x (.slice none 0 0) hx (by rw [List.getElem?_map, hx]; rfl)
    have hB : Blk w g cur 46 := e3
    have at_ : ∀ j u, (dcells ds (ds.map fun _ => Value.slice none 0 0))[j]? = some u → w.cell? ⟨g, j, none⟩ = some u := fun j u hu => by
      rw [hB.cell]
      rw [← e7] at hu
      have hj : j < ds.length * 4 := by
        have := (List.getElem?_eq_some_iff.1 hu).1
        rw [List.length_take] at this; omega
      rw [List.getElem?_take_of_lt hj] at hu
      simpa using hu
    simp only [Nat.zero_add]
    exact ⟨.slice none 0 0, at_ _ _ q0, at_ _ _ q1, at_ _ _ q2, at_ _ _ q3, .inl ⟨_, _, rfl, h3 x (List.mem_of_getElem? hx)⟩⟩
end
theorem keep_blk {w w' : World} {b g : Nat} {cs : Array Value} {T : TypeId} (hgr : w.grownBy w' (some g)) (h : Blk w b cs T) (hne : b ≠ g) : Blk w' b cs T :=
  (hgr.block b h.lt (fun e => hne (Option.some.inj e))).trans h
end Go.Proofs.YtacbdmngcdhgoaaGreat
