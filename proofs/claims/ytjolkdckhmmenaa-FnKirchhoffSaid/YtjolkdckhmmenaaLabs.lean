/- The classes of nodes that some edges connect, each told by its least node: plain. -/
import Derived.Test.YtjolkdckhmmenaaBase
import Derived.Test.YtjolkdckhmmenaaNetV
namespace Go.Proofs.Ytjolkdckhmmenaa
open Go.RowKit
set_option linter.unusedVariables false
set_option linter.unusedSimpArgs false

/-- The labels after an edge between p and q. -/
def mrgF (L : Nat → Nat) (p q : Nat) : Nat → Nat := fun v => if L v = max (L p) (L q) then min (L p) (L q) else L v
/-- The labels after the first edges, those that are on. -/
def selF (E : Nat → Nat × Nat) (on : Nat → Bool) : Nat → Nat → Nat
  | 0 => fun v => v
  | k + 1 => if on k = true then mrgF (selF E on k) (E k).1 (E k).2 else selF E on k
theorem selF_on {E : Nat → Nat × Nat} {on : Nat → Bool} {k : Nat} (h : on k = true) : selF E on (k + 1) = mrgF (selF E on k) (E k).1 (E k).2 := by simp only [selF, if_pos h]
theorem selF_off {E : Nat → Nat × Nat} {on : Nat → Bool} {k : Nat} (h : ¬ on k = true) : selF E on (k + 1) = selF E on k := by simp only [selF, if_neg h]

theorem mrgF_same {L : Nat → Nat} {p q : Nat} (h : L p = L q) : mrgF L p q = L := by
  funext v; unfold mrgF; split <;> omega
theorem mrgF_keep {L : Nat → Nat} {p q u v : Nat} (h : L u = L v) : mrgF L p q u = mrgF L p q v := by unfold mrgF; rw [h]
theorem mrgF_ends (L : Nat → Nat) (p q : Nat) : mrgF L p q p = mrgF L p q q := by
  unfold mrgF
  by_cases h1 : L p = max (L p) (L q) <;> by_cases h2 : L q = max (L p) (L q)
  · rw [if_pos h1, if_pos h2]
  · rw [if_pos h1, if_neg h2]; omega
  · rw [if_neg h1, if_pos h2]; omega
  · omega
theorem selF_edge {E : Nat → Nat × Nat} {on : Nat → Bool} {m i : Nat} (hi : i < m) (h : on i = true) : selF E on m (E i).1 = selF E on m (E i).2 := by
  induction m with
  | zero => omega
  | succ k ih =>
    by_cases hk : on k = true
    · rw [selF_on hk]
      by_cases e : i = k
      · subst e; exact mrgF_ends _ _ _
      · exact mrgF_keep (ih (by omega))
    · rw [selF_off hk]
      exact ih (by
        rcases Nat.lt_or_ge i k with h' | h'
        · exact h'
        · have : i = k := by omega
          subst this; exact absurd h hk)
/-- Nothing else is connected: whatever the edges keep, the classes keep. -/
theorem selF_min {α : Type} {E : Nat → Nat × Nat} {on : Nat → Bool} (f : Nat → α) {m : Nat} (h : ∀ i, i < m → on i = true → f (E i).1 = f (E i).2) : ∀ u v, selF E on m u = selF E on m v → f u = f v := by
  induction m with
  | zero => intro u v e; simp only [selF] at e; rw [e]
  | succ k ih =>
    have ih' := ih (fun i hi => h i (by omega))
    intro u v e
    by_cases hk : on k = true
    · rw [selF_on hk] at e
      have he := h k (by omega) hk
      unfold mrgF at e
      by_cases h1 : selF E on k u = max (selF E on k (E k).1) (selF E on k (E k).2) <;> by_cases h2 : selF E on k v = max (selF E on k (E k).1) (selF E on k (E k).2)
      · exact ih' u v (h1.trans h2.symm)
      · rw [if_pos h1, if_neg h2] at e
        rcases Nat.le_total (selF E on k (E k).1) (selF E on k (E k).2) with hl | hl
        · rw [ih' u (E k).2 (by omega), ← ih' (E k).1 v (by omega), he]
        · rw [ih' u (E k).1 (by omega), ← ih' (E k).2 v (by omega), he]
      · rw [if_neg h1, if_pos h2] at e
        rcases Nat.le_total (selF E on k (E k).1) (selF E on k (E k).2) with hl | hl
        · rw [ih' v (E k).2 (by omega), ← ih' (E k).1 u (by omega), he]
        · rw [ih' v (E k).1 (by omega), ← ih' (E k).2 u (by omega), he]
      · rw [if_neg h1, if_neg h2] at e
        exact ih' u v e
    · rw [selF_off hk] at e
      exact ih' u v e
theorem selF_facts (E : Nat → Nat × Nat) (on : Nat → Bool) (m : Nat) : ∀ v, selF E on m (selF E on m v) = selF E on m v ∧ selF E on m v ≤ v := by
  induction m with
  | zero => intro v; exact ⟨rfl, Nat.le_refl _⟩
  | succ k ih =>
    by_cases hk : on k = true
    · rw [selF_on hk]
      intro v
      have i1 := ih v
      have i2 := (ih (E k).1).1
      have i3 := (ih (E k).2).1
      unfold mrgF
      by_cases h1 : selF E on k v = max (selF E on k (E k).1) (selF E on k (E k).2)
      · simp only [if_pos h1]
        have e : selF E on k (min (selF E on k (E k).1) (selF E on k (E k).2)) = min (selF E on k (E k).1) (selF E on k (E k).2) := by
          rcases Nat.le_total (selF E on k (E k).1) (selF E on k (E k).2) with hl | hl
          · rw [Nat.min_eq_left hl]; exact i2
          · rw [Nat.min_eq_right hl]; exact i3
        rw [e]
        refine ⟨?_, by omega⟩
        split <;> omega
      · simp only [if_neg h1, i1.1]
        exact ⟨trivial, i1.2⟩
    · rw [selF_off hk]; exact ih
theorem selF_idem (E : Nat → Nat × Nat) (on : Nat → Bool) (m v : Nat) : selF E on m (selF E on m v) = selF E on m v := (selF_facts E on m v).1
theorem selF_le (E : Nat → Nat × Nat) (on : Nat → Bool) (m v : Nat) : selF E on m v ≤ v := (selF_facts E on m v).2
/-- Two sets of edges of which each connects what the other one has, connect the same. -/
theorem selF_eq {E E' : Nat → Nat × Nat} {on on' : Nat → Bool} {m m' : Nat} (h1 : ∀ i, i < m → on i = true → selF E' on' m' (E i).1 = selF E' on' m' (E i).2) (h2 : ∀ i, i < m' → on' i = true → selF E on m (E' i).1 = selF E on m (E' i).2) : selF E on m = selF E' on' m' := by
  funext v
  have a := selF_min (E := E) (on := on) (m := m) (selF E' on' m') h1 _ _ (selF_idem E on m v)
  have b := selF_min (E := E') (on := on') (m := m') (selF E on m) h2 _ _ (selF_idem E' on' m' v)
  have c := selF_le E' on' m' (selF E on m v)
  have d := selF_le E on m (selF E' on' m' v)
  omega

/-- The number of classes among the first n nodes. -/
def rootsF (L : Nat → Nat) : Nat → Nat
  | 0 => 0
  | n + 1 => rootsF L n + if L n = n then 1 else 0
/-- The number of edges that are on. -/
def cntF (on : Nat → Bool) : Nat → Nat
  | 0 => 0
  | k + 1 => cntF on k + if on k = true then 1 else 0
theorem cntF_le (on : Nat → Bool) (m : Nat) : cntF on m ≤ m := by
  induction m with
  | zero => exact Nat.le_refl _
  | succ k ih => simp only [cntF]; split <;> omega
theorem rootsF_le (L : Nat → Nat) (n : Nat) : rootsF L n ≤ n := by
  induction n with
  | zero => exact Nat.le_refl _
  | succ k ih => simp only [rootsF]; split <;> omega
theorem rootsF_congr {L L' : Nat → Nat} {n : Nat} (h : ∀ v, v < n → (L' v = v ↔ L v = v)) : rootsF L' n = rootsF L n := by
  induction n with
  | zero => rfl
  | succ k ih =>
    simp only [rootsF]
    rw [ih (fun v hv => h v (by omega))]
    have := h k (by omega)
    by_cases e : L k = k
    · rw [if_pos e, if_pos (this.2 e)]
    · rw [if_neg e, if_neg (fun q => e (this.1 q))]
theorem rootsF_less {L L' : Nat → Nat} {M n : Nat} (hM : L M = M) (hn : M < n) (h : ∀ v, (L' v = v ↔ L v = v ∧ v ≠ M)) : rootsF L' n + 1 = rootsF L n := by
  induction n with
  | zero => omega
  | succ k ih =>
    simp only [rootsF]
    have hk := h k
    by_cases e : M = k
    · subst e
      rw [rootsF_congr (L := L) (L' := L') (fun v hv => by rw [h v]; exact ⟨fun q => q.1, fun q => ⟨q, by omega⟩⟩), if_pos hM, if_neg (fun q => (hk.1 q).2 rfl)]
    · have := ih (by omega)
      by_cases e2 : L k = k
      · rw [if_pos e2, if_pos (hk.2 ⟨e2, fun q => e q.symm⟩)]; omega
      · rw [if_neg e2, if_neg (fun q => e2 (hk.1 q).1)]; omega
theorem roots_id (n : Nat) : rootsF (fun v => v) n = n := by
  induction n with
  | zero => rfl
  | succ k ih => simp only [rootsF, ih, if_true]
theorem mrgF_roots {L : Nat → Nat} {p q n : Nat} (hL : ∀ v, L (L v) = L v ∧ L v ≤ v) (hp : p < n) (hq : q < n) (h : L p ≠ L q) : rootsF (mrgF L p q) n + 1 = rootsF L n := by
  have ip := hL p
  have iq := hL q
  have hM : L (max (L p) (L q)) = max (L p) (L q) := by
    rcases Nat.le_total (L p) (L q) with hl | hl
    · rw [Nat.max_eq_right hl]; exact iq.1
    · rw [Nat.max_eq_left hl]; exact ip.1
  have hm : L (min (L p) (L q)) = min (L p) (L q) := by
    rcases Nat.le_total (L p) (L q) with hl | hl
    · rw [Nat.min_eq_left hl]; exact ip.1
    · rw [Nat.min_eq_right hl]; exact iq.1
  refine rootsF_less hM (by omega) (fun v => ?_)
  unfold mrgF
  by_cases e : L v = max (L p) (L q)
  · rw [if_pos e]
    constructor
    · intro e2; rw [← e2, hm] at e; omega
    · rintro ⟨e2, e3⟩; omega
  · rw [if_neg e]
    constructor
    · intro e2; exact ⟨e2, fun e3 => e (by rw [e3]; exact hM)⟩
    · intro e2; exact e2.1
theorem roots_step {E : Nat → Nat × Nat} {on : Nat → Bool} {k n : Nat} (hE : (E k).1 < n ∧ (E k).2 < n) : rootsF (selF E on k) n ≤ rootsF (selF E on (k + 1)) n + (if on k = true then 1 else 0) := by
  by_cases hk : on k = true
  · rw [selF_on hk, if_pos hk]
    by_cases e : selF E on k (E k).1 = selF E on k (E k).2
    · rw [mrgF_same e]; omega
    · have := mrgF_roots (selF_facts E on k) hE.1 hE.2 e; omega
  · rw [selF_off hk, if_neg hk]; omega
/-- The classes and the edges are at least as many as the nodes. -/
theorem roots_ge {E : Nat → Nat × Nat} (on : Nat → Bool) {m n : Nat} (hE : ∀ i, i < m → (E i).1 < n ∧ (E i).2 < n) : n ≤ rootsF (selF E on m) n + cntF on m := by
  induction m with
  | zero => simp only [cntF, selF, roots_id]; omega
  | succ k ih =>
    have := ih (fun i hi => hE i (by omega))
    have := roots_step (E := E) (on := on) (hE k (by omega))
    simp only [cntF]; omega
/-- A forest: without any of its edges its ends are apart. -/
def offB (on : Nat → Bool) (j : Nat) : Nat → Bool := fun i => on i && !(i == j)
def putB (on : Nat → Bool) (j : Nat) : Nat → Bool := fun i => on i || i == j
theorem cnt_off {on : Nat → Bool} {m j : Nat} (hj : j < m) (h : on j = true) : cntF (offB on j) m + 1 = cntF on m := by
  have low : ∀ n, n ≤ j → cntF (offB on j) n = cntF on n := by
    intro n hn
    induction n with
    | zero => rfl
    | succ k ih =>
      simp only [cntF, ih (by omega)]
      have : offB on j k = on k := by unfold offB; have : (k == j) = false := by simp; omega
                                      rw [this]; simp
      rw [this]
  induction m with
  | zero => omega
  | succ k ih =>
    simp only [cntF]
    by_cases e : j = k
    · subst e
      rw [low j (Nat.le_refl _), if_pos h]
      have : offB on j j = false := by simp [offB]
      rw [this]; simp
    · have hk := ih (by omega)
      have : offB on j k = on k := by unfold offB; have : (k == j) = false := by simp; omega
                                      rw [this]; simp
      rw [this]; omega
theorem forest_apart {E : Nat → Nat × Nat} {on : Nat → Bool} {m n j : Nat} (hE : ∀ i, i < m → (E i).1 < n ∧ (E i).2 < n) (hF : rootsF (selF E on m) n + cntF on m = n) (hj : j < m) (h : on j = true) : selF E (offB on j) m (E j).1 ≠ selF E (offB on j) m (E j).2 := by
  intro e
  have hs : selF E (offB on j) m = selF E on m := by
    refine selF_eq (fun i hi ho => selF_edge hi (by unfold offB at ho; simp at ho; exact ho.1)) (fun i hi ho => ?_)
    by_cases ei : i = j
    · subst ei; exact e
    · exact selF_edge hi (by unfold offB; simp [ho, ei])
  have a := roots_ge (E := E) (offB on j) hE
  have b := cnt_off hj h
  rw [hs] at a
  omega
/-- Some of the edges connect the same without any circle. -/
def treeOn (E : Nat → Nat × Nat) (on : Nat → Bool) : Nat → Bool := fun i => on i && !(selF E on i (E i).1 == selF E on i (E i).2)
theorem tree_sel (E : Nat → Nat × Nat) (on : Nat → Bool) (m : Nat) : selF E (treeOn E on) m = selF E on m := by
  induction m with
  | zero => rfl
  | succ k ih =>
    by_cases hk : on k = true
    · rw [selF_on hk]
      by_cases e : selF E on k (E k).1 = selF E on k (E k).2
      · rw [mrgF_same e, selF_off (by simp [treeOn, hk, e]), ih]
      · rw [selF_on (by simp [treeOn, hk, e]), ih]
    · rw [selF_off hk, selF_off (by simp [treeOn, hk]), ih]
theorem tree_cnt {E : Nat → Nat × Nat} {on : Nat → Bool} {m n : Nat} (hE : ∀ i, i < m → (E i).1 < n ∧ (E i).2 < n) : rootsF (selF E on m) n + cntF (treeOn E on) m = n := by
  induction m with
  | zero => simp only [cntF, selF, roots_id]; omega
  | succ k ih =>
    have ih' := ih (fun i hi => hE i (by omega))
    simp only [cntF]
    by_cases hk : on k = true
    · rw [selF_on hk]
      by_cases e : selF E on k (E k).1 = selF E on k (E k).2
      · rw [mrgF_same e, if_neg (by simp [treeOn, hk, e])]; omega
      · rw [if_pos (by simp [treeOn, hk, e])]
        have := mrgF_roots (selF_facts E on k) (hE k (by omega)).1 (hE k (by omega)).2 e
        omega
    · rw [selF_off hk, if_neg (by simp [treeOn, hk])]; omega

/-- A number with given digits. -/
def numOf (on : Nat → Bool) : Nat → Nat
  | 0 => 0
  | k + 1 => numOf on k + if on k = true then 2 ^ k else 0
theorem numOf_lt (on : Nat → Bool) (m : Nat) : numOf on m < 2 ^ m := by
  induction m with
  | zero => simp [numOf]
  | succ k ih => simp only [numOf, Nat.pow_succ]; split <;> omega
theorem numOf_bit (on : Nat → Bool) {m i : Nat} (hi : i < m) : (numOf on m).testBit i = on i := by
  induction m with
  | zero => omega
  | succ k ih =>
    simp only [numOf]
    have hl := numOf_lt on k
    by_cases hk : on k = true
    · rw [if_pos hk, Nat.add_comm]
      by_cases e : i = k
      · subst e
        rw [Nat.testBit_two_pow_add_eq, hk, Nat.testBit_lt_two_pow hl]; rfl
      · rw [Nat.testBit_two_pow_add_gt (by omega)]
        exact ih (by omega)
    · rw [if_neg hk, Nat.add_zero]
      by_cases e : i = k
      · subst e
        rw [Nat.testBit_lt_two_pow hl]; simp at hk; exact hk.symm
      · exact ih (by omega)
theorem selF_congr {E : Nat → Nat × Nat} {on on' : Nat → Bool} {m : Nat} (h : ∀ i, i < m → on i = on' i) : selF E on m = selF E on' m := by
  induction m with
  | zero => rfl
  | succ k ih =>
    have hk := h k (by omega)
    have ik := ih (fun i hi => h i (by omega))
    by_cases e : on k = true
    · rw [selF_on e, selF_on (hk ▸ e), ik]
    · rw [selF_off e, selF_off (hk ▸ e), ik]
theorem cntF_congr {on on' : Nat → Bool} {m : Nat} (h : ∀ i, i < m → on i = on' i) : cntF on m = cntF on' m := by
  induction m with
  | zero => rfl
  | succ k ih => simp only [cntF, ih (fun i hi => h i (by omega)), h k (by omega)]
end Go.Proofs.Ytjolkdckhmmenaa

/- Weights of forests and their sums: plain. -/
namespace Go.Proofs.Ytjolkdckhmmenaa
open Go.RowKit
set_option linter.unusedVariables false
set_option linter.unusedSimpArgs false

def sumF (f : Nat → Int) : Nat → Int
  | 0 => 0
  | k + 1 => sumF f k + f k
theorem sumF_congr {f g : Nat → Int} {k : Nat} (h : ∀ i, i < k → f i = g i) : sumF f k = sumF g k := by
  induction k with
  | zero => rfl
  | succ k ih => simp only [sumF, ih (fun i hi => h i (by omega)), h k (by omega)]
theorem sumF_nn {f : Nat → Int} {k : Nat} (h : ∀ i, i < k → 0 ≤ f i) : 0 ≤ sumF f k := by
  induction k with
  | zero => simp [sumF]
  | succ k ih =>
    have := ih (fun i hi => h i (by omega))
    have := h k (by omega)
    simp only [sumF]; omega
theorem sumF_le {f : Nat → Int} {B : Int} {k : Nat} (h : ∀ i, i < k → f i ≤ B) : sumF f k ≤ k * B := by
  induction k with
  | zero => simp [sumF]
  | succ k ih =>
    have := ih (fun i hi => h i (by omega))
    have := h k (by omega)
    simp only [sumF]
    have e : ((k + 1 : Nat) : Int) * B = k * B + B := by rw [Int.natCast_succ, Int.add_mul, Int.one_mul]
    rw [e]; omega
theorem sumF_pos {f : Nat → Int} {k j : Nat} (h : ∀ i, i < k → 0 ≤ f i) (hj : j < k) (hp : 0 < f j) : 0 < sumF f k := by
  induction k with
  | zero => omega
  | succ k ih =>
    simp only [sumF]
    have h0 := h k (by omega)
    by_cases e : j = k
    · subst e
      have := sumF_nn (f := f) (k := j) (fun i hi => h i (by omega))
      omega
    · have := ih (fun i hi => h i (by omega)) (by omega); omega
theorem sumF_dvd {f : Nat → Int} {d : Int} {k : Nat} (h : ∀ i, i < k → d ∣ f i) : d ∣ sumF f k := by
  induction k with
  | zero => exact ⟨0, by simp [sumF]⟩
  | succ k ih => simp only [sumF]; exact Int.dvd_add (ih (fun i hi => h i (by omega))) (h k (by omega))
theorem sumF_sub (f g : Nat → Int) (k : Nat) : sumF f k - sumF g k = sumF (fun i => f i - g i) k := by
  induction k with
  | zero => simp [sumF]
  | succ k ih => simp only [sumF, ← ih]; omega
theorem sumF_add (f g : Nat → Int) (k : Nat) : sumF f k + sumF g k = sumF (fun i => f i + g i) k := by
  induction k with
  | zero => simp [sumF]
  | succ k ih => simp only [sumF, ← ih]; omega
theorem sumF_mul (f : Nat → Int) (c : Int) (k : Nat) : c * sumF f k = sumF (fun i => c * f i) k := by
  induction k with
  | zero => simp [sumF]
  | succ k ih => simp only [sumF, ← ih, Int.mul_add]
theorem sumF_zero (k : Nat) : sumF (fun _ => 0) k = 0 := by
  induction k with
  | zero => rfl
  | succ k ih => simp only [sumF, ih]; omega
theorem sumF_mono {f g : Nat → Int} {k : Nat} (h : ∀ i, i < k → f i ≤ g i) : sumF f k ≤ sumF g k := by
  induction k with
  | zero => exact Int.le_refl _
  | succ k ih =>
    have := ih (fun i hi => h i (by omega))
    have := h k (by omega)
    simp only [sumF]; omega

/-- The weight of the first k edges: of those that are on the one number, of the others the other one. -/
def wtF (nm dn : Nat → Int) (on : Nat → Bool) : Nat → Int
  | 0 => 1
  | k + 1 => wtF nm dn on k * (if on k = true then dn k else nm k)
/-- The greatest weight. -/
def mxF (nm dn : Nat → Int) : Nat → Int
  | 0 => 1
  | k + 1 => mxF nm dn k * max (nm k) (dn k)
theorem mul_mono {a b c d : Int} (h0 : 0 ≤ a) (h1 : a ≤ b) (h2 : 0 ≤ c) (h3 : c ≤ d) : a * c ≤ b * d :=
  Int.le_trans (Int.mul_le_mul_of_nonneg_left h3 h0) (Int.mul_le_mul_of_nonneg_right h1 (by omega))
theorem wtF_bd {nm dn : Nat → Int} (on : Nat → Bool) {k : Nat} (h : ∀ i, i < k → 1 ≤ nm i ∧ 1 ≤ dn i) : 1 ≤ wtF nm dn on k ∧ wtF nm dn on k ≤ mxF nm dn k := by
  induction k with
  | zero => simp [wtF, mxF]
  | succ k ih =>
    have ⟨a, b⟩ := ih (fun i hi => h i (by omega))
    have ⟨c, d⟩ := h k (by omega)
    simp only [wtF, mxF]
    obtain ⟨z, hz⟩ : ∃ z, (if on k = true then dn k else nm k) = z := ⟨_, rfl⟩
    rw [hz]
    have h1 : 1 ≤ z ∧ z ≤ max (nm k) (dn k) := by rw [← hz]; split <;> omega
    have p := mul_mono (a := 1) (b := wtF nm dn on k) (c := 1) (d := z) (by omega) a (by omega) h1.1
    exact ⟨by omega, mul_mono (by omega) b (by omega) h1.2⟩
theorem mxF_mono {nm dn : Nat → Int} {k m : Nat} (h : ∀ i, i < m → 1 ≤ nm i ∧ 1 ≤ dn i) (hk : k ≤ m) : mxF nm dn k ≤ mxF nm dn m ∧ 1 ≤ mxF nm dn k := by
  induction m with
  | zero => have : k = 0 := by omega
            subst this; simp [mxF]
  | succ m ih =>
    by_cases e : k = m + 1
    · subst e
      have q := wtF_bd (nm := nm) (dn := dn) (fun _ => true) h
      exact ⟨Int.le_refl _, by omega⟩
    · have ⟨a, b⟩ := ih (fun i hi => h i (by omega)) (by omega)
      refine ⟨?_, b⟩
      simp only [mxF]
      have ⟨c, d⟩ := h m (by omega)
      have p := mul_mono (a := mxF nm dn m) (b := mxF nm dn m) (c := 1) (d := max (nm m) (dn m)) (by omega) (Int.le_refl _) (by omega) (by omega)
      omega
theorem wtF_congr {nm dn : Nat → Int} {on on' : Nat → Bool} {m : Nat} (h : ∀ i, i < m → on i = on' i) : wtF nm dn on m = wtF nm dn on' m := by
  induction m with
  | zero => rfl
  | succ k ih => simp only [wtF, ih (fun i hi => h i (by omega)), h k (by omega)]
/-- The weight without edge j. -/
def wxF (nm dn : Nat → Int) (on : Nat → Bool) (j : Nat) : Nat → Int
  | 0 => 1
  | k + 1 => wxF nm dn on j k * (if k = j then 1 else if on k = true then dn k else nm k)
theorem wxF_low {nm dn : Nat → Int} {on : Nat → Bool} {j k : Nat} (h : k ≤ j) : wxF nm dn on j k = wtF nm dn on k := by
  induction k with
  | zero => rfl
  | succ k ih => simp only [wxF, wtF, ih (by omega), if_neg (show ¬ k = j by omega)]
theorem wxF_wt {nm dn : Nat → Int} {on : Nat → Bool} {j m : Nat} (h : j < m) : wtF nm dn on m = wxF nm dn on j m * (if on j = true then dn j else nm j) := by
  induction m with
  | zero => omega
  | succ k ih =>
    simp only [wxF, wtF]
    by_cases e : k = j
    · subst e
      rw [if_pos rfl, Int.mul_one, wxF_low (Nat.le_refl _)]
    · rw [if_neg e, ih (by omega), Int.mul_assoc, Int.mul_assoc, Int.mul_comm (if on j = true then dn j else nm j)]
theorem wxF_congr {nm dn : Nat → Int} {on on' : Nat → Bool} {j m : Nat} (h : ∀ i, i < m → i ≠ j → on i = on' i) : wxF nm dn on j m = wxF nm dn on' j m := by
  induction m with
  | zero => rfl
  | succ k ih =>
    simp only [wxF, ih (fun i hi => h i (by omega))]
    by_cases e : k = j
    · rw [if_pos e, if_pos e]
    · rw [if_neg e, if_neg e, h k (by omega) e]
theorem wt_put {nm dn : Nat → Int} {on : Nat → Bool} {j m : Nat} (h : j < m) : wtF nm dn (putB on j) m = wxF nm dn on j m * dn j := by
  rw [wxF_wt h, if_pos (by simp [putB])]
  congr 1
  exact wxF_congr (fun i hi hne => by simp [putB, hne])
theorem wt_off {nm dn : Nat → Int} {on : Nat → Bool} {j m : Nat} (h : j < m) (ho : on j = false) : wtF nm dn on m = wxF nm dn on j m * nm j := by
  rw [wxF_wt h, if_neg (by simp [ho])]

/-- A network's part: m edges among n nodes. -/
structure Pn where
  n : Nat
  m : Nat
  E : Nat → Nat × Nat
  nm : Nat → Int
  dn : Nat → Int
def bit (s : Nat) : Nat → Bool := fun i => s.testBit i
namespace Pn
variable (P : Pn)
def L (s : Nat) : Nat → Nat := selF P.E (bit s) P.m
def all : Nat → Nat := selF P.E (fun _ => true) P.m
def wt (s : Nat) : Int := wtF P.nm P.dn (bit s) P.m
def cnt (s : Nat) : Nat := cntF (bit s) P.m
def roots (s : Nat) : Nat := rootsF (P.L s) P.n
def least : Nat := rootsF P.all P.n
def treeB (s : Nat) : Bool := decide (P.roots s + P.cnt s = P.n) && decide (P.roots s = P.least)
def twoB (a b v : Nat) (s : Nat) : Bool := decide (P.roots s + P.cnt s = P.n) && (decide (P.roots s = P.least + 1) && (!(P.L s a == P.L s b) && P.L s v == P.L s a))
def tF (s : Nat) : Int := if P.treeB s = true then P.wt s else 0
def gF (a b v : Nat) (s : Nat) : Int := if P.twoB a b v s = true then P.wt s else 0
/-- The total weight of the spanning trees, and for each node the weight of the pairs of trees that have it with a, and b in the other one. -/
def tot : Int := sumF P.tF (2 ^ P.m)
def top (a b v : Nat) : Int := sumF (P.gF a b v) (2 ^ P.m)
/-- What is asked of a part. -/
structure Ok : Prop where
  ends : ∀ i, i < P.m → (P.E i).1 < P.n ∧ (P.E i).2 < P.n
  pos : ∀ i, i < P.m → 1 ≤ P.nm i ∧ 1 ≤ P.dn i
variable {P : Pn} (h : P.Ok)
include h
theorem wt_bd (s : Nat) : 1 ≤ P.wt s ∧ P.wt s ≤ mxF P.nm P.dn P.m := wtF_bd _ h.pos
theorem tF_bd (s : Nat) : 0 ≤ P.tF s ∧ P.tF s ≤ mxF P.nm P.dn P.m := by
  have := wt_bd h s
  unfold tF; split <;> omega
theorem gF_bd (a b v s : Nat) : 0 ≤ P.gF a b v s ∧ P.gF a b v s ≤ mxF P.nm P.dn P.m := by
  have := wt_bd h s
  unfold gF; split <;> omega
theorem tot_pos : 0 < P.tot := by
  have hl := numOf_lt (treeOn P.E (fun _ => true)) P.m
  refine sumF_pos (j := numOf (treeOn P.E (fun _ => true)) P.m) (fun i _ => (tF_bd h i).1) hl ?_
  have hb : ∀ i, i < P.m → bit (numOf (treeOn P.E (fun _ => true)) P.m) i = treeOn P.E (fun _ => true) i := fun i hi => numOf_bit _ hi
  have e1 : P.L (numOf (treeOn P.E (fun _ => true)) P.m) = P.all := by
    unfold L all; rw [selF_congr hb, tree_sel]
  have e2 := tree_cnt (E := P.E) (on := fun _ => true) h.ends
  have e3 : P.cnt (numOf (treeOn P.E (fun _ => true)) P.m) = cntF (treeOn P.E (fun _ => true)) P.m := cntF_congr hb
  have e4 : P.roots (numOf (treeOn P.E (fun _ => true)) P.m) = P.least := by unfold roots least; rw [e1]
  have := (wt_bd h (numOf (treeOn P.E (fun _ => true)) P.m)).1
  unfold tF treeB
  rw [e3, e4]
  have e5 : P.least + cntF (treeOn P.E (fun _ => true)) P.m = P.n := e2
  rw [e5]
  simp
  omega
theorem tot_le : P.tot ≤ (2 ^ P.m : Nat) * mxF P.nm P.dn P.m := sumF_le (fun s _ => (tF_bd h s).2)
theorem top_bd (a b v : Nat) : 0 ≤ P.top a b v ∧ P.top a b v ≤ (2 ^ P.m : Nat) * mxF P.nm P.dn P.m := ⟨sumF_nn (fun s _ => (gF_bd h a b v s).1), sumF_le (fun s _ => (gF_bd h a b v s).2)⟩
omit h
theorem L_edge (P : Pn) {s j : Nat} (hj : j < P.m) (hb : bit s j = true) : P.L s (P.E j).1 = P.L s (P.E j).2 := selF_edge hj hb
theorem two_ends {a b s j : Nat} (hj : j < P.m) (hb : bit s j = true) : P.gF a b (P.E j).1 s = P.gF a b (P.E j).2 s := by
  unfold gF twoB; rw [L_edge P hj hb]
/-- The difference at an edge, without the edge's number. -/
def dF (P : Pn) (a b j s : Nat) : Int := if bit s j = true then 0 else ((if P.twoB a b (P.E j).1 s = true then 1 else 0) - (if P.twoB a b (P.E j).2 s = true then 1 else 0)) * wxF P.nm P.dn (bit s) j P.m
def dif (P : Pn) (a b j : Nat) : Int := sumF (P.dF a b j) (2 ^ P.m)
theorem gF_dif {a b j s : Nat} (hj : j < P.m) : P.gF a b (P.E j).1 s - P.gF a b (P.E j).2 s = P.nm j * P.dF a b j s := by
  by_cases hb : bit s j = true
  · rw [two_ends hj hb]; unfold dF; rw [if_pos hb]; omega
  · have e := wt_off (nm := P.nm) (dn := P.dn) (on := bit s) hj (by simpa using hb)
    unfold gF dF
    rw [if_neg hb]
    have e' : P.wt s = P.nm j * wxF P.nm P.dn (bit s) j P.m := by rw [Int.mul_comm]; exact e
    rw [e']
    split <;> split <;> simp [Int.mul_neg]
theorem top_dif {a b j : Nat} (hj : j < P.m) : P.top a b (P.E j).1 - P.top a b (P.E j).2 = P.nm j * P.dif a b j := by
  unfold top dif
  rw [sumF_sub, sumF_mul]
  exact sumF_congr (fun s _ => gF_dif hj)
include h
theorem dif_bd (a b : Nat) {j : Nat} (hj : j < P.m) : -((2 ^ P.m : Nat) * mxF P.nm P.dn P.m) ≤ P.dif a b j * P.dn j ∧ P.dif a b j * P.dn j ≤ (2 ^ P.m : Nat) * mxF P.nm P.dn P.m := by
  have each : ∀ s, -(mxF P.nm P.dn P.m) ≤ P.dn j * P.dF a b j s ∧ P.dn j * P.dF a b j s ≤ mxF P.nm P.dn P.m := by
    intro s
    have q := wtF_bd (nm := P.nm) (dn := P.dn) (putB (bit s) j) h.pos
    rw [wt_put hj, Int.mul_comm] at q
    unfold dF
    split
    · omega
    · split <;> split <;> simp [Int.mul_neg] <;> omega
  have e : P.dif a b j * P.dn j = sumF (fun s => P.dn j * P.dF a b j s) (2 ^ P.m) := by
    rw [Int.mul_comm]; unfold dif; rw [sumF_mul]
  rw [e]
  refine ⟨?_, sumF_le (fun s _ => (each s).2)⟩
  have q := sumF_le (f := fun s => (-1) * (P.dn j * P.dF a b j s)) (B := mxF P.nm P.dn P.m) (k := 2 ^ P.m) (fun s _ => by have := (each s).1; omega)
  rw [← sumF_mul] at q
  omega
end Pn
end Go.Proofs.Ytjolkdckhmmenaa

/- A network's part, and what the program counts of it: plain. -/
namespace Go.Proofs.Ytjolkdckhmmenaa
open Go.RowKit
set_option linter.unusedVariables false
set_option linter.unusedSimpArgs false

/-- How many of the first n numbers have a property. -/
def cnB (p : Nat → Bool) : Nat → Nat
  | 0 => 0
  | n + 1 => cnB p n + if p n = true then 1 else 0
theorem cnB_congr {p q : Nat → Bool} {n : Nat} (h : ∀ v, v < n → p v = q v) : cnB p n = cnB q n := by
  induction n with
  | zero => rfl
  | succ k ih => simp only [cnB, ih (fun v hv => h v (by omega)), h k (by omega)]
theorem cnB_split (p q : Nat → Bool) (n : Nat) : cnB p n = cnB (fun v => p v && q v) n + cnB (fun v => p v && !q v) n := by
  induction n with
  | zero => rfl
  | succ k ih =>
    simp only [cnB, ih]
    by_cases hp : p k = true <;> by_cases hq : q k = true <;> simp [hp, hq] <;> omega
theorem cnB_true (n : Nat) : cnB (fun _ => true) n = n := by
  induction n with
  | zero => rfl
  | succ k ih => simp only [cnB, ih]; simp
theorem cnB_none {p : Nat → Bool} {n : Nat} (h : ∀ v, v < n → p v = false) : cnB p n = 0 := by
  induction n with
  | zero => rfl
  | succ k ih => simp only [cnB, ih (fun v hv => h v (by omega)), h k (by omega)]; simp
theorem cnB_one {p : Nat → Bool} {n r : Nat} (hr : r < n) (h : ∀ v, v < n → (p v = true ↔ v = r)) : cnB p n = 1 := by
  induction n with
  | zero => omega
  | succ k ih =>
    simp only [cnB]
    by_cases e : r = k
    · subst e
      rw [cnB_none (fun v hv => by
        have := h v (by omega)
        cases hp : p v with
        | false => rfl
        | true => have := this.1 hp; omega), if_pos ((h r (by omega)).2 rfl)]
    · rw [ih (by omega) (fun v hv => h v (by omega)), if_neg (fun q => e ((h k (by omega)).1 q).symm)]
theorem cnB_roots (L : Nat → Nat) (n : Nat) : rootsF L n = cnB (fun v => decide (L v = v)) n := by
  induction n with
  | zero => rfl
  | succ k ih => simp only [rootsF, cnB, ih, decide_eq_true_eq]

/-- The edges, the numerators and the denominators of resistors. -/
def edg (rs : List Res) (i : Nat) : Nat × Nat := match rs[i]? with | some r => (r.a.toNat, r.b.toNat) | none => (0, 0)
def rnm (rs : List Res) (i : Nat) : Int := match rs[i]? with | some r => r.num | none => 1
def rdn (rs : List Res) (i : Nat) : Int := match rs[i]? with | some r => r.den | none => 1
theorem edg_at {rs : List Res} {i : Nat} {r : Res} (h : rs[i]? = some r) : edg rs i = (r.a.toNat, r.b.toNat) := by simp [edg, h]
theorem rnm_at {rs : List Res} {i : Nat} {r : Res} (h : rs[i]? = some r) : rnm rs i = r.num := by simp [rnm, h]
theorem rdn_at {rs : List Res} {i : Nat} {r : Res} (h : rs[i]? = some r) : rdn rs i = r.den := by simp [rdn, h]
def netP (n : Nat) (rs : List Res) : Pn := ⟨n, rs.length, edg rs, rnm rs, rdn rs⟩
/-- The classes of nodes that all resistors connect. -/
def allL (rs : List Res) : Nat → Nat := selF (edg rs) (fun _ => true) rs.length
def partR (rs : List Res) (a : Nat) : List Res := rs.filter (fun r => decide (allL rs r.a.toNat = allL rs a))
def parP (n : Nat) (rs : List Res) (a : Nat) : Pn := netP n (partR rs a)
theorem mem_part {rs : List Res} {a : Nat} {r : Res} : r ∈ partR rs a ↔ r ∈ rs ∧ allL rs r.a.toNat = allL rs a := by simp [partR]
theorem part_len (rs : List Res) (a : Nat) : (partR rs a).length ≤ rs.length := List.length_filter_le _ _
theorem all_edge {rs : List Res} {r : Res} (h : r ∈ rs) : allL rs r.a.toNat = allL rs r.b.toNat := by
  obtain ⟨i, hi, e⟩ := List.getElem_of_mem h
  have := selF_edge (E := edg rs) (on := fun _ => true) (m := rs.length) (i := i) hi rfl
  rw [edg_at (by rw [List.getElem?_eq_getElem hi, e])] at this
  exact this

/-- The greatest weight of resistors. -/
def mprod (rs : List Res) : Int := rs.foldl (fun p r => p * max r.num r.den) 1
theorem mprod_snoc (rs : List Res) (r : Res) : mprod (rs ++ [r]) = mprod rs * max r.num r.den := by simp [mprod, List.foldl_append]
theorem mxF_take (rs : List Res) {k : Nat} (h : k ≤ rs.length) : mxF (rnm rs) (rdn rs) k = mprod (rs.take k) := by
  induction k with
  | zero => rfl
  | succ k ih =>
    have hk : rs[k]? = some rs[k] := List.getElem?_eq_getElem (by omega)
    rw [List.take_add_one, hk]
    show mxF (rnm rs) (rdn rs) k * max (rnm rs k) (rdn rs k) = mprod (rs.take k ++ [rs[k]])
    rw [mprod_snoc, ih (by omega), rnm_at hk, rdn_at hk]
theorem mxF_all (rs : List Res) : mxF (rnm rs) (rdn rs) rs.length = mprod rs := by rw [mxF_take rs (Nat.le_refl _), List.take_length]
theorem ediv2 (a b c : Int) (hb : 0 ≤ b) : a / b / c = a / (b * c) := by
  rw [Int.ediv_ediv, if_neg (by omega), Int.sub_zero]
theorem left_prod (rs : List Res) (h : ∀ r ∈ rs, 1 ≤ r.num) (l p : Int) (hp : 1 ≤ p) : rs.foldl (fun l x => l / max x.num x.den) (l / p) = l / rs.foldl (fun p r => p * max r.num r.den) p ∧ 1 ≤ rs.foldl (fun p r => p * max r.num r.den) p := by
  induction rs generalizing p with
  | nil => exact ⟨rfl, hp⟩
  | cons r rs ih =>
    have hr := h r (by simp)
    simp only [List.foldl_cons]
    rw [ediv2 l p (max r.num r.den) (by omega)]
    have q := mul_mono (a := 1) (b := p) (c := 1) (d := max r.num r.den) (by omega) hp (by omega) (by omega)
    exact ih (fun x hx => h x (by simp [hx])) _ (by omega)
theorem mprod_le {rs : List Res} (h : ∀ r ∈ rs, 1 ≤ r.num) (hl : 0 < leftOf rs) : mprod rs ≤ 10000000000000000 ∧ 1 ≤ mprod rs := by
  have ⟨a, b⟩ := left_prod rs h 10000000000000000 1 (by omega)
  unfold leftOf at hl
  rw [Int.ediv_one] at a
  rw [a] at hl
  refine ⟨?_, b⟩
  have e : mprod rs = rs.foldl (fun p r => p * max r.num r.den) 1 := rfl
  rw [← e] at hl b
  rcases Int.lt_or_le 10000000000000000 (mprod rs) with hc | hc
  · rw [Int.ediv_eq_zero_of_lt (by omega) hc] at hl; omega
  · exact hc
theorem mprod_filter (rs : List Res) (h : ∀ r ∈ rs, 1 ≤ r.num) (f : Res → Bool) (p q : Int) (hp : 1 ≤ p) (hpq : p ≤ q) : (rs.filter f).foldl (fun p r => p * max r.num r.den) p ≤ rs.foldl (fun p r => p * max r.num r.den) q := by
  induction rs generalizing p q with
  | nil => exact hpq
  | cons r rs ih =>
    have hr := h r (by simp)
    have ih' := ih (fun x hx => h x (by simp [hx]))
    simp only [List.filter_cons, List.foldl_cons]
    have q1 := mul_mono (a := 1) (b := p) (c := 1) (d := max r.num r.den) (by omega) hp (by omega) (by omega)
    have q2 := mul_mono (a := p) (b := q) (c := max r.num r.den) (d := max r.num r.den) (by omega) hpq (by omega) (Int.le_refl _)
    split
    · simp only [List.foldl_cons]
      exact ih' _ _ (by omega) q2
    · refine ih' _ _ hp ?_
      have q3 := mul_mono (a := p) (b := q) (c := 1) (d := max r.num r.den) (by omega) hpq (by omega) (by omega)
      omega
/-- What a valid network gives. -/
theorem nw_facts {nodes : Int} {rs : List Res} (h : nwB nodes rs = true) : (1 ≤ nodes ∧ nodes ≤ 6) ∧ rs.length ≤ 8 ∧ (∀ r ∈ rs, (0 ≤ r.a ∧ r.a < nodes) ∧ (0 ≤ r.b ∧ r.b < nodes) ∧ r.a ≠ r.b ∧ vrB r.num r.den = true ∧ (1 ≤ r.num ∧ r.num ≤ 1000000) ∧ (1 ≤ r.den ∧ r.den ≤ 1000000)) ∧ mprod rs ≤ 10000000000000000 := by
  simp only [nwB, Bool.and_eq_true, decide_eq_true_eq, List.all_eq_true] at h
  obtain ⟨h1, h2, h3, h4⟩ := h
  have each : ∀ r ∈ rs, (0 ≤ r.a ∧ r.a < nodes) ∧ (0 ≤ r.b ∧ r.b < nodes) ∧ r.a ≠ r.b ∧ vrB r.num r.den = true ∧ (1 ≤ r.num ∧ r.num ≤ 1000000) ∧ (1 ≤ r.den ∧ r.den ≤ 1000000) := by
    intro r hr
    have q := h3 r hr
    simp only [rsB, Bool.and_eq_true, decide_eq_true_eq, Bool.not_eq_true', beq_eq_false_iff_ne] at q
    obtain ⟨q1, q2, q3, q4, q5, q6⟩ := q
    have a1 := inB_iff.1 q1
    have a2 := inB_iff.1 q2
    have a5 := inB_iff.1 q5
    have a6 := vrB_pos q4
    exact ⟨by omega, by omega, q3, q4, a5, by omega⟩
  exact ⟨inB_iff.1 h1, h2, each, (mprod_le (fun r hr => (each r hr).2.2.2.2.1.1) h4).1⟩
theorem net_ok {nodes : Int} {rs : List Res} {n : Nat} (h : nwB nodes rs = true) (hn : nodes = n) : (netP n rs).Ok := by
  obtain ⟨_, _, each, _⟩ := nw_facts h
  have at' : ∀ i, i < rs.length → ∃ r, rs[i]? = some r ∧ r ∈ rs := fun i hi => ⟨_, List.getElem?_eq_getElem hi, List.getElem_mem hi⟩
  refine ⟨fun i hi => ?_, fun i hi => ?_⟩
  · obtain ⟨r, e, m⟩ := at' i hi
    have q := each _ m
    show (edg rs i).1 < n ∧ (edg rs i).2 < n
    rw [edg_at e]
    omega
  · obtain ⟨r, e, m⟩ := at' i hi
    have q := each _ m
    show 1 ≤ rnm rs i ∧ 1 ≤ rdn rs i
    rw [rnm_at e, rdn_at e]
    omega
theorem par_ok {nodes : Int} {rs : List Res} {n : Nat} (h : nwB nodes rs = true) (hn : nodes = n) (a : Nat) : (parP n rs a).Ok := by
  obtain ⟨_, _, each, _⟩ := nw_facts h
  have at' : ∀ i, i < (partR rs a).length → ∃ r, (partR rs a)[i]? = some r ∧ r ∈ rs := fun i hi => ⟨_, List.getElem?_eq_getElem hi, (mem_part.1 (List.getElem_mem hi)).1⟩
  refine ⟨fun i hi => ?_, fun i hi => ?_⟩
  · obtain ⟨r, e, m⟩ := at' i hi
    have q := each _ m
    show (edg (partR rs a) i).1 < n ∧ (edg (partR rs a) i).2 < n
    rw [edg_at e]
    omega
  · obtain ⟨r, e, m⟩ := at' i hi
    have q := each _ m
    show 1 ≤ rnm (partR rs a) i ∧ 1 ≤ rdn (partR rs a) i
    rw [rnm_at e, rdn_at e]
    omega
theorem par_mx {nodes : Int} {rs : List Res} (n : Nat) (h : nwB nodes rs = true) (a : Nat) : mxF (parP n rs a).nm (parP n rs a).dn (parP n rs a).m ≤ 10000000000000000 := by
  obtain ⟨_, _, each, hm⟩ := nw_facts h
  show mxF (rnm (partR rs a)) (rdn (partR rs a)) (partR rs a).length ≤ _
  rw [mxF_all]
  have := mprod_filter rs (fun r hr => (each r hr).2.2.2.2.1.1) (fun r => decide (allL rs r.a.toNat = allL rs a)) 1 1 (by omega) (by omega)
  exact Int.le_trans this hm
theorem par_pow {nodes : Int} {rs : List Res} (n : Nat) (h : nwB nodes rs = true) (a : Nat) : (2 ^ (parP n rs a).m : Nat) ≤ 256 := by
  obtain ⟨_, hl, _, _⟩ := nw_facts h
  have := part_len rs a
  have := Nat.pow_le_pow_right (show 0 < 2 by omega) (show (partR rs a).length ≤ 8 by omega)
  exact this
theorem par_bd {nodes : Int} {rs : List Res} {n : Nat} (h : nwB nodes rs = true) (hn : nodes = n) {z : Int} (a : Nat) (hz : z ≤ (2 ^ (parP n rs a).m : Nat) * mxF (parP n rs a).nm (parP n rs a).dn (parP n rs a).m) : z ≤ 2560000000000000000 := by
  have p := par_pow n h a
  have q := par_mx n h a
  have r := (mxF_mono (k := (parP n rs a).m) (par_ok h hn a).pos (Nat.le_refl _)).2
  obtain ⟨K, hK⟩ : ∃ K : Nat, 2 ^ (parP n rs a).m = K := ⟨_, rfl⟩
  rw [hK] at p hz
  have s := mul_mono (a := (K : Int)) (b := 256) (by omega) (by omega) (show 0 ≤ mxF (parP n rs a).nm (parP n rs a).dn (parP n rs a).m by omega) q
  omega

/-- The nodes that are connected with a; the trees among them. -/
def comN (rs : List Res) (a n : Nat) : Nat := cnB (fun v => decide (allL rs v = allL rs a)) n
def treN (rs : List Res) (a n s : Nat) : Nat := cnB (fun v => decide (allL rs v = allL rs a) && decide ((parP n rs a).L s v = v)) n
section
variable {rs : List Res} {n a : Nat}
theorem par_edge {i : Nat} (hi : i < (partR rs a).length) : allL rs (edg (partR rs a) i).1 = allL rs a ∧ allL rs (edg (partR rs a) i).2 = allL rs a := by
  have e : (partR rs a)[i]? = some (partR rs a)[i] := List.getElem?_eq_getElem hi
  rw [edg_at e]
  have ⟨m1, m2⟩ := mem_part.1 (List.getElem_mem hi)
  exact ⟨m2, by rw [← all_edge m1]; exact m2⟩
/-- Outside nothing is connected; inside, all stays inside. -/
theorem par_out (on : Nat → Bool) {v : Nat} (hv : allL rs v ≠ allL rs a) : selF (edg (partR rs a)) on (partR rs a).length v = v := by
  have q := selF_min (E := edg (partR rs a)) (on := on) (m := (partR rs a).length) (fun u => if allL rs u = allL rs a then none else some u) (fun i hi _ => by
    have ⟨e1, e2⟩ := par_edge hi
    simp only [if_pos e1, if_pos e2]) _ _ (selF_idem (edg (partR rs a)) on (partR rs a).length v)
  simp only [if_neg hv] at q
  split at q
  · cases q
  · exact Option.some.inj q
theorem par_in (on : Nat → Bool) (v : Nat) : allL rs (selF (edg (partR rs a)) on (partR rs a).length v) = allL rs v :=
  selF_min (E := edg (partR rs a)) (on := on) (m := (partR rs a).length) (allL rs) (fun i hi _ => by
    have ⟨e1, e2⟩ := par_edge hi
    rw [e1, e2]) _ _ (selF_idem (edg (partR rs a)) on (partR rs a).length v)
/-- The part connects all that is connected with a. -/
theorem par_all {u v : Nat} (hu : allL rs u = allL rs a) (hv : allL rs v = allL rs a) : (parP n rs a).all u = (parP n rs a).all v := by
  have q := selF_min (E := edg rs) (on := fun _ => true) (m := rs.length) (fun u => if allL rs u = allL rs a then some ((parP n rs a).all u) else none) (fun i hi _ => by
    have e : rs[i]? = some rs[i] := List.getElem?_eq_getElem hi
    have hm := List.getElem_mem hi
    have ea := all_edge hm
    rw [edg_at e]
    show (if allL rs rs[i].a.toNat = allL rs a then _ else _) = (if allL rs rs[i].b.toNat = allL rs a then _ else _)
    rw [← ea]
    by_cases hc : allL rs rs[i].a.toNat = allL rs a
    · rw [if_pos hc, if_pos hc]
      obtain ⟨j, hj, ej⟩ := List.getElem_of_mem (mem_part.2 ⟨hm, hc⟩)
      have := selF_edge (E := edg (partR rs a)) (on := fun _ => true) (m := (partR rs a).length) (i := j) hj rfl
      rw [edg_at (by rw [List.getElem?_eq_getElem hj, ej])] at this
      exact congrArg some this
    · rw [if_neg hc, if_neg hc]) u v (hu.trans hv.symm)
  simp only [if_pos hu, if_pos hv] at q
  exact Option.some.inj q
theorem rootsF_split (on : Nat → Bool) : rootsF (selF (edg (partR rs a)) on (partR rs a).length) n + comN rs a n = cnB (fun v => decide (allL rs v = allL rs a) && decide (selF (edg (partR rs a)) on (partR rs a).length v = v)) n + n := by
  have s1 := cnB_split (fun v => decide (selF (edg (partR rs a)) on (partR rs a).length v = v)) (fun v => decide (allL rs v = allL rs a)) n
  have s2 := cnB_split (fun _ => true) (fun v => decide (allL rs v = allL rs a)) n
  have e1 : cnB (fun v => decide (selF (edg (partR rs a)) on (partR rs a).length v = v) && decide (allL rs v = allL rs a)) n = cnB (fun v => decide (allL rs v = allL rs a) && decide (selF (edg (partR rs a)) on (partR rs a).length v = v)) n := cnB_congr (fun v _ => Bool.and_comm _ _)
  have e2 : cnB (fun v => decide (selF (edg (partR rs a)) on (partR rs a).length v = v) && !decide (allL rs v = allL rs a)) n = cnB (fun v => true && !decide (allL rs v = allL rs a)) n := cnB_congr (fun v _ => by
    by_cases hc : allL rs v = allL rs a
    · simp [hc]
    · rw [decide_eq_true (par_out on hc)])
  have e3 : cnB (fun v => true && decide (allL rs v = allL rs a)) n = comN rs a n := cnB_congr (fun v _ => Bool.true_and _)
  rw [cnB_roots]
  rw [cnB_true] at s2
  omega
theorem tre_roots (s : Nat) : (parP n rs a).roots s + comN rs a n = treN rs a n s + n := rootsF_split (bit s)
theorem least_com (ha : a < n) : (parP n rs a).least + comN rs a n = 1 + n := by
  have q := rootsF_split (rs := rs) (n := n) (a := a) (fun _ => true)
  have e : cnB (fun v => decide (allL rs v = allL rs a) && decide (selF (edg (partR rs a)) (fun _ => true) (partR rs a).length v = v)) n = 1 := by
    have hl := selF_le (edg (partR rs a)) (fun _ => true) (partR rs a).length a
    refine cnB_one (r := selF (edg (partR rs a)) (fun _ => true) (partR rs a).length a) (by omega) (fun v hv => ?_)
    simp only [Bool.and_eq_true, decide_eq_true_eq]
    constructor
    · rintro ⟨e1, e2⟩
      have := par_all (n := n) (rs := rs) (a := a) e1 rfl
      exact e2.symm.trans this
    · intro e1
      have e2 := par_in (rs := rs) (a := a) (fun _ => true) a
      rw [← e1] at e2
      refine ⟨e2, ?_⟩
      have e3 := par_all (n := n) (rs := rs) (a := a) e2 rfl
      rw [e1]
      exact selF_idem _ _ _ _
  rw [e] at q
  exact q
theorem com_pos (ha : a < n) : 1 ≤ comN rs a n := by
  have := least_com (rs := rs) ha
  have : (parP n rs a).least ≤ n := rootsF_le _ _
  omega
/-- The program's own tests come to the reference's. -/
theorem treeB_iff (ha : a < n) (s : Nat) : (parP n rs a).treeB s = true ↔ treN rs a n s + (parP n rs a).cnt s = comN rs a n ∧ treN rs a n s = 1 := by
  have h1 := tre_roots (n := n) (rs := rs) (a := a) s
  have h2 := least_com (rs := rs) ha
  have h3 : comN rs a n ≤ n := by
    have s2 := cnB_split (fun _ => true) (fun v => decide (allL rs v = allL rs a)) n
    have e3 : cnB (fun v => true && decide (allL rs v = allL rs a)) n = comN rs a n := cnB_congr (fun v _ => Bool.true_and _)
    rw [cnB_true] at s2; omega
  unfold Pn.treeB
  rw [Bool.and_eq_true, decide_eq_true_eq, decide_eq_true_eq]
  show _ + _ = n ∧ _ ↔ _
  omega
theorem twoB_iff (ha : a < n) (b v s : Nat) : (parP n rs a).twoB a b v s = true ↔ (treN rs a n s + (parP n rs a).cnt s = comN rs a n ∧ treN rs a n s = 2) ∧ ((parP n rs a).L s a ≠ (parP n rs a).L s b ∧ (parP n rs a).L s v = (parP n rs a).L s a) := by
  have h1 := tre_roots (n := n) (rs := rs) (a := a) s
  have h2 := least_com (rs := rs) ha
  unfold Pn.twoB
  rw [Bool.and_eq_true, Bool.and_eq_true, Bool.and_eq_true, decide_eq_true_eq, decide_eq_true_eq, Bool.not_eq_true', beq_eq_false_iff_ne, beq_iff_eq]
  show _ + _ = n ∧ _ ↔ _
  constructor
  · rintro ⟨e1, e2, e3⟩; exact ⟨by omega, e3⟩
  · rintro ⟨e1, e3⟩; exact ⟨by omega, by omega, e3⟩
theorem tF_no {P : Pn} {s : Nat} (h : ¬ P.treeB s = true) : P.tF s = 0 := by unfold Pn.tF; rw [if_neg h]
theorem gF_no {P : Pn} {a b v s : Nat} (h : ¬ P.twoB a b v s = true) : P.gF a b v s = 0 := by unfold Pn.gF; rw [if_neg h]
theorem tF_yes {P : Pn} {s : Nat} (h : P.treeB s = true) : P.tF s = P.wt s := by unfold Pn.tF; rw [if_pos h]
theorem gF_yes {P : Pn} {a b v s : Nat} (h : P.twoB a b v s = true) : P.gF a b v s = P.wt s := by unfold Pn.gF; rw [if_pos h]
/-- Nodes outside have no part in it. -/
theorem top_out {b v : Nat} (hv : allL rs v ≠ allL rs a) : (parP n rs a).top a b v = 0 := by
  unfold Pn.top
  rw [sumF_congr (g := fun _ => 0) (fun s _ => gF_no (fun q => ?_)), sumF_zero]
  unfold Pn.twoB at q
  rw [Bool.and_eq_true, Bool.and_eq_true, Bool.and_eq_true] at q
  have e : (parP n rs a).L s v = (parP n rs a).L s a := by simpa using q.2.2.2
  have e1 := par_in (rs := rs) (a := a) (bit s) v
  have e2 := par_in (rs := rs) (a := a) (bit s) a
  have e' : selF (edg (partR rs a)) (bit s) (partR rs a).length v = selF (edg (partR rs a)) (bit s) (partR rs a).length a := e
  rw [e'] at e1
  exact hv (e1.symm.trans e2)
end
end Go.Proofs.Ytjolkdckhmmenaa

/- Kirchhoff's laws of the sums over forests: plain. -/
namespace Go.Proofs.Ytjolkdckhmmenaa
open Go.RowKit
set_option linter.unusedVariables false
set_option linter.unusedSimpArgs false

theorem sumF_split (f : Nat → Int) (a b : Nat) : sumF f (a + b) = sumF f a + sumF (fun i => f (a + i)) b := by
  induction b with
  | zero => simp [sumF]
  | succ k ih =>
    show sumF f (a + k) + f (a + k) = _
    rw [ih]; simp only [sumF]; omega
theorem sumF_comm (f : Nat → Nat → Int) (a b : Nat) : sumF (fun i => sumF (fun j => f i j) b) a = sumF (fun j => sumF (fun i => f i j) a) b := by
  induction a with
  | zero => simp only [sumF]; exact (sumF_zero b).symm
  | succ k ih => simp only [sumF, ih, sumF_add]
theorem bit_flip (s j i : Nat) : bit (s ^^^ 2 ^ j) i = (bit s i != (i == j)) := by
  unfold bit
  rw [Nat.testBit_xor, Nat.testBit_two_pow]
  by_cases e : j = i
  · subst e; simp
  · have : ¬ i = j := fun q => e q.symm
    rw [decide_eq_false e, beq_eq_false_iff_ne.2 this]
theorem flip_lt {s j m : Nat} (hs : s < 2 ^ m) (hj : j < m) : s ^^^ 2 ^ j < 2 ^ m := Nat.xor_lt_two_pow hs (Nat.pow_lt_pow_right (by omega) hj)
theorem bit_high {s m : Nat} (hs : s < 2 ^ m) (i : Nat) : bit (2 ^ m + s) i = (bit s i || i == m) := by
  unfold bit
  by_cases e : i = m
  · subst e; rw [Nat.testBit_two_pow_add_eq, Nat.testBit_lt_two_pow hs]; simp
  · rcases Nat.lt_or_ge i m with h | h
    · rw [Nat.testBit_two_pow_add_gt h]; simp [e]
    · have h2 : 2 ^ m + s < 2 ^ i := by
        have := Nat.pow_le_pow_right (show 0 < 2 by omega) (show m + 1 ≤ i by omega)
        rw [Nat.pow_succ] at this; omega
      rw [Nat.testBit_lt_two_pow h2, Nat.testBit_lt_two_pow (by omega : s < 2 ^ i)]; simp [e]
theorem eq_of_bits {s t : Nat} (h : ∀ i, bit s i = bit t i) : s = t := Nat.eq_of_testBit_eq h
/-- Sums over sets of edges may be taken with an edge turned. -/
theorem sumF_flip (f : Nat → Int) {j m : Nat} (hj : j < m) : sumF f (2 ^ m) = sumF (fun s => f (s ^^^ 2 ^ j)) (2 ^ m) := by
  induction m generalizing f with
  | zero => omega
  | succ k ih =>
    have e2 : 2 ^ (k + 1) = 2 ^ k + 2 ^ k := by rw [Nat.pow_succ]; omega
    rw [e2, sumF_split, sumF_split]
    by_cases e : j = k
    · subst e
      have a1 : sumF (fun s => f (s ^^^ 2 ^ j)) (2 ^ j) = sumF (fun i => f (2 ^ j + i)) (2 ^ j) := sumF_congr (fun s hs => by
        congr 1
        refine eq_of_bits (fun i => ?_)
        rw [bit_flip, bit_high hs]
        by_cases h : i = j
        · subst h; have : bit s i = false := Nat.testBit_lt_two_pow hs
          simp [this]
        · rw [beq_eq_false_iff_ne.2 h]; simp)
      have a2 : sumF (fun i => (fun s => f (s ^^^ 2 ^ j)) (2 ^ j + i)) (2 ^ j) = sumF f (2 ^ j) := sumF_congr (fun s hs => by
        show f ((2 ^ j + s) ^^^ 2 ^ j) = f s
        congr 1
        refine eq_of_bits (fun i => ?_)
        rw [bit_flip, bit_high hs]
        by_cases h : i = j
        · subst h; have : bit s i = false := Nat.testBit_lt_two_pow hs
          simp [this]
        · rw [beq_eq_false_iff_ne.2 h]; simp)
      rw [a1, a2]; omega
    · rw [ih f (by omega), ih (fun i => f (2 ^ k + i)) (by omega)]
      congr 1
      refine sumF_congr (fun s hs => ?_)
      show f (2 ^ k + (s ^^^ 2 ^ j)) = f ((2 ^ k + s) ^^^ 2 ^ j)
      congr 1
      refine eq_of_bits (fun i => ?_)
      rw [bit_high (flip_lt hs (by omega)), bit_flip, bit_flip, bit_high hs]
      by_cases h : i = k
      · subst h
        have h2 : ¬ i = j := fun q => e q.symm
        have : bit s i = false := Nat.testBit_lt_two_pow hs
        simp [this, h2]
      · rw [beq_eq_false_iff_ne.2 h]; simp

namespace Pn
/-- A spanning tree connects all that the edges connect. -/
theorem tree_all {P : Pn} {s : Nat} (hs : P.treeB s = true) {u : Nat} (hu : u < P.n) : P.L s u = P.all u := by
  unfold treeB at hs
  rw [Bool.and_eq_true, decide_eq_true_eq, decide_eq_true_eq] at hs
  have sub : ∀ v, P.all (P.L s v) = P.all v := fun v => selF_min (E := P.E) (on := bit s) (m := P.m) P.all (fun i hi _ => selF_edge hi rfl) _ _ (selF_idem P.E (bit s) P.m v)
  have r1 : ∀ v, P.all v = v → P.L s v = v := fun v hv => by
    have a := sub v
    rw [hv] at a
    have b := selF_le P.E (bit s) P.m v
    have c := selF_le P.E (fun _ => true) P.m (P.L s v)
    have a' : selF P.E (fun _ => true) P.m (P.L s v) = v := a
    have b' : P.L s v ≤ v := b
    omega
  have key : ∀ n, rootsF P.all n ≤ rootsF (P.L s) n ∧ (rootsF (P.L s) n ≤ rootsF P.all n → ∀ v, v < n → P.L s v = v → P.all v = v) := by
    intro n
    induction n with
    | zero => exact ⟨Nat.le_refl _, fun _ v hv => by omega⟩
    | succ k ih =>
      simp only [rootsF]
      have rk := r1 k
      refine ⟨?_, fun hle v hv hv2 => ?_⟩
      · by_cases e : P.all k = k
        · rw [if_pos e, if_pos (rk e)]; omega
        · rw [if_neg e]; split <;> omega
      · by_cases e : P.all k = k
        · rw [if_pos e, if_pos (rk e)] at hle
          by_cases ev : v = k
          · subst ev; exact e
          · exact ih.2 (by omega) v (by omega) hv2
        · rw [if_neg e] at hle
          by_cases e2 : P.L s k = k
          · rw [if_pos e2] at hle; omega
          · rw [if_neg e2] at hle
            by_cases ev : v = k
            · subst ev; exact absurd hv2 e2
            · exact ih.2 (by omega) v (by omega) hv2
  have h1 : rootsF (P.L s) P.n ≤ rootsF P.all P.n := Nat.le_of_eq hs.2
  have h2 := (key P.n).2 h1 (P.L s u) (by have := selF_le P.E (bit s) P.m u; exact Nat.lt_of_le_of_lt this hu) (selF_idem P.E (bit s) P.m u)
  rw [← h2, sub]
/-- Whether a node is with the first end of an edge that is taken away. -/
def side (P : Pn) (on : Nat → Bool) (j u : Nat) : Int := if selF P.E (offB on j) P.m u = selF P.E (offB on j) P.m (P.E j).1 then 1 else 0
/-- The way from a to b in a tree. -/
theorem tree_way {P : Pn} (h : P.Ok) {s a b : Nat} (hs : P.treeB s = true) (ha : a < P.n) (hb : b < P.n) (hab : P.all a = P.all b) (f : Nat → Int) :
    sumF (fun j => if bit s j = true then (f (P.E j).1 - f (P.E j).2) * (P.side (bit s) j a - P.side (bit s) j b) else 0) P.m = f a - f b := by
  have hF : rootsF (selF P.E (bit s) P.m) P.n + cntF (bit s) P.m = P.n := by
    unfold treeB at hs
    rw [Bool.and_eq_true, decide_eq_true_eq, decide_eq_true_eq] at hs
    exact hs.1
  have g : ∀ i, i < P.m → bit s i = true → ∀ k, k ≤ P.m → sumF (fun j => if bit s j = true then (f (P.E j).1 - f (P.E j).2) * (P.side (bit s) j (P.E i).1 - P.side (bit s) j (P.E i).2) else 0) k = if i < k then f (P.E i).1 - f (P.E i).2 else 0 := by
    intro i hi ho k hk
    induction k with
    | zero => rfl
    | succ k ih =>
      simp only [sumF, ih (by omega)]
      by_cases e : k = i
      · subst e
        rw [if_neg (by omega), if_pos ho, if_pos (by omega)]
        have ne := forest_apart h.ends hF hi ho
        unfold side
        rw [if_pos rfl, if_neg (fun q => ne q.symm)]
        omega
      · by_cases hk2 : bit s k = true
        · rw [if_pos hk2]
          have same : P.side (bit s) k (P.E i).1 = P.side (bit s) k (P.E i).2 := by
            unfold side
            rw [selF_edge (E := P.E) (on := offB (bit s) k) (m := P.m) (i := i) hi (by unfold offB; simp [ho]; exact fun q => e q.symm)]
          rw [same, Int.sub_self, Int.mul_zero, Int.add_zero]
          by_cases hik : i < k
          · rw [if_pos hik, if_pos (by omega)]
          · rw [if_neg hik, if_neg (by omega)]
        · rw [if_neg hk2, Int.add_zero]
          by_cases hik : i < k
          · rw [if_pos hik, if_pos (by omega)]
          · rw [if_neg hik, if_neg (by omega)]
  have lin : ∀ u v k, sumF (fun j => if bit s j = true then (f (P.E j).1 - f (P.E j).2) * P.side (bit s) j u else 0) k - sumF (fun j => if bit s j = true then (f (P.E j).1 - f (P.E j).2) * P.side (bit s) j v else 0) k = sumF (fun j => if bit s j = true then (f (P.E j).1 - f (P.E j).2) * (P.side (bit s) j u - P.side (bit s) j v) else 0) k := by
    intro u v k
    rw [sumF_sub]
    refine sumF_congr (fun j _ => ?_)
    split
    · rw [Int.mul_sub]
    · rfl
  have q := selF_min (E := P.E) (on := bit s) (m := P.m) (fun u => f u - sumF (fun j => if bit s j = true then (f (P.E j).1 - f (P.E j).2) * P.side (bit s) j u else 0) P.m) (fun i hi ho => by
    have e1 := g i hi ho P.m (Nat.le_refl _)
    rw [if_pos hi] at e1
    have e2 := lin (P.E i).1 (P.E i).2 P.m
    show f (P.E i).1 - _ = f (P.E i).2 - _
    omega) a b (by
      have e1 := tree_all hs ha
      have e2 := tree_all hs hb
      show P.L s a = P.L s b
      rw [e1, e2, hab])
  have e3 := lin a b P.m
  have q' : f a - sumF (fun j => if bit s j = true then (f (P.E j).1 - f (P.E j).2) * P.side (bit s) j a else 0) P.m = f b - sumF (fun j => if bit s j = true then (f (P.E j).1 - f (P.E j).2) * P.side (bit s) j b else 0) P.m := q
  omega
theorem roots_mrg {P : Pn} (h : P.Ok) {on : Nat → Bool} {j : Nat} (hj : j < P.m) (ho : on j = true) : (selF P.E (offB on j) P.m (P.E j).1 ≠ selF P.E (offB on j) P.m (P.E j).2 → rootsF (selF P.E on P.m) P.n + 1 = rootsF (selF P.E (offB on j) P.m) P.n ∧ ∀ u v, selF P.E on P.m u = selF P.E on P.m v → selF P.E (offB on j) P.m u = selF P.E (offB on j) P.m v ∨ (selF P.E (offB on j) P.m u = selF P.E (offB on j) P.m (P.E j).1 ∧ selF P.E (offB on j) P.m v = selF P.E (offB on j) P.m (P.E j).2) ∨ (selF P.E (offB on j) P.m u = selF P.E (offB on j) P.m (P.E j).2 ∧ selF P.E (offB on j) P.m v = selF P.E (offB on j) P.m (P.E j).1)) ∧ (selF P.E (offB on j) P.m (P.E j).1 = selF P.E (offB on j) P.m (P.E j).2 → selF P.E on P.m = selF P.E (offB on j) P.m) := by
  obtain ⟨L, hL⟩ : ∃ L, selF P.E (offB on j) P.m = L := ⟨_, rfl⟩
  have fac : ∀ v, L (L v) = L v ∧ L v ≤ v := by rw [← hL]; exact selF_facts _ _ _
  have le : ∀ i, i < P.m → offB on j i = true → L (P.E i).1 = L (P.E i).2 := fun i hi h' => by rw [← hL]; exact selF_edge hi h'
  have hm : selF P.E on P.m = mrgF L (P.E j).1 (P.E j).2 := by
    funext v
    have A : ∀ i, i < P.m → on i = true → mrgF L (P.E j).1 (P.E j).2 (P.E i).1 = mrgF L (P.E j).1 (P.E j).2 (P.E i).2 := fun i hi ho' => by
      by_cases e : i = j
      · subst e; exact mrgF_ends _ _ _
      · exact mrgF_keep (le i hi (by unfold offB; simp [ho', e]))
    have sub : ∀ u v, L u = L v → selF P.E on P.m u = selF P.E on P.m v := by
      rw [← hL]
      exact selF_min (E := P.E) (on := offB on j) (m := P.m) (selF P.E on P.m) (fun i hi h' => selF_edge hi (by unfold offB at h'; simp at h'; exact h'.1))
    have B := selF_min (E := P.E) (on := on) (m := P.m) (mrgF L (P.E j).1 (P.E j).2) A _ _ (selF_idem P.E on P.m v)
    have C : selF P.E on P.m (mrgF L (P.E j).1 (P.E j).2 v) = selF P.E on P.m v := by
      have ej := selF_edge (E := P.E) (on := on) (m := P.m) (i := j) hj ho
      have k1 := sub _ _ (fac (P.E j).1).1
      have k2 := sub _ _ (fac (P.E j).2).1
      have kv := sub _ _ (fac v).1
      unfold mrgF
      by_cases e : L v = max (L (P.E j).1) (L (P.E j).2)
      · rw [if_pos e]
        rcases Nat.le_total (L (P.E j).1) (L (P.E j).2) with hl | hl
        · rw [Nat.min_eq_left hl]; rw [Nat.max_eq_right hl] at e
          rw [k1, ej, ← k2, ← e, kv]
        · rw [Nat.min_eq_right hl]; rw [Nat.max_eq_left hl] at e
          rw [k2, ← ej, ← k1, ← e, kv]
      · rw [if_neg e, kv]
    have D := selF_le P.E on P.m (mrgF L (P.E j).1 (P.E j).2 v)
    have mle : ∀ u, mrgF L (P.E j).1 (P.E j).2 u ≤ u := fun u => by
      have := (fac u).2
      unfold mrgF; split <;> omega
    have F := mle (selF P.E on P.m v)
    omega
  rw [hm, hL]
  have en := h.ends j hj
  refine ⟨fun hne => ⟨mrgF_roots fac en.1 en.2 hne, fun u v e => ?_⟩, fun e => mrgF_same e⟩
  unfold mrgF at e
  split at e <;> split at e <;> omega
/-- The two sums of an edge that is off, told by the tree that it makes. -/
theorem cross {P : Pn} (h : P.Ok) {a b s j : Nat} (ha : a < P.n) (hb : b < P.n) (hab : P.all a = P.all b) (hj : j < P.m) (hF : bit s j = true) :
    (if P.twoB a b (P.E j).1 (s ^^^ 2 ^ j) = true then (1 : Int) else 0) - (if P.twoB a b (P.E j).2 (s ^^^ 2 ^ j) = true then 1 else 0) = if P.treeB s = true then P.side (bit s) j a - P.side (bit s) j b else 0 := by
  have hbit : ∀ i, i < P.m → bit (s ^^^ 2 ^ j) i = offB (bit s) j i := fun i _ => by
    rw [bit_flip]; unfold offB
    by_cases e : i = j
    · subst e; simp [hF]
    · rw [beq_eq_false_iff_ne.2 e]; simp
  have eL : P.L (s ^^^ 2 ^ j) = selF P.E (offB (bit s) j) P.m := selF_congr hbit
  have eC : P.cnt (s ^^^ 2 ^ j) + 1 = P.cnt s := by
    have q := cnt_off hj hF
    show cntF _ _ + 1 = cntF _ _
    rw [cntF_congr hbit]; exact q
  obtain ⟨h1, h2⟩ := roots_mrg h hj hF
  have tw : ∀ v, P.twoB a b v (s ^^^ 2 ^ j) = true ↔ (rootsF (selF P.E (offB (bit s) j) P.m) P.n + P.cnt (s ^^^ 2 ^ j) = P.n ∧ rootsF (selF P.E (offB (bit s) j) P.m) P.n = P.least + 1) ∧ (selF P.E (offB (bit s) j) P.m a ≠ selF P.E (offB (bit s) j) P.m b ∧ selF P.E (offB (bit s) j) P.m v = selF P.E (offB (bit s) j) P.m a) := fun v => by
    unfold twoB roots
    rw [eL, Bool.and_eq_true, Bool.and_eq_true, Bool.and_eq_true, decide_eq_true_eq, decide_eq_true_eq, Bool.not_eq_true', beq_eq_false_iff_ne, beq_iff_eq, and_assoc]
  have tr : P.treeB s = true ↔ rootsF (selF P.E (bit s) P.m) P.n + P.cnt s = P.n ∧ rootsF (selF P.E (bit s) P.m) P.n = P.least := by
    unfold treeB; rw [Bool.and_eq_true, decide_eq_true_eq, decide_eq_true_eq]; exact Iff.rfl
  simp only [tw]
  by_cases hT : P.treeB s = true
  · rw [if_pos hT]
    have ht := tr.1 hT
    have ne := forest_apart h.ends ht.1 hj hF
    obtain ⟨r1, r2⟩ := h1 ne
    have c1 : rootsF (selF P.E (offB (bit s) j) P.m) P.n + P.cnt (s ^^^ 2 ^ j) = P.n ∧ rootsF (selF P.E (offB (bit s) j) P.m) P.n = P.least + 1 := by omega
    have cab := r2 a b (by
      have e1 := tree_all hT ha
      have e2 := tree_all hT hb
      show P.L s a = P.L s b
      rw [e1, e2, hab])
    unfold side
    generalize selF P.E (offB (bit s) j) P.m = L at *
    simp only [c1, true_and, and_true]
    by_cases x1 : L a = L b
    · simp [x1]
    · rcases cab with q | ⟨q1, q2⟩ | ⟨q1, q2⟩
      · exact absurd q x1
      · have n1 : ¬ L (P.E j).2 = L (P.E j).1 := fun q => ne q.symm
        simp [q1, q2, ne, n1]; omega
      · have n1 : ¬ L (P.E j).2 = L (P.E j).1 := fun q => ne q.symm
        simp [q1, q2, ne, n1]; omega
  · rw [if_neg hT]
    by_cases c1 : rootsF (selF P.E (offB (bit s) j) P.m) P.n + P.cnt (s ^^^ 2 ^ j) = P.n ∧ rootsF (selF P.E (offB (bit s) j) P.m) P.n = P.least + 1
    · by_cases e : selF P.E (offB (bit s) j) P.m (P.E j).1 = selF P.E (offB (bit s) j) P.m (P.E j).2
      · rw [e]; omega
      · have := (h1 e).1
        exact absurd (tr.2 (by omega)) hT
    · rw [if_neg (fun q => c1 q.1), if_neg (fun q => c1 q.1)]; rfl
/-- Kirchhoff's law, weighed by any function of the nodes. -/
theorem kirchhoff {P : Pn} (h : P.Ok) {a b : Nat} (ha : a < P.n) (hb : b < P.n) (hab : P.all a = P.all b) (f : Nat → Int) :
    sumF (fun j => P.dn j * (f (P.E j).1 - f (P.E j).2) * P.dif a b j) P.m = P.tot * (f a - f b) := by
  have e1 : ∀ j, j < P.m → P.dn j * (f (P.E j).1 - f (P.E j).2) * P.dif a b j = sumF (fun s => if P.treeB s = true then P.wt s * (if bit s j = true then (f (P.E j).1 - f (P.E j).2) * (P.side (bit s) j a - P.side (bit s) j b) else 0) else 0) (2 ^ P.m) := by
    intro j hj
    unfold dif
    rw [sumF_flip _ hj, sumF_mul]
    refine sumF_congr (fun s hs => ?_)
    unfold dF
    have hb' : bit (s ^^^ 2 ^ j) j = !bit s j := by rw [bit_flip]; simp
    by_cases ho : bit s j = true
    · rw [if_neg (by rw [hb', ho]; decide), cross h ha hb hab hj ho]
      have hw : wxF P.nm P.dn (bit (s ^^^ 2 ^ j)) j P.m = wxF P.nm P.dn (bit s) j P.m := wxF_congr (fun i hi hne => by rw [bit_flip, beq_eq_false_iff_ne.2 hne]; simp)
      have hw2 : P.wt s = wxF P.nm P.dn (bit s) j P.m * P.dn j := by
        show wtF _ _ _ _ = _
        rw [wxF_wt hj, if_pos ho]
      rw [hw]
      by_cases hT : P.treeB s = true
      · rw [if_pos hT, if_pos hT, if_pos ho, hw2]
        generalize wxF P.nm P.dn (bit s) j P.m = X
        generalize P.dn j = D
        generalize (f (P.E j).1 - f (P.E j).2) = F
        generalize (P.side (bit s) j a - P.side (bit s) j b) = S
        rw [Int.mul_comm S X, ← Int.mul_assoc, Int.mul_assoc D F X, Int.mul_comm F X, ← Int.mul_assoc D X F, Int.mul_comm D X, Int.mul_assoc]
      · rw [if_neg hT, if_neg hT, Int.zero_mul, Int.mul_zero]
    · rw [if_pos (by rw [hb']; simp at ho; simp [ho]), if_neg ho, Int.mul_zero, Int.mul_zero]
      split <;> rfl
  rw [sumF_congr e1, sumF_comm]
  have e2 : ∀ s, sumF (fun j => if P.treeB s = true then P.wt s * (if bit s j = true then (f (P.E j).1 - f (P.E j).2) * (P.side (bit s) j a - P.side (bit s) j b) else 0) else 0) P.m = (f a - f b) * P.tF s := by
    intro s
    by_cases hT : P.treeB s = true
    · simp only [if_pos hT]
      rw [← sumF_mul, tree_way h hT ha hb hab f, Int.mul_comm]
      unfold tF; rw [if_pos hT]
    · simp only [if_neg hT]
      rw [sumF_zero]
      unfold tF; rw [if_neg hT, Int.mul_zero]
  rw [sumF_congr (fun s _ => e2 s), ← sumF_mul, Int.mul_comm]
  rfl
end Pn
end Go.Proofs.Ytjolkdckhmmenaa

/- Potentials, currents and resistances of a network: plain. -/
namespace Go.Proofs.Ytjolkdckhmmenaa
open Go.RowKit
set_option linter.unusedVariables false
set_option linter.unusedSimpArgs false

def lsum (g : Res → Int) : List Res → Int
  | [] => 0
  | r :: rs => g r + lsum g rs
theorem lsum_append (g : Res → Int) (xs ys : List Res) : lsum g (xs ++ ys) = lsum g xs + lsum g ys := by
  induction xs with
  | nil => simp [lsum]
  | cons x xs ih => simp only [List.cons_append, lsum, ih]; omega
theorem lsum_congr {g h : Res → Int} {xs : List Res} (e : ∀ r ∈ xs, g r = h r) : lsum g xs = lsum h xs := by
  induction xs with
  | nil => rfl
  | cons x xs ih => simp only [lsum, ih (fun r hr => e r (by simp [hr])), e x (by simp)]
theorem lsum_filter {g : Res → Int} {p : Res → Bool} {xs : List Res} (h : ∀ r ∈ xs, p r = false → g r = 0) : lsum g (xs.filter p) = lsum g xs := by
  induction xs with
  | nil => rfl
  | cons x xs ih =>
    have ih' := ih (fun r hr => h r (by simp [hr]))
    rw [List.filter_cons]
    cases e : p x with
    | true => simp only [if_true, lsum, ih']
    | false =>
      have := h x (by simp) e
      simp only [Bool.false_eq_true, if_false, lsum, ih']; omega
theorem lsum_nn {g : Res → Int} {xs : List Res} (h : ∀ r ∈ xs, 0 ≤ g r) : 0 ≤ lsum g xs := by
  induction xs with
  | nil => simp [lsum]
  | cons x xs ih =>
    have := ih (fun r hr => h r (by simp [hr]))
    have := h x (by simp)
    simp only [lsum]; omega
theorem lsum_add (g h : Res → Int) (xs : List Res) : lsum g xs + lsum h xs = lsum (fun r => g r + h r) xs := by
  induction xs with
  | nil => simp [lsum]
  | cons x xs ih => simp only [lsum, ← ih]; omega
theorem lsum_mul (g : Res → Int) (c : Int) (xs : List Res) : c * lsum g xs = lsum (fun r => c * g r) xs := by
  induction xs with
  | nil => simp [lsum]
  | cons x xs ih => simp only [lsum, ← ih, Int.mul_add]
theorem sumF_lsum {g : Nat → Int} {G : Res → Int} {rs : List Res} (h : ∀ j r, rs[j]? = some r → g j = G r) : sumF g rs.length = lsum G rs := by
  have key : ∀ k, k ≤ rs.length → sumF g k = lsum G (rs.take k) := by
    intro k hk
    induction k with
    | zero => rfl
    | succ k ih =>
      have e : rs[k]? = some rs[k] := List.getElem?_eq_getElem (by omega)
      rw [List.take_add_one, e]
      show sumF g k + g k = lsum G (rs.take k ++ [rs[k]])
      rw [lsum_append, ih (by omega), h k _ e]; simp [lsum]
  rw [key _ (Nat.le_refl _), List.take_length]

/-- A valid network and two connected nodes. -/
structure NetAB where
  n : Nat
  rs : List Res
  a : Nat
  b : Nat
  ok : nwB (n : Int) rs = true
  ha : a < n
  hb : b < n
  hab : allL rs a = allL rs b
namespace NetAB
variable (X : NetAB)
def P : Pn := parP X.n X.rs X.a
def T : Int := X.P.tot
def S (v : Int) : Int := X.P.top X.a X.b v.toNat
/-- The current through a resistor, by its denominator. -/
def cur (r : Res) : Int := (X.S r.a - X.S r.b) / r.num
theorem T_pos : 0 < X.T := Pn.tot_pos (par_ok X.ok rfl X.a)
theorem T_le : X.T ≤ 2560000000000000000 := par_bd X.ok rfl X.a (Pn.tot_le (par_ok X.ok rfl X.a))
theorem S_bd (v : Int) : 0 ≤ X.S v ∧ X.S v ≤ 2560000000000000000 := by
  have q := Pn.top_bd (par_ok X.ok rfl X.a) X.a X.b v.toNat
  exact ⟨q.1, par_bd X.ok rfl X.a q.2⟩
theorem res_in {r : Res} (h : r ∈ X.rs) : (0 ≤ r.a ∧ r.a < X.n) ∧ (0 ≤ r.b ∧ r.b < X.n) ∧ r.a ≠ r.b ∧ vrB r.num r.den = true ∧ (1 ≤ r.num ∧ r.num ≤ 1000000) ∧ (1 ≤ r.den ∧ r.den ≤ 1000000) := (nw_facts X.ok).2.2.1 r h
theorem par_at {j : Nat} {r : Res} (h : (partR X.rs X.a)[j]? = some r) : X.S r.a - X.S r.b = r.num * X.P.dif X.a X.b j := by
  obtain ⟨hj, _⟩ := List.getElem?_eq_some_iff.1 h
  have q := Pn.top_dif (P := X.P) (a := X.a) (b := X.b) (j := j) hj
  have e1 : X.P.E j = (r.a.toNat, r.b.toNat) := edg_at h
  have e2 : X.P.nm j = r.num := rnm_at h
  rw [e1, e2] at q
  exact q
/-- The difference of the potentials at a resistor, and its bound. -/
theorem cur_eq {r : Res} (h : r ∈ X.rs) : X.S r.a - X.S r.b = r.num * X.cur r ∧ -2560000000000000000 ≤ X.cur r * r.den ∧ X.cur r * r.den ≤ 2560000000000000000 := by
  obtain ⟨_, _, _, _, h5, h6⟩ := X.res_in h
  by_cases hc : allL X.rs r.a.toNat = allL X.rs X.a
  · obtain ⟨j, hj, ej⟩ := List.getElem_of_mem (mem_part.2 ⟨h, hc⟩)
    have e : (partR X.rs X.a)[j]? = some r := by rw [List.getElem?_eq_getElem hj, ej]
    have q := X.par_at e
    have d := Pn.dif_bd (P := X.P) (par_ok X.ok rfl X.a) X.a X.b (j := j) hj
    have e2 : X.P.dn j = r.den := rdn_at e
    rw [e2] at d
    have ec : X.cur r = X.P.dif X.a X.b j := by unfold cur; rw [q, Int.mul_ediv_cancel_left _ (by omega)]
    rw [ec]
    refine ⟨q, ?_, par_bd X.ok rfl X.a d.2⟩
    have := par_bd X.ok rfl X.a (z := -(X.P.dif X.a X.b j * r.den)) (by
      have := d.1
      show _ ≤ ((2 ^ X.P.m : Nat) : Int) * mxF X.P.nm X.P.dn X.P.m
      omega)
    omega
  · have e1 : X.S r.a = 0 := top_out hc
    have e2 : X.S r.b = 0 := top_out (by rw [← all_edge h]; exact hc)
    have ec : X.cur r = 0 := by unfold cur; rw [e1, e2]; simp
    rw [ec, e1, e2]; simp
/-- Kirchhoff's law over all resistors. -/
theorem law (f : Nat → Int) : lsum (fun r => r.den * (f r.a.toNat - f r.b.toNat) * X.cur r) X.rs = X.T * (f X.a - f X.b) := by
  have hab : X.P.all X.a = X.P.all X.b := par_all (n := X.n) (rs := X.rs) (a := X.a) rfl X.hab.symm
  have K := Pn.kirchhoff (P := X.P) (par_ok X.ok rfl X.a) (a := X.a) (b := X.b) X.ha X.hb hab f
  rw [← lsum_filter (p := fun r => decide (allL X.rs r.a.toNat = allL X.rs X.a)) (fun r hr hp => by
    have hc : ¬ allL X.rs r.a.toNat = allL X.rs X.a := by simpa using hp
    have e1 : X.S r.a = 0 := top_out hc
    have e2 : X.S r.b = 0 := top_out (by rw [← all_edge hr]; exact hc)
    have ec : X.cur r = 0 := by unfold cur; rw [e1, e2]; simp
    rw [ec, Int.mul_zero])]
  show _ = X.P.tot * (f X.a - f X.b)
  rw [← K]
  refine (sumF_lsum (rs := partR X.rs X.a) (fun j r e => ?_)).symm
  have q := X.par_at e
  have hr := (mem_part.1 (List.mem_of_getElem? e)).1
  obtain ⟨_, _, _, _, h5, h6⟩ := X.res_in hr
  have e1 : X.P.E j = (r.a.toNat, r.b.toNat) := edg_at e
  have e2 : X.P.dn j = r.den := rdn_at e
  have ec : X.cur r = X.P.dif X.a X.b j := by unfold cur; rw [q, Int.mul_ediv_cancel_left _ (by omega)]
  rw [e1, e2, ec]
theorem S_b : X.S X.b = 0 := by
  show X.P.top X.a X.b ((X.b : Int).toNat) = 0
  rw [Int.toNat_natCast]
  unfold Pn.top
  rw [sumF_congr (g := fun _ => 0) (fun s _ => gF_no (fun q => ?_)), sumF_zero]
  unfold Pn.twoB at q
  simp only [Bool.and_eq_true, Bool.not_eq_true', beq_eq_false_iff_ne, beq_iff_eq] at q
  exact q.2.2.1 q.2.2.2.symm
/-- The resistance, by its numerator. -/
def N : Int := X.S X.a
theorem N_eq : X.N = sumF (fun s => if (decide (X.P.roots s + X.P.cnt s = X.P.n) && (decide (X.P.roots s = X.P.least + 1) && !(X.P.L s X.a == X.P.L s X.b))) = true then X.P.wt s else 0) (2 ^ X.P.m) := by
  show X.P.top X.a X.b ((X.a : Int).toNat) = _
  rw [Int.toNat_natCast]
  unfold Pn.top
  refine sumF_congr (fun s _ => ?_)
  unfold Pn.gF Pn.twoB
  simp
/-- The other way round. -/
def flip : NetAB := ⟨X.n, X.rs, X.b, X.a, X.ok, X.hb, X.ha, X.hab.symm⟩
theorem P_of (c : Nat) (hc : allL X.rs c = allL X.rs X.a) : parP X.n X.rs c = X.P := by
  unfold P parP partR; rw [hc]
theorem flip_P : X.flip.P = X.P := X.P_of X.b X.hab.symm
theorem flip_T : X.flip.T = X.T := by unfold T; rw [flip_P]
theorem flip_N : X.flip.N = X.N := by
  rw [N_eq, N_eq, flip_P]
  refine sumF_congr (fun s _ => ?_)
  have : (X.P.L s X.flip.a == X.P.L s X.flip.b) = (X.P.L s X.a == X.P.L s X.b) := by
    show (X.P.L s X.b == X.P.L s X.a) = _
    rw [Bool.eq_iff_iff, beq_iff_eq, beq_iff_eq]; exact ⟨Eq.symm, Eq.symm⟩
  rw [this]
theorem N_zero (h : X.a = X.b) : X.N = 0 := by
  unfold N; rw [h]; exact X.S_b
theorem N_pos (h : X.a ≠ X.b) : 0 < X.N := by
  rcases Int.lt_or_le 0 X.N with hp | hp
  · exact hp
  · exfalso
    have ok := par_ok X.ok rfl X.a
    have z : ∀ s, s < 2 ^ X.P.m → ∀ v, X.P.gF X.a X.b v s = 0 := by
      intro s hs v
      by_cases q : X.P.twoB X.a X.b v s = true
      · exfalso
        have q2 : X.P.twoB X.a X.b X.a s = true := by
          unfold Pn.twoB at q ⊢
          simp only [Bool.and_eq_true, Bool.not_eq_true', beq_eq_false_iff_ne, beq_iff_eq, decide_eq_true_eq] at q ⊢
          exact ⟨q.1, q.2.1, q.2.2.1, trivial⟩
        have w := (Pn.wt_bd ok s).1
        have p : 0 < X.P.top X.a X.b X.a := sumF_pos (j := s) (fun i _ => (Pn.gF_bd ok X.a X.b X.a i).1) hs (by rw [gF_yes q2]; have w' : 1 ≤ X.P.wt s := w; omega)
        have e : X.N = X.P.top X.a X.b X.a := by show X.P.top X.a X.b ((X.a : Int).toNat) = _; rw [Int.toNat_natCast]
        omega
      · exact gF_no q
    have zs : ∀ v, X.S v = 0 := fun v => by
      show X.P.top X.a X.b v.toNat = 0
      unfold Pn.top
      rw [sumF_congr (g := fun _ => 0) (fun s hs => z s hs v.toNat), sumF_zero]
    have K := X.law (fun u => if u = X.a then 1 else 0)
    rw [lsum_congr (h := fun _ => 0) (fun r hr => by
      have : X.cur r = 0 := by unfold cur; rw [zs, zs]; simp
      rw [this, Int.mul_zero])] at K
    have e0 : lsum (fun _ => 0) X.rs = 0 := by
      induction X.rs with
      | nil => rfl
      | cons x xs ih => simp only [lsum, ih]; rfl
    rw [e0, if_pos rfl, if_neg (fun q => h q.symm)] at K
    have := X.T_pos
    omega
/-- The triangle inequality. -/
theorem N_tri (c : Nat) (hc : c < X.n) (hac : allL X.rs X.a = allL X.rs c) : X.N ≤ (⟨X.n, X.rs, X.a, c, X.ok, X.ha, hc, hac⟩ : NetAB).N + (⟨X.n, X.rs, c, X.b, X.ok, hc, X.hb, hac.symm.trans X.hab⟩ : NetAB).N := by
  rw [N_eq, N_eq, N_eq]
  have e1 : (⟨X.n, X.rs, X.a, c, X.ok, X.ha, hc, hac⟩ : NetAB).P = X.P := rfl
  have e2 : (⟨X.n, X.rs, c, X.b, X.ok, hc, X.hb, hac.symm.trans X.hab⟩ : NetAB).P = X.P := X.P_of c hac.symm
  rw [e1, e2, sumF_add]
  refine sumF_mono (fun s _ => ?_)
  have w := (Pn.wt_bd (par_ok X.ok rfl X.a) s).1
  have w' : 1 ≤ X.P.wt s := w
  by_cases h1 : X.P.roots s + X.P.cnt s = X.P.n <;> by_cases h2 : X.P.roots s = X.P.least + 1
  · simp only [decide_eq_true h1, decide_eq_true h2, Bool.true_and]
    by_cases h3 : X.P.L s X.a = X.P.L s X.b
    · simp only [h3, beq_self_eq_true, Bool.not_true, Bool.false_eq_true, if_false]
      split <;> split <;> omega
    · by_cases h4 : X.P.L s X.a = X.P.L s c
      · have h5 : ¬ X.P.L s c = X.P.L s X.b := fun q => h3 (h4.trans q)
        simp [h3, h4, h5]
      · have : (X.P.L s X.a == X.P.L s c) = false := by simpa using h4
        simp only [this, Bool.not_false, if_true]
        split <;> split <;> omega
  · simp only [decide_eq_false h2, Bool.false_and, Bool.and_false, Bool.false_eq_true, if_false]; omega
  · simp only [decide_eq_false h1, Bool.false_and, Bool.false_eq_true, if_false]; omega
  · simp only [decide_eq_false h1, Bool.false_and, Bool.false_eq_true, if_false]; omega
theorem tri_T (c : Nat) (hc : c < X.n) (hac : allL X.rs X.a = allL X.rs c) : (⟨X.n, X.rs, X.a, c, X.ok, X.ha, hc, hac⟩ : NetAB).T = X.T ∧ (⟨X.n, X.rs, c, X.b, X.ok, hc, X.hb, hac.symm.trans X.hab⟩ : NetAB).T = X.T := by
  refine ⟨rfl, ?_⟩
  show (parP X.n X.rs c).tot = X.P.tot
  rw [X.P_of c hac.symm]
end NetAB
theorem sq_nn (x : Int) : 0 ≤ x * x := by
  rcases Int.le_total 0 x with h | h
  · exact Int.mul_nonneg h h
  · have := Int.mul_nonneg (show 0 ≤ -x by omega) (show 0 ≤ -x by omega)
    rwa [Int.neg_mul_neg] at this
/-- One resistor more never increases a resistance. -/
theorem more_less (X Y : NetAB) (x : Res) (hr : Y.rs = X.rs ++ [x]) (ha : Y.a = X.a) (hb : Y.b = X.b) : Y.N * X.T ≤ X.N * Y.T := by
  have T1 := X.T_pos
  have T2 := Y.T_pos
  have mem : ∀ r ∈ X.rs, r ∈ Y.rs := fun r h => by rw [hr]; simp [h]
  have K1 := X.law (fun u => X.S u)
  have K2 := X.law (fun u => Y.S u)
  have K3 := Y.law (fun u => Y.S u)
  have nn : ∀ r ∈ Y.rs, (r.a.toNat : Int) = r.a ∧ (r.b.toNat : Int) = r.b := fun r h => by
    obtain ⟨h1, h2, _⟩ := Y.res_in h
    omega
  have c1 : lsum (fun r => r.den * r.num * (X.cur r * X.cur r)) X.rs = X.T * X.N := by
    have e : X.S X.b = 0 := X.S_b
    rw [e, Int.sub_zero] at K1
    rw [show X.N = X.S X.a from rfl, ← K1]
    refine lsum_congr (fun r h => ?_)
    have n := nn r (mem r h)
    have q := (X.cur_eq h).1
    simp only [n.1, n.2, q]
    grind
  have c2 : lsum (fun r => r.den * r.num * (Y.cur r * X.cur r)) X.rs = X.T * Y.N := by
    have e : Y.S X.b = 0 := by rw [← hb]; exact Y.S_b
    rw [e, Int.sub_zero] at K2
    rw [show Y.N = Y.S X.a by rw [← ha]; rfl, ← K2]
    refine lsum_congr (fun r h => ?_)
    have n := nn r (mem r h)
    have q := (Y.cur_eq (mem r h)).1
    simp only [n.1, n.2, q]
    grind
  have c3 : lsum (fun r => r.den * r.num * (Y.cur r * Y.cur r)) X.rs ≤ Y.T * Y.N := by
    have e : Y.S Y.b = 0 := Y.S_b
    rw [e, Int.sub_zero] at K3
    rw [show Y.N = Y.S Y.a from rfl, ← K3]
    have q2 : lsum (fun r => r.den * ((fun u => Y.S u) (r.a.toNat : Int) - (fun u => Y.S u) (r.b.toNat : Int)) * Y.cur r) Y.rs = lsum (fun r => r.den * r.num * (Y.cur r * Y.cur r)) Y.rs := lsum_congr (fun r h => by
      have n := nn r h
      have q := (Y.cur_eq h).1
      simp only [n.1, n.2, q]
      grind)
    rw [q2, hr, lsum_append]
    have p := X.T_pos
    have hx := Y.res_in (show x ∈ Y.rs by rw [hr]; simp)
    have : 0 ≤ lsum (fun r => r.den * r.num * (Y.cur r * Y.cur r)) [x] := lsum_nn (fun r h => by
      have e : r = x := by simpa using h
      subst e
      exact Int.mul_nonneg (Int.mul_nonneg (by omega) (by omega)) (sq_nn _))
    omega
  have c4 : 0 ≤ lsum (fun r => r.den * r.num * ((X.T * Y.cur r - Y.T * X.cur r) * (X.T * Y.cur r - Y.T * X.cur r))) X.rs := lsum_nn (fun r h => by
    obtain ⟨_, _, _, _, h5, h6⟩ := X.res_in h
    exact Int.mul_nonneg (Int.mul_nonneg (by omega) (by omega)) (sq_nn _))
  have c5 : lsum (fun r => r.den * r.num * ((X.T * Y.cur r - Y.T * X.cur r) * (X.T * Y.cur r - Y.T * X.cur r))) X.rs = (X.T * X.T) * lsum (fun r => r.den * r.num * (Y.cur r * Y.cur r)) X.rs + ((-(2 * (X.T * Y.T))) * lsum (fun r => r.den * r.num * (Y.cur r * X.cur r)) X.rs + (Y.T * Y.T) * lsum (fun r => r.den * r.num * (X.cur r * X.cur r)) X.rs) := by
    rw [lsum_mul, lsum_mul, lsum_mul, lsum_add, lsum_add]
    exact lsum_congr (fun r _ => by grind)
  rw [c5, c1, c2] at c4
  generalize lsum (fun r => r.den * r.num * (Y.cur r * Y.cur r)) X.rs = A at c3 c4
  generalize X.T = t at *
  generalize Y.T = u at *
  generalize X.N = n at *
  generalize Y.N = m at *
  have d1 := Int.mul_le_mul_of_nonneg_left c3 (sq_nn t)
  have d2 : 0 ≤ (t * u) * (n * u - m * t) := by
    have : t * t * (u * m) + (-(2 * (t * u)) * (t * m) + u * u * (t * n)) = (t * u) * (n * u - m * t) := by grind
    omega
  rcases Int.lt_or_le (n * u - m * t) 0 with hc | hc
  · have := Int.mul_neg_of_pos_of_neg (Int.mul_pos T1 T2) hc
    omega
  · omega
end Go.Proofs.Ytjolkdckhmmenaa
