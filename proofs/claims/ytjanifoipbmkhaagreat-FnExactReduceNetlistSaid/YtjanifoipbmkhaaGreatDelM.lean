/- slices.DeleteFunc on a slice of devices of the call's own: the plain part, and clear. -/
import Derived.Test.YtjanifoipbmkhaaGreatCopies
import Derived.Test.YtjanifoipbmkhaaGreatFidxs
import Derived.Test.YtjanifoipbmkhaaGreatValid0
import Derived.Laws.IdiomCopy
import Derived.Laws.AppendOwn
namespace Go.Proofs.YtjanifoipbmkhaaGreat
open Go.RowKit
set_option linter.unusedVariables false
set_option linter.unusedSimpArgs false

theorem run_clear_dev (w : World) (ty : TypeId) (b o n c : Nat) (hn : 0 < n)
    (hc : ∀ j, j < n * 4 → (w.cell? ⟨b, o + j, none⟩).isSome = true) (hf : ∀ j, w.frozen? ⟨b, j, none⟩ = false) :
    ∃ vs : List Value, vs.length = n * 4 ∧ (Builtin.clear_ #[27] ty #[.slice (some ⟨b, o, none⟩) n c]).run Tryz.prog w = .ok (.tuple #[]) (w.setCells b o vs) := by
  have hv : ∀ w, (zeroValue 46).run Tryz.prog w = .ok (.agg #[.int .i64 0, .slice none 0 0, .int .i64 0, .int .i64 0]) w := fun w => by kernel_rfl
  have hz : (Value.agg #[.int .i64 0, .slice none 0 0, .int .i64 0, .int .i64 0]).cells = #[.int .i64 0, .slice none 0 0, .int .i64 0, .int .i64 0] := by kernel_rfl
  have hlen : (Builtin.zeroCells #[Value.int .i64 0, .slice none 0 0, .int .i64 0, .int .i64 0] n).toList.length = n * 4 := by rw [Array.length_toList, size_zeroCells]; rfl
  have h1 : ∀ v ∈ (Builtin.zeroCells #[Value.int .i64 0, .slice none 0 0, .int .i64 0, .int .i64 0] n).toList, v.oneCell' = true := by
    intro v hv'
    simp [Builtin.zeroCells] at hv'
    obtain ⟨i, hi, rfl⟩ := hv'
    have h4 : i % 4 < 4 := Nat.mod_lt _ (by omega)
    generalize i % 4 = m at h4
    match m, h4 with
    | 0, _ => rfl
    | 1, _ => rfl
    | 2, _ => rfl
    | 3, _ => rfl
  have hst := run_storeCells_cells (P := Tryz.prog) b o (Builtin.zeroCells #[Value.int .i64 0, .slice none 0 0, .int .i64 0, .int .i64 0] n).toList 0 w (by rw [hlen]; simpa using hc) (by intro j _; exact hf _) h1
  simp only [Nat.add_zero] at hst
  refine ⟨_, hlen, ?_⟩
  obtain ⟨m, rfl⟩ : ∃ m, n = m + 1 := ⟨n - 1, by omega⟩
  simp [Builtin.clear_, run_underlying Tryz.underlying27, hv, hz, hst]

theorem Blk.setCells (g : Nat) {T : TypeId} : ∀ (vs : List Value) (o : Nat) (w : World) (cs : Array Value), Blk w g cs T → ∃ cs' : Array Value, Blk (w.setCells g o vs) g cs' T ∧ (∀ i, i < o → cs'[i]? = cs[i]?) ∧ Within g (g + 1) w (w.setCells g o vs)
  | [], o, w, cs, h => ⟨cs, h, fun _ _ => rfl, Within.refl _ _ _⟩
  | v :: r, o, w, cs, h => by
    obtain ⟨cs', h1, h2, h3⟩ := Blk.setCells g r (o + 1) (w.setCell ⟨g, o, none⟩ v) _ (h.set o v)
    refine ⟨cs', h1, fun i hi => ?_, (Within.off v).on h3⟩
    rw [h2 i (by omega)]
    simp [Array.getElem?_setIfInBounds, show ¬ o = i by omega]

/-- The device lies in these cells, its pins in block f. -/
def At4 (w : World) (cs : Array Value) (i f : Nat) (x : Dv) : Prop := ∃ pv, Cs4 cs i (.int .i64 x.kind) pv (.int .i64 x.wd) (.int .i64 x.len) ∧ OwnR w f (f + 1) pv x.pins
/-- How far the slice has come: ys lie ahead, what was at k and behind lies where it was. -/
def DelSt (w : World) (lo hi g : Nat) (f : Nat → Nat) (xs ys : List Dv) (k : Nat) (cs : Array Value) : Prop :=
  (∃ h : Nat → Nat, (∀ i y, ys[i]? = some y → At4 w cs i (f (h i)) y ∧ (h i < k ∧ h i < xs.length) ∧ (lo ≤ f (h i) ∧ f (h i) < hi ∧ f (h i) ≠ g)) ∧ (∀ i j, i < ys.length → j < ys.length → i ≠ j → h i ≠ h j)) ∧
  (∀ i x, k ≤ i → xs[i]? = some x → At4 w cs i (f i) x ∧ (lo ≤ f i ∧ f i < hi ∧ f i ≠ g))

section
variable {w w' : World} {lo hi g k : Nat} {f : Nat → Nat} {xs ys : List Dv} {cs cs' : Array Value}
theorem DelSt.skip (h : DelSt w lo hi g f xs ys k cs) : DelSt w lo hi g f xs ys (k + 1) cs := by
  obtain ⟨⟨m, h1, h2⟩, h3⟩ := h
  refine ⟨⟨m, fun i y hy => ?_, h2⟩, fun i x hi hx => h3 i x (by omega) hx⟩
  obtain ⟨a, b, c⟩ := h1 i y hy
  exact ⟨a, ⟨by omega, b.2⟩, c⟩
theorem DelSt.start (h : ∀ i x, xs[i]? = some x → At4 w cs i (f i) x ∧ (lo ≤ f i ∧ f i < hi ∧ f i ≠ g)) (k : Nat) (hk : k < xs.length) : DelSt w lo hi g f xs (xs.take k) (k + 1) cs := by
  refine ⟨⟨fun i => i, fun i y hy => ?_, fun i j _ _ h => h⟩, fun i x _ hx => h i x hx⟩
  dsimp only
  have hi : i < k := by have := (List.getElem?_eq_some_iff.1 hy).1; simp at this; omega
  rw [List.getElem?_take] at hy
  simp [hi] at hy
  exact ⟨(h i y hy).1, ⟨by omega, by omega⟩, (h i y hy).2⟩
theorem Cs4.at_ {cs cs' : Array Value} {i : Nat} {a b c d : Value} (h : Cs4 cs i a b c d) (e : ∀ j, i * 4 ≤ j → j < i * 4 + 4 → cs'[j]? = cs[j]?) : Cs4 cs' i a b c d :=
  ⟨(e _ (by omega) (by omega)).trans h.1, (e _ (by omega) (by omega)).trans h.2.1, (e _ (by omega) (by omega)).trans h.2.2.1, (e _ (by omega) (by omega)).trans h.2.2.2⟩
theorem At4.at_ {i q : Nat} {x : Dv} (h : At4 w cs i q x) (e : ∀ j, i * 4 ≤ j → j < i * 4 + 4 → cs'[j]? = cs[j]?) : At4 w cs' i q x := by
  obtain ⟨pv, h1, h2⟩ := h
  exact ⟨pv, h1.at_ e, h2⟩
def set4 (cs : Array Value) (k : Nat) (a b c d : Value) : Array Value := (((cs.setIfInBounds (k * 4) a).setIfInBounds (k * 4 + 1) b).setIfInBounds (k * 4 + 2) c).setIfInBounds (k * 4 + 3) d
theorem set4_other (cs : Array Value) (k : Nat) (a b c d : Value) (j : Nat) (h : j < k * 4 ∨ k * 4 + 4 ≤ j) : (set4 cs k a b c d)[j]? = cs[j]? := by
  simp [set4, Array.getElem?_setIfInBounds, show ¬ k * 4 = j by omega, show ¬ k * 4 + 1 = j by omega, show ¬ k * 4 + 2 = j by omega, show ¬ k * 4 + 3 = j by omega]
theorem set4_same (cs : Array Value) (k : Nat) (a b c d : Value) (h : k * 4 + 3 < cs.size) : Cs4 (set4 cs k a b c d) k a b c d := by
  refine ⟨?_, ?_, ?_, ?_⟩ <;> simp [set4, Array.getElem?_setIfInBounds] <;> omega
theorem DelSt.push (h : DelSt w lo hi g f xs ys k cs) (hl : ys.length ≤ k) {x : Dv} (hx : xs[k]? = some x) {pv : Value} (hc : Cs4 cs k (.int .i64 x.kind) pv (.int .i64 x.wd) (.int .i64 x.len)) (hO : OwnR w (f k) (f k + 1) pv x.pins) :
    DelSt w lo hi g f xs (ys ++ [x]) (k + 1) (set4 cs ys.length (.int .i64 x.kind) pv (.int .i64 x.wd) (.int .i64 x.len)) := by
  obtain ⟨⟨m, h1, h2⟩, h3⟩ := h
  have hk := (List.getElem?_eq_some_iff.1 hx).1
  have hsz : ys.length * 4 + 3 < cs.size := by have := (Array.getElem?_eq_some_iff.1 hc.2.2.2).1; omega
  refine ⟨⟨fun i => if i = ys.length then k else m i, fun i y hy => ?_, fun i j hi hj hne => ?_⟩, fun i y hi hy => ?_⟩
  · dsimp only
    by_cases e : i = ys.length
    · subst e
      obtain rfl : y = x := by simpa using hy.symm
      rw [if_pos rfl]
      exact ⟨⟨pv, set4_same _ _ _ _ _ _ hsz, hO⟩, ⟨by omega, hk⟩, (h3 k y (Nat.le_refl _) hx).2⟩
    · have hi : i < ys.length := by have := (List.getElem?_eq_some_iff.1 hy).1; simp at this; omega
      rw [List.getElem?_append_left hi] at hy
      obtain ⟨a, b, c⟩ := h1 i y hy
      rw [if_neg e]
      exact ⟨a.at_ (fun j _ _ => set4_other _ _ _ _ _ _ _ (by omega)), ⟨by omega, b.2⟩, c⟩
  · simp at hi hj
    dsimp only
    have hb : ∀ i, i < ys.length → m i < k := fun i hi => (h1 i ys[i] (List.getElem?_eq_getElem hi)).2.1.1
    by_cases e : i = ys.length <;> by_cases e' : j = ys.length
    · omega
    · have := hb j (by omega); rw [if_pos e, if_neg e']; omega
    · have := hb i (by omega); rw [if_neg e, if_pos e']; omega
    · rw [if_neg e, if_neg e']; exact h2 i j (by omega) (by omega) hne
  · obtain ⟨a, b⟩ := h3 i y (by omega) hy
    exact ⟨a.at_ (fun j _ _ => set4_other _ _ _ _ _ _ _ (by omega)), b⟩
theorem DelSt.done (h : DelSt w lo hi g f xs ys k cs) (hinj : ∀ i j, i < xs.length → j < xs.length → i ≠ j → f i ≠ f j) (hw : Within g (g + 1) w w') (hB : Blk w' g cs' 46) (he : ∀ j, j < ys.length * 4 → cs'[j]? = cs[j]?) (hg : lo ≤ g ∧ g < hi) {cap : Nat} (h1 : ys.length ≤ cap) (h2 : cap ≤ maxLen) :
    OwnDs w' lo hi (.slice (some ⟨g, 0, none⟩) ys.length cap) ys := by
  obtain ⟨⟨m, a1, a2⟩, _⟩ := h
  refine .inr ⟨g, cap, cs', fun i => f (m i), rfl, hg, h1, h2, hB, fun i y hy => ?_, fun i j hi hj hne => ?_⟩
  · dsimp only
    obtain ⟨b1, b2, b3⟩ := a1 i y hy
    have hi := (List.getElem?_eq_some_iff.1 hy).1
    obtain ⟨pv, c1, c2⟩ := b1.at_ (cs' := cs') (fun j _ _ => he j (by omega))
    exact ⟨⟨pv, c1, c2.past hw (by omega)⟩, b3⟩
  · exact hinj _ _ (a1 i ys[i] (List.getElem?_eq_getElem hi)).2.1.2 (a1 j ys[j] (List.getElem?_eq_getElem hj)).2.1.2 (a2 i j hi hj hne)
end
/-- The first of which p holds, if any. -/
theorem first_hit {α : Type} (p : α → Bool) (xs : List α) : (∀ x ∈ xs, p x = false) ∨ ∃ (k : Nat) (x : α), xs[k]? = some x ∧ p x = true ∧ ∀ (j : Nat) (y : α), j < k → xs[j]? = some y → p y = false := by
  induction xs with
  | nil => exact .inl (by simp)
  | cons a l ih =>
    cases ha : p a with
    | true => exact .inr ⟨0, a, rfl, ha, fun j y hj => by omega⟩
    | false =>
      rcases ih with h | ⟨k, x, h1, h2, h3⟩
      · exact .inl (by simpa [ha] using h)
      · refine .inr ⟨k + 1, x, h1, h2, fun j y hj hy => ?_⟩
        cases j with
        | zero => simp at hy; subst hy; exact ha
        | succ j => exact h3 j y (by omega) hy
theorem filter_at {α : Type} {p : α → Bool} {xs : List α} {k : Nat} {x : α} (h : xs[k]? = some x) : (xs.take (k + 1)).filter (fun x => !p x) = (xs.take k).filter (fun x => !p x) ++ (if p x = true then [] else [x]) := by
  rw [take_snoc_of xs k x h, List.filter_append]; cases hp : p x <;> simp [hp]
theorem filter_first {α : Type} {p : α → Bool} {xs : List α} {k : Nat} {x : α} (h : xs[k]? = some x) (hp : p x = true) (h' : ∀ (j : Nat) (y : α), j < k → xs[j]? = some y → p y = false) : (xs.take (k + 1)).filter (fun x => !p x) = xs.take k := by
  rw [filter_at h, hp]
  simp only [if_true, List.append_nil]
  refine List.filter_eq_self.2 fun y hy => ?_
  obtain ⟨j, hj, e⟩ := List.getElem_of_mem hy
  simp at hj e
  rw [h' j y (by omega) (by rw [← e]; exact List.getElem?_eq_getElem (by omega))]; rfl
end Go.Proofs.YtjanifoipbmkhaaGreat
