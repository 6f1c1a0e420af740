/- slices.Delete of one device on a slice of devices of the call's own, and the program's remove. -/
import Derived.Test.YtnchhdhlhlcejaaDelM
import Derived.Test.YtnchhdhlhlcejaaCopies
import Derived.Test.YtnchhdhlhlcejaaMarkX
import Derived.Deep.AppendSrc
import Derived.BigRegion
namespace Go.Proofs.Ytnchhdhlhlcejaa
open Go.RowKit
set_option linter.unusedVariables false
set_option linter.unusedSimpArgs false

theorem Blk.setCellsAt (g : Nat) {T : TypeId} : ∀ (vs : List Value) (o : Nat) (w : World) (cs : Array Value), Blk w g cs T → o + vs.length ≤ cs.size → ∃ cs' : Array Value, Blk (w.setCells g o vs) g cs' T ∧ cs'.size = cs.size ∧ (∀ i, i < o → cs'[i]? = cs[i]?) ∧ (∀ j u, vs[j]? = some u → cs'[o + j]? = some u) ∧ Within g (g + 1) w (w.setCells g o vs)
  | [], o, w, cs, h, _ => ⟨cs, h, rfl, fun _ _ => rfl, fun j u hu => by simp at hu, Within.refl _ _ _⟩
  | v :: r, o, w, cs, h, hs => by
    simp only [List.length_cons] at hs
    obtain ⟨cs', h1, h1', h2, h2', h3⟩ := Blk.setCellsAt g r (o + 1) (w.setCell ⟨g, o, none⟩ v) _ (h.set o v) (by simp; omega)
    refine ⟨cs', h1, by rw [h1']; simp, fun i hi => ?_, fun j u hu => ?_, (Within.off v).on h3⟩
    · rw [h2 i (by omega)]
      simp [Array.getElem?_setIfInBounds, show ¬ o = i by omega]
    · cases j with
      | zero =>
        simp at hu
        subst hu
        rw [Nat.add_zero, h2 o (by omega)]
        simp [Array.getElem?_setIfInBounds]
        omega
      | succ j =>
        simp at hu
        have := h2' j u hu
        rw [← this]
        congr 1
        omega

/-- One device is taken out: its neighbours behind it move down. -/
theorem OwnDsX.erased {w w' : World} {lo hi P g cap k : Nat} {cs cs2 : Array Value} {f : Nat → Nat} {xs : List Dv} (hg : (lo ≤ g ∧ g < hi) ∧ g ≠ P) (hcap : xs.length ≤ cap) (hmx : cap ≤ maxLen) (hk : k < xs.length)
    (hel : ∀ (i : Nat) (x : Dv), xs[i]? = some x → (∃ pv, Cs4 cs i (.int .i64 x.kind) pv (.int .i64 x.wd) (.int .i64 x.len) ∧ OwnR w (f i) (f i + 1) pv x.pins) ∧ (lo ≤ f i ∧ f i < hi ∧ f i ≠ g ∧ f i ≠ P))
    (hinj : ∀ i j, i < xs.length → j < xs.length → i ≠ j → f i ≠ f j)
    (hw : Within g (g + 1) w w') (hB : Blk w' g cs2 46)
    (hlow : ∀ i, i < k * 4 → cs2[i]? = cs[i]?) (hup : ∀ i, k * 4 ≤ i → i < (xs.length - 1) * 4 → cs2[i]? = cs[i + 4]?) :
    OwnDsX w' lo hi P (.slice (some ⟨g, 0, none⟩) (xs.length - 1) cap) (xs.eraseIdx k) := by
  have hlen : (xs.eraseIdx k).length = xs.length - 1 := by rw [List.length_eraseIdx_of_lt hk]
  refine .inr ⟨g, cap, cs2, fun i => if i < k then f i else f (i + 1), by rw [hlen], hg, by omega, hmx, hB, fun i y hy => ?_, fun i j hi' hj hne => ?_⟩
  · have hi' : i < xs.length - 1 := by have := (List.getElem?_eq_some_iff.1 hy).1; omega
    rw [List.getElem?_eraseIdx] at hy
    dsimp only
    by_cases e : i < k
    · rw [if_pos e] at hy ⊢
      obtain ⟨⟨pv, ⟨c0, c1, c2, c3⟩, hO⟩, hf⟩ := hel i y hy
      exact ⟨⟨pv, ⟨by rw [hlow _ (by omega)]; exact c0, by rw [hlow _ (by omega)]; exact c1, by rw [hlow _ (by omega)]; exact c2, by rw [hlow _ (by omega)]; exact c3⟩, OwnR.past hw hO (by omega)⟩, hf⟩
    · rw [if_neg e] at hy ⊢
      obtain ⟨⟨pv, ⟨c0, c1, c2, c3⟩, hO⟩, hf⟩ := hel (i + 1) y hy
      refine ⟨⟨pv, ⟨?_, ?_, ?_, ?_⟩, OwnR.past hw hO (by omega)⟩, hf⟩
      · rw [hup _ (by omega) (by omega), ← c0]; congr 1; omega
      · rw [hup _ (by omega) (by omega), ← c1]; congr 1; omega
      · rw [hup _ (by omega) (by omega), ← c2]; congr 1; omega
      · rw [hup _ (by omega) (by omega), ← c3]; congr 1; omega
  · dsimp only
    split <;> split <;> exact hinj _ _ (by omega) (by omega) (by omega)

/-- The cells of the devices behind place k. -/
theorem run_append_rest (w : World) (g k n : Nat) (cs : Array Value) (hB : Blk w g cs 46) (hk : k ≤ n) (hs : (n + 1) * 4 ≤ cs.size)
    (h1 : ∀ i u, cs[i]? = some u → i < (n + 1) * 4 → u.oneCell' = true) :
    ∃ vs : List Value, vs.length = (n - k) * 4 ∧ (∀ j, j < (n - k) * 4 → vs[j]? = cs[(k + 1) * 4 + j]?) ∧
      (loadCellsFrom ⟨g, (k + 1) * 4, none⟩ 0 ((n - k) * 4) #[]).run Try.prog w = .ok vs.toArray w ∧ (storeCells ⟨g, k * 4, none⟩ vs).run Try.prog w = .ok () (w.setCells g (k * 4) vs) := by
  have hvl : ((cs.toList.drop ((k + 1) * 4)).take ((n - k) * 4)).length = (n - k) * 4 := by
    rw [List.length_take, List.length_drop, Array.length_toList]; omega
  have hvg : ∀ j, j < (n - k) * 4 → ((cs.toList.drop ((k + 1) * 4)).take ((n - k) * 4))[j]? = cs[(k + 1) * 4 + j]? := by
    intro j hj
    rw [List.getElem?_take_of_lt hj, List.getElem?_drop, Array.getElem?_toList]
  refine ⟨_, hvl, hvg, ?_, ?_⟩
  · have := run_loadCells_list (P := Try.prog) (w := w) ⟨g, (k + 1) * 4, none⟩ ((cs.toList.drop ((k + 1) * 4)).take ((n - k) * 4)) (fun j u hu => by
      have hj : j < (n - k) * 4 := by have := (List.getElem?_eq_some_iff.1 hu).1; omega
      rw [hvg j hj] at hu
      rw [Addr.add_lit, hB.cell]
      exact hu)
    rw [hvl] at this
    simpa [loadCells] using this
  · have := run_storeCells_cells (P := Try.prog) g (k * 4) ((cs.toList.drop ((k + 1) * 4)).take ((n - k) * 4)) 0 w
      (fun j hj => by rw [hvl] at hj; rw [hB.cell, Array.getElem?_eq_getElem (by omega)]; rfl) (fun j hj => hB.free _)
      (fun u hu => by
        obtain ⟨j, hj, e⟩ := List.getElem_of_mem hu
        have hj' : j < (n - k) * 4 := by omega
        have hu2 : cs[(k + 1) * 4 + j]? = some u := by rw [← hvg j hj', ← e]; exact List.getElem?_eq_getElem hj
        exact h1 _ u hu2 (by omega))
    simpa using this
theorem IntSl.oneD {w : World} {s : Value} {xs : List Int} (h : IntSl w s xs) : s.oneCell' = true := by
  obtain ⟨a, c, rfl⟩ := h.len
  rfl

set_option maxRecDepth 100000 in
set_option maxHeartbeats 2000000 in
theorem deleteX_any (lo hi P : Nat) (sv : Value) (xs : List Dv) (w : World) (h : OwnDsX w lo hi P sv xs) (k : Nat) (hk : k < xs.length) :
    Calls Try.prog 101 #[sv, .int .i64 k, .int .i64 (k + 1)] w fun e w' => ∃ v', e = .returned v' ∧ OwnDsX w' lo hi P v' (xs.eraseIdx k) ∧ WithX lo hi P w w' := by
  rcases h with ⟨a, c, rfl, rfl⟩ | ⟨g, cap, cs, f, rfl, hg, hcap, hmx, hB, hel, hinj⟩
  · simp at hk
  have hsz : xs.length * 4 ≤ cs.size := by
    obtain ⟨m, hm⟩ : ∃ m, xs.length = m + 1 := ⟨xs.length - 1, by omega⟩
    obtain ⟨⟨_, q, _⟩, _⟩ := hel m xs[m] (List.getElem?_eq_getElem (by omega))
    have := (Array.getElem?_eq_some_iff.1 q.2.2.2).1
    omega
  have h1 : ∀ i u, cs[i]? = some u → i < xs.length * 4 → u.oneCell' = true := by
    intro i u hu hi
    obtain ⟨⟨pv, ⟨c0, c1, c2, c3⟩, hO⟩, _⟩ := hel (i / 4) xs[i / 4] (List.getElem?_eq_getElem (by omega))
    obtain ⟨j, hj, e⟩ : ∃ j, j < 4 ∧ i = i / 4 * 4 + j := ⟨i % 4, Nat.mod_lt _ (by omega), by omega⟩
    rw [e] at hu
    match j, hj with
    | 0, _ => rw [Nat.add_zero, c0] at hu; cases hu; rfl
    | 1, _ => rw [c1] at hu; cases hu; exact hO.sl.oneD
    | 2, _ => rw [c2] at hu; cases hu; rfl
    | 3, _ => rw [c3] at hu; cases hu; rfl
  obtain ⟨n, hn⟩ : ∃ n, xs.length = n + 1 := ⟨xs.length - 1, by omega⟩
  rw [hn] at hk hsz h1
  obtain ⟨vs, hvl, hvg, hld, hst⟩ := run_append_rest w.drew g k n cs hB.drew (by omega) hsz h1
  obtain ⟨cs1, hB1, hz1, hlow1, hup1, hW1⟩ := Blk.setCellsAt g vs (k * 4) w.drew cs hB.drew (by omega)
  have hvs : k = n → vs = [] := fun e => List.eq_nil_of_length_eq_zero (by rw [hvl, e]; omega)
  obtain ⟨wo, hwo⟩ : ∃ wo, wo = w.drew.setCells g (k * 4) vs := ⟨_, rfl⟩
  have hB1' : Blk wo g cs1 46 := by rw [hwo]; exact hB1
  have hBl := hB.lt
  have hcap' : n + 1 ≤ cap := by omega
  have HE := Lib.hid (fun w' cs2 (h1 : Within g (g + 1) w w') (h2 : Blk w' g cs2 46) h3 h4 => OwnDsX.erased (k := k) hg hcap hmx (by omega) hel hinj h1 h2 h3 h4)
  obtain ⟨vs2, hvl2, hcl⟩ : ∃ vs : List Value, vs.length = 1 * 4 ∧ ∀ ty, (Builtin.clear_ #[27] ty #[.slice (some ⟨g, n * 4, none⟩) 1 (cap - n)]).run Try.prog wo = .ok (.tuple #[]) (wo.setCells g (n * 4) vs) := by
    obtain ⟨vs, h1, h2⟩ := run_clear_dev wo 0 g (n * 4) 1 (cap - n) (by omega) (fun j hj => by rw [hB1'.cell]; rw [Array.getElem?_eq_getElem (by omega)]; rfl) (fun j => hB1'.free j)
    exact ⟨vs, h1, fun ty => h2⟩
  obtain ⟨cs2, hB2, hlow2, hW2⟩ := Blk.setCells g vs2 (n * 4) wo cs1 hB1'
  have hW1o : Within g (g + 1) w wo := by rw [hwo]; exact ((Within.refl _ _ w).drewN 1).on hW1
  have HF : Hid (OwnDsX (wo.setCells g (n * 4) vs2) lo hi P (.slice (some ⟨g, 0, none⟩) n cap) (xs.eraseIdx k) ∧ WithX lo hi P w (wo.setCells g (n * 4) vs2)) := Lib.hid (by
    have := HE.out (wo.setCells g (n * 4) vs2) cs2 (hW1o.on hW2) hB2 (fun i hi' => by rw [hlow2 i (by omega), hlow1 i hi']) (fun i h1 h2 => by
      rw [hn] at h2
      have hj : i - k * 4 < (n - k) * 4 := by omega
      obtain ⟨u, hu⟩ : ∃ u, vs[i - k * 4]? = some u := ⟨vs[i - k * 4], List.getElem?_eq_getElem (by omega)⟩
      have e1 := hup1 _ u hu
      rw [hvg _ hj] at hu
      rw [hlow2 i (by omega)]
      rw [show k * 4 + (i - k * 4) = i by omega] at e1
      rw [e1, ← hu]
      congr 1
      omega)
    rw [hn] at this
    exact ⟨this, (hW1o.on hW2).subX hg.1.1 (by omega) (by omega)⟩)
  rw [hn]
  unfold maxLen at hmx
  have i1 : (0 : Int) ≤ (k : Int) := by omega
  have i2 : (k : Int) + 1 ≤ (n : Int) + 1 := by omega
  have i3 : (k : Int) ≤ (k : Int) + 1 := by omega
  have i4 : (n : Int) + 1 ≤ (cap : Int) := by omega
  have i5 : ((k : Int) == (k : Int) + 1) = false := by simp; omega
  have i7 : (0 : Int) ≤ (k : Int) + 1 := by omega
  have i6 : (k : Int) ≤ (cap : Int) := by omega
  have i8 : k + (n - k) ≤ cap := by omega
  have i9 : k + (n - k) = n := by omega
  clear h1 hel hinj hvg hvl hup1 hlow1 hB1 hsz hW1 hW2 hB2 hlow2 hB1' HE hW1o hvl2
  go_enter Try.func101, Try.ntmps101
  go_wp2_with fail
  by_cases hcap1 : cap = k + 1
  · obtain rfl : k = n := by omega
    have hvs' := hvs rfl
    subst hvs'
    clear hvs hld hst
    rw [show w.drew.setCells g (k * 4) [] = w.drew from rfl] at hwo
    subst hwo
    have hcl' := hcl 0
    rw [hcap1, show k + 1 - k = 1 by omega] at hcl'
    clear hcl
    go_region
    go_wp2
    go_ret
    have := HF.out
    rw [hcap1] at this
    exact ⟨_, rfl, this⟩
  · clear hvs
    subst hwo
    go_region
    go_wp2
    go_ret
    exact ⟨_, rfl, HF.out⟩

set_option maxRecDepth 100000 in
theorem removeX_any (lo hi P : Nat) (sv : Value) (xs : List Dv) (w : World) (h : OwnDsX w lo hi P sv xs) (k : Nat) (hk : k < xs.length) (hn : xs.length ≤ 1000) :
    Calls Try.prog 50 #[sv, .int .i64 k] w fun e w' => ∃ v', e = .returned v' ∧ OwnDsX w' lo hi P v' (xs.eraseIdx k) ∧ WithX lo hi P w w' := by
  have HD := Lib.hid (deleteX_any lo hi P sv xs w h k hk)
  have w1 : IntKind.i64.wrap ((k : Int) + 1) = (k : Int) + 1 := by simp [IntKind.wrap, IntKind.bits, IntKind.signed]; omega
  clear h hk hn
  go_enter Try.func50, Try.ntmps50
  go_wp2_with (go_at_call 101; refine HD.out.mono ?_; rintro e w2 ⟨v2, rfl, hO, hW⟩)
  go_ret
  exact ⟨_, rfl, hO, hW⟩
end Go.Proofs.Ytnchhdhlhlcejaa
