/- Contracts and plain laws, part 11, for the statement's proof. -/
import Derived.Test.YtacbdmngcdhgoaaGreatPkRrLaw10
import Derived.BigQuiet
import Derived.BigRegion
import Derived.Deep.DeepCutAuto
import Derived.Deep.RegionHeld3
namespace Go.Proofs.YtacbdmngcdhgoaaGreat
open Go.RowKit
set_option linter.unusedVariables false
set_option linter.unusedSimpArgs false
def IBld (w : World) (g n c : Nat) (zs : List Int) : Prop := w.ownsRow 0 2 1 (.slice (some ⟨g, 0, none⟩) n c) zs.length (icells zs) ∧ zs.length = n ∧ g < w.heap.size
section
variable {w w' : World} {g n c : Nat} {zs : List Int}
theorem IBld.by (hb : Below w.heap.size w w') (h : IBld w g n c zs) : IBld w' g n c zs := by
  obtain ⟨h1, h2, h4⟩ := h
  refine ⟨row_same h1 (fun g' hg' => ?_), h2, Nat.lt_of_lt_of_le h4 hb.size⟩
  have : g = g' := by injection hg'
  subst this
  exact hb.block g h4
theorem IBld.keep {g0 : Nat} (hgr : w.grownBy w' (some g0)) (hne : g ≠ g0) (h : IBld w g n c zs) : IBld w' g n c zs := by
  obtain ⟨h1, h2, h4⟩ := h
  refine ⟨row_same h1 (fun g' hg' => ?_), h2, Nat.lt_of_lt_of_le h4 hgr.size⟩
  have : g = g' := by injection hg'
  subst this
  exact hgr.block g h4 (fun e => hne (Option.some.inj e))
theorem IBld.lit (h : Blk w g #[] 2) : IBld w g 0 0 [] :=
  ⟨⟨rfl, .inr ⟨g, 0, #[], rfl, Nat.zero_le _, h, Nat.le_refl _, by unfold maxLen; omega, rfl, rfl⟩⟩, rfl, h.lt⟩
theorem IBld.apart {b o : Nat} {v : Value} (h : IBld w g n c zs) (hne : g ≠ b) : IBld (w.setCell ⟨b, o, none⟩ v) g n c zs := by
  obtain ⟨h1, h2, h4⟩ := h
  refine ⟨row_same h1 (fun g' hg' => ?_), h2, by simpa using h4⟩
  have : g = g' := by injection hg'
  subst this
  exact Below.heap_setCell w ⟨b, o, none⟩ v g hne
theorem IBld.bld (h : IBld w g n c zs) : BldI w g (g + 1) (.slice (some ⟨g, 0, none⟩) n c) zs := by
  obtain ⟨⟨hlen, h1⟩, h2, h4⟩ := h
  rcases h1 with ⟨h1, hn⟩ | ⟨g', cap, cur, e1, e2, e3⟩
  · cases h1
  · obtain ⟨rfl, rfl⟩ : g = g' ∧ c = cap := by
      simp only [Value.slice.injEq, Option.some.injEq, Addr.mk.injEq, and_true] at e1
      exact ⟨e1.1, e1.2.2⟩
    refine ⟨h4, ⟨hlen, .inr ⟨g, c, cur, e1, Nat.le_refl _, e3⟩⟩, fun k hk => ?_⟩
    have : g = k := by injection hk
    omega
end
def UsedB (w : World) (g n : Nat) (zs : List Int) : Prop := ∃ cs : Array Value, Blk w g cs 4 ∧ cs.size = n ∧ ∀ j : Nat, j < n → cs[j]? = some (.bool (zs.contains (j : Int)))
theorem UsedB.by {w w' : World} {g n : Nat} {zs : List Int} (hb : Below w.heap.size w w') (h : UsedB w g n zs) : UsedB w' g n zs := by
  obtain ⟨cs, a, b⟩ := h; exact ⟨cs, Blk.by hb a, b⟩
theorem UsedB.keep {w w' : World} {g g0 n : Nat} {zs : List Int} (hgr : w.grownBy w' (some g0)) (hne : g ≠ g0) (h : UsedB w g n zs) : UsedB w' g n zs := by
  obtain ⟨cs, a, b⟩ := h; exact ⟨cs, keep_blk hgr a hne, b⟩
theorem UsedB.cell {w : World} {g n j : Nat} {zs : List Int} (h : UsedB w g n zs) (hj : j < n) : w.cell? ⟨g, j, none⟩ = some (.bool (zs.contains (j : Int))) ∧ w.frozen? ⟨g, j, none⟩ = false ∧ g < w.heap.size := by
  obtain ⟨cs, a, b, c⟩ := h
  exact ⟨(a.cell j).trans (c j hj), a.free j, a.lt⟩
theorem UsedB.add {w : World} {g n k : Nat} {zs : List Int} (h : UsedB w g n zs) (hk : k < n) : UsedB (w.setCell ⟨g, k, none⟩ (.bool true)) g n (zs ++ [(k : Int)]) := by
  obtain ⟨cs, a, b, c⟩ := h
  refine ⟨_, a.set k _, by simpa using b, fun j hj => ?_⟩
  by_cases e : j = k
  · subst e
    rw [Array.getElem?_setIfInBounds_self_of_lt (by omega)]
    have : (zs ++ [(j : Int)]).contains (j : Int) = true := by simp
    rw [this]
  · rw [Array.getElem?_setIfInBounds_ne (by omega), c j hj]
    congr 2
    rw [List.contains_eq_mem, List.contains_eq_mem]
    refine decide_eq_decide.2 ⟨fun h => List.mem_append.2 (.inl h), fun h => ?_⟩
    rcases List.mem_append.1 h with h | h
    · exact h
    · rw [List.mem_singleton] at h; omega
structure Exc (E : Nat → Prop) (w w' : World) : Prop where
  os : w'.os = w.os
  tape : w'.tape = w.tape
  output : w'.output = w.output
  size : w.heap.size ≤ w'.heap.size
  block : ∀ k, k < w.heap.size → ¬ E k → w'.heap[k]? = w.heap[k]?
section
variable {E F : Nat → Prop} {a w w' : World} {lo hi : Nat}
theorem Exc.refl (E : Nat → Prop) (w : World) : Exc E w w := ⟨rfl, rfl, rfl, Nat.le_refl _, fun _ _ _ => rfl⟩
theorem Exc.ofBelow (h : Below w.heap.size w w') : Exc E w w' := ⟨h.os, h.tape, h.output, h.size, fun k hk _ => h.block k hk⟩
theorem Exc.ofWithin (h : Within lo hi w w') (hE : ∀ k, lo ≤ k → k < hi → E k) : Exc E w w' := ⟨h.os, h.tape, h.output, h.size, fun k hk hn => h.block k hk (by
  rcases Nat.lt_or_ge k lo with h1 | h1
  · exact .inl h1
  · rcases Nat.lt_or_ge k hi with h2 | h2
    · exact absurd (hE k h1 h2) hn
    · exact .inr h2)⟩
theorem Exc.mono (h : Exc E w w') (hE : ∀ k, k < w.heap.size → E k → F k) : Exc F w w' := ⟨h.os, h.tape, h.output, h.size, fun k hk hn => h.block k hk (fun e => hn (hE k hk e))⟩
theorem Exc.on (h : Exc E a w) (h' : Exc E w w') : Exc E a w' :=
  ⟨h'.os.trans h.os, h'.tape.trans h.tape, h'.output.trans h.output, Nat.le_trans h.size h'.size, fun k hk hn => (h'.block k (Nat.lt_of_lt_of_le hk h.size) hn).trans (h.block k hk hn)⟩
theorem Exc.thn (h : Exc E a w) (h' : Exc F w w') (hE : ∀ k, k < a.heap.size → F k → E k) : Exc E a w' :=
  ⟨h'.os.trans h.os, h'.tape.trans h.tape, h'.output.trans h.output, Nat.le_trans h.size h'.size, fun k hk hn => (h'.block k (Nat.lt_of_lt_of_le hk h.size) (fun e => hn (hE k hk e))).trans (h.block k hk hn)⟩
theorem Exc.set (h : Exc E a w) (g o : Nat) (v : Value) (hg : g < a.heap.size → E g) : Exc E a (w.setCell ⟨g, o, none⟩ v) :=
  ⟨h.os, h.tape, h.output, by simp [World.setCell]; exact h.size, fun k hk hn => (Below.heap_setCell w ⟨g, o, none⟩ v k (fun e => by subst e; exact hn (hg hk))).trans (h.block k hk hn)⟩
theorem Exc.alloc (h : Exc E a w) (o : Obj) : Exc E a (w.alloc o) :=
  ⟨h.os, h.tape, h.output, by have := h.size; simp; omega, fun k hk hn => (Below.heap_alloc w o k (by have := h.size; omega)).trans (h.block k hk hn)⟩
theorem Exc.drew (h : Exc E a w) : Exc E a w.drew := ⟨h.os, h.tape, h.output, h.size, h.block⟩
theorem Exc.drewN (h : Exc E a w) (n : Nat) : Exc E a (w.drewN n) := ⟨h.os, h.tape, h.output, h.size, h.block⟩
theorem Exc.below (h : Exc E w w') (hb : Below a.heap.size a w) (hE : ∀ k, k < a.heap.size → ¬ E k) : Below a.heap.size a w' :=
  hb.trans ⟨h.os, h.tape, h.output, h.size, fun k hk => h.block k (Nat.lt_of_lt_of_le hk hb.size) (hE k hk)⟩
theorem Exc.blk {f : Nat} {cs : Array Value} {T : TypeId} (h : Exc E w w') (hf : Blk w f cs T) (hne : ¬ E f) : Blk w' f cs T := (h.block f hf.lt hne).trans hf
variable {sv : Value} {zs : List Int}
theorem OwnR.exc (h : Exc E w w') (hO : OwnR w lo hi sv zs) (hE : ∀ k, lo ≤ k → k < hi → ¬ E k) : OwnR w' lo hi sv zs := by
  rcases hO with e | ⟨g, cap, cs, h1, h2, h2', h3, h4, h5, h6⟩
  · exact .inl e
  · exact .inr ⟨g, cap, cs, h1, h2, h2', h3, h4, h.blk h5 (hE g h2 h2'), h6⟩
theorem OwnDs.exc {ds : List Dv} (h : Exc E w w') (hO : OwnDs w lo hi sv ds) (hE : ∀ k, lo ≤ k → k < hi → ¬ E k) : OwnDs w' lo hi sv ds := by
  rcases hO with e | ⟨g, cap, cs, f, h1, h2, h3, h4, h5, h6, h7⟩
  · exact .inl e
  · refine .inr ⟨g, cap, cs, f, h1, h2, h3, h4, h.blk h5 (hE g h2.1 h2.2), fun i x hx => ?_, h7⟩
    obtain ⟨⟨pv, a, b⟩, c⟩ := h6 i x hx
    exact ⟨⟨pv, a, OwnR.exc h b (fun k h1 h2 => hE k (by omega) (by omega))⟩, c⟩
theorem BldI.exc (h : Exc E w w') (hO : BldI w lo hi sv zs) (hE : ∀ k, lo ≤ k → k < hi → ¬ E k) : BldI w' lo hi sv zs := by
  obtain ⟨hs, h1, h3⟩ := hO
  exact ⟨Nat.le_trans hs h.size, row_same h1 (fun g hg => h.block g (by have := h3 g hg; omega) (hE g (h3 g hg).1 (h3 g hg).2)), h3⟩
theorem UsedB.exc {g n : Nat} (h : Exc E w w') (hO : UsedB w g n zs) (hE : ¬ E g) : UsedB w' g n zs := by
  obtain ⟨cs, a, b⟩ := hO; exact ⟨cs, h.blk a hE, b⟩
def LlIn (w : World) (lo hi : Nat) (v : Value) (ls : List (List Int)) : Prop :=
  ∃ (N : Nat) (cs : Array Value), v = .slice (some ⟨N, 0, none⟩) ls.length ls.length ∧ (lo ≤ N ∧ N < hi) ∧ Blk w N cs 44 ∧ ls.length ≤ 1000 ∧ ∀ (j : Nat) xs, ls[j]? = some xs → ∃ s, cs[j]? = some s ∧ OwnR w lo hi s xs
theorem LlIn.exc {v : Value} {ls : List (List Int)} (h : Exc E w w') (hO : LlIn w lo hi v ls) (hE : ∀ k, lo ≤ k → k < hi → ¬ E k) : LlIn w' lo hi v ls := by
  obtain ⟨N, cs, h1, h2, h3, h4, h5⟩ := hO
  refine ⟨N, cs, h1, h2, h.blk h3 (hE N h2.1 h2.2), h4, fun j xs hx => ?_⟩
  obtain ⟨s, a, b⟩ := h5 j xs hx
  exact ⟨s, a, OwnR.exc h b hE⟩
theorem LlIn.by {v : Value} {ls : List (List Int)} (h : Below w.heap.size w w') (hO : LlIn w lo hi v ls) : LlIn w' lo hi v ls := hO.exc (E := fun _ => False) (Exc.ofBelow h) (fun _ _ _ e => e)
theorem LlIn.row {v : Value} {ls : List (List Int)} {j : Nat} {xs : List Int} (hO : LlIn w lo hi v ls) (h : ls[j]? = some xs) : ∃ N s, v = .slice (some ⟨N, 0, none⟩) ls.length ls.length ∧ w.cell? ⟨N, j, none⟩ = some s ∧ IntSl w s xs ∧ N < w.heap.size := by
  obtain ⟨N, cs, h1, h2, h3, h4, h5⟩ := hO
  obtain ⟨s, a, b⟩ := h5 j xs h
  exact ⟨N, s, h1, (h3.cell j).trans a, b.sl, h3.lt⟩
end
def RB (w : World) (g n c : Nat) (L : List Tr) : Prop := w.ownsRow 0 46 4 (.slice (some ⟨g, 0, none⟩) n c) n (tcells L) ∧ L.length = n ∧ g < w.heap.size ∧ ∀ t ∈ L, OwnR w t.2.2 (t.2.2 + 1) t.2.1 t.1.pins ∧ t.2.2 < w.heap.size ∧ t.2.2 ≠ g
section
variable {w w' : World} {g n c : Nat} {L : List Tr}
theorem RB.exc {E : Nat → Prop} (h : Exc E w w') (hR : RB w g n c L) (hg : ¬ E g) (hE : ∀ t ∈ L, ¬ E t.2.2) : RB w' g n c L := by
  obtain ⟨h1, h2, h3, h4⟩ := hR
  refine ⟨row_same h1 (fun g' hg' => ?_), h2, Nat.lt_of_lt_of_le h3 h.size, fun t ht => ?_⟩
  · have : g = g' := by injection hg'
    subst this
    exact h.block g h3 hg
  · obtain ⟨a, b, c⟩ := h4 t ht
    exact ⟨OwnR.exc h a (fun k h1 h2 e => hE t ht ((show k = t.2.2 by omega) ▸ e)), Nat.lt_of_lt_of_le b h.size, c⟩
theorem RB.by (hb : Below w.heap.size w w') (hR : RB w g n c L) : RB w' g n c L := hR.exc (E := fun _ => False) (Exc.ofBelow hb) (fun e => e) (fun _ _ e => e)
theorem grown_exc {g0 : Nat} (h : w.grownBy w' (some g0)) : Exc (fun k => k = g0) w w' := ⟨h.os, h.tape, h.output, h.size, fun k hk hn => h.block k hk (fun e => hn (Option.some.inj e))⟩
theorem RB.lit (h : Blk w g #[] 46) : RB w g 0 0 [] :=
  ⟨⟨rfl, .inr ⟨g, 0, #[], rfl, Nat.zero_le _, h, Nat.le_refl _, by unfold maxLen; omega, rfl, rfl⟩⟩, rfl, h.lt, by simp⟩
theorem RB.one (h : RB w g n c L) : ∀ t ∈ L, t.2.1.oneCell' = true := by
  intro t ht
  obtain ⟨a, b⟩ := h.2.2.2 t ht
  rcases a with ⟨_, _, e, _⟩ | ⟨_, _, _, e, _⟩ <;> rw [e] <;> rfl
theorem RB.cells (h : RB w g n c L) : ∃ cur, Blk w g cur 46 ∧ n ≤ c ∧ c ≤ maxLen ∧ ∀ (j : Nat) u, (tcells L)[j]? = some u → cur[j]? = some u := by
  obtain ⟨⟨h0, h1⟩, h2, h3, h4⟩ := h
  rcases h1 with ⟨h1, _⟩ | ⟨g', cap, cur, e1, e2, e3, e4, e5, e6, e7⟩
  · cases h1
  · simp only [Value.slice.injEq, Option.some.injEq, Addr.mk.injEq, and_true] at e1
    obtain ⟨rfl, _, rfl⟩ := e1
    exact ⟨cur, e3, e4, e5, row_cur (g := g) (cap := c) e7⟩
theorem RB.row (h : RB w g n c L) : DRow w g (L.map fun t => (t.1, t.2.2)).toArray := by
  obtain ⟨cur, hB, _, _, hc⟩ := h.cells
  refine ⟨cur, hB, fun i hi => ?_⟩
  have hil : i < L.length := by simpa using hi
  have ht : L[i]? = some L[i] := List.getElem?_eq_getElem hil
  have hbang : (L.map fun t => (t.1, t.2.2)).toArray[i]! = (L[i].1, L[i].2.2) := by
    rw [getBang _ _ hi]
    simp
  rw [hbang]
  obtain ⟨a, b, d⟩ := h.2.2.2 _ (List.mem_of_getElem? ht)
  obtain ⟨q0, q1, q2, q3⟩ := tcells_get L i _ ht
  exact ⟨⟨_, ⟨hc _ _ q0, hc _ _ q1, hc _ _ q2, hc _ _ q3⟩, a⟩, d⟩
theorem RB.push {x : Dv} {pv : Value} {f g' c' : Nat} (h : RB w g n c L) (hx : OwnR w f (f + 1) pv x.pins) (hf : f < w.heap.size) (hfg : f ≠ g)
    (h1 : w'.ownsRow 0 46 4 (.slice (some ⟨g', 0, none⟩) (n + 1) c') (n + 1) (tcells L ++ [.int .i64 x.kind, pv, .int .i64 x.wd, .int .i64 x.len])) (h2 : w.grownBy w' (some g)) (h3 : g' = g ∨ g' = w.heap.size) (hg' : g' < w'.heap.size) : RB w' g' (n + 1) c' (L ++ [(x, pv, f)]) := by
  obtain ⟨e1, e2, e3, e4⟩ := h
  have hE := grown_exc h2
  refine ⟨by rw [tcells_append]; exact h1, by rw [List.length_append, e2]; rfl, hg', fun t ht => ?_⟩
  rcases List.mem_append.1 ht with ht | ht
  · obtain ⟨a, b, c⟩ := e4 t ht
    exact ⟨OwnR.exc hE a (fun k h1 h2 (e : k = g) => c (by omega)), Nat.lt_of_lt_of_le b hE.size, by omega⟩
  · obtain rfl : t = (x, pv, f) := by simpa using ht
    exact ⟨OwnR.exc hE hx (fun k h1 h2 (e : k = g) => hfg (by dsimp only at h1 h2; omega)), Nat.lt_of_lt_of_le hf hE.size, by dsimp only; omega⟩
end
theorem Within.cellW {lo hi : Nat} {w w' : World} {b o : Nat} {v : Value} (h : Within lo hi w w') (hc : w.cell? ⟨b, o, none⟩ = some v) (hb : b < lo ∨ hi ≤ b) : w'.cell? ⟨b, o, none⟩ = some v := by
  have hl := lt_of_cell hc
  dsimp only at hl
  rw [← hc]
  unfold World.cell?
  rw [h.block b hl hb]
theorem Exc.cellE {E : Nat → Prop} {w w' : World} {b o : Nat} {v : Value} (h : Exc E w w') (hc : w.cell? ⟨b, o, none⟩ = some v) (hb : ¬ E b) : w'.cell? ⟨b, o, none⟩ = some v := by
  have hl := lt_of_cell hc
  dsimp only at hl
  rw [← hc]
  unfold World.cell?
  rw [h.block b hl hb]
theorem OwnPs.exc2 {E : Nat → Prop} {w w' : World} {lo hi : Nat} {sv : Value} {ps : List Pt} (h : Exc E w w') (hO : OwnPs w lo hi sv ps) (hE : ∀ k, lo ≤ k → k < hi → ¬ E k) : OwnPs w' lo hi sv ps := by
  rcases hO with e | ⟨g, cap, cs, h1, h2, h3, h4, h5, h6⟩
  · exact .inl e
  · exact .inr ⟨g, cap, cs, h1, h2, h3, h4, h.blk h5 (hE g h2.1 h2.2), h6⟩
theorem nr_dev {x : Nl} (hv : nlB x = true) (hR : ∀ d ∈ x.ds, d.kind = 2) (d : Dv) (hd : d ∈ (rmS x).ds) : ∃ r s : Nat, d.pins = [(r : Int), (s : Int)] ∧ ((r : Int) < x.nets ∧ (s : Int) < x.nets) ∧ d.kind = 2 ∧ (1 ≤ d.wd ∧ d.wd ≤ 1000000) ∧ (1 ≤ d.len ∧ d.len ≤ 1000000) := by
  rw [rmS_yes hv] at hd
  have hd := (List.mem_filter.1 hd).1
  have hdv := (nlB_facts hv).2.2.2.1 d hd
  have hk := hR d hd
  obtain ⟨_, _, a3, a4, _, _⟩ := dvB_all hdv
  have b3 := inB_iff.1 a3
  have b4 := inB_iff.1 a4
  have hin := (dvB_pins hdv).2.2
  rcases shp_of hdv with ⟨_, p, q, e⟩ | ⟨h2, _⟩
  · have h1 := hin p (by rw [e]; simp)
    have h2 := hin q (by rw [e]; simp)
    exact ⟨p.toNat, q.toNat, by rw [e, Int.toNat_of_nonneg h1.1, Int.toNat_of_nonneg h2.1], by omega, hk, b3, b4⟩
  · omega
theorem netR_ok {ds : List Dv} {p q : Int} {m : Nat} (hm : m ≤ 24) (hd : ∀ d ∈ ds, ∃ r s : Nat, d.pins = [(r : Int), (s : Int)] ∧ (r < m ∧ s < m) ∧ (1 ≤ d.wd ∧ d.wd ≤ 1000000) ∧ (1 ≤ d.len ∧ d.len ≤ 1000000)) :
    (∀ r ∈ (netR ds p q m).rs, r.ok) ∧ Fits (netR ds p q m).nodes := by
  refine ⟨fun r hr => ?_, ?_⟩
  · obtain ⟨d, hdm, rfl⟩ := List.mem_map.1 hr
    obtain ⟨r, s, e, h1, h2, h3⟩ := hd d hdm
    have c1 := cnR_le ds p q r
    have c2 := cnR_le ds p q s
    unfold resR Res.ok
    rw [e]
    simp only [List.getD_cons_zero, List.getD_cons_succ, Int.toNat_natCast]
    omega
  · have := cnR_le ds p q m
    show Fits ((cnR ds p q m : Nat) : Int)
    unfold Fits
    omega
theorem resR_at {ds : List Dv} {p q : Int} {d : Dv} {r s : Nat} (e : d.pins = [(r : Int), (s : Int)]) : resR ds p q d = ⟨((cnR ds p q r : Nat) : Int), ((cnR ds p q s : Nat) : Int), d.wd, d.len⟩ := by
  unfold resR; rw [e]; rfl
set_option maxRecDepth 100000 in
set_option maxHeartbeats 8000000 in
theorem specNr_inv (x : Nl) (v : Value) (a b : ByteArray) (w : World) (h : NlV w v x) (hok : ∀ p ∈ x.ps, p.ok) (hnn : Fits x.nets) (hv : nlB x = false) :
    Calls Tryz.prog 8 #[v, .string a, .string b] w fun e w' => e = .returned (.tuple #[.agg #[.int .i64 0, .int .i64 0], .int .i64 1]) ∧ Below w.heap.size w w' := by
  have HV := Lib.hid (fun v w h => specNl_any x v w h hok hnn)
  rw [hv] at HV
  have HN := Lib.hid h
  obtain ⟨a1, c1, a2, c2, rfl⟩ := h.sized
  clear h hok hnn hv
  go_enter Tryz.func8, Tryz.ntmps8
  go_wp2_with fail
  refine (HV.out _ _ (HN.out.by blwT)).mono ?_
  rintro e w1 ⟨rfl, hb1⟩
  have kR : Blk w1 (w.heap.size + 1) #[.int .i64 0, .int .i64 0] 31 := blkT
  have hW : Below w.heap.size w w1 := blwT
  have qR := kR.cell
  have fR := kR.free
  have lR := kR.lt
  clear hb1
  go_wp2
  refine bodyPost_ret (v := .tuple #[.agg #[.int .i64 0, .int .i64 0], .int .i64 1]) (by simp [results, Tryz.results8, go_sem, *]) rfl ⟨rfl, blwT⟩
set_option maxRecDepth 100000 in
set_option maxHeartbeats 8000000 in
theorem specNr_nf1 (x : Nl) (v : Value) (a b : ByteArray) (w : World) (h : NlV w v x) (hok : ∀ p ∈ x.ps, p.ok) (hnn : Fits x.nets) (hv : nlB x = true) (PA PB : Int) (hp : ptN x.ps a = PA) (hq : ptN x.ps b = PB) (hlt : PA < 0) :
    Calls Tryz.prog 8 #[v, .string a, .string b] w fun e w' => e = .returned (.tuple #[.agg #[.int .i64 0, .int .i64 0], .int .i64 5]) ∧ Below w.heap.size w w' := by
  have HV := Lib.hid (fun v w h => specNl_any x v w h hok hnn)
  rw [hv] at HV
  have HN := Lib.hid h
  obtain ⟨⟨hn0, hn1⟩, hd24, hp8, hdv, _⟩ := nlB_facts hv
  obtain ⟨F, hF⟩ : ∃ F : ByteArray → Int, ptN x.ps = F := ⟨_, rfl⟩
  have HPG := Lib.hid (fun s v w h => l28PortNet_any x v s w h (by omega))
  rw [hF] at HPG hp hq
  have HPQ := Lib.hid (And.intro hp hq)
  clear hF
  obtain ⟨a1, c1, a2, c2, rfl⟩ := h.sized
  obtain ⟨m, hm⟩ : ∃ m : Nat, x.nets = m := ⟨x.nets.toNat, by omega⟩
  have hm24 : m ≤ 24 := by omega
  rw [hm] at HN ⊢
  generalize x.ds.length = l1 at *
  generalize x.ps.length = l2 at *
  clear h hok hnn hv hdv hm hn0 hn1 hp hq
  go_enter Tryz.func8, Tryz.ntmps8
  go_wp2_with fail
  refine (HV.out _ _ (HN.out.by blwT)).mono ?_
  rintro e w1 ⟨rfl, hb1⟩
  have kA : Blk w1 w.heap.size #[.int .i64 (m : Int), .slice a1 l1 c1, .slice a2 l2 c2] 27 := blkT
  have kR : Blk w1 (w.heap.size + 1) #[.int .i64 0, .int .i64 0] 31 := blkT
  have hW : Below w.heap.size w w1 := blwT
  have qA := kA.cell
  have lA := kA.lt
  have qR := kR.cell
  have fR := kR.free
  have lR := kR.lt
  clear hb1
  go_upto_region 3 with fail
  go_cut [8, 9] (fun s8 s9 wx => s8 = .int .i64 PA ∧ s9 = .int .i64 PB ∧ Blk wx w.heap.size #[.int .i64 (m : Int), .slice a1 l1 c1, .slice a2 l2 c2] 27 ∧ Blk wx (w.heap.size + 1) #[.int .i64 0, .int .i64 0] 31 ∧ Below w.heap.size w wx)
  case first =>
    go_region_held3 (fun w' => (Blk w' (w.heap.size) #[.int .i64 ↑m, .slice a1 l1 c1, .slice a2 l2 c2] 27 ∧ ∀ o, w'.cell? ⟨w.heap.size, o, none⟩ = (#[.int .i64 ↑m, .slice a1 l1 c1, .slice a2 l2 c2] : Array Value)[o]?) ∧ (Blk w' (w.heap.size + 1) #[.int .i64 0, .int .i64 0] 31 ∧ ∀ o, w'.cell? ⟨w.heap.size + 1, o, none⟩ = (#[.int .i64 0, .int .i64 0] : Array Value)[o]?) ∧ Below w.heap.size w w') (((try (obtain ⟨⟨hS0, _⟩, ⟨hS1, _⟩, hSB⟩ := hHeld)); refine ⟨Blk.both ?_, Blk.both ?_, ?_⟩ <;> first | ((repeat (first | (with_reducible assumption) | (with_reducible refine Blk.drewN ?_ _) | (with_reducible refine Blk.drew ?_) | ((with_reducible refine Blk.new _ ?_); focus (first | omega | (simp; done) | (simp; omega))) | (with_reducible refine Blk.past ?_ _) | ((with_reducible refine Blk.apart ?_ _ _ _ ?_); rotate_left; focus (first | omega | (simp; done) | (simp; omega))) | (with_reducible refine Blk.by (by assumption) ?_))); done) | ((repeat (first | (with_reducible exact Below.refl _ _) | (with_reducible refine below_drewN ?_ _) | (with_reducible refine Below.drew ?_) | (with_reducible refine below_al ?_ _) | (with_reducible refine below_on (by assumption) ?_) | ((with_reducible refine Below.setCell ?_ ?_ _); rotate_left; focus (first | omega | (simp; done) | (simp; omega))) | (with_reducible assumption))); done)))
      (first | (go_at_call 30; refine (HPG.out _ _ _ (HN.out.by blwT)).mono ?_; rintro e t10 ⟨rfl, hb10⟩; have hz10 := hb10.size; (try simp only [World.size_alloc, size_drewN, World.size_drew] at hz10)))
    all_goals (go_wp2_with fail; go_meet)
    all_goals
      refine ⟨by rw [HPQ.out.1], by rw [HPQ.out.2], ?_, ?_, ?_⟩
      · ((repeat (first | (with_reducible assumption) | (with_reducible refine Blk.drewN ?_ _) | (with_reducible refine Blk.drew ?_) | ((with_reducible refine Blk.new _ ?_); focus (first | omega | (simp; done) | (simp; omega))) | (with_reducible refine Blk.past ?_ _) | ((with_reducible refine Blk.apart ?_ _ _ _ ?_); rotate_left; focus (first | omega | (simp; done) | (simp; omega))) | (with_reducible refine Blk.by (by assumption) ?_))); done)
      · ((repeat (first | (with_reducible assumption) | (with_reducible refine Blk.drewN ?_ _) | (with_reducible refine Blk.drew ?_) | ((with_reducible refine Blk.new _ ?_); focus (first | omega | (simp; done) | (simp; omega))) | (with_reducible refine Blk.past ?_ _) | ((with_reducible refine Blk.apart ?_ _ _ _ ?_); rotate_left; focus (first | omega | (simp; done) | (simp; omega))) | (with_reducible refine Blk.by (by assumption) ?_))); done)
      · ((repeat (first | (with_reducible exact Below.refl _ _) | (with_reducible refine below_drewN ?_ _) | (with_reducible refine Below.drew ?_) | (with_reducible refine below_al ?_ _) | (with_reducible refine below_on (by assumption) ?_) | ((with_reducible refine Below.setCell ?_ ?_ _); rotate_left; focus (first | omega | (simp; done) | (simp; omega))) | (with_reducible assumption))); done)
  case rest =>
    obtain ⟨rfl, rfl, kA2, kR2, hW2⟩ := hcut
    obtain ⟨w2, rfl⟩ : ∃ z : World, z = wc := ⟨_, rfl⟩
    clear kA kR hW qA lA qR fR lR
    have qA := kA2.cell
    have lA := kA2.lt
    have qR := kR2.cell
    have fR := kR2.free
    have lR := kR2.lt
    have i1 : decide (PA < 0) = true := decide_eq_true hlt
    clear hlt
    go_wp2
    refine bodyPost_ret (v := .tuple #[.agg #[.int .i64 0, .int .i64 0], .int .i64 5]) (by simp [results, Tryz.results8, go_sem, *]) rfl ⟨rfl, blwT⟩
set_option maxRecDepth 100000 in
set_option maxHeartbeats 8000000 in
theorem specNr_nf2 (x : Nl) (v : Value) (a b : ByteArray) (w : World) (h : NlV w v x) (hok : ∀ p ∈ x.ps, p.ok) (hnn : Fits x.nets) (hv : nlB x = true) (PA PB : Int) (hp : ptN x.ps a = PA) (hq : ptN x.ps b = PB) (hlt : (¬ PA < 0) ∧ PB < 0) :
    Calls Tryz.prog 8 #[v, .string a, .string b] w fun e w' => e = .returned (.tuple #[.agg #[.int .i64 0, .int .i64 0], .int .i64 5]) ∧ Below w.heap.size w w' := by
  have HV := Lib.hid (fun v w h => specNl_any x v w h hok hnn)
  rw [hv] at HV
  have HN := Lib.hid h
  obtain ⟨⟨hn0, hn1⟩, hd24, hp8, hdv, _⟩ := nlB_facts hv
  obtain ⟨F, hF⟩ : ∃ F : ByteArray → Int, ptN x.ps = F := ⟨_, rfl⟩
  have HPG := Lib.hid (fun s v w h => l28PortNet_any x v s w h (by omega))
  rw [hF] at HPG hp hq
  have HPQ := Lib.hid (And.intro hp hq)
  clear hF
  obtain ⟨a1, c1, a2, c2, rfl⟩ := h.sized
  obtain ⟨m, hm⟩ : ∃ m : Nat, x.nets = m := ⟨x.nets.toNat, by omega⟩
  have hm24 : m ≤ 24 := by omega
  rw [hm] at HN ⊢
  generalize x.ds.length = l1 at *
  generalize x.ps.length = l2 at *
  clear h hok hnn hv hdv hm hn0 hn1 hp hq
  go_enter Tryz.func8, Tryz.ntmps8
  go_wp2_with fail
  refine (HV.out _ _ (HN.out.by blwT)).mono ?_
  rintro e w1 ⟨rfl, hb1⟩
  have kA : Blk w1 w.heap.size #[.int .i64 (m : Int), .slice a1 l1 c1, .slice a2 l2 c2] 27 := blkT
  have kR : Blk w1 (w.heap.size + 1) #[.int .i64 0, .int .i64 0] 31 := blkT
  have hW : Below w.heap.size w w1 := blwT
  have qA := kA.cell
  have lA := kA.lt
  have qR := kR.cell
  have fR := kR.free
  have lR := kR.lt
  clear hb1
  go_upto_region 3 with fail
  go_cut [8, 9] (fun s8 s9 wx => s8 = .int .i64 PA ∧ s9 = .int .i64 PB ∧ Blk wx w.heap.size #[.int .i64 (m : Int), .slice a1 l1 c1, .slice a2 l2 c2] 27 ∧ Blk wx (w.heap.size + 1) #[.int .i64 0, .int .i64 0] 31 ∧ Below w.heap.size w wx)
  case first =>
    go_region_held3 (fun w' => (Blk w' (w.heap.size) #[.int .i64 ↑m, .slice a1 l1 c1, .slice a2 l2 c2] 27 ∧ ∀ o, w'.cell? ⟨w.heap.size, o, none⟩ = (#[.int .i64 ↑m, .slice a1 l1 c1, .slice a2 l2 c2] : Array Value)[o]?) ∧ (Blk w' (w.heap.size + 1) #[.int .i64 0, .int .i64 0] 31 ∧ ∀ o, w'.cell? ⟨w.heap.size + 1, o, none⟩ = (#[.int .i64 0, .int .i64 0] : Array Value)[o]?) ∧ Below w.heap.size w w') (((try (obtain ⟨⟨hS0, _⟩, ⟨hS1, _⟩, hSB⟩ := hHeld)); refine ⟨Blk.both ?_, Blk.both ?_, ?_⟩ <;> first | ((repeat (first | (with_reducible assumption) | (with_reducible refine Blk.drewN ?_ _) | (with_reducible refine Blk.drew ?_) | ((with_reducible refine Blk.new _ ?_); focus (first | omega | (simp; done) | (simp; omega))) | (with_reducible refine Blk.past ?_ _) | ((with_reducible refine Blk.apart ?_ _ _ _ ?_); rotate_left; focus (first | omega | (simp; done) | (simp; omega))) | (with_reducible refine Blk.by (by assumption) ?_))); done) | ((repeat (first | (with_reducible exact Below.refl _ _) | (with_reducible refine below_drewN ?_ _) | (with_reducible refine Below.drew ?_) | (with_reducible refine below_al ?_ _) | (with_reducible refine below_on (by assumption) ?_) | ((with_reducible refine Below.setCell ?_ ?_ _); rotate_left; focus (first | omega | (simp; done) | (simp; omega))) | (with_reducible assumption))); done)))
      (first | (go_at_call 30; refine (HPG.out _ _ _ (HN.out.by blwT)).mono ?_; rintro e t10 ⟨rfl, hb10⟩; have hz10 := hb10.size; (try simp only [World.size_alloc, size_drewN, World.size_drew] at hz10)))
    all_goals (go_wp2_with fail; go_meet)
    all_goals
      refine ⟨by rw [HPQ.out.1], by rw [HPQ.out.2], ?_, ?_, ?_⟩
      · ((repeat (first | (with_reducible assumption) | (with_reducible refine Blk.drewN ?_ _) | (with_reducible refine Blk.drew ?_) | ((with_reducible refine Blk.new _ ?_); focus (first | omega | (simp; done) | (simp; omega))) | (with_reducible refine Blk.past ?_ _) | ((with_reducible refine Blk.apart ?_ _ _ _ ?_); rotate_left; focus (first | omega | (simp; done) | (simp; omega))) | (with_reducible refine Blk.by (by assumption) ?_))); done)
      · ((repeat (first | (with_reducible assumption) | (with_reducible refine Blk.drewN ?_ _) | (with_reducible refine Blk.drew ?_) | ((with_reducible refine Blk.new _ ?_); focus (first | omega | (simp; done) | (simp; omega))) | (with_reducible refine Blk.past ?_ _) | ((with_reducible refine Blk.apart ?_ _ _ _ ?_); rotate_left; focus (first | omega | (simp; done) | (simp; omega))) | (with_reducible refine Blk.by (by assumption) ?_))); done)
      · ((repeat (first | (with_reducible exact Below.refl _ _) | (with_reducible refine below_drewN ?_ _) | (with_reducible refine Below.drew ?_) | (with_reducible refine below_al ?_ _) | (with_reducible refine below_on (by assumption) ?_) | ((with_reducible refine Below.setCell ?_ ?_ _); rotate_left; focus (first | omega | (simp; done) | (simp; omega))) | (with_reducible assumption))); done)
  case rest =>
    obtain ⟨rfl, rfl, kA2, kR2, hW2⟩ := hcut
    obtain ⟨w2, rfl⟩ : ∃ z : World, z = wc := ⟨_, rfl⟩
    clear kA kR hW qA lA qR fR lR
    have qA := kA2.cell
    have lA := kA2.lt
    have qR := kR2.cell
    have fR := kR2.free
    have lR := kR2.lt
    have i1 : decide (PA < 0) = false := decide_eq_false (by omega)
    have i2 : decide (PB < 0) = true := decide_eq_true hlt.2
    clear hlt
    go_wp2
    refine bodyPost_ret (v := .tuple #[.agg #[.int .i64 0, .int .i64 0], .int .i64 5]) (by simp [results, Tryz.results8, go_sem, *]) rfl ⟨rfl, blwT⟩
set_option maxRecDepth 100000 in
set_option maxHeartbeats 8000000 in
theorem specNr_st (x : Nl) (v : Value) (a b : ByteArray) (w : World) (h : NlV w v x) (hok : ∀ p ∈ x.ps, p.ok) (hnn : Fits x.nets) (hv : nlB x = true) (p q : Nat) (hp : ptN x.ps a = p) (hq : ptN x.ps b = q) (hR : x.ds.all (fun d => decide (d.kind = 2)) = false) :
    Calls Tryz.prog 8 #[v, .string a, .string b] w fun e w' => e = .returned (.tuple #[.agg #[.int .i64 0, .int .i64 0], .int .i64 6]) ∧ Below w.heap.size w w' := by
  have HV := Lib.hid (fun v w h => specNl_any x v w h hok hnn)
  rw [hv] at HV
  have HN := Lib.hid h
  obtain ⟨⟨hn0, hn1⟩, hd24, hp8, hdv, _⟩ := nlB_facts hv
  obtain ⟨F, hF⟩ : ∃ F : ByteArray → Int, ptN x.ps = F := ⟨_, rfl⟩
  have HPG := Lib.hid (fun s v w h => l28PortNet_any x v s w h (by omega))
  rw [hF] at HPG hp hq
  have HPQ := Lib.hid (And.intro hp hq)
  clear hF
  obtain ⟨a1, c1, a2, c2, rfl⟩ := h.sized
  obtain ⟨m, hm⟩ : ∃ m : Nat, x.nets = m := ⟨x.nets.toNat, by omega⟩
  have hm24 : m ≤ 24 := by omega
  have HR := Lib.hid hR
  obtain ⟨s1, s2, e0, hD, hP⟩ := h
  simp only [Value.agg.injEq, Array.mk.injEq, List.cons.injEq, and_true] at e0
  obtain ⟨_, rfl, rfl⟩ := e0
  have HD := Lib.hid hD
  rw [hm] at HN ⊢
  generalize x.ps.length = l2 at *
  obtain ⟨l1, hl1⟩ : ∃ l, x.ds.length = l := ⟨_, rfl⟩
  rw [hl1] at HN ⊢
  have HL1 := Lib.hid hl1
  have hl24 : l1 ≤ 24 := by omega
  clear hok hnn hv hdv hm hn0 hn1 hp hq hR hD hP hl1 hd24
  go_enter Tryz.func8, Tryz.ntmps8
  go_wp2_with fail
  refine (HV.out _ _ (HN.out.by blwT)).mono ?_
  rintro e w1 ⟨rfl, hb1⟩
  have kA : Blk w1 w.heap.size #[.int .i64 (m : Int), .slice a1 l1 c1, .slice a2 l2 c2] 27 := blkT
  have kR : Blk w1 (w.heap.size + 1) #[.int .i64 0, .int .i64 0] 31 := blkT
  have hW : Below w.heap.size w w1 := blwT
  have qA := kA.cell
  have lA := kA.lt
  have qR := kR.cell
  have fR := kR.free
  have lR := kR.lt
  clear hb1
  go_upto_region 3 with fail
  go_cut [8, 9] (fun s8 s9 wx => s8 = .int .i64 (p : Int) ∧ s9 = .int .i64 (q : Int) ∧ Blk wx w.heap.size #[.int .i64 (m : Int), .slice a1 l1 c1, .slice a2 l2 c2] 27 ∧ Blk wx (w.heap.size + 1) #[.int .i64 0, .int .i64 0] 31 ∧ Below w.heap.size w wx)
  case first =>
    go_region_held3 (fun w' => (Blk w' (w.heap.size) #[.int .i64 ↑m, .slice a1 l1 c1, .slice a2 l2 c2] 27 ∧ ∀ o, w'.cell? ⟨w.heap.size, o, none⟩ = (#[.int .i64 ↑m, .slice a1 l1 c1, .slice a2 l2 c2] : Array Value)[o]?) ∧ (Blk w' (w.heap.size + 1) #[.int .i64 0, .int .i64 0] 31 ∧ ∀ o, w'.cell? ⟨w.heap.size + 1, o, none⟩ = (#[.int .i64 0, .int .i64 0] : Array Value)[o]?) ∧ Below w.heap.size w w') (((try (obtain ⟨⟨hS0, _⟩, ⟨hS1, _⟩, hSB⟩ := hHeld)); refine ⟨Blk.both ?_, Blk.both ?_, ?_⟩ <;> first | ((repeat (first | (with_reducible assumption) | (with_reducible refine Blk.drewN ?_ _) | (with_reducible refine Blk.drew ?_) | ((with_reducible refine Blk.new _ ?_); focus (first | omega | (simp; done) | (simp; omega))) | (with_reducible refine Blk.past ?_ _) | ((with_reducible refine Blk.apart ?_ _ _ _ ?_); rotate_left; focus (first | omega | (simp; done) | (simp; omega))) | (with_reducible refine Blk.by (by assumption) ?_))); done) | ((repeat (first | (with_reducible exact Below.refl _ _) | (with_reducible refine below_drewN ?_ _) | (with_reducible refine Below.drew ?_) | (with_reducible refine below_al ?_ _) | (with_reducible refine below_on (by assumption) ?_) | ((with_reducible refine Below.setCell ?_ ?_ _); rotate_left; focus (first | omega | (simp; done) | (simp; omega))) | (with_reducible assumption))); done)))
      (first | (go_at_call 30; refine (HPG.out _ _ _ (HN.out.by blwT)).mono ?_; rintro e t10 ⟨rfl, hb10⟩; have hz10 := hb10.size; (try simp only [World.size_alloc, size_drewN, World.size_drew] at hz10)))
    all_goals (go_wp2_with fail; go_meet)
    all_goals
      refine ⟨by rw [HPQ.out.1], by rw [HPQ.out.2], ?_, ?_, ?_⟩
      · ((repeat (first | (with_reducible assumption) | (with_reducible refine Blk.drewN ?_ _) | (with_reducible refine Blk.drew ?_) | ((with_reducible refine Blk.new _ ?_); focus (first | omega | (simp; done) | (simp; omega))) | (with_reducible refine Blk.past ?_ _) | ((with_reducible refine Blk.apart ?_ _ _ _ ?_); rotate_left; focus (first | omega | (simp; done) | (simp; omega))) | (with_reducible refine Blk.by (by assumption) ?_))); done)
      · ((repeat (first | (with_reducible assumption) | (with_reducible refine Blk.drewN ?_ _) | (with_reducible refine Blk.drew ?_) | ((with_reducible refine Blk.new _ ?_); focus (first | omega | (simp; done) | (simp; omega))) | (with_reducible refine Blk.past ?_ _) | ((with_reducible refine Blk.apart ?_ _ _ _ ?_); rotate_left; focus (first | omega | (simp; done) | (simp; omega))) | (with_reducible refine Blk.by (by assumption) ?_))); done)
      · ((repeat (first | (with_reducible exact Below.refl _ _) | (with_reducible refine below_drewN ?_ _) | (with_reducible refine Below.drew ?_) | (with_reducible refine below_al ?_ _) | (with_reducible refine below_on (by assumption) ?_) | ((with_reducible refine Below.setCell ?_ ?_ _); rotate_left; focus (first | omega | (simp; done) | (simp; omega))) | (with_reducible assumption))); done)
  case rest =>
    obtain ⟨rfl, rfl, kA2, kR2, hW2⟩ := hcut
    obtain ⟨w2, rfl⟩ : ∃ z : World, z = wc := ⟨_, rfl⟩
    clear kA kR hW qA lA qR fR lR
    have qA := kA2.cell
    have lA := kA2.lt
    have qR := kR2.cell
    have fR := kR2.free
    have lR := kR2.lt
    have i1 : ¬ (p : Int) < 0 := by omega
    have i2 : ¬ (q : Int) < 0 := by omega
    go_wp2
    go_loopw [10] (fun i wr => ∃ k : Nat, k ≤ l1 ∧ i = .int .i64 k ∧ wr = w2 ∧ Hid (∀ (j : Nat) d, j < k → x.ds[j]? = some d → d.kind = 2)) (fun i _ => l1 - (intOf i).toNat)
    case atStart => exact ⟨0, Nat.zero_le _, rfl, rfl, Lib.hid (by intro j d h; omega)⟩
    case round =>
      obtain ⟨k, hk, rfl, rfl, HK⟩ := hrel
      by_cases hlt : k < l1
      · obtain ⟨d, hd⟩ : ∃ d, x.ds[k]? = some d := ⟨x.ds[k]'(by rw [HL1.out]; exact hlt), List.getElem?_eq_getElem _⟩
        rcases HD.out with ⟨_, _, _, h2⟩ | ⟨g, off, cap, he, h2, h3, h4⟩
        · rw [h2] at hd; simp at hd
        simp only [Value.slice.injEq] at he
        obtain ⟨rfl, _, rfl⟩ := he
        obtain ⟨pv, p1, _⟩ := h4 k d hd
        have p1 := cell_by' hW2 p1
        have lP := lt_of_cell p1
        dsimp only at lP
        have HX := Lib.hid hd
        have j1 : (0 : Int) ≤ (k : Int) := by omega
        have j2 : (k : Int) < (l1 : Int) := by omega
        clear h4 hd
        obtain ⟨kind, pins, wd, len⟩ := d
        dsimp only at p1
        by_cases hk2 : kind = 2
        · subst hk2
          go_wp2
          exact ⟨⟨k + 1, by omega, by go_num, by first | trivial | rfl, Lib.hid (fun j d hj hd => by
            by_cases e : j = k
            · subst e; obtain rfl := Option.some.inj (hd.symm.trans HX.out); rfl
            · exact HK.out j d (by omega) hd)⟩, by simp [intOf]; omega⟩
        · have k1 : (kind == 2) = false := by simpa using hk2
          have k2 : (kind != 2) = true := by simpa using hk2
          clear hk2
          go_wp2
          refine bodyPost_ret (v := .tuple #[.agg #[.int .i64 0, .int .i64 0], .int .i64 6]) (by simp [results, Tryz.results8, go_sem, *]) rfl ⟨rfl, blwT⟩
      · have hall := HK.out
        obtain rfl : k = l1 := by omega
        exact absurd HR.out (by
          rw [Bool.not_eq_false, List.all_eq_true]
          intro d hd
          obtain ⟨j, hj, rfl⟩ := List.getElem_of_mem hd
          exact decide_eq_true (hall j _ (by rw [← HL1.out]; exact hj) (List.getElem?_eq_getElem hj)))
set_option maxRecDepth 100000 in
set_option maxHeartbeats 8000000 in
theorem specNr_good (x : Nl) (v : Value) (a b : ByteArray) (w : World) (h : NlV w v x) (hok : ∀ p ∈ x.ps, p.ok) (hnn : Fits x.nets) (hv : nlB x = true) (p q : Nat) (hp : ptN x.ps a = p) (hq : ptN x.ps b = q) (hpn : (p : Int) < x.nets) (hqn : (q : Int) < x.nets) (hR : ∀ d ∈ x.ds, d.kind = 2) (N D C : Int) (hres : nrQ x p q = (⟨N, D⟩, C)) :
    Calls Tryz.prog 8 #[v, .string a, .string b] w fun e w' => e = .returned (.tuple #[.agg #[.int .i64 N, .int .i64 D], .int .i64 C]) ∧ Below w.heap.size w w' := by
  have HV := Lib.hid (fun v w h => specNl_any x v w h hok hnn)
  rw [hv] at HV
  have HN := Lib.hid h
  obtain ⟨⟨hn0, hn1⟩, hd24, hp8, hdv, _⟩ := nlB_facts hv
  obtain ⟨F, hF⟩ : ∃ F : ByteArray → Int, ptN x.ps = F := ⟨_, rfl⟩
  have HPG := Lib.hid (fun s v w h => l28PortNet_any x v s w h (by omega))
  rw [hF] at HPG hp hq
  have HPQ := Lib.hid (And.intro hp hq)
  clear hF
  obtain ⟨a1, c1, a2, c2, rfl⟩ := h.sized
  obtain ⟨m, hm⟩ : ∃ m : Nat, x.nets = m := ⟨x.nets.toNat, by omega⟩
  have hm24 : m ≤ 24 := by omega
  have hds : ∀ (k : Nat) d, x.ds[k]? = some d → d.kind = 2 := fun k d hd => hR d (List.mem_of_getElem? hd)
  have HRM := Lib.hid (fun v w h => specRmS_any x v w h hok hnn)
  have hdev := nr_dev hv hR
  have rn : (rmS x).nets = x.nets := by rw [rmS_yes hv]
  have hrl : (rmS x).ds.length ≤ x.ds.length := by rw [rmS_yes hv]; exact List.length_filter_le _ _
  have HDG := Lib.hid (fun v net w h => l27Degree_any (rmS x) v net w h (by omega) (fun d hd => by obtain ⟨r, s, e, _⟩ := hdev d hd; rw [e]; simp))
  unfold nrQ at hres
  obtain ⟨y, hy⟩ : ∃ y, rmS x = y := ⟨_, rfl⟩
  rw [hy] at hdev rn hrl HRM HDG hres
  obtain ⟨dl, hdl⟩ : ∃ dl, y.ds = dl := ⟨_, rfl⟩
  rw [hdl] at hdev hrl HDG hres
  rw [hm] at hres hdev rn hpn hqn
  simp only [Int.toNat_natCast] at hres
  have hok2 := netR_ok (ds := dl) (p := p) (q := q) (m := m) hm24 (fun d hd => by obtain ⟨r, s, e1, e2, _, e3, e4⟩ := hdev d hd; exact ⟨r, s, e1, by omega, e3, e4⟩)
  have HVW := Lib.hid (fun sv w h => specValid_any (netR dl p q m).nodes sv (netR dl p q m).rs w h hok2.1 hok2.2)
  have HER := Lib.hid (fun a b v w h => specEr_any (netR dl p q m) a b v w h hok2.1 hok2.2)
  have HDV := Lib.hid hdev
  have HHD := Lib.hid hds
  have HRES := Lib.hid hres
  have HYD := Lib.hid (And.intro rn hdl)
  have hld : dl.length ≤ 24 := by omega
  have HCL := Lib.hid (fun k => cnR_le dl p q k)
  obtain ⟨s1, s2, e0, hD, hP⟩ := h
  simp only [Value.agg.injEq, Array.mk.injEq, List.cons.injEq, and_true] at e0
  obtain ⟨_, rfl, rfl⟩ := e0
  have HD := Lib.hid hD
  rw [hm] at HN ⊢
  generalize x.ps.length = l2 at *
  obtain ⟨l1, hl1⟩ : ∃ l, x.ds.length = l := ⟨_, rfl⟩
  rw [hl1] at HN ⊢
  have HL1 := Lib.hid hl1
  have hl24 : l1 ≤ 24 := by omega
  have hpm : p < m := by omega
  have hqm : q < m := by omega
  clear hok hnn hv hdv hm hn0 hn1 hp hq hR hD hP hl1 hd24 hds hres hdev hok2 rn hrl hy hdl hpn hqn
  go_enter Tryz.func8, Tryz.ntmps8
  go_wp2_with fail
  refine (HV.out _ _ (HN.out.by blwT)).mono ?_
  rintro e w1 ⟨rfl, hb1⟩
  have kA : Blk w1 w.heap.size #[.int .i64 (m : Int), .slice a1 l1 c1, .slice a2 l2 c2] 27 := blkT
  have kR : Blk w1 (w.heap.size + 1) #[.int .i64 0, .int .i64 0] 31 := blkT
  have hW : Below w.heap.size w w1 := blwT
  have qA := kA.cell
  have lA := kA.lt
  have qR := kR.cell
  have fR := kR.free
  have lR := kR.lt
  clear hb1
  go_upto_region 3 with fail
  go_cut [8, 9] (fun s8 s9 wx => s8 = .int .i64 (p : Int) ∧ s9 = .int .i64 (q : Int) ∧ Blk wx w.heap.size #[.int .i64 (m : Int), .slice a1 l1 c1, .slice a2 l2 c2] 27 ∧ Blk wx (w.heap.size + 1) #[.int .i64 0, .int .i64 0] 31 ∧ Below w.heap.size w wx)
  case first =>
    go_region_held3 (fun w' => (Blk w' (w.heap.size) #[.int .i64 ↑m, .slice a1 l1 c1, .slice a2 l2 c2] 27 ∧ ∀ o, w'.cell? ⟨w.heap.size, o, none⟩ = (#[.int .i64 ↑m, .slice a1 l1 c1, .slice a2 l2 c2] : Array Value)[o]?) ∧ (Blk w' (w.heap.size + 1) #[.int .i64 0, .int .i64 0] 31 ∧ ∀ o, w'.cell? ⟨w.heap.size + 1, o, none⟩ = (#[.int .i64 0, .int .i64 0] : Array Value)[o]?) ∧ Below w.heap.size w w') (((try (obtain ⟨⟨hS0, _⟩, ⟨hS1, _⟩, hSB⟩ := hHeld)); refine ⟨Blk.both ?_, Blk.both ?_, ?_⟩ <;> first | ((repeat (first | (with_reducible assumption) | (with_reducible refine Blk.drewN ?_ _) | (with_reducible refine Blk.drew ?_) | ((with_reducible refine Blk.new _ ?_); focus (first | omega | (simp; done) | (simp; omega))) | (with_reducible refine Blk.past ?_ _) | ((with_reducible refine Blk.apart ?_ _ _ _ ?_); rotate_left; focus (first | omega | (simp; done) | (simp; omega))) | (with_reducible refine Blk.by (by assumption) ?_))); done) | ((repeat (first | (with_reducible exact Below.refl _ _) | (with_reducible refine below_drewN ?_ _) | (with_reducible refine Below.drew ?_) | (with_reducible refine below_al ?_ _) | (with_reducible refine below_on (by assumption) ?_) | ((with_reducible refine Below.setCell ?_ ?_ _); rotate_left; focus (first | omega | (simp; done) | (simp; omega))) | (with_reducible assumption))); done)))
      (first | (go_at_call 30; refine (HPG.out _ _ _ (HN.out.by blwT)).mono ?_; rintro e t10 ⟨rfl, hb10⟩; have hz10 := hb10.size; (try simp only [World.size_alloc, size_drewN, World.size_drew] at hz10)))
    all_goals (go_wp2_with fail; go_meet)
    all_goals
      refine ⟨by rw [HPQ.out.1], by rw [HPQ.out.2], ?_, ?_, ?_⟩
      · ((repeat (first | (with_reducible assumption) | (with_reducible refine Blk.drewN ?_ _) | (with_reducible refine Blk.drew ?_) | ((with_reducible refine Blk.new _ ?_); focus (first | omega | (simp; done) | (simp; omega))) | (with_reducible refine Blk.past ?_ _) | ((with_reducible refine Blk.apart ?_ _ _ _ ?_); rotate_left; focus (first | omega | (simp; done) | (simp; omega))) | (with_reducible refine Blk.by (by assumption) ?_))); done)
      · ((repeat (first | (with_reducible assumption) | (with_reducible refine Blk.drewN ?_ _) | (with_reducible refine Blk.drew ?_) | ((with_reducible refine Blk.new _ ?_); focus (first | omega | (simp; done) | (simp; omega))) | (with_reducible refine Blk.past ?_ _) | ((with_reducible refine Blk.apart ?_ _ _ _ ?_); rotate_left; focus (first | omega | (simp; done) | (simp; omega))) | (with_reducible refine Blk.by (by assumption) ?_))); done)
      · ((repeat (first | (with_reducible exact Below.refl _ _) | (with_reducible refine below_drewN ?_ _) | (with_reducible refine Below.drew ?_) | (with_reducible refine below_al ?_ _) | (with_reducible refine below_on (by assumption) ?_) | ((with_reducible refine Below.setCell ?_ ?_ _); rotate_left; focus (first | omega | (simp; done) | (simp; omega))) | (with_reducible assumption))); done)
  case rest =>
    obtain ⟨rfl, rfl, kA2, kR2, hW2⟩ := hcut
    obtain ⟨w2, rfl⟩ : ∃ z : World, z = wc := ⟨_, rfl⟩
    clear kA kR hW qA lA qR fR lR
    have qA := kA2.cell
    have lA := kA2.lt
    have qR := kR2.cell
    have fR := kR2.free
    have lR := kR2.lt
    have i1 : ¬ (p : Int) < 0 := by omega
    have i2 : ¬ (q : Int) < 0 := by omega
    go_wp2
    go_loopw [10] (fun i wr => ∃ k0 : Nat, k0 ≤ l1 ∧ i = .int .i64 k0 ∧ wr = w2) (fun i _ => l1 - (intOf i).toNat)
    case atStart => exact ⟨0, Nat.zero_le _, rfl, rfl⟩
    case round =>
      obtain ⟨k0, hk, rfl, rfl⟩ := hrel
      by_cases hlt : k0 < l1
      · obtain ⟨d, hd⟩ : ∃ d, x.ds[k0]? = some d := ⟨x.ds[k0]'(by rw [HL1.out]; exact hlt), List.getElem?_eq_getElem _⟩
        have hk2 := HHD.out k0 d hd
        rcases HD.out with ⟨_, _, _, h2⟩ | ⟨g, off, cap, he, h2, h3, h4⟩
        · rw [h2] at hd; simp at hd
        simp only [Value.slice.injEq] at he
        obtain ⟨rfl, _, rfl⟩ := he
        obtain ⟨pv, p1, _⟩ := h4 k0 d hd
        have p1 := cell_by' hW2 p1
        have lP := lt_of_cell p1
        dsimp only at lP
        have j1 : (0 : Int) ≤ (k0 : Int) := by omega
        have j2 : (k0 : Int) < (l1 : Int) := by omega
        rw [hk2] at p1
        clear h4 hd hk2
        go_wp2
        exact ⟨⟨k0 + 1, by omega, by go_num, by first | trivial | rfl⟩, by simp [intOf]; omega⟩
      · obtain rfl : k0 = l1 := by omega
        have j2 : ¬ (k0 : Int) < (k0 : Int) := by omega
        clear hlt
        go_wp2_with fail
        refine (HRM.out _ _ (HN.out.by hW2)).mono ?_
        rintro e w3 ⟨v3, rfl, hO3, hb3⟩
        have hN3 := hO3.nl
        obtain ⟨s3, s4, lo1, hi1, lo2, hi2, rfl, hOD, hOP, ⟨q1, q2⟩, _, _⟩ := hO3
        rw [HYD.out.1] at hN3 ⊢
        rw [HYD.out.2] at hOD
        obtain ⟨a3, c3, rfl⟩ := hOD.sl.sized
        obtain ⟨a4, c4, rfl⟩ := hOP.sl.sized
        obtain ⟨ld, hLD⟩ : ∃ l, dl.length = l := ⟨_, rfl⟩
        generalize y.ps.length = l4 at *
        rw [hLD] at hN3 hOD hld ⊢
        have HLD := Lib.hid hLD
        have hW3 := below_on hb3 hW2
        have kA3 := Blk.by hb3 kA2
        have kR3 := Blk.by hb3 kR2
        have hal : Below w3.heap.size w3 (((w3.alloc (.cells #[.int .i64 (m : Int), .slice a3 ld c3, .slice a4 l4 c4] 27)).alloc (.cells #[.int .i64 0, .slice none 0 0] 55)).alloc (.cells #[] 2)) := (((Below.refl _ w3).alloc (Nat.le_refl _) _).alloc (by simp) _).alloc (by simp; omega) _
        have kY5 : Blk (((w3.alloc (.cells #[.int .i64 (m : Int), .slice a3 ld c3, .slice a4 l4 c4] 27)).alloc (.cells #[.int .i64 0, .slice none 0 0] 55)).alloc (.cells #[] 2)) w3.heap.size #[.int .i64 (m : Int), .slice a3 ld c3, .slice a4 l4 c4] 27 := ((Blk.new _ rfl).past _).past _
        have kZ5 : Blk (((w3.alloc (.cells #[.int .i64 (m : Int), .slice a3 ld c3, .slice a4 l4 c4] 27)).alloc (.cells #[.int .i64 0, .slice none 0 0] 55)).alloc (.cells #[] 2)) (w3.heap.size + 1) #[.int .i64 0, .slice none 0 0] 55 := (Blk.new _ (by simp)).past _
        have kG5 : Blk (((w3.alloc (.cells #[.int .i64 (m : Int), .slice a3 ld c3, .slice a4 l4 c4] 27)).alloc (.cells #[.int .i64 0, .slice none 0 0] 55)).alloc (.cells #[] 2)) (w3.heap.size + 1 + 1) #[] 2 := Blk.new _ (by simp)
        have kA5 := Blk.by hal kA3
        have kR5 := Blk.by hal kR3
        have hW5 := below_on hal hW3
        have HN5 := Lib.hid (hN3.by hal)
        have HOD5 := Lib.hid (hOD.by hal)
        have HOP5 := Lib.hid (hOP.by hal)
        have hs5 : (((w3.alloc (.cells #[.int .i64 (m : Int), .slice a3 ld c3, .slice a4 l4 c4] 27)).alloc (.cells #[.int .i64 0, .slice none 0 0] 55)).alloc (.cells #[] 2)).heap.size = w3.heap.size + 3 := by simp
        have hs3 := hb3.size
        have hgap : w.heap.size + 1 < w3.heap.size := Nat.lt_of_lt_of_le kR2.lt hb3.size
        have hsA := hW2.size
        clear qA lA qR fR lR kA2 kR2 kA3 kR3 hb3 hW2 hW3 hal hOD hOP hN3 hLD HN
        have HS5 := Lib.hid hs5
        clear hs5
        go_wp2
        generalize (((w3.alloc (.cells #[.int .i64 (m : Int), .slice a3 ld c3, .slice a4 l4 c4] 27)).alloc (.cells #[.int .i64 0, .slice none 0 0] 55)).alloc (.cells #[] 2)) = w5 at *
        generalize w3.heap.size = Y at *
        have HBG := Lib.hid (BldI.lit (zs := []) kG5 rfl (by simp) (Nat.le_refl _) (Nat.lt_succ_self _) (by have := HS5.out; omega))
        have HNYE := Lib.hid (show ∀ w', Exc (fun b => Y + 1 ≤ b) w5 w' → NlV w' (.agg #[.int .i64 (m : Int), .slice a3 ld c3, .slice a4 l4 c4]) y from fun w' hE => ⟨.slice a3 ld c3, .slice a4 l4 c4, by rw [HYD.out.1], by rw [HYD.out.2]; exact (OwnDs.exc hE HOD5.out (by intro b hb hb2 hb3; omega)).sl, (OwnPs.exc2 hE HOP5.out (by intro b hb hb2 hb3; omega)).sl⟩)
        go_loopw [13, 14] (fun u i wr => ∃ (k hi : Nat), k ≤ m ∧ i = .int .i64 k ∧ BldI wr (Y + 1 + 1) hi u (ndR dl p q k) ∧ Y + 1 + 1 ≤ hi ∧ Blk wr (Y + 1) #[.int .i64 ((cnR dl p q k : Nat) : Int), .slice none 0 0] 55 ∧ Hid (Exc (fun b => Y + 1 ≤ b) w5 wr)) (fun _ i _ => m - (intOf i).toNat)
        case atStart => exact ⟨0, Y + 1 + 1 + 1, Nat.zero_le _, rfl, HBG.out, by omega, kZ5, Lib.hid (Exc.refl _ _)⟩
        case round =>
          obtain ⟨k, hi, hk, rfl, hBI, hhi, kZ, HE⟩ := hrel
          obtain ⟨au, cu, rfl⟩ := hBI.sized
          rw [length_ndR] at hBI ⊢
          have HBI := Lib.hid hBI
          have hbi1 := hBI.1
          clear hBI
          have hX := HE.out
          have kA := hX.blk kA5 (by omega)
          have kR := hX.blk kR5 (by omega)
          have kY := hX.blk kY5 (by omega)
          have hW : Below w.heap.size w wr := hX.below hW5 (by intro b hb hb2; omega)
          have hszX := hX.size
          by_cases hlt : k < m
          · have hcl := HCL.out k
            have HU := Lib.hid (fun h => cnR_yes (ds := dl) (p := p) (q := q) (k := k) h)
            have HNo := Lib.hid (fun h => cnR_no (ds := dl) (p := p) (q := q) (k := k) h)
            have hud : usR dl p q k = (decide ((k : Int) = p) || (decide ((k : Int) = q) || decide (0 < degN dl k))) := rfl
            have HSK := Lib.hid (ndR_succ dl p q k)
            obtain ⟨ck, hck⟩ : ∃ ck, cnR dl p q k = ck := ⟨_, rfl⟩
            rw [hck] at HU HNo HSK hcl kZ
            have HLN := Lib.hid (length_ndR dl p q k)
            obtain ⟨dg, hdg⟩ : ∃ dg, degN dl (k : Int) = dg := ⟨_, rfl⟩
            have HDK := Lib.hid (fun v w h => HDG.out v (k : Int) w h)
            rw [hdg] at HDK hud
            have j1 : (0 : Int) ≤ (k : Int) := by omega
            have j2 : (k : Int) < (m : Int) := by omega
            have hck24 : ck ≤ 24 := by omega
            have qA := kA.cell
            have lA := kA.lt
            have qZ := kZ.cell
            have lZ := kZ.lt
            have qY := kY.cell
            have lY := kY.lt
            clear hck hdg
            by_cases e1 : k = p
            · have HC := Lib.hid (HU.out (by rw [hud]; simp [e1]))
              have f1 : ((k : Int) == (p : Int)) = true := by simp [e1]
              clear hud e1
              go_wp2_with (first | (refine list_pushI (by rfl) _ _ (by rfl) (Y + 1 + 1) hi (.slice au k cu) (ndR dl p q k) [(ck : Int)] (by rfl) (HBI.out.by blwT) wr.heap.size 1 #[.int .i64 (ck : Int)] (by rfl) (by rfl) (by omega) (Blk.new _ rfl) (by rfl) hhi (by rw [HLN.out]; omega) ?_; intro a6 c6 w6 hB6 hw6; rw [HLN.out] at hB6 ⊢; have HB6 := Lib.hid hB6; have kY6 := hw6.blk (kY.past (.cells #[.int .i64 (ck : Int)] 2)) (by omega); have kZ6 := hw6.blk (kZ.past (.cells #[.int .i64 (ck : Int)] 2)) (by omega); have kA6 := hw6.blk (kA.past (.cells #[.int .i64 (ck : Int)] 2)) (by omega); have hsz6 := hw6.size; simp only [World.size_alloc] at hsz6; have qY6 := kY6.cell; have qZ6 := kZ6.cell; have fZ6 := kZ6.free; have qA6 := kA6.cell; have lA6 := kA6.lt; have lZ6 := kZ6.lt; have lY6 := kY6.lt; have HE6 := Lib.hid ((HE.out.alloc (.cells #[.int .i64 (ck : Int)] 2)).thn (Exc.ofWithin (E := fun b => Y + 1 ≤ b) hw6 (by intro b h1 h2; omega)) (fun b _ h => h)); have HNY6 := Lib.hid (HNYE.out w6 HE6.out); clear hB6 hw6) | (go_at_call 32; refine (HDK.out _ _ HNY6.out).mono ?_; rintro e w7 ⟨rfl, hb7⟩; have kZ7 := Blk.by hb7 kZ6; have kA7 := Blk.by hb7 kA6; have qA7 := kA7.cell; have lA7 := kA7.lt; have qZ7 := kZ7.cell; have fZ7 := kZ7.free; have lZ7 := kZ7.lt; have HB7 := Lib.hid (HB6.out.by hb7); have HE7 := Lib.hid (HE6.out.on (Exc.ofBelow hb7)); have hs7 := hb7.size))
              exact ⟨⟨k + 1, w6.heap.size, by omega, by go_num, by rw [HSK.out]; exact BldI.past (Within.off _) HB6.out (by omega), by omega, by rw [HC.out]; exact kZ6.set 0 _, Lib.hid (HE6.out.set _ _ _ (by intro _; omega))⟩, by simp [intOf]; omega⟩
            · by_cases e2 : k = q
              · have HC := Lib.hid (HU.out (by rw [hud]; simp [e2]))
                have f1 : ((k : Int) == (p : Int)) = false := by simpa using (show ¬ (k : Int) = p by omega)
                have f2 : ((k : Int) == (q : Int)) = true := by simp [e2]
                clear hud e1 e2
                go_wp2_with (first | (refine list_pushI (by rfl) _ _ (by rfl) (Y + 1 + 1) hi (.slice au k cu) (ndR dl p q k) [(ck : Int)] (by rfl) (HBI.out.by blwT) wr.heap.size 1 #[.int .i64 (ck : Int)] (by rfl) (by rfl) (by omega) (Blk.new _ rfl) (by rfl) hhi (by rw [HLN.out]; omega) ?_; intro a6 c6 w6 hB6 hw6; rw [HLN.out] at hB6 ⊢; have HB6 := Lib.hid hB6; have kY6 := hw6.blk (kY.past (.cells #[.int .i64 (ck : Int)] 2)) (by omega); have kZ6 := hw6.blk (kZ.past (.cells #[.int .i64 (ck : Int)] 2)) (by omega); have kA6 := hw6.blk (kA.past (.cells #[.int .i64 (ck : Int)] 2)) (by omega); have hsz6 := hw6.size; simp only [World.size_alloc] at hsz6; have qY6 := kY6.cell; have qZ6 := kZ6.cell; have fZ6 := kZ6.free; have qA6 := kA6.cell; have lA6 := kA6.lt; have lZ6 := kZ6.lt; have lY6 := kY6.lt; have HE6 := Lib.hid ((HE.out.alloc (.cells #[.int .i64 (ck : Int)] 2)).thn (Exc.ofWithin (E := fun b => Y + 1 ≤ b) hw6 (by intro b h1 h2; omega)) (fun b _ h => h)); have HNY6 := Lib.hid (HNYE.out w6 HE6.out); clear hB6 hw6) | (go_at_call 32; refine (HDK.out _ _ HNY6.out).mono ?_; rintro e w7 ⟨rfl, hb7⟩; have kZ7 := Blk.by hb7 kZ6; have kA7 := Blk.by hb7 kA6; have qA7 := kA7.cell; have lA7 := kA7.lt; have qZ7 := kZ7.cell; have fZ7 := kZ7.free; have lZ7 := kZ7.lt; have HB7 := Lib.hid (HB6.out.by hb7); have HE7 := Lib.hid (HE6.out.on (Exc.ofBelow hb7)); have hs7 := hb7.size))
                exact ⟨⟨k + 1, w6.heap.size, by omega, by go_num, by rw [HSK.out]; exact BldI.past (Within.off _) HB6.out (by omega), by omega, by rw [HC.out]; exact kZ6.set 0 _, Lib.hid (HE6.out.set _ _ _ (by intro _; omega))⟩, by simp [intOf]; omega⟩
              · have f1 : ((k : Int) == (p : Int)) = false := by simpa using (show ¬ (k : Int) = p by omega)
                have f2 : ((k : Int) == (q : Int)) = false := by simpa using (show ¬ (k : Int) = q by omega)
                by_cases h0 : 0 < dg
                · have HC := Lib.hid (HU.out (by rw [hud]; simp [h0]))
                  have d0 : decide (0 < dg) = true := decide_eq_true h0
                  clear hud e1 e2
                  go_wp2_with (first | (refine list_pushI (by rfl) _ _ (by rfl) (Y + 1 + 1) hi (.slice au k cu) (ndR dl p q k) [(ck : Int)] (by rfl) (HBI.out.by blwT) wr.heap.size 1 #[.int .i64 (ck : Int)] (by rfl) (by rfl) (by omega) (Blk.new _ rfl) (by rfl) hhi (by rw [HLN.out]; omega) ?_; intro a6 c6 w6 hB6 hw6; rw [HLN.out] at hB6 ⊢; have HB6 := Lib.hid hB6; have kY6 := hw6.blk (kY.past (.cells #[.int .i64 (ck : Int)] 2)) (by omega); have kZ6 := hw6.blk (kZ.past (.cells #[.int .i64 (ck : Int)] 2)) (by omega); have kA6 := hw6.blk (kA.past (.cells #[.int .i64 (ck : Int)] 2)) (by omega); have hsz6 := hw6.size; simp only [World.size_alloc] at hsz6; have qY6 := kY6.cell; have qZ6 := kZ6.cell; have fZ6 := kZ6.free; have qA6 := kA6.cell; have lA6 := kA6.lt; have lZ6 := kZ6.lt; have lY6 := kY6.lt; have HE6 := Lib.hid ((HE.out.alloc (.cells #[.int .i64 (ck : Int)] 2)).thn (Exc.ofWithin (E := fun b => Y + 1 ≤ b) hw6 (by intro b h1 h2; omega)) (fun b _ h => h)); have HNY6 := Lib.hid (HNYE.out w6 HE6.out); clear hB6 hw6) | (go_at_call 32; refine (HDK.out _ _ HNY6.out).mono ?_; rintro e w7 ⟨rfl, hb7⟩; have kZ7 := Blk.by hb7 kZ6; have kA7 := Blk.by hb7 kA6; have qA7 := kA7.cell; have lA7 := kA7.lt; have qZ7 := kZ7.cell; have fZ7 := kZ7.free; have lZ7 := kZ7.lt; have HB7 := Lib.hid (HB6.out.by hb7); have HE7 := Lib.hid (HE6.out.on (Exc.ofBelow hb7)); have hs7 := hb7.size))
                  exact ⟨⟨k + 1, w6.heap.size, by omega, by go_num, by rw [HSK.out]; exact BldI.past (Within.off _) HB7.out (by omega), by omega, by rw [HC.out]; exact kZ7.set 0 _, Lib.hid (HE7.out.set _ _ _ (by intro _; omega))⟩, by simp [intOf]; omega⟩
                · have HC := Lib.hid (HNo.out (by rw [hud]; simp [h0]; omega))
                  have d0 : decide (0 < dg) = false := decide_eq_false h0
                  clear hud e1 e2
                  go_wp2_with (first | (refine list_pushI (by rfl) _ _ (by rfl) (Y + 1 + 1) hi (.slice au k cu) (ndR dl p q k) [(ck : Int)] (by rfl) (HBI.out.by blwT) wr.heap.size 1 #[.int .i64 (ck : Int)] (by rfl) (by rfl) (by omega) (Blk.new _ rfl) (by rfl) hhi (by rw [HLN.out]; omega) ?_; intro a6 c6 w6 hB6 hw6; rw [HLN.out] at hB6 ⊢; have HB6 := Lib.hid hB6; have kY6 := hw6.blk (kY.past (.cells #[.int .i64 (ck : Int)] 2)) (by omega); have kZ6 := hw6.blk (kZ.past (.cells #[.int .i64 (ck : Int)] 2)) (by omega); have kA6 := hw6.blk (kA.past (.cells #[.int .i64 (ck : Int)] 2)) (by omega); have hsz6 := hw6.size; simp only [World.size_alloc] at hsz6; have qY6 := kY6.cell; have qZ6 := kZ6.cell; have fZ6 := kZ6.free; have qA6 := kA6.cell; have lA6 := kA6.lt; have lZ6 := kZ6.lt; have lY6 := kY6.lt; have HE6 := Lib.hid ((HE.out.alloc (.cells #[.int .i64 (ck : Int)] 2)).thn (Exc.ofWithin (E := fun b => Y + 1 ≤ b) hw6 (by intro b h1 h2; omega)) (fun b _ h => h)); have HNY6 := Lib.hid (HNYE.out w6 HE6.out); clear hB6 hw6) | (go_at_call 32; refine (HDK.out _ _ HNY6.out).mono ?_; rintro e w7 ⟨rfl, hb7⟩; have kZ7 := Blk.by hb7 kZ6; have kA7 := Blk.by hb7 kA6; have qA7 := kA7.cell; have lA7 := kA7.lt; have qZ7 := kZ7.cell; have fZ7 := kZ7.free; have lZ7 := kZ7.lt; have HB7 := Lib.hid (HB6.out.by hb7); have HE7 := Lib.hid (HE6.out.on (Exc.ofBelow hb7)); have hs7 := hb7.size))
                  exact ⟨⟨k + 1, w6.heap.size, by omega, by go_num, by rw [HSK.out]; exact HB7.out, by omega, by rw [HC.out]; exact kZ7, Lib.hid HE7.out⟩, by simp [intOf]; omega⟩
          · obtain rfl : k = m := by omega
            have j2 : ¬ (k : Int) < (k : Int) := by omega
            obtain ⟨w8, rfl⟩ : ∃ z : World, z = wr := ⟨_, rfl⟩
            have HND8 := Lib.hid HBI.out.own
            have HOD8 := Lib.hid (OwnDs.exc HE.out HOD5.out (by intro b hb hb2 hb3; omega))
            obtain ⟨CN, hCN⟩ : ∃ CN, cnR dl p q k = CN := ⟨_, rfl⟩
            rw [hCN] at kZ
            have HCN := Lib.hid hCN
            have hCN24 : CN ≤ 24 := by have := HCL.out k; omega
            have qA := kA.cell
            have lA := kA.lt
            have qY := kY.cell
            have lY := kY.lt
            clear hCN HBI
            (try clear HV)
            (try clear HN)
            (try clear HPG)
            (try clear HPQ)
            (try clear HRM)
            (try clear HDG)
            (try clear HHD)
            (try clear HD)
            (try clear HL1)
            (try clear HN5)
            (try clear HNYE)
            (try clear HS5)
            (try clear HBG)
            (try clear kG5)
            (try clear kZ5)
            (try clear HE)
            (try clear hX)
            (try clear hl24)
            (try clear hp8)
            (try clear hk)
            (try clear hlt)
            (try clear kA5)
            (try clear kR5)
            (try clear kY5)
            (try clear i1)
            (try clear i2)
            (try clear HOP5)
            go_wp2
            clear qA lA qY lY
            go_loopw [15, 16] (fun i _ wx => ∃ (j hi2 : Nat) (u : Value), j ≤ ld ∧ i = .int .i64 j ∧ BldRes wx w8.heap.size hi2 u ((dl.take j).map (resR dl p q)) ∧ w8.heap.size ≤ hi2 ∧ Blk wx (Y + 1) #[.int .i64 (CN : Int), u] 55 ∧ Hid (Exc (fun b => b = Y + 1) w8 wx)) (fun i _ _ => ld - (intOf i).toNat)
            case atStart => exact ⟨0, w8.heap.size, .slice none 0 0, Nat.zero_le _, rfl, BldRes.nil _ _, Nat.le_refl _, kZ, Lib.hid (Exc.refl _ _)⟩
            case round =>
              obtain ⟨j, hi2, u, hj, rfl, hBR, hh2, kZx, HX2⟩ := hrel
              have hml : ((dl.take j).map (resR dl p q)).length = j := by rw [List.length_map, List.length_take, HLD.out]; omega
              obtain ⟨au2, cu2, rfl⟩ := hBR.sized
              rw [hml] at hBR kZx
              have HBR := Lib.hid hBR
              have HML := Lib.hid hml
              have hh3 := hBR.1
              clear hBR hml
              have hX := HX2.out
              have kYx := hX.blk kY (by omega)
              have kAx := hX.blk kA (by omega)
              have kRx := hX.blk kR (by omega)
              have hWx : Below w.heap.size w wr := hX.below hW (by intro b hb hb2; omega)
              have hszx := hX.size
              by_cases hlt2 : j < ld
              · obtain ⟨d, hd⟩ : ∃ d, dl[j]? = some d := ⟨dl[j]'(by rw [HLD.out]; exact hlt2), List.getElem?_eq_getElem _⟩
                obtain ⟨r, t, ep, ⟨hr, ht⟩, ek, bw, bl⟩ := HDV.out d (List.mem_of_getElem? hd)
                have HRE := Lib.hid (resR_at (ds := dl) (p := p) (q := q) ep)
                have HTK := Lib.hid (show (dl.take (j + 1)).map (resR dl p q) = (dl.take j).map (resR dl p q) ++ [resR dl p q d] by rw [List.take_add_one, hd]; simp)
                rcases OwnDs.exc hX HOD8.out (by intro b hb hb2 hb3; omega) with ⟨_, _, _, h0⟩ | ⟨g, cap, cs, f, h1, h2, h3, h4, h5, h6, h7⟩
                · have h9 := (List.getElem?_eq_some_iff.1 hd).1
                  rw [h0] at h9
                  exact absurd h9 (Nat.not_lt_zero _)
                obtain ⟨⟨pv, ⟨x0, x1, x2, x3⟩, hOR⟩, hf⟩ := h6 j d hd
                injection h1 with h1a h1b h1c
                clear h1b
                subst h1a h1c
                rw [ep] at hOR
                rcases hOR with ⟨_, _, _, h0⟩ | ⟨pb, pcap, ps, rfl, q1', q2', q3, q4, kP, hps⟩
                · exact absurd h0 (by simp)
                have hp0 := hps 0 r rfl
                have hp1 := hps 1 t rfl
                rcases OwnR.exc hX HND8.out (by intro b hb hb2 hb3; omega) with ⟨_, _, _, h0⟩ | ⟨nb, ncap, ns, en, n1, n2, n3, n4, kN, hns⟩
                · have h9 : (ndR dl p q k).length = k := length_ndR dl p q k
                  rw [h0] at h9
                  have h9 : 0 = k := h9
                  omega
                injection en with ena enb enc
                clear enb
                subst ena enc
                have hn0 := hns r _ (ndR_get dl p q (by omega))
                have hn1 := hns t _ (ndR_get dl p q (by omega))
                have hcr := HCL.out r
                have hct := HCL.out t
                rw [ek] at x0
                obtain ⟨_, _, wd, len⟩ := d
                dsimp only at ep ek bw bl x0 x2 x3 HRE
                generalize cnR dl p q r = cr at *
                generalize cnR dl p q t = ct at *
                have c0 := (h5.cell _).trans x0
                have c1 := (h5.cell _).trans x1
                have c2 := (h5.cell _).trans x2
                have c3 := (h5.cell _).trans x3
                have lg := h5.lt
                have j1 : (0 : Int) ≤ (j : Int) := by omega
                have j3 : (j : Int) < (ld : Int) := by omega
                have qY := kYx.cell
                have lY := kYx.lt
                have HP0 := Lib.hid ((kP.cell 0).trans hp0)
                have HP1 := Lib.hid ((kP.cell 1).trans hp1)
                have HN0 := Lib.hid ((kN.cell r).trans hn0)
                have HN1 := Lib.hid ((kN.cell t).trans hn1)
                have HF := Lib.hid (And.intro h5.lt (And.intro kP.lt (And.intro kN.lt (And.intro h2 hf))))
                have HEP := Lib.hid ep
                have HBD := Lib.hid (And.intro hr (And.intro ht (And.intro hcr (And.intro hct (And.intro bw bl)))))
                have HKK := Lib.hid (And.intro kYx (And.intro hWx hszx))
                have HPN := Lib.hid (And.intro kP kN)
                clear h3 h4 h6 h7 x0 x1 x2 x3 hps hp0 hp1 hns hn0 hn1 ep ek h2 hf q3 q4 n3 n4 hd h5 hX hr ht hcr hct bw bl kYx kAx kRx hWx hszx kP kN
                go_upto_region 24 with fail
                have kD0 : Blk (wr.alloc (.cells #[.int .i64 2, .slice (some ⟨pb, 0, none⟩) 2 pcap, .int .i64 wd, .int .i64 len] 46)) wr.heap.size #[.int .i64 2, .slice (some ⟨pb, 0, none⟩) 2 pcap, .int .i64 wd, .int .i64 len] 46 := Blk.new _ rfl
                have hal : Below wr.heap.size wr (wr.alloc (.cells #[.int .i64 2, .slice (some ⟨pb, 0, none⟩) 2 pcap, .int .i64 wd, .int .i64 len] 46)) := (Below.refl _ wr).alloc (Nat.le_refl _) _
                obtain ⟨hkY, hWx, hszx⟩ := HKK.out
                obtain ⟨hr, ht, hcr, hct, bw, bl⟩ := HBD.out
                obtain ⟨lg2, lp, ln, hg2, hf2⟩ := HF.out
                have n0 := cell_by' hal HN0.out
                have n1 := cell_by' hal HN1.out
                have p0 := cell_by' hal HP0.out
                have p1 := cell_by' hal HP1.out
                have kZ0 := Blk.by hal kZx
                have HBR0 := Lib.hid (HBR.out.by hal)
                have HX0 := Lib.hid (HX2.out.on (Exc.ofBelow hal))
                have hs0 := hal.size
                have hsw : (wr.alloc (.cells #[.int .i64 2, .slice (some ⟨pb, 0, none⟩) 2 pcap, .int .i64 wd, .int .i64 len] 46)).heap.size = wr.heap.size + 1 := by simp
                have HSW := Lib.hid hsw
                have i1 : (0 : Int) ≤ (r : Int) := by omega
                have i2 : (r : Int) < (k : Int) := by omega
                have i3 : (0 : Int) ≤ (t : Int) := by omega
                have i4 : (t : Int) < (k : Int) := by omega
                generalize hwd : wr.alloc (.cells #[.int .i64 2, .slice (some ⟨pb, 0, none⟩) 2 pcap, .int .i64 wd, .int .i64 len] 46) = wv at *
                have hDlt : hi2 ≤ wr.heap.size := hh3
                have bnb : nb < w8.heap.size := by omega
                have bpb : pb < w8.heap.size := by omega
                have bY : Y + 1 < w8.heap.size := kZ.lt
                generalize wr.heap.size = DD at *
                clear hwd hal HBR HX2 hsw c0 c1 c2 c3 lg qY lY kZx
                have hS : (fun w' : World => Within w8.heap.size hi2 wv w') { wv with drawn := wv.drawn + 1 } := (Within.refl _ _ wv).drewN 1
                refine wp_region_any (by kernel_rfl) (wpAny_of_E (S := fun w' : World => Within w8.heap.size hi2 wv w') (l := 25) _ _ _ _ ?_)
                change wpAnyE _ _ _ _ _ _ _ _ _ wv.drew
                refine wpAnyE_takeL (i := 0) (v := ?_) rfl (by kernel_rfl) (fun _ _ _ h => h) (Or.inl ⟨by rfl, ?_⟩) hS ?_
                rotate_left
                · intro w hSw; (try dsimp only at hSw); have qZ := (hSw.blk kZ0 (by omega)).cell; have lZ := (hSw.blk kZ0 (by omega)).lt; have qD := (hSw.blk kD0 (by omega)).cell; have lD := (hSw.blk kD0 (by omega)).lt; have y0 := hSw.cellW n0 (by omega); have y1 := hSw.cellW n1 (by omega); have z0 := hSw.cellW p0 (by omega); have z1 := hSw.cellW p1 (by omega); clear hSw; go_simp; (try with_reducible rfl)
                try simp only [Act.put, List.setIfInBounds_toArray, List.set_cons_zero, List.set_cons_succ]
                refine wpAnyE_takeL (i := 1) (v := ?_) rfl (by kernel_rfl) (fun _ _ _ h => h) (Or.inl ⟨by rfl, ?_⟩) hS ?_
                rotate_left
                · intro w hSw; (try dsimp only at hSw); have qZ := (hSw.blk kZ0 (by omega)).cell; have lZ := (hSw.blk kZ0 (by omega)).lt; have qD := (hSw.blk kD0 (by omega)).cell; have lD := (hSw.blk kD0 (by omega)).lt; have y0 := hSw.cellW n0 (by omega); have y1 := hSw.cellW n1 (by omega); have z0 := hSw.cellW p0 (by omega); have z1 := hSw.cellW p1 (by omega); clear hSw; go_simp; (try with_reducible rfl)
                try simp only [Act.put, List.setIfInBounds_toArray, List.set_cons_zero, List.set_cons_succ]
                refine wpAnyE_takeL (i := 2) (v := ?_) rfl (by kernel_rfl) (fun _ _ _ h => h) (Or.inl ⟨by rfl, ?_⟩) hS ?_
                rotate_left
                · intro w hSw; (try dsimp only at hSw); have qZ := (hSw.blk kZ0 (by omega)).cell; have lZ := (hSw.blk kZ0 (by omega)).lt; have qD := (hSw.blk kD0 (by omega)).cell; have lD := (hSw.blk kD0 (by omega)).lt; have y0 := hSw.cellW n0 (by omega); have y1 := hSw.cellW n1 (by omega); have z0 := hSw.cellW p0 (by omega); have z1 := hSw.cellW p1 (by omega); clear hSw; go_simp; (try with_reducible rfl)
                try simp only [Act.put, List.setIfInBounds_toArray, List.set_cons_zero, List.set_cons_succ]
                refine wpAnyE_takeL (i := 3) (v := ?_) rfl (by kernel_rfl) (fun _ _ _ h => h) (Or.inl ⟨by rfl, ?_⟩) hS ?_
                rotate_left
                · intro w hSw; (try dsimp only at hSw); have qZ := (hSw.blk kZ0 (by omega)).cell; have lZ := (hSw.blk kZ0 (by omega)).lt; have qD := (hSw.blk kD0 (by omega)).cell; have lD := (hSw.blk kD0 (by omega)).lt; have y0 := hSw.cellW n0 (by omega); have y1 := hSw.cellW n1 (by omega); have z0 := hSw.cellW p0 (by omega); have z1 := hSw.cellW p1 (by omega); clear hSw; go_simp; (try with_reducible rfl)
                try simp only [Act.put, List.setIfInBounds_toArray, List.set_cons_zero, List.set_cons_succ]
                refine wpAnyE_takeL (i := 4) (v := ?_) rfl (by kernel_rfl) (fun _ _ _ h => h) (Or.inl ⟨by rfl, ?_⟩) hS ?_
                rotate_left
                · intro w hSw; (try dsimp only at hSw); have qZ := (hSw.blk kZ0 (by omega)).cell; have lZ := (hSw.blk kZ0 (by omega)).lt; have qD := (hSw.blk kD0 (by omega)).cell; have lD := (hSw.blk kD0 (by omega)).lt; have y0 := hSw.cellW n0 (by omega); have y1 := hSw.cellW n1 (by omega); have z0 := hSw.cellW p0 (by omega); have z1 := hSw.cellW p1 (by omega); clear hSw; go_simp; (try with_reducible rfl)
                try simp only [Act.put, List.setIfInBounds_toArray, List.set_cons_zero, List.set_cons_succ]
                refine wpAnyE_takeL (i := 5) (v := ?_) rfl (by kernel_rfl) (fun _ _ _ h => h) (Or.inl ⟨by rfl, ?_⟩) hS ?_
                rotate_left
                · intro w hSw; (try dsimp only at hSw); have qZ := (hSw.blk kZ0 (by omega)).cell; have lZ := (hSw.blk kZ0 (by omega)).lt; have qD := (hSw.blk kD0 (by omega)).cell; have lD := (hSw.blk kD0 (by omega)).lt; have y0 := hSw.cellW n0 (by omega); have y1 := hSw.cellW n1 (by omega); have z0 := hSw.cellW p0 (by omega); have z1 := hSw.cellW p1 (by omega); clear hSw; go_simp; (try with_reducible rfl)
                try simp only [Act.put, List.setIfInBounds_toArray, List.set_cons_zero, List.set_cons_succ]
                refine wpAnyE_takeL (i := 6) (v := ?_) rfl (by kernel_rfl) (fun _ _ _ h => h) (Or.inl ⟨by rfl, ?_⟩) hS ?_
                rotate_left
                · intro w hSw; (try dsimp only at hSw); have qZ := (hSw.blk kZ0 (by omega)).cell; have lZ := (hSw.blk kZ0 (by omega)).lt; have qD := (hSw.blk kD0 (by omega)).cell; have lD := (hSw.blk kD0 (by omega)).lt; have y0 := hSw.cellW n0 (by omega); have y1 := hSw.cellW n1 (by omega); have z0 := hSw.cellW p0 (by omega); have z1 := hSw.cellW p1 (by omega); clear hSw; go_simp; (try with_reducible rfl)
                try simp only [Act.put, List.setIfInBounds_toArray, List.set_cons_zero, List.set_cons_succ]
                refine wpAnyE_takeL (i := 7) (v := ?_) rfl (by kernel_rfl) (fun _ _ _ h => h) (Or.inl ⟨by rfl, ?_⟩) hS ?_
                rotate_left
                · intro w hSw; (try dsimp only at hSw); have qZ := (hSw.blk kZ0 (by omega)).cell; have lZ := (hSw.blk kZ0 (by omega)).lt; have qD := (hSw.blk kD0 (by omega)).cell; have lD := (hSw.blk kD0 (by omega)).lt; have y0 := hSw.cellW n0 (by omega); have y1 := hSw.cellW n1 (by omega); have z0 := hSw.cellW p0 (by omega); have z1 := hSw.cellW p1 (by omega); clear hSw; go_simp; (try with_reducible rfl)
                try simp only [Act.put, List.setIfInBounds_toArray, List.set_cons_zero, List.set_cons_succ]
                refine wpAnyE_takeL (i := 8) (v := ?_) rfl (by kernel_rfl) (fun _ _ _ h => h) (Or.inl ⟨by rfl, ?_⟩) hS ?_
                rotate_left
                · intro w hSw; (try dsimp only at hSw); have qZ := (hSw.blk kZ0 (by omega)).cell; have lZ := (hSw.blk kZ0 (by omega)).lt; have qD := (hSw.blk kD0 (by omega)).cell; have lD := (hSw.blk kD0 (by omega)).lt; have y0 := hSw.cellW n0 (by omega); have y1 := hSw.cellW n1 (by omega); have z0 := hSw.cellW p0 (by omega); have z1 := hSw.cellW p1 (by omega); clear hSw; go_simp; (try with_reducible rfl)
                try simp only [Act.put, List.setIfInBounds_toArray, List.set_cons_zero, List.set_cons_succ]
                refine wpAnyE_takeL (i := 9) (v := ?_) rfl (by kernel_rfl) (fun _ _ _ h => h) (Or.inl ⟨by rfl, ?_⟩) hS ?_
                rotate_left
                · intro w hSw; (try dsimp only at hSw); have qZ := (hSw.blk kZ0 (by omega)).cell; have lZ := (hSw.blk kZ0 (by omega)).lt; have qD := (hSw.blk kD0 (by omega)).cell; have lD := (hSw.blk kD0 (by omega)).lt; have y0 := hSw.cellW n0 (by omega); have y1 := hSw.cellW n1 (by omega); have z0 := hSw.cellW p0 (by omega); have z1 := hSw.cellW p1 (by omega); clear hSw; go_simp; (try with_reducible rfl)
                try simp only [Act.put, List.setIfInBounds_toArray, List.set_cons_zero, List.set_cons_succ]
                refine wpAnyE_takeL (i := 10) (v := ?_) rfl (by kernel_rfl) (fun _ _ _ h => h) (Or.inl ⟨by rfl, ?_⟩) hS ?_
                rotate_left
                · intro w hSw; (try dsimp only at hSw); have qZ := (hSw.blk kZ0 (by omega)).cell; have lZ := (hSw.blk kZ0 (by omega)).lt; have qD := (hSw.blk kD0 (by omega)).cell; have lD := (hSw.blk kD0 (by omega)).lt; have y0 := hSw.cellW n0 (by omega); have y1 := hSw.cellW n1 (by omega); have z0 := hSw.cellW p0 (by omega); have z1 := hSw.cellW p1 (by omega); clear hSw; go_simp; (try with_reducible rfl)
                try simp only [Act.put, List.setIfInBounds_toArray, List.set_cons_zero, List.set_cons_succ]
                refine wpAnyE_takeL (i := 11) (v := ?_) rfl (by kernel_rfl) (fun _ _ _ h => h) (Or.inl ⟨by rfl, ?_⟩) hS ?_
                rotate_left
                · intro w hSw; (try dsimp only at hSw); have qZ := (hSw.blk kZ0 (by omega)).cell; have lZ := (hSw.blk kZ0 (by omega)).lt; have qD := (hSw.blk kD0 (by omega)).cell; have lD := (hSw.blk kD0 (by omega)).lt; have y0 := hSw.cellW n0 (by omega); have y1 := hSw.cellW n1 (by omega); have z0 := hSw.cellW p0 (by omega); have z1 := hSw.cellW p1 (by omega); clear hSw; go_simp; (try with_reducible rfl)
                try simp only [Act.put, List.setIfInBounds_toArray, List.set_cons_zero, List.set_cons_succ]
                refine wpAnyE_takeL (i := 12) (v := ?_) rfl (by kernel_rfl) (fun _ _ _ h => h) (Or.inl ⟨by rfl, ?_⟩) hS ?_
                rotate_left
                · intro w hSw; (try dsimp only at hSw); have qZ := (hSw.blk kZ0 (by omega)).cell; have lZ := (hSw.blk kZ0 (by omega)).lt; have qD := (hSw.blk kD0 (by omega)).cell; have lD := (hSw.blk kD0 (by omega)).lt; have y0 := hSw.cellW n0 (by omega); have y1 := hSw.cellW n1 (by omega); have z0 := hSw.cellW p0 (by omega); have z1 := hSw.cellW p1 (by omega); clear hSw; go_simp; (try with_reducible rfl)
                try simp only [Act.put, List.setIfInBounds_toArray, List.set_cons_zero, List.set_cons_succ]
                refine wpAnyE_takeL (i := 13) (v := ?_) rfl (by kernel_rfl) (fun _ _ _ h => h) (Or.inl ⟨by rfl, ?_⟩) hS ?_
                rotate_left
                · intro w hSw; (try dsimp only at hSw); have qZ := (hSw.blk kZ0 (by omega)).cell; have lZ := (hSw.blk kZ0 (by omega)).lt; have qD := (hSw.blk kD0 (by omega)).cell; have lD := (hSw.blk kD0 (by omega)).lt; have y0 := hSw.cellW n0 (by omega); have y1 := hSw.cellW n1 (by omega); have z0 := hSw.cellW p0 (by omega); have z1 := hSw.cellW p1 (by omega); clear hSw; go_simp; (try with_reducible rfl)
                try simp only [Act.put, List.setIfInBounds_toArray, List.set_cons_zero, List.set_cons_succ]
                refine wpAnyE_takeL (i := 14) (v := ?_) rfl (by kernel_rfl) (fun _ _ _ h => h) (Or.inl ⟨by rfl, ?_⟩) hS ?_
                rotate_left
                · intro w hSw; (try dsimp only at hSw); have qZ := (hSw.blk kZ0 (by omega)).cell; have lZ := (hSw.blk kZ0 (by omega)).lt; have qD := (hSw.blk kD0 (by omega)).cell; have lD := (hSw.blk kD0 (by omega)).lt; have y0 := hSw.cellW n0 (by omega); have y1 := hSw.cellW n1 (by omega); have z0 := hSw.cellW p0 (by omega); have z1 := hSw.cellW p1 (by omega); clear hSw; go_simp; (try with_reducible rfl)
                try simp only [Act.put, List.setIfInBounds_toArray, List.set_cons_zero, List.set_cons_succ]
                refine wpAnyE_takeL (i := 15) (v := ?_) rfl (by kernel_rfl) (fun _ _ _ h => h) (Or.inl ⟨by rfl, ?_⟩) hS ?_
                rotate_left
                · intro w hSw; (try dsimp only at hSw); have qZ := (hSw.blk kZ0 (by omega)).cell; have lZ := (hSw.blk kZ0 (by omega)).lt; have qD := (hSw.blk kD0 (by omega)).cell; have lD := (hSw.blk kD0 (by omega)).lt; have y0 := hSw.cellW n0 (by omega); have y1 := hSw.cellW n1 (by omega); have z0 := hSw.cellW p0 (by omega); have z1 := hSw.cellW p1 (by omega); clear hSw; go_simp; (try with_reducible rfl)
                try simp only [Act.put, List.setIfInBounds_toArray, List.set_cons_zero, List.set_cons_succ]
                refine wpAnyE_takeL (i := 16) (v := ?_) rfl (by kernel_rfl) (fun _ _ _ h => h) (Or.inl ⟨by rfl, ?_⟩) hS ?_
                rotate_left
                · intro w hSw; (try dsimp only at hSw); have qZ := (hSw.blk kZ0 (by omega)).cell; have lZ := (hSw.blk kZ0 (by omega)).lt; have qD := (hSw.blk kD0 (by omega)).cell; have lD := (hSw.blk kD0 (by omega)).lt; have y0 := hSw.cellW n0 (by omega); have y1 := hSw.cellW n1 (by omega); have z0 := hSw.cellW p0 (by omega); have z1 := hSw.cellW p1 (by omega); clear hSw; go_simp; (try with_reducible rfl)
                try simp only [Act.put, List.setIfInBounds_toArray, List.set_cons_zero, List.set_cons_succ]
                refine wpAnyE_takeL (i := 17) (v := ?_) rfl (by kernel_rfl) (fun _ _ _ h => h) (Or.inl ⟨by rfl, ?_⟩) hS ?_
                rotate_left
                · intro w hSw; (try dsimp only at hSw); have qZ := (hSw.blk kZ0 (by omega)).cell; have lZ := (hSw.blk kZ0 (by omega)).lt; have qD := (hSw.blk kD0 (by omega)).cell; have lD := (hSw.blk kD0 (by omega)).lt; have y0 := hSw.cellW n0 (by omega); have y1 := hSw.cellW n1 (by omega); have z0 := hSw.cellW p0 (by omega); have z1 := hSw.cellW p1 (by omega); clear hSw; go_simp; (try with_reducible rfl)
                try simp only [Act.put, List.setIfInBounds_toArray, List.set_cons_zero, List.set_cons_succ]
                refine wpAnyE_takeL (i := 18) (v := ?_) rfl (by kernel_rfl) (fun _ _ _ h => h) (Or.inl ⟨by rfl, ?_⟩) hS ?_
                rotate_left
                · intro w hSw; (try dsimp only at hSw); have qZ := (hSw.blk kZ0 (by omega)).cell; have lZ := (hSw.blk kZ0 (by omega)).lt; have qD := (hSw.blk kD0 (by omega)).cell; have lD := (hSw.blk kD0 (by omega)).lt; have y0 := hSw.cellW n0 (by omega); have y1 := hSw.cellW n1 (by omega); have z0 := hSw.cellW p0 (by omega); have z1 := hSw.cellW p1 (by omega); clear hSw; go_simp; (try with_reducible rfl)
                try simp only [Act.put, List.setIfInBounds_toArray, List.set_cons_zero, List.set_cons_succ]
                refine wpAnyE_takeL (i := 19) (v := ?_) rfl (by kernel_rfl) (fun _ _ _ h => h) (Or.inl ⟨by rfl, ?_⟩) hS ?_
                rotate_left
                · intro w hSw; (try dsimp only at hSw); have qZ := (hSw.blk kZ0 (by omega)).cell; have lZ := (hSw.blk kZ0 (by omega)).lt; have qD := (hSw.blk kD0 (by omega)).cell; have lD := (hSw.blk kD0 (by omega)).lt; have y0 := hSw.cellW n0 (by omega); have y1 := hSw.cellW n1 (by omega); have z0 := hSw.cellW p0 (by omega); have z1 := hSw.cellW p1 (by omega); clear hSw; go_simp; (try with_reducible rfl)
                try simp only [Act.put, List.setIfInBounds_toArray, List.set_cons_zero, List.set_cons_succ]
                refine wpAnyE_takeL (i := 20) (v := ?_) rfl (by kernel_rfl) (fun _ _ _ h => h) (Or.inl ⟨by rfl, ?_⟩) hS ?_
                rotate_left
                · intro w hSw; (try dsimp only at hSw); have qZ := (hSw.blk kZ0 (by omega)).cell; have lZ := (hSw.blk kZ0 (by omega)).lt; have qD := (hSw.blk kD0 (by omega)).cell; have lD := (hSw.blk kD0 (by omega)).lt; have y0 := hSw.cellW n0 (by omega); have y1 := hSw.cellW n1 (by omega); have z0 := hSw.cellW p0 (by omega); have z1 := hSw.cellW p1 (by omega); clear hSw; go_simp; (try with_reducible rfl)
                try simp only [Act.put, List.setIfInBounds_toArray, List.set_cons_zero, List.set_cons_succ]
                refine wpAnyE_takeL (i := 21) (v := ?_) rfl (by kernel_rfl) (fun _ _ _ h => h) (Or.inl ⟨by rfl, ?_⟩) hS ?_
                rotate_left
                · intro w hSw; (try dsimp only at hSw); have qZ := (hSw.blk kZ0 (by omega)).cell; have lZ := (hSw.blk kZ0 (by omega)).lt; have qD := (hSw.blk kD0 (by omega)).cell; have lD := (hSw.blk kD0 (by omega)).lt; have y0 := hSw.cellW n0 (by omega); have y1 := hSw.cellW n1 (by omega); have z0 := hSw.cellW p0 (by omega); have z1 := hSw.cellW p1 (by omega); clear hSw; go_simp; (try with_reducible rfl)
                try simp only [Act.put, List.setIfInBounds_toArray, List.set_cons_zero, List.set_cons_succ]
                refine wpAnyE_oneL (k := 22) (by kernel_rfl) rfl (fun K hK => ?_)
                go_simp
                have hS1 : Within w8.heap.size hi2 wv (wv.drew.alloc (.cells #[.int .i64 cr, .int .i64 ct, .int .i64 wd, .int .i64 len] 57)) := ((Within.refl _ _ wv).drewN 1).alloc _
                refine hK.out _ _ (fun _ => hS1) ?_
                try simp only [Act.put, List.setIfInBounds_toArray, List.set_cons_zero, List.set_cons_succ]
                refine wpAnyE_oneL (k := 23) (by kernel_rfl) rfl (fun K hK => ?_)
                refine step_pushRes (by rfl) _ _ (by rfl) w8.heap.size hi2 (.slice au2 j cu2) ((dl.take j).map (resR dl p q)) (by rfl) (HBR0.out.by (((Below.refl _ wv).drew).alloc (Nat.le_refl _) _)) wv.heap.size ⟨cr, ct, wd, len⟩ (by rfl) (Blk.new _ rfl) hh2 (by rw [HML.out]; omega) ?_
                intro a' c' w9 hB9 hw9
                rw [HML.out] at hB9 ⊢
                have HB9 := Lib.hid hB9
                have kZ9 := hw9.blk (kZ0.drew.past (.cells #[.int .i64 cr, .int .i64 ct, .int .i64 wd, .int .i64 len] 57)) (by omega)
                have cZ9 : w9.cell? ⟨Y + 1, 1, none⟩ = some (.slice au2 j cu2) := kZ9.cell 1
                have fZ9 : w9.frozen? ⟨Y + 1, 1, none⟩ = false := kZ9.free 1
                have lZ9 := kZ9.lt
                have hS9 : Within w8.heap.size hi2 wv w9 := hS1.on hw9
                have HX9 := Lib.hid (HX0.out.thn (Exc.ofWithin (E := fun b => w8.heap.size ≤ b) hS9 (fun b h _ => h)) (fun b hb h => absurd h (by omega)))
                have hs9 := hS9.size
                have hs8 := HX0.out.size
                clear hB9 hw9
                refine hK.out _ _ (fun _ => hS9) ?_
                try simp only [Act.put, List.setIfInBounds_toArray, List.set_cons_zero, List.set_cons_succ]
                refine wpAnyE_oneL (k := 24) (by kernel_rfl) rfl (fun K hK => ?_)
                go_simp
                refine hK.out _ _ (fun _ => hS9) ?_
                try simp only [Act.put, List.setIfInBounds_toArray, List.set_cons_zero, List.set_cons_succ]
                refine wpAnyE_oneL (k := 25) (by kernel_rfl) rfl (fun K hK => ?_)
                go_simp
                refine hK.out _ _ (fun h => absurd rfl h) ?_
                refine wpAnyE_done (by kernel_rfl) ?_ _
                clear hS hS1 hS9
                go_wp2_with fail
                refine ⟨⟨j + 1, w9.heap.size, .slice a' (j + 1) c', by omega, by go_num, ?_, by omega, kZ9.set 1 _, Lib.hid (HX9.out.set _ _ _ (fun _ => rfl))⟩, by simp [intOf]; omega⟩
                rw [HTK.out, HRE.out]
                exact BldRes.past (Within.off _) HB9.out (by omega)
              · obtain rfl : j = ld := by omega
                have hT : (dl.take j).map (resR dl p q) = dl.map (resR dl p q) := by rw [List.take_of_length_le (by rw [HLD.out]; exact Nat.le_refl _)]
                have hO := HBR.out.own
                rw [hT] at hO
                have HRS := Lib.hid hO.sl
                have HNW := Lib.hid (show NwV wr (.agg #[.int .i64 (CN : Int), .slice au2 j cu2]) (netR dl p q k) from ⟨.slice au2 j cu2, by rw [← HCN.out]; rfl, hO.sl⟩)
                rcases OwnR.exc hX HND8.out (by intro b hb hb2 hb3; omega) with ⟨_, _, _, h0⟩ | ⟨nb, ncap, ns, en, n1, n2, n3, n4, kN, hns⟩
                · have h9 : (ndR dl p q k).length = k := length_ndR dl p q k
                  rw [h0] at h9
                  have h9 : 0 = k := h9
                  omega
                injection en with ena enb enc
                clear enb
                subst ena enc
                have hn0 := (kN.cell p).trans (hns p _ (ndR_get dl p q hpm))
                have hn1 := (kN.cell q).trans (hns q _ (ndR_get dl p q hqm))
                have hcp := HCL.out p
                have hcq := HCL.out q
                have hres := HRES.out
                have hnd : (netR dl p q k).nodes = (CN : Int) := by
                  show ((cnR dl p q k : Nat) : Int) = _
                  rw [HCN.out]
                have HVB := HVW.out (.slice au2 j cu2)
                have HERo := HER.out ((cnR dl p q p : Nat) : Int) ((cnR dl p q q : Nat) : Int)
                rw [hnd] at HVB hres
                have j3 : ¬ (j : Int) < (j : Int) := by omega
                have qZ := kZx.cell
                have lZ := kZx.lt
                have qYx := kYx.cell
                have lYx := kYx.lt
                have i1 : (0 : Int) ≤ (p : Int) := by omega
                have i2 : (p : Int) < (k : Int) := by omega
                have i3 : (0 : Int) ≤ (q : Int) := by omega
                have i4 : (q : Int) < (k : Int) := by omega
                generalize cnR dl p q p = cp at *
                generalize cnR dl p q q = cq at *
                obtain ⟨VB, hVB⟩ : ∃ VB, nwB (CN : Int) (netR dl p q k).rs = VB := ⟨_, rfl⟩
                rw [hVB] at HVB hres
                have HVB' := Lib.hid HVB
                have HKN := Lib.hid (And.intro kN hX)
                have bR : w.heap.size + 1 < w8.heap.size := kR.lt
                clear HVB hT hO hns n3 n4 hVB hnd hcp hcq kN hX
                cases VB with
                | false =>
                  simp only [Bool.false_eq_true, if_false, Prod.mk.injEq, Rt.mk.injEq] at hres
                  obtain ⟨⟨rfl, rfl⟩, rfl⟩ := hres
                  clear HERo hn0 hn1
                  go_wp2_with fail
                  refine (HVB'.out _ (HRS.out.by (Below.refl _ _))).mono ?_
                  rintro e w9 ⟨rfl, hb9⟩
                  have kR9 := Blk.by hb9 kRx
                  have qR := kR9.cell
                  have fR := kR9.free
                  have lR := kR9.lt
                  have hW9 := below_on hb9 hWx
                  clear qZ lZ qYx lYx
                  go_wp2
                  refine bodyPost_ret (v := .tuple #[.agg #[.int .i64 0, .int .i64 0], .int .i64 3]) (by simp [results, Tryz.results8, go_sem, *]) rfl ⟨rfl, blwT⟩
                | true =>
                  simp only [if_true, Prod.mk.injEq] at hres
                  obtain ⟨e1, e2⟩ := hres
                  rw [e1, e2] at HERo
                  dsimp only at HERo
                  have HERo' := Lib.hid HERo
                  clear HERo e1 e2
                  go_wp2_with fail
                  refine (HVB'.out _ (HRS.out.by (Below.refl _ _))).mono ?_
                  rintro e w9 ⟨rfl, hb9⟩
                  have kR9 := Blk.by hb9 kRx
                  have kZ9 := Blk.by hb9 kZx
                  have n90 := cell_by' hb9 hn0
                  have n91 := cell_by' hb9 hn1
                  have HNW9 := Lib.hid (HNW.out.by hb9)
                  have hW9 := below_on hb9 hWx
                  have hs9 := hb9.size
                  have bY : Y + 1 < wr.heap.size := kZx.lt
                  have bnb : nb < wr.heap.size := by have := HKN.out.1.lt; omega
                  clear qZ lZ qYx lYx hn0 hn1 hb9
                  go_upto_region 27 with fail
                  have hS : (fun w' : World => Exc (fun b => b = w.heap.size + 1) w9 w') { w9 with drawn := w9.drawn + 1 } := (Exc.refl _ w9).drew
                  refine wp_region_any (by kernel_rfl) (wpAny_of_E (S := fun w' : World => Exc (fun b => b = w.heap.size + 1) w9 w') (l := 13) _ _ _ _ ?_)
                  change wpAnyE _ _ _ _ _ _ _ _ _ w9.drew
                  refine wpAnyE_takeL (i := 0) (v := ?_) rfl (by kernel_rfl) (fun _ _ _ h => h) (Or.inl ⟨by rfl, ?_⟩) hS ?_
                  rotate_left
                  · intro w hSw; (try dsimp only at hSw); have qZ := (hSw.blk kZ9 (by omega)).cell; have lZ := (hSw.blk kZ9 (by omega)).lt; have y0 := hSw.cellE n90 (by omega); have y1 := hSw.cellE n91 (by omega); clear hSw; go_simp; (try with_reducible rfl)
                  try simp only [Act.put, List.setIfInBounds_toArray, List.set_cons_zero, List.set_cons_succ]
                  refine wpAnyE_takeL (i := 1) (v := ?_) rfl (by kernel_rfl) (fun _ _ _ h => h) (Or.inl ⟨by rfl, ?_⟩) hS ?_
                  rotate_left
                  · intro w hSw; (try dsimp only at hSw); have qZ := (hSw.blk kZ9 (by omega)).cell; have lZ := (hSw.blk kZ9 (by omega)).lt; have y0 := hSw.cellE n90 (by omega); have y1 := hSw.cellE n91 (by omega); clear hSw; go_simp; (try with_reducible rfl)
                  try simp only [Act.put, List.setIfInBounds_toArray, List.set_cons_zero, List.set_cons_succ]
                  refine wpAnyE_takeL (i := 2) (v := ?_) rfl (by kernel_rfl) (fun _ _ _ h => h) (Or.inl ⟨by rfl, ?_⟩) hS ?_
                  rotate_left
                  · intro w hSw; (try dsimp only at hSw); have qZ := (hSw.blk kZ9 (by omega)).cell; have lZ := (hSw.blk kZ9 (by omega)).lt; have y0 := hSw.cellE n90 (by omega); have y1 := hSw.cellE n91 (by omega); clear hSw; go_simp; (try with_reducible rfl)
                  try simp only [Act.put, List.setIfInBounds_toArray, List.set_cons_zero, List.set_cons_succ]
                  refine wpAnyE_takeL (i := 3) (v := ?_) rfl (by kernel_rfl) (fun _ _ _ h => h) (Or.inl ⟨by rfl, ?_⟩) hS ?_
                  rotate_left
                  · intro w hSw; (try dsimp only at hSw); have qZ := (hSw.blk kZ9 (by omega)).cell; have lZ := (hSw.blk kZ9 (by omega)).lt; have y0 := hSw.cellE n90 (by omega); have y1 := hSw.cellE n91 (by omega); clear hSw; go_simp; (try with_reducible rfl)
                  try simp only [Act.put, List.setIfInBounds_toArray, List.set_cons_zero, List.set_cons_succ]
                  refine wpAnyE_takeL (i := 4) (v := ?_) rfl (by kernel_rfl) (fun _ _ _ h => h) (Or.inl ⟨by rfl, ?_⟩) hS ?_
                  rotate_left
                  · intro w hSw; (try dsimp only at hSw); have qZ := (hSw.blk kZ9 (by omega)).cell; have lZ := (hSw.blk kZ9 (by omega)).lt; have y0 := hSw.cellE n90 (by omega); have y1 := hSw.cellE n91 (by omega); clear hSw; go_simp; (try with_reducible rfl)
                  try simp only [Act.put, List.setIfInBounds_toArray, List.set_cons_zero, List.set_cons_succ]
                  refine wpAnyE_takeL (i := 5) (v := ?_) rfl (by kernel_rfl) (fun _ _ _ h => h) (Or.inl ⟨by rfl, ?_⟩) hS ?_
                  rotate_left
                  · intro w hSw; (try dsimp only at hSw); have qZ := (hSw.blk kZ9 (by omega)).cell; have lZ := (hSw.blk kZ9 (by omega)).lt; have y0 := hSw.cellE n90 (by omega); have y1 := hSw.cellE n91 (by omega); clear hSw; go_simp; (try with_reducible rfl)
                  try simp only [Act.put, List.setIfInBounds_toArray, List.set_cons_zero, List.set_cons_succ]
                  refine wpAnyE_takeL (i := 6) (v := ?_) rfl (by kernel_rfl) (fun _ _ _ h => h) (Or.inl ⟨by rfl, ?_⟩) hS ?_
                  rotate_left
                  · intro w hSw; (try dsimp only at hSw); have qZ := (hSw.blk kZ9 (by omega)).cell; have lZ := (hSw.blk kZ9 (by omega)).lt; have y0 := hSw.cellE n90 (by omega); have y1 := hSw.cellE n91 (by omega); clear hSw; go_simp; (try with_reducible rfl)
                  try simp only [Act.put, List.setIfInBounds_toArray, List.set_cons_zero, List.set_cons_succ]
                  refine wpAnyE_takeL (i := 7) (v := ?_) rfl (by kernel_rfl) (fun _ _ _ h => h) (Or.inl ⟨by rfl, ?_⟩) hS ?_
                  rotate_left
                  · intro w hSw; (try dsimp only at hSw); have qZ := (hSw.blk kZ9 (by omega)).cell; have lZ := (hSw.blk kZ9 (by omega)).lt; have y0 := hSw.cellE n90 (by omega); have y1 := hSw.cellE n91 (by omega); clear hSw; go_simp; (try with_reducible rfl)
                  try simp only [Act.put, List.setIfInBounds_toArray, List.set_cons_zero, List.set_cons_succ]
                  refine wpAnyE_takeL (i := 8) (v := ?_) rfl (by kernel_rfl) (fun _ _ _ h => h) (Or.inl ⟨by rfl, ?_⟩) hS ?_
                  rotate_left
                  · intro w hSw; (try dsimp only at hSw); have qZ := (hSw.blk kZ9 (by omega)).cell; have lZ := (hSw.blk kZ9 (by omega)).lt; have y0 := hSw.cellE n90 (by omega); have y1 := hSw.cellE n91 (by omega); clear hSw; go_simp; (try with_reducible rfl)
                  try simp only [Act.put, List.setIfInBounds_toArray, List.set_cons_zero, List.set_cons_succ]
                  refine wpAnyE_oneL (k := 9) (by kernel_rfl) rfl (fun K hK => ?_)
                  go_simp
                  go_at_call 34
                  refine (HERo'.out _ _ (HNW9.out.by ((Below.refl _ w9).drew))).mono ?_
                  rintro e wb ⟨rfl, hbb⟩
                  have hbw : Below w9.heap.size w9 wb := Below.trans (Below.refl _ w9).drew (hbb.mono (by simp))
                  have hSb : Exc (fun b => b = w.heap.size + 1) w9 wb := Exc.ofBelow hbw
                  refine hK.out _ _ (fun _ => hSb) ?_
                  try simp only [Act.put, List.setIfInBounds_toArray, List.set_cons_zero, List.set_cons_succ]
                  refine wpAnyE_takeL (i := 10) (v := ?_) rfl (by kernel_rfl) (fun _ _ _ h => h) (Or.inl ⟨by rfl, ?_⟩) hSb ?_
                  rotate_left
                  · intro w hSw; (try dsimp only at hSw); have qZ := (hSw.blk kZ9 (by omega)).cell; have lZ := (hSw.blk kZ9 (by omega)).lt; have y0 := hSw.cellE n90 (by omega); have y1 := hSw.cellE n91 (by omega); clear hSw; go_simp; (try with_reducible rfl)
                  try simp only [Act.put, List.setIfInBounds_toArray, List.set_cons_zero, List.set_cons_succ]
                  refine wpAnyE_takeL (i := 11) (v := ?_) rfl (by kernel_rfl) (fun _ _ _ h => h) (Or.inl ⟨by rfl, ?_⟩) hSb ?_
                  rotate_left
                  · intro w hSw; (try dsimp only at hSw); have qZ := (hSw.blk kZ9 (by omega)).cell; have lZ := (hSw.blk kZ9 (by omega)).lt; have y0 := hSw.cellE n90 (by omega); have y1 := hSw.cellE n91 (by omega); clear hSw; go_simp; (try with_reducible rfl)
                  try simp only [Act.put, List.setIfInBounds_toArray, List.set_cons_zero, List.set_cons_succ]
                  refine wpAnyE_oneL (k := 12) (by kernel_rfl) rfl (fun K hK => ?_)
                  have kRb := Blk.by hbw kR9
                  have cR := kRb.cell
                  have fR := kRb.free
                  have lR := kRb.lt
                  go_simp
                  have hSc : Exc (fun b => b = w.heap.size + 1) w9 ((wb.setCell ⟨w.heap.size + 1, 0, none⟩ (.int .i64 N)).setCell ⟨w.heap.size + 1, 1, none⟩ (.int .i64 D)) := (hSb.set _ _ _ (fun _ => rfl)).set _ _ _ (fun _ => rfl)
                  refine hK.out _ _ (fun _ => hSc) ?_
                  try simp only [Act.put, List.setIfInBounds_toArray, List.set_cons_zero, List.set_cons_succ]
                  refine wpAnyE_oneL (k := 13) (by kernel_rfl) rfl (fun K hK => ?_)
                  go_simp
                  refine hK.out _ _ (fun h => absurd rfl h) ?_
                  refine wpAnyE_done (by kernel_rfl) ?_ _
                  have kRc := kRb.set2 (x := .int .i64 N) (y := .int .i64 D)
                  have hWb := below_on hbw hW9
                  have cRc := kRc.cell
                  have lRc := kRc.lt
                  clear hS hSb hSc cR fR
                  go_wp2_with fail
                  refine bodyPost_ret (v := .tuple #[.agg #[.int .i64 N, .int .i64 D], .int .i64 C]) (by simp [results, Tryz.results8, go_sem, *]) rfl ⟨rfl, blwT⟩
theorem nl_netsN {x : Nl} (h : nlB x = true) : ∀ p ∈ x.ps, 0 ≤ p.net ∧ p.net < x.nets := by
  intro p hp
  obtain ⟨i, hi, e⟩ := List.mem_iff_getElem.1 hp
  have := (nlB_facts h).2.2.2.2 i hi
  have hg : x.ps[i]? = some p := by rw [List.getElem?_eq_getElem hi, e]
  simp only [ptOk, hg, Bool.and_eq_true] at this
  have h2 := inB_iff.1 this.2.1
  omega
theorem ptN_bd {x : Nl} (hv : nlB x = true) {a : ByteArray} (h : ¬ ptN x.ps a < 0) : 0 ≤ ptN x.ps a ∧ ptN x.ps a < x.nets := by
  unfold ptN at h ⊢
  cases e : x.ps.find? (fun o => o.name.toList == a.toList) with
  | none => rw [e] at h; exact absurd (by decide) h
  | some o => exact nl_netsN hv o (List.mem_of_find?_eq_some e)
theorem specNr_any (x : Nl) (v : Value) (a b : ByteArray) (w : World) (h : NlV w v x) (hok : ∀ p ∈ x.ps, p.ok) (hnn : Fits x.nets) :
    Calls Tryz.prog 8 #[v, .string a, .string b] w fun e w' => e = .returned (.tuple #[.agg #[.int .i64 (nrS x a b).1.n, .int .i64 (nrS x a b).1.d], .int .i64 (nrS x a b).2]) ∧ Below w.heap.size w w' := by
  unfold nrS
  cases hv : nlB x with
  | false =>
    rw [if_neg (by simp)]
    exact specNr_inv x v a b w h hok hnn hv
  | true =>
    rw [if_pos rfl]
    by_cases ha : ptN x.ps a < 0
    · rw [if_pos (.inl ha)]
      exact specNr_nf1 x v a b w h hok hnn hv _ _ rfl rfl ha
    · by_cases hb : ptN x.ps b < 0
      · rw [if_pos (.inr hb)]
        exact specNr_nf2 x v a b w h hok hnn hv _ _ rfl rfl ⟨ha, hb⟩
      · rw [if_neg (by rintro (h | h) <;> contradiction)]
        have h1 := ptN_bd hv ha
        have h2 := ptN_bd hv hb
        obtain ⟨p, hp⟩ : ∃ p : Nat, ptN x.ps a = p := ⟨(ptN x.ps a).toNat, by omega⟩
        obtain ⟨q, hq⟩ : ∃ q : Nat, ptN x.ps b = q := ⟨(ptN x.ps b).toNat, by omega⟩
        rw [hp] at h1
        rw [hq] at h2
        cases hR : x.ds.all (fun d => decide (d.kind = 2)) with
        | false =>
          rw [if_neg (by simp)]
          exact specNr_st x v a b w h hok hnn hv p q hp hq hR
        | true =>
          rw [if_pos rfl, hp, hq]
          exact specNr_good x v a b w h hok hnn hv p q hp hq h1.2 h2.2 (fun d hd => of_decide_eq_true (List.all_eq_true.1 hR d hd)) _ _ _ rfl
end Go.Proofs.YtacbdmngcdhgoaaGreat
