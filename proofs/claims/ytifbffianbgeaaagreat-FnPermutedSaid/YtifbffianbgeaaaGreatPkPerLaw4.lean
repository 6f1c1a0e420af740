/- Contracts and plain laws, part 4, for the statement's proof. -/
import Derived.Test.YtifbffianbgeaaaGreatPkPerLaw3
import Derived.Deep.QuietTactic
import Derived.BigQuiet
import Derived.StillTailTactics
import Derived.Deep.DeepCutAuto
import Derived.BigRegion
import Derived.Deep.RegionHeld3
import Derived.Deep.RegionHeldLaw
namespace Go.Proofs.YtifbffianbgeaaaGreat
open Go.RowKit
set_option linter.unusedVariables false
set_option linter.unusedSimpArgs false
def ZBld (w : World) (g n c : Nat) (ds : List Dv) : Prop := w.ownsRow 0 62 4 (.slice (some ⟨g, 0, none⟩) n c) ds.length (dcells ds (ds.map fun _ => Value.slice none 0 0)) ∧ ds.length = n ∧ (∀ d ∈ ds, d.pins = []) ∧ g < w.heap.size
section
variable {w w' : World} {g n c : Nat} {ds : List Dv}
theorem ZBld.by (hb : Below w.heap.size w w') (h : ZBld w g n c ds) : ZBld w' g n c ds := by
  obtain ⟨h1, h2, h3, h4⟩ := h
  refine ⟨row_same h1 (fun g' hg' => ?_), h2, h3, Nat.lt_of_lt_of_le h4 hb.size⟩
  have : g = g' := by injection hg'
  subst this
  exact hb.block g h4
theorem ZBld.keep {g0 : Nat} (hgr : w.grownBy w' (some g0)) (hne : g ≠ g0) (h : ZBld w g n c ds) : ZBld w' g n c ds := by
  obtain ⟨h1, h2, h3, h4⟩ := h
  refine ⟨row_same h1 (fun g' hg' => ?_), h2, h3, Nat.lt_of_lt_of_le h4 hgr.size⟩
  have : g = g' := by injection hg'
  subst this
  exact hgr.block g h4 (fun e => hne (Option.some.inj e))
theorem ZBld.lit (h : Blk w g #[] 62) : ZBld w g 0 0 [] :=
  ⟨⟨rfl, .inr ⟨g, 0, #[], rfl, Nat.zero_le _, h, Nat.le_refl _, by unfold maxLen; omega, rfl, rfl⟩⟩, rfl, by simp, h.lt⟩
theorem ZBld.sl (h : ZBld w g n c ds) : DvSl w (.slice (some ⟨g, 0, none⟩) n c) ds := by
  obtain ⟨⟨hlen, h1⟩, h2, h3, h4⟩ := h
  rcases h1 with ⟨h1, hn⟩ | ⟨g', cap, cur, e1, e2, e3, e4, e5, e6, e7⟩
  · cases h1
  · obtain ⟨rfl, rfl⟩ : g = g' ∧ c = cap := by
      simp only [Value.slice.injEq, Option.some.injEq, Addr.mk.injEq, and_true] at e1
      exact ⟨e1.1, e1.2.2⟩
    refine .inr ⟨g, 0, c, by rw [h2], e4, e5, fun i x hx => ?_⟩
    have hil : i < ds.length := (List.getElem?_eq_some_iff.1 hx).1
    obtain ⟨q0, q1, q2, q3⟩ := dcells_get ds (ds.map fun _ => Value.slice none 0 0) i x (.slice none 0 0) hx (by rw [List.getElem?_map, hx]; rfl)
    have hB : Blk w g cur 62 := e3
    have at_ : ∀ j u, (dcells ds (ds.map fun _ => Value.slice none 0 0))[j]? = some u → w.cell? ⟨g, j, none⟩ = some u := fun j u hu => by
      rw [hB.cell]
      rw [← e7] at hu
      have hj : j < ds.length * 4 := by
        have := (List.getElem?_eq_some_iff.1 hu).1
        rw [List.length_take] at this; omega
      rw [List.getElem?_take_of_lt hj] at hu
      simpa using hu
    simp only [Nat.zero_add]
    exact ⟨.slice none 0 0, at_ _ _ q0, at_ _ _ q1, at_ _ _ q2, at_ _ _ q3, .inl ⟨_, _, rfl, h3 x (List.mem_of_getElem? hx)⟩⟩
end
theorem keep_blk {w w' : World} {b g : Nat} {cs : Array Value} {T : TypeId} (hgr : w.grownBy w' (some g)) (h : Blk w b cs T) (hne : b ≠ g) : Blk w' b cs T :=
  (hgr.block b h.lt (fun e => hne (Option.some.inj e))).trans h
def IBld (w : World) (g n c : Nat) (zs : List Int) : Prop := w.ownsRow 0 2 1 (.slice (some ⟨g, 0, none⟩) n c) zs.length (icells zs) ∧ zs.length = n ∧ g < w.heap.size
section
variable {w w' : World} {g n c : Nat} {zs : List Int}
theorem IBld.by (hb : Below w.heap.size w w') (h : IBld w g n c zs) : IBld w' g n c zs := by
  obtain ⟨h1, h2, h4⟩ := h
  refine ⟨row_same h1 (fun g' hg' => ?_), h2, Nat.lt_of_lt_of_le h4 hb.size⟩
  have : g = g' := by injection hg'
  subst this
  exact hb.block g h4
theorem IBld.keep {g0 : Nat} (hgr : w.grownBy w' (some g0)) (hne : g ≠ g0) (h : IBld w g n c zs) : IBld w' g n c zs := by
  obtain ⟨h1, h2, h4⟩ := h
  refine ⟨row_same h1 (fun g' hg' => ?_), h2, Nat.lt_of_lt_of_le h4 hgr.size⟩
  have : g = g' := by injection hg'
  subst this
  exact hgr.block g h4 (fun e => hne (Option.some.inj e))
theorem IBld.lit (h : Blk w g #[] 2) : IBld w g 0 0 [] :=
  ⟨⟨rfl, .inr ⟨g, 0, #[], rfl, Nat.zero_le _, h, Nat.le_refl _, by unfold maxLen; omega, rfl, rfl⟩⟩, rfl, h.lt⟩
theorem IBld.apart {b o : Nat} {v : Value} (h : IBld w g n c zs) (hne : g ≠ b) : IBld (w.setCell ⟨b, o, none⟩ v) g n c zs := by
  obtain ⟨h1, h2, h4⟩ := h
  refine ⟨row_same h1 (fun g' hg' => ?_), h2, by simpa using h4⟩
  have : g = g' := by injection hg'
  subst this
  exact Below.heap_setCell w ⟨b, o, none⟩ v g hne
end
theorem infoBool : (Tryz.prog.info? 4).map (fun i => (i.zero, i.size, i.bytes)) = some (some (.bool false), 1, 1) := by kernel_rfl
theorem make_bools (n : Nat) (hn : n ≤ 1048576) (w : World) : ∃ cs : Array Value, cs.size = n ∧ (∀ i, i < n → cs[i]? = some (Value.bool false)) ∧ (Instr.makeSlice 124 (.int .i64 n) (.int .i64 n)).run Tryz.prog w = .ok (.slice (some ⟨w.heap.size, 0, none⟩) n n) (w.alloc (.cells cs 4)) := by
  obtain ⟨i0, hi, hz0, hz1, hz2⟩ := info_parts infoBool
  have h := run_make (P := Tryz.prog) w 124 4 i0 _ Tryz.underlying124 hi hz0 .i64 .i64 (n : Int) (n : Int) (by omega) (by omega) (by rw [hz2]; omega) (by omega)
  simp only [Int.toNat_natCast, hz1, Nat.mul_one] at h
  refine ⟨_, size_madeCells _ _, fun i hi => ?_, h⟩
  simp [madeCells, hi, Value.cells, Nat.mod_one]
def UsedB (w : World) (g n : Nat) (zs : List Int) : Prop := ∃ cs : Array Value, Blk w g cs 4 ∧ cs.size = n ∧ ∀ j : Nat, j < n → cs[j]? = some (.bool (zs.contains (j : Int)))
theorem UsedB.by {w w' : World} {g n : Nat} {zs : List Int} (hb : Below w.heap.size w w') (h : UsedB w g n zs) : UsedB w' g n zs := by
  obtain ⟨cs, a, b⟩ := h; exact ⟨cs, Blk.by hb a, b⟩
theorem UsedB.keep {w w' : World} {g g0 n : Nat} {zs : List Int} (hgr : w.grownBy w' (some g0)) (hne : g ≠ g0) (h : UsedB w g n zs) : UsedB w' g n zs := by
  obtain ⟨cs, a, b⟩ := h; exact ⟨cs, keep_blk hgr a hne, b⟩
theorem UsedB.cell {w : World} {g n j : Nat} {zs : List Int} (h : UsedB w g n zs) (hj : j < n) : w.cell? ⟨g, j, none⟩ = some (.bool (zs.contains (j : Int))) ∧ w.frozen? ⟨g, j, none⟩ = false ∧ g < w.heap.size := by
  obtain ⟨cs, a, b, c⟩ := h
  exact ⟨(a.cell j).trans (c j hj), a.free j, a.lt⟩
theorem UsedB.add {w : World} {g n k : Nat} {zs : List Int} (h : UsedB w g n zs) (hk : k < n) : UsedB (w.setCell ⟨g, k, none⟩ (.bool true)) g n (zs ++ [(k : Int)]) := by
  obtain ⟨cs, a, b, c⟩ := h
  refine ⟨_, a.set k _, by simpa using b, fun j hj => ?_⟩
  by_cases e : j = k
  · subst e
    rw [Array.getElem?_setIfInBounds_self_of_lt (by omega)]
    have : (zs ++ [(j : Int)]).contains (j : Int) = true := by simp
    rw [this]
  · rw [Array.getElem?_setIfInBounds_ne (by omega), c j hj]
    congr 2
    rw [List.contains_eq_mem, List.contains_eq_mem]
    refine decide_eq_decide.2 ⟨fun h => List.mem_append.2 (.inl h), fun h => ?_⟩
    rcases List.mem_append.1 h with h | h
    · exact h
    · rw [List.mem_singleton] at h; omega
structure Exc (E : Nat → Prop) (w w' : World) : Prop where
  os : w'.os = w.os
  tape : w'.tape = w.tape
  output : w'.output = w.output
  size : w.heap.size ≤ w'.heap.size
  block : ∀ k, k < w.heap.size → ¬ E k → w'.heap[k]? = w.heap[k]?
section
variable {E F : Nat → Prop} {a w w' : World} {lo hi : Nat}
theorem Exc.refl (E : Nat → Prop) (w : World) : Exc E w w := ⟨rfl, rfl, rfl, Nat.le_refl _, fun _ _ _ => rfl⟩
theorem Exc.ofBelow (h : Below w.heap.size w w') : Exc E w w' := ⟨h.os, h.tape, h.output, h.size, fun k hk _ => h.block k hk⟩
theorem Exc.ofWithin (h : Within lo hi w w') (hE : ∀ k, lo ≤ k → k < hi → E k) : Exc E w w' := ⟨h.os, h.tape, h.output, h.size, fun k hk hn => h.block k hk (by
  rcases Nat.lt_or_ge k lo with h1 | h1
  · exact .inl h1
  · rcases Nat.lt_or_ge k hi with h2 | h2
    · exact absurd (hE k h1 h2) hn
    · exact .inr h2)⟩
theorem Exc.mono (h : Exc E w w') (hE : ∀ k, k < w.heap.size → E k → F k) : Exc F w w' := ⟨h.os, h.tape, h.output, h.size, fun k hk hn => h.block k hk (fun e => hn (hE k hk e))⟩
theorem Exc.on (h : Exc E a w) (h' : Exc E w w') : Exc E a w' :=
  ⟨h'.os.trans h.os, h'.tape.trans h.tape, h'.output.trans h.output, Nat.le_trans h.size h'.size, fun k hk hn => (h'.block k (Nat.lt_of_lt_of_le hk h.size) hn).trans (h.block k hk hn)⟩
theorem Exc.thn (h : Exc E a w) (h' : Exc F w w') (hE : ∀ k, k < a.heap.size → F k → E k) : Exc E a w' :=
  ⟨h'.os.trans h.os, h'.tape.trans h.tape, h'.output.trans h.output, Nat.le_trans h.size h'.size, fun k hk hn => (h'.block k (Nat.lt_of_lt_of_le hk h.size) (fun e => hn (hE k hk e))).trans (h.block k hk hn)⟩
theorem Exc.set (h : Exc E a w) (g o : Nat) (v : Value) (hg : g < a.heap.size → E g) : Exc E a (w.setCell ⟨g, o, none⟩ v) :=
  ⟨h.os, h.tape, h.output, by simp [World.setCell]; exact h.size, fun k hk hn => (Below.heap_setCell w ⟨g, o, none⟩ v k (fun e => by subst e; exact hn (hg hk))).trans (h.block k hk hn)⟩
theorem Exc.alloc (h : Exc E a w) (o : Obj) : Exc E a (w.alloc o) :=
  ⟨h.os, h.tape, h.output, by have := h.size; simp; omega, fun k hk hn => (Below.heap_alloc w o k (by have := h.size; omega)).trans (h.block k hk hn)⟩
theorem Exc.drew (h : Exc E a w) : Exc E a w.drew := ⟨h.os, h.tape, h.output, h.size, h.block⟩
theorem Exc.drewN (h : Exc E a w) (n : Nat) : Exc E a (w.drewN n) := ⟨h.os, h.tape, h.output, h.size, h.block⟩
theorem Exc.below (h : Exc E w w') (hb : Below a.heap.size a w) (hE : ∀ k, k < a.heap.size → ¬ E k) : Below a.heap.size a w' :=
  hb.trans ⟨h.os, h.tape, h.output, h.size, fun k hk => h.block k (Nat.lt_of_lt_of_le hk hb.size) (hE k hk)⟩
theorem Exc.blk {f : Nat} {cs : Array Value} {T : TypeId} (h : Exc E w w') (hf : Blk w f cs T) (hne : ¬ E f) : Blk w' f cs T := (h.block f hf.lt hne).trans hf
variable {sv : Value} {zs : List Int}
theorem OwnR.exc (h : Exc E w w') (hO : OwnR w lo hi sv zs) (hE : ∀ k, lo ≤ k → k < hi → ¬ E k) : OwnR w' lo hi sv zs := by
  rcases hO with e | ⟨g, cap, cs, h1, h2, h2', h3, h4, h5, h6⟩
  · exact .inl e
  · exact .inr ⟨g, cap, cs, h1, h2, h2', h3, h4, h.blk h5 (hE g h2 h2'), h6⟩
theorem OwnDs.exc {ds : List Dv} (h : Exc E w w') (hO : OwnDs w lo hi sv ds) (hE : ∀ k, lo ≤ k → k < hi → ¬ E k) : OwnDs w' lo hi sv ds := by
  rcases hO with e | ⟨g, cap, cs, f, h1, h2, h3, h4, h5, h6, h7⟩
  · exact .inl e
  · refine .inr ⟨g, cap, cs, f, h1, h2, h3, h4, h.blk h5 (hE g h2.1 h2.2), fun i x hx => ?_, h7⟩
    obtain ⟨⟨pv, a, b⟩, c⟩ := h6 i x hx
    exact ⟨⟨pv, a, OwnR.exc h b (fun k h1 h2 => hE k (by omega) (by omega))⟩, c⟩
theorem BldI.exc (h : Exc E w w') (hO : BldI w lo hi sv zs) (hE : ∀ k, lo ≤ k → k < hi → ¬ E k) : BldI w' lo hi sv zs := by
  obtain ⟨hs, h1, h3⟩ := hO
  exact ⟨Nat.le_trans hs h.size, row_same h1 (fun g hg => h.block g (by have := h3 g hg; omega) (hE g (h3 g hg).1 (h3 g hg).2)), h3⟩
theorem UsedB.exc {g n : Nat} (h : Exc E w w') (hO : UsedB w g n zs) (hE : ¬ E g) : UsedB w' g n zs := by
  obtain ⟨cs, a, b⟩ := hO; exact ⟨cs, h.blk a hE, b⟩
theorem BldI.cut {k : Nat} {g c : Nat} {ys : List Int} (h : BldI w lo hi (.slice (some ⟨g, 0, none⟩) (zs ++ ys).length c) (zs ++ ys)) (hk : zs.length = k) : BldI w lo hi (.slice (some ⟨g, 0, none⟩) k c) zs := by
  subst hk
  obtain ⟨hs, ⟨h1, h2⟩, h3⟩ := h
  refine ⟨hs, ⟨by simp [icells], ?_⟩, h3⟩
  rcases h2 with ⟨h2, _⟩ | ⟨g', cap, cur, e1, e2, e3, e4, e5, e6, e7⟩
  · cases h2
  · simp only [Value.slice.injEq, Option.some.injEq, Addr.mk.injEq, and_true] at e1
    obtain ⟨rfl, _, rfl⟩ := e1
    rw [List.length_append] at e4 e7
    refine .inr ⟨g, c, cur, rfl, e2, e3, by omega, e5, by omega, ?_⟩
    have := congrArg (List.take (zs.length * 1)) e7
    rw [List.take_take, icells_push, List.take_left' (by simp [icells])] at this
    rw [← this]
    congr 1
    omega
def LlIn (w : World) (lo hi : Nat) (v : Value) (ls : List (List Int)) : Prop :=
  ∃ (N : Nat) (cs : Array Value), v = .slice (some ⟨N, 0, none⟩) ls.length ls.length ∧ (lo ≤ N ∧ N < hi) ∧ Blk w N cs 27 ∧ ls.length ≤ 1000 ∧ ∀ (j : Nat) xs, ls[j]? = some xs → ∃ s, cs[j]? = some s ∧ OwnR w lo hi s xs
theorem LlIn.exc {v : Value} {ls : List (List Int)} (h : Exc E w w') (hO : LlIn w lo hi v ls) (hE : ∀ k, lo ≤ k → k < hi → ¬ E k) : LlIn w' lo hi v ls := by
  obtain ⟨N, cs, h1, h2, h3, h4, h5⟩ := hO
  refine ⟨N, cs, h1, h2, h.blk h3 (hE N h2.1 h2.2), h4, fun j xs hx => ?_⟩
  obtain ⟨s, a, b⟩ := h5 j xs hx
  exact ⟨s, a, OwnR.exc h b hE⟩
theorem LlIn.by {v : Value} {ls : List (List Int)} (h : Below w.heap.size w w') (hO : LlIn w lo hi v ls) : LlIn w' lo hi v ls := hO.exc (E := fun _ => False) (Exc.ofBelow h) (fun _ _ _ e => e)
theorem LlIn.row {v : Value} {ls : List (List Int)} {j : Nat} {xs : List Int} (hO : LlIn w lo hi v ls) (h : ls[j]? = some xs) : ∃ N s, v = .slice (some ⟨N, 0, none⟩) ls.length ls.length ∧ w.cell? ⟨N, j, none⟩ = some s ∧ IntSl w s xs ∧ N < w.heap.size := by
  obtain ⟨N, cs, h1, h2, h3, h4, h5⟩ := hO
  obtain ⟨s, a, b⟩ := h5 j xs h
  exact ⟨N, s, h1, (h3.cell j).trans a, b.sl, h3.lt⟩
theorem OwnDs.atE {ds : List Dv} {i : Nat} {x : Dv} (h : OwnDs w lo hi sv ds) (hx : ds[i]? = some x) : ∃ g cap f pv, sv = .slice (some ⟨g, 0, none⟩) ds.length cap ∧ g < w.heap.size ∧ w.cell? ⟨g, i * 4, none⟩ = some (.int .i64 x.kind) ∧ w.cell? ⟨g, i * 4 + 1, none⟩ = some pv ∧ w.cell? ⟨g, i * 4 + 2, none⟩ = some (.int .i64 x.wd) ∧ w.cell? ⟨g, i * 4 + 3, none⟩ = some (.int .i64 x.len) ∧ OwnR w f (f + 1) pv x.pins ∧ lo ≤ f ∧ f < hi := by
  rcases h with ⟨_, _, _, rfl⟩ | ⟨g, cap, cs, f, h1, h2, h3, h4, h5, h6, h7⟩
  · simp at hx
  · obtain ⟨⟨pv, ⟨e1, e2, e3, e4⟩, b⟩, c⟩ := h6 i x hx
    have hc := h5.cell
    exact ⟨g, cap, f i, pv, h1, h5.lt, (hc _).trans e1, (hc _).trans e2, (hc _).trans e3, (hc _).trans e4, b, c.1, c.2.1⟩
end
def RB (w : World) (g n c : Nat) (L : List Tr) : Prop := w.ownsRow 0 62 4 (.slice (some ⟨g, 0, none⟩) n c) n (tcells L) ∧ L.length = n ∧ g < w.heap.size ∧ ∀ t ∈ L, OwnR w t.2.2 (t.2.2 + 1) t.2.1 t.1.pins ∧ t.2.2 < w.heap.size ∧ t.2.2 ≠ g
section
variable {w w' : World} {g n c : Nat} {L : List Tr}
theorem RB.exc {E : Nat → Prop} (h : Exc E w w') (hR : RB w g n c L) (hg : ¬ E g) (hE : ∀ t ∈ L, ¬ E t.2.2) : RB w' g n c L := by
  obtain ⟨h1, h2, h3, h4⟩ := hR
  refine ⟨row_same h1 (fun g' hg' => ?_), h2, Nat.lt_of_lt_of_le h3 h.size, fun t ht => ?_⟩
  · have : g = g' := by injection hg'
    subst this
    exact h.block g h3 hg
  · obtain ⟨a, b, c⟩ := h4 t ht
    exact ⟨OwnR.exc h a (fun k h1 h2 e => hE t ht ((show k = t.2.2 by omega) ▸ e)), Nat.lt_of_lt_of_le b h.size, c⟩
theorem RB.by (hb : Below w.heap.size w w') (hR : RB w g n c L) : RB w' g n c L := hR.exc (E := fun _ => False) (Exc.ofBelow hb) (fun e => e) (fun _ _ e => e)
theorem grown_exc {g0 : Nat} (h : w.grownBy w' (some g0)) : Exc (fun k => k = g0) w w' := ⟨h.os, h.tape, h.output, h.size, fun k hk hn => h.block k hk (fun e => hn (Option.some.inj e))⟩
theorem RB.lit (h : Blk w g #[] 62) : RB w g 0 0 [] :=
  ⟨⟨rfl, .inr ⟨g, 0, #[], rfl, Nat.zero_le _, h, Nat.le_refl _, by unfold maxLen; omega, rfl, rfl⟩⟩, rfl, h.lt, by simp⟩
theorem RB.one (h : RB w g n c L) : ∀ t ∈ L, t.2.1.oneCell' = true := by
  intro t ht
  obtain ⟨a, b⟩ := h.2.2.2 t ht
  rcases a with ⟨_, _, e, _⟩ | ⟨_, _, _, e, _⟩ <;> rw [e] <;> rfl
theorem RB.cells (h : RB w g n c L) : ∃ cur, Blk w g cur 62 ∧ n ≤ c ∧ c ≤ maxLen ∧ ∀ (j : Nat) u, (tcells L)[j]? = some u → cur[j]? = some u := by
  obtain ⟨⟨h0, h1⟩, h2, h3, h4⟩ := h
  rcases h1 with ⟨h1, _⟩ | ⟨g', cap, cur, e1, e2, e3, e4, e5, e6, e7⟩
  · cases h1
  · simp only [Value.slice.injEq, Option.some.injEq, Addr.mk.injEq, and_true] at e1
    obtain ⟨rfl, _, rfl⟩ := e1
    exact ⟨cur, e3, e4, e5, row_cur (g := g) (cap := c) e7⟩
theorem RB.row (h : RB w g n c L) : DRow w g (L.map fun t => (t.1, t.2.2)).toArray := by
  obtain ⟨cur, hB, _, _, hc⟩ := h.cells
  refine ⟨cur, hB, fun i hi => ?_⟩
  have hil : i < L.length := by simpa using hi
  have ht : L[i]? = some L[i] := List.getElem?_eq_getElem hil
  have hbang : (L.map fun t => (t.1, t.2.2)).toArray[i]! = (L[i].1, L[i].2.2) := by
    rw [getBang _ _ hi]
    simp
  rw [hbang]
  obtain ⟨a, b, d⟩ := h.2.2.2 _ (List.mem_of_getElem? ht)
  obtain ⟨q0, q1, q2, q3⟩ := tcells_get L i _ ht
  exact ⟨⟨_, ⟨hc _ _ q0, hc _ _ q1, hc _ _ q2, hc _ _ q3⟩, a⟩, d⟩
theorem RB.push {x : Dv} {pv : Value} {f g' c' : Nat} (h : RB w g n c L) (hx : OwnR w f (f + 1) pv x.pins) (hf : f < w.heap.size) (hfg : f ≠ g)
    (h1 : w'.ownsRow 0 62 4 (.slice (some ⟨g', 0, none⟩) (n + 1) c') (n + 1) (tcells L ++ [.int .i64 x.kind, pv, .int .i64 x.wd, .int .i64 x.len])) (h2 : w.grownBy w' (some g)) (h3 : g' = g ∨ g' = w.heap.size) (hg' : g' < w'.heap.size) : RB w' g' (n + 1) c' (L ++ [(x, pv, f)]) := by
  obtain ⟨e1, e2, e3, e4⟩ := h
  have hE := grown_exc h2
  refine ⟨by rw [tcells_append]; exact h1, by rw [List.length_append, e2]; rfl, hg', fun t ht => ?_⟩
  rcases List.mem_append.1 ht with ht | ht
  · obtain ⟨a, b, c⟩ := e4 t ht
    exact ⟨OwnR.exc hE a (fun k h1 h2 (e : k = g) => c (by omega)), Nat.lt_of_lt_of_le b hE.size, by omega⟩
  · obtain rfl : t = (x, pv, f) := by simpa using ht
    exact ⟨OwnR.exc hE hx (fun k h1 h2 (e : k = g) => hfg (by dsimp only at h1 h2; omega)), Nat.lt_of_lt_of_le hf hE.size, by dsimp only; omega⟩
end
theorem step_pushR {ops : Array Oper} {o : Oper} {a : Act} {w : World} {K : Act → World → Prop} {Q : Exit → Act → World → Prop} {E : Prop} (hgd : o.guard = none) (s x : Operand)
    (ho : o.op = .call { callee := .builtin .append, args := #[s, x], argTypes := #[32, 32] })
    (g n c : Nat) (L : List Tr) (hs : a.eval s = .slice (some ⟨g, 0, none⟩) n c) (h : RB w g n c L) (nb : Nat) (d : Dv) (pv : Value) (f : Nat) (hx : a.eval x = .slice (some ⟨nb, 0, none⟩) 1 1)
    (hnb : Blk w nb #[.int .i64 d.kind, pv, .int .i64 d.wd, .int .i64 d.len] 62) (hd : OwnR w f (f + 1) pv d.pins) (hf : f < w.heap.size) (hfg : f ≠ g) (hn : n + 1 ≤ 1000)
    (hK : ∀ g' c' w', RB w' g' (n + 1) c' (L ++ [(d, pv, f)]) → w.grownBy w' (some g) → (g' = g ∨ g' = w.heap.size) → K (a.put o.dst (.slice (some ⟨g', 0, none⟩) (n + 1) c')) w') :
    if Region.wanted o (yielded ops a.tmps) = true then Oper.wp Tryz.prog o a w K Q else E := by
  have hone : pv.oneCell' = true := by rcases hd with ⟨_, _, e, _⟩ | ⟨_, _, _, e, _⟩ <;> rw [e] <;> rfl
  refine step_appT hgd s x ho 0 _ n _ hs h.1 ⟨nb, 0, none⟩ 1 1 [.int .i64 d.kind, pv, .int .i64 d.wd, .int .i64 d.len] hx rfl (World.news_of_block (cs := #[.int .i64 d.kind, pv, .int .i64 d.wd, .int .i64 d.len]) hnb) ?_ (by decide) hn (Nat.zero_le _) ?_
  · intro u hu
    simp at hu
    rcases hu with rfl | rfl | rfl | rfl
    · rfl
    · exact hone
    · rfl
    · rfl
  · intro g' c' w' h1 h2 h3
    have h3' : g' = g ∨ g' = w.heap.size := h3.imp (fun e => (Option.some.inj e).symm) id
    exact hK g' c' w' (h.push hd hf hfg h1 h2 h3' (h1.lt g' rfl).2) h2 h3'
theorem list_pushR {ops : Array Oper} {rest : List Oper} {o : Oper} {a : Act} {w : World} {Q : Exit → Act → World → Prop} (hgd : o.guard = none) (s x : Operand)
    (ho : o.op = .call { callee := .builtin .append, args := #[s, x], argTypes := #[32, 32] })
    (g n c : Nat) (L : List Tr) (hs : a.eval s = .slice (some ⟨g, 0, none⟩) n c) (h : RB w g n c L) (nb : Nat) (d : Dv) (pv : Value) (f : Nat) (hx : a.eval x = .slice (some ⟨nb, 0, none⟩) 1 1)
    (hnb : Blk w nb #[.int .i64 d.kind, pv, .int .i64 d.wd, .int .i64 d.len] 62) (hd : OwnR w f (f + 1) pv d.pins) (hf : f < w.heap.size) (hfg : f ≠ g) (hn : n + 1 ≤ 1000)
    (hK : ∀ g' c' w', RB w' g' (n + 1) c' (L ++ [(d, pv, f)]) → w.grownBy w' (some g) → (g' = g ∨ g' = w.heap.size) → wpList Tryz.prog ops Q rest (a.put o.dst (.slice (some ⟨g', 0, none⟩) (n + 1) c')) w') : wpList Tryz.prog ops Q (o :: rest) a w :=
  wpList_plain hgd fun K hk => by
    have h := step_pushR (ops := ops) (K := K) (Q := Q) (E := False) hgd s x ho g n c L hs h nb d pv f hx hnb hd hf hfg hn (fun g' c' w' h1 h2 h3 => hk _ _ (hK g' c' w' h1 h2 h3))
    rwa [if_pos (by simp [Region.wanted, hgd])] at h
def Bytes (w : World) (v : Value) (n : Nat) : Prop :=
  (∃ a c, v = .slice a 0 c ∧ n = 0) ∨ ∃ b off cap, v = .slice (some ⟨b, off, none⟩) n cap ∧ n ≤ cap ∧ cap ≤ maxLen ∧ ∀ i, i < n → ∃ x : Int, w.cell? ⟨b, off + i, none⟩ = some (.int .u8 x) ∧ 0 ≤ x ∧ x ≤ 255
theorem Bytes.by {w w1 : World} {v : Value} {n : Nat} (hb : Below w.heap.size w w1) (h : Bytes w v n) : Bytes w1 v n := by
  rcases h with h | ⟨b, off, cap, h1, h2, h3, h4⟩
  · exact .inl h
  · refine .inr ⟨b, off, cap, h1, h2, h3, fun i hi => ?_⟩
    obtain ⟨x, hx, h5⟩ := h4 i hi
    exact ⟨x, cell_by' hb hx, h5⟩
theorem big_any (v : Value) (n : Nat) (w : World) (h : Bytes w v n) :
    Calls Tryz.prog 24 #[v] w fun e w' => e = .returned (.bool (decide (4096 < n))) ∧ w = w' := by
  rcases h with ⟨a0, c0, rfl, rfl⟩ | ⟨b, off, cap, rfl, h2, h3, h4⟩
  · go_enter Tryz.func24, Tryz.ntmps24
    go_wp2
    go_ret
    exact ⟨rfl, rfl⟩
  · go_enter Tryz.func24, Tryz.ntmps24
    go_wp2
    go_ret
    exact ⟨ret_bool (by rw [Bool.eq_iff_iff]; simp; try omega), rfl⟩
/- The reference's source of numbers: l01From makes a block of its own; l01Next turns that block alone and hands back a number in range. -/
def Src1 (W0 : World) (g : Nat) (sv : Value) (n : Nat) (w : World) : Prop :=
  W0.heap.size ≤ g ∧ Below W0.heap.size W0 w ∧ Bytes W0 sv n ∧ n ≤ 4096 ∧ ∃ i x : Int, 0 ≤ i ∧ i ≤ n ∧ (0 ≤ x ∧ x ≤ 2147483646) ∧ Blk w g #[sv, .int .i64 i, .int .i64 x] 143
theorem Src1.lt {W0 w : World} {g n : Nat} {sv : Value} (h : Src1 W0 g sv n w) : g < w.heap.size := by
  obtain ⟨_, _, _, _, _, _, _, _, _, h⟩ := h; exact h.lt
theorem Src1.by {W0 w w1 : World} {g n : Nat} {sv : Value} (hb : Below w.heap.size w w1) (h : Src1 W0 g sv n w) : Src1 W0 g sv n w1 := by
  obtain ⟨h1, h2, h3, h4, i, x, h5, h6, h7, h8⟩ := h
  exact ⟨h1, h2.trans (hb.mono h2.size), h3, h4, i, x, h5, h6, h7, Blk.by hb h8⟩
theorem Src1.apart {W0 w : World} {g n b o : Nat} {sv v : Value} (h : Src1 W0 g sv n w) (hne : g ≠ b) (hb : W0.heap.size ≤ b) : Src1 W0 g sv n (w.setCell ⟨b, o, none⟩ v) := by
  obtain ⟨h1, h2, h3, h4, i, x, h5, h6, h7, h8⟩ := h
  exact ⟨h1, h2.setCell hb v, h3, h4, i, x, h5, h6, h7, h8.apart b o v hne⟩
set_option maxRecDepth 100000 in
set_option maxHeartbeats 1000000 in
theorem l01From_any (v : Value) (n : Nat) (w : World) (h : Bytes w v n) (hn : n ≤ 4096) :
    Calls Tryz.prog 65 #[v] w fun e w' => e = .returned (.pointer (some ⟨w.heap.size, 0, none⟩)) ∧ Src1 w w.heap.size v n w' ∧ Below w.heap.size w w' := by
  have HB := Lib.hid h
  rcases h with ⟨a0, c0, rfl, rfl⟩ | ⟨b, off, cap, rfl, h2, h3, h4⟩
  · go_enter Tryz.func65, Tryz.ntmps65
    go_wp2
    go_loopw [4] (fun i wr => i = .int .i64 0 ∧ Blk wr w.heap.size #[.slice a0 0 c0, .int .i64 0, .int .i64 12345] 143 ∧ Below w.heap.size w wr) (fun _ _ => 0)
    case atStart => exact ⟨rfl, blkT, blwT⟩
    case round =>
      obtain ⟨rfl, hx, hb⟩ := hrel
      go_wp2
      go_ret
      exact ⟨rfl, ⟨Nat.le_refl _, hb, HB.out, hn, 0, 12345, by omega, by omega, by omega, hx⟩, hb⟩
  · unfold maxLen at h3
    have H4 := Lib.hid h4
    clear h4
    go_enter Tryz.func65, Tryz.ntmps65
    go_wp2
    go_loopw [4] (fun i wr => ∃ (k : Nat) (x : Int), k ≤ n ∧ i = .int .i64 k ∧ (0 ≤ x ∧ x ≤ 2147483646) ∧ Blk wr w.heap.size #[.slice (some ⟨b, off, none⟩) n cap, .int .i64 0, .int .i64 x] 143 ∧ Below w.heap.size w wr) (fun i _ => n - (intOf i).toNat)
    case atStart => exact ⟨0, 12345, Nat.zero_le _, rfl, by omega, blkT, blwT⟩
    case round =>
      obtain ⟨k, x, hk, rfl, ⟨hx0, hx1⟩, hx, hb⟩ := hrel
      by_cases hlt : k < n
      · by_cases h64 : k < 64
        · obtain ⟨y, hy, hy0, hy1⟩ := H4.out k hlt
          have hyc := cell_by' hb hy
          have hxc := hx.cell
          have hxf := hx.free
          have i1 : (0 : Int) ≤ (k : Int) := by omega
          have i2 : (k : Int) < (n : Int) := by omega
          have i3 : (k : Int) < 64 := by omega
          clear hy
          go_wp2
          go_still_tail 15, (by kernel_rfl)
          change wpList _ _ _ _ _ wr.drew
          go_wp2
          refine ⟨⟨k + 1, _, by omega, by go_num, ?_, (hx.set 2 _).drew, blwT⟩, by simp [intOf]; omega⟩
          have e1 : wrap64 (x * 31) = x * 31 := by unfold wrap64; omega
          have e2 : wrap64 (x * 31 + y) = x * 31 + y := by unfold wrap64; omega
          have e3 : IntKind.i64.wrap (x * 31) = x * 31 := by simp [IntKind.wrap, IntKind.bits, IntKind.signed]; omega
          have e4 : IntKind.i64.wrap (x * 31 + y) = x * 31 + y := by simp [IntKind.wrap, IntKind.bits, IntKind.signed]; omega
          (try simp only [e1, e2, e3, e4])
          (try rw [Int.tmod_eq_emod_of_nonneg (by omega)])
          omega
        · have i3 : ¬ (k : Int) < 64 := by omega
          have i2 : (k : Int) < (n : Int) := by omega
          go_wp2
          go_ret
          exact ⟨rfl, ⟨Nat.le_refl _, hb, HB.out, hn, 0, x, by omega, by omega, ⟨hx0, hx1⟩, hx⟩, hb⟩
      · have i2 : ¬ (k : Int) < (n : Int) := by omega
        go_wp2
        go_ret
        exact ⟨rfl, ⟨Nat.le_refl _, hb, HB.out, hn, 0, x, by omega, by omega, ⟨hx0, hx1⟩, hx⟩, hb⟩
theorem emod_bd (a m : Int) (hm : 0 < m) : 0 ≤ a % m ∧ a % m < m := ⟨Int.emod_nonneg _ (by omega), Int.emod_lt_of_pos _ hm⟩
set_option maxRecDepth 100000 in
set_option maxHeartbeats 2000000 in
theorem l01Next_any (W0 : World) (g : Nat) (sv : Value) (n : Nat) (m : Int) (w : World) (hD : Src1 W0 g sv n w) (hm' : m ≤ 256) :
    Calls Tryz.prog 73 #[.pointer (some ⟨g, 0, none⟩), .int .i64 m] w fun e w' => ∃ v : Int, e = .returned (.int .i64 v) ∧ 0 ≤ v ∧ (v < m ∨ v = 0) ∧ Src1 W0 g sv n w' ∧ Only g w w' := by
  have HD := Lib.hid hD
  obtain ⟨hg, hb, hB, hn, i, x, hi, hi', ⟨hx0, hx1⟩, hx⟩ := hD
  have hxc := hx.cell
  have hxf := hx.free
  by_cases hm1 : m ≤ 1
  · go_enter Tryz.func73, Tryz.ntmps73
    go_wp2
    go_ret
    exact ⟨0, rfl, by omega, .inr rfl, HD.out, Only.refl _ _⟩
  · have hm1' : ¬ (256 : Int) < m := by omega
    have hmp : 0 < m := by omega
    have hm0 : m ≠ 0 := by omega
    by_cases hlt : i < n
    · rcases hB with ⟨a0, c0, rfl, rfl⟩ | ⟨b, off, cap, rfl, h2, h3, h4⟩
      · omega
      have h3' := h3
      unfold maxLen at h3
      obtain ⟨y, hy, hy0, hy1⟩ := h4 i.toNat (by omega)
      obtain ⟨j, rfl⟩ := Int.eq_ofNat_of_zero_le hi
      rw [Int.toNat_natCast] at hy
      have hyc := cell_by' hb hy
      have H4 := Lib.hid h4
      clear h4 hy
      go_enter Tryz.func73, Tryz.ntmps73
      go_wp2_with fail
      go_quiet (fail)
      go_wp2_with fail
      go_quiet (fail)
      go_wp2
      go_ret
      have hmod : y.tmod m = y % m := Int.tmod_eq_emod_of_nonneg hy0
      refine ⟨y % m, (by first | rfl | rw [hmod]), (emod_bd y m hmp).1, .inl (emod_bd y m hmp).2, ?_, ?_⟩
      · refine ⟨hg, Only.below ?_ hb hg, .inr ⟨b, off, cap, rfl, h2, h3', H4.out⟩, hn, (j : Int) + 1, x, by omega, by omega, ⟨hx0, hx1⟩, ?_⟩
        · repeat (first | exact Only.refl _ _ | refine Only.drewN ?_ _ | refine Only.set ?_ _ _)
        · first | exact (hx.drewN _).set 1 _ | exact ((hx.drewN _).drewN _).set 1 _ | exact (hx.set 1 _).drewN _
      · repeat (first | exact Only.refl _ _ | refine Only.drewN ?_ _ | refine Only.set ?_ _ _)
    · obtain rfl : i = (n : Int) := by omega
      obtain ⟨a0, c0, rfl⟩ : ∃ a c, sv = .slice a n c := by
        rcases hB with ⟨a0, c0, e1, e2⟩ | ⟨b, off, cap, e1, _⟩
        · exact ⟨a0, c0, by rw [e2]; exact e1⟩
        · exact ⟨_, _, e1⟩
      have HB := Lib.hid hB
      clear hB
      have e3 : IntKind.i64.wrap (x * 48271) = x * 48271 := by simp [IntKind.wrap, IntKind.bits, IntKind.signed]; omega
      have e4 : IntKind.i64.wrap (x * 48271 + 11) = x * 48271 + 11 := by simp [IntKind.wrap, IntKind.bits, IntKind.signed]; omega
      have e5 : (x * 48271 + 11).tmod 2147483647 = (x * 48271 + 11) % 2147483647 := Int.tmod_eq_emod_of_nonneg (by omega)
      obtain ⟨z, hz⟩ : ∃ z, (x * 48271 + 11) % 2147483647 = z := ⟨_, rfl⟩
      have hzb : 0 ≤ z ∧ z ≤ 2147483646 := by omega
      go_enter Tryz.func73, Tryz.ntmps73
      go_wp2_with fail
      go_quiet (fail)
      go_wp2
      go_ret
      refine ⟨z / 7 % m, rfl, (emod_bd _ m hmp).1, .inl (emod_bd _ m hmp).2, ?_, ?_⟩
      · refine ⟨hg, Only.below ?_ hb hg, HB.out, hn, (n : Int), z, by omega, by omega, hzb, ?_⟩
        · repeat (first | exact Only.refl _ _ | refine Only.drewN ?_ _ | refine Only.set ?_ _ _)
        · exact (hx.drewN _).set 2 _
      · repeat (first | exact Only.refl _ _ | refine Only.drewN ?_ _ | refine Only.set ?_ _ _)
/- The opener of an argument that is a slice of bytes. -/
open Go.ChangeShapes Go.WideShapes Go.ChangeAt Go.RowKit Go.Joins
theorem addr_addY (b off i : Nat) : (⟨b, off, none⟩ : Addr).add i = ⟨b, off + i, none⟩ := by
  by_cases h : i = 0 <;> simp [Addr.add, h]
set_option maxRecDepth 100000 in
theorem opened_bytes {H : Type} {enc : TypeId × Value → H} {W : World} {base b0 : Nat} {r : Reach} {spare : Nat → Bool} {held : Bool} {v : Value} {d : DataW H} {p : List MemPlace}
    (hv : Value.okWide Tryz.prog W r b0 49 v) (h : DataW.Trod enc Tryz.prog W base spare held 49 v d p) : ∃ n, Bytes W v n := by
  obtain ⟨a0, len0, cap0, rfl⟩ := okWide_slice Tryz.underlying49 hv
  obtain ⟨fuel, hf⟩ := h
  rcases open_ints Tryz.underlying49 Tryz.underlying5 (by kernel_rfl) hf with ⟨hcs, _⟩ | ⟨x, l, c, zs, hcs, _, hl, hm, hz, _, hcell, hwz⟩
  · simp [Value.cells] at hcs
    obtain ⟨rfl, rfl, rfl⟩ := hcs
    exact ⟨0, .inl ⟨_, _, rfl, rfl⟩⟩
  · simp [Value.cells] at hcs
    obtain ⟨rfl, rfl, rfl⟩ := hcs
    by_cases h0 : len0 = 0
    · subst h0
      exact ⟨0, .inl ⟨_, _, rfl, rfl⟩⟩
    · obtain ⟨b, off, spot⟩ := x
      have hzl : len0 ≤ zs.length := by rw [hz]; split <;> omega
      have hspot : spot = none := by simpa [Addr.add] using World.cell?_spot (hcell 0 (by omega))
      subst hspot
      refine ⟨len0, .inr ⟨b, off, cap0, rfl, hl, hm, fun i hi => ⟨zs.getD i 0, by have := hcell i (by omega); rw [addr_addY] at this; exact this, ?_⟩⟩⟩
      have hmem : zs.getD i 0 ∈ zs := by
        rw [List.getD_eq_getElem?_getD, List.getElem?_eq_getElem (by omega)]
        exact List.getElem_mem _
      exact bounds_u8 (hwz _ hmem)
theorem icells_set (zs : List Int) (i : Nat) (y : Int) : icells (zs.set i y) = (icells zs).set i (.int .i64 y) := by simp [icells, List.map_set]
theorem BldI.setAt {w : World} {lo hi G n cap : Nat} {zs : List Int} (h : BldI w lo hi (.slice (some ⟨G, 0, none⟩) n cap) zs) (i : Nat) (y : Int) : BldI (w.setCell ⟨G, i, none⟩ (.int .i64 y)) lo hi (.slice (some ⟨G, 0, none⟩) n cap) (zs.set i y) := by
  obtain ⟨hs, ⟨hlen, r⟩, h3⟩ := h
  refine ⟨by simpa using hs, ⟨by simp [icells], ?_⟩, h3⟩
  rcases r with ⟨r1, _⟩ | ⟨g, cap', cur, e1, e2, e3, e4, e5, e6, e7⟩
  · cases r1
  · have hg : G = g := by have := congrArg Value.ownBlock e1; simpa [Value.ownBlock] using this
    subst hg
    refine .inr ⟨G, cap', cur.setIfInBounds i (.int .i64 y), by rw [List.length_set]; exact e1, e2, Blk.set e3 i _, by rw [List.length_set]; exact e4, e5, by simpa using e6, ?_⟩
    rw [icells_set, ← e7, List.length_set, Array.toList_setIfInBounds, List.take_set]
theorem BldI.blk {w : World} {lo hi : Nat} {v : Value} {zs : List Int} (h : BldI w lo hi v zs) (h0 : 0 < zs.length) :
    ∃ G cap cs, v = .slice (some ⟨G, 0, none⟩) zs.length cap ∧ (lo ≤ G ∧ G < hi) ∧ Blk w G cs 2 ∧ ∀ (i : Nat) z, zs[i]? = some z → w.cell? ⟨G, i, none⟩ = some (.int .i64 z) := by
  obtain ⟨hs, ⟨hlen, r⟩, h3⟩ := h
  rcases r with ⟨_, r1⟩ | ⟨g, cap', cur, rfl, e2, e3, e4, e5, e6, e7⟩
  · omega
  · refine ⟨g, cap', cur, rfl, h3 g rfl, e3, fun i z hz => ?_⟩
    have hi : i < zs.length := (List.getElem?_eq_some_iff.1 hz).1
    have : (icells zs)[i]? = some (.int .i64 z) := by simp [icells, hz]
    rw [← e7, List.getElem?_take_of_lt (by omega)] at this
    rw [Blk.cell e3]
    simpa using this
set_option maxRecDepth 100000 in
set_option maxHeartbeats 1000000 in
theorem l27Identity_any (m : Nat) (hm : m ≤ 1000) (w : World) :
    Calls Tryz.prog 151 #[.int .i64 (m : Int)] w fun e w' => ∃ v, e = .returned v ∧ BldI w' w.heap.size w'.heap.size v (iota m) ∧ Below w.heap.size w w' := by
  have HI := Lib.hid (fun k : Nat => show iota (k + 1) = iota k ++ [(k : Int)] by simp [iota, List.range_succ])
  have HL := Lib.hid (fun k : Nat => length_iota k)
  go_enter Tryz.func151, Tryz.ntmps151
  go_wp2
  go_loopw [3, 4] (fun u i wr => ∃ (k hi : Nat), k ≤ m ∧ i = .int .i64 (k : Int) ∧ Hid (BldI wr w.heap.size hi u (iota k)) ∧ w.heap.size < hi ∧ Below w.heap.size w wr) (fun _ i _ => m - (intOf i).toNat)
  case atStart =>
    refine ⟨0, w.heap.size + 1, Nat.zero_le _, rfl, Lib.hid ?_, by omega, blwT⟩
    have hB : Blk (w.alloc (.cells #[] 2)) w.heap.size #[] 2 := Blk.new _ rfl
    exact BldI.lit (zs := []) hB rfl (by simp) (Nat.le_refl _) (by omega) (by simp)
  case round =>
    obtain ⟨k, hi, hk, rfl, HB, hhi, hb⟩ := hrel
    obtain ⟨a, c, rfl⟩ := HB.out.sized
    rw [HL.out k] at HB ⊢
    have hIs := HB.out.1
    have hlk := HL.out k
    have HLK := Lib.hid hlk
    by_cases hlt : k < m
    · have HX := Lib.hid (HI.out k)
      have i1 : (k : Int) < (m : Int) := by omega
      obtain ⟨Z, hZ⟩ : ∃ Z, iota k = Z := ⟨_, rfl⟩
      rw [hZ] at HB HLK HX
      have hzl : Z.length + 1 ≤ 2000 := by rw [HLK.out]; omega
      clear hZ hlk
      go_wp2_with (refine list_pushI (by rfl) _ _ (by rfl) w.heap.size hi (.slice a k c) Z [(k : Int)] (by rfl) (HB.out.by blwT) wr.heap.size 1 #[.int .i64 (k : Int)] (by rfl) (by rfl) (by omega) (Blk.new _ rfl) (by rfl) (by omega) (by omega) ?_; intro a5 c5 w5 hB5 hw5; have HB5 := Lib.hid hB5; rw [HLK.out]; clear hB5)
      have hsz := hw5.size
      simp only [World.size_alloc] at hsz
      refine ⟨⟨k + 1, w5.heap.size, by omega, by go_num, Lib.hid ?_, by omega, hw5.below (below_al hb _) (by omega)⟩, by simp [intOf]; omega⟩
      rw [HX.out]
      have := HB5.out
      rw [HLK.out] at this
      exact this
    · obtain rfl : k = m := by omega
      have i1 : ¬ (k : Int) < (k : Int) := by omega
      have hs := HB.out
      have HB2 := Lib.hid (show BldI wr w.heap.size wr.heap.size (.slice a k c) (iota k) from ⟨Nat.le_refl _, hs.2.1, fun g hg => by have := hs.2.2 g hg; omega⟩)
      clear hs HB
      go_wp2
      go_ret
      exact ⟨_, rfl, HB2.out, hb⟩
theorem Only.within {g : Nat} {w w' : World} (h : Only g w w') : Within g (g + 1) w w' := ⟨h.os, h.tape, h.output, Nat.le_of_eq h.size.symm, fun k _ hne => h.block k (by omega)⟩
theorem BldI.only {g : Nat} {w w' : World} {lo hi : Nat} {v : Value} {zs : List Int} (ho : Only g w w') (h : BldI w lo hi v zs) (hg : g < lo) : BldI w' lo hi v zs := BldI.past ho.within h (.inl (by omega))
set_option maxRecDepth 100000 in
set_option maxHeartbeats 2000000 in
theorem l27DrawOrder_any (W0 : World) (g : Nat) (sv : Value) (n : Nat) (m : Nat) (hm : m ≤ 200) (w : World) (hD : Src1 W0 g sv n w) :
    Calls Tryz.prog 122 #[.pointer (some ⟨g, 0, none⟩), .int .i64 (m : Int)] w fun e w' => ∃ v zs, e = .returned v ∧ zs.length = m ∧ BldI w' w.heap.size w'.heap.size v zs ∧ Src1 W0 g sv n w' ∧ Within g (g + 1) w w' := by
  have HN := Lib.hid (fun q w h hq => l01Next_any W0 g sv n q w h hq)
  have HID := Lib.hid (fun w => l27Identity_any m (by omega) w)
  have hgl := hD.lt
  have HD := Lib.hid hD
  clear hD
  go_enter Tryz.func122, Tryz.ntmps122
  go_wp2_with fail
  refine (HID.out _).mono ?_
  rintro e w1 ⟨v1, rfl, hB1, hb1⟩
  obtain ⟨a, c, rfl⟩ := hB1.sized
  rw [length_iota] at hB1 ⊢
  have hs1 := hb1.size
  have HB1 := Lib.hid hB1
  have HD1 := Lib.hid (HD.out.by hb1)
  have HW1 : Hid (Within g (g + 1) w w1) := Lib.hid ⟨hb1.os, hb1.tape, hb1.output, hb1.size, fun k hk _ => hb1.block k hk⟩
  have hwr : IntKind.i64.wrap ((m : Int) - 1) = (m : Int) - 1 := by simp [IntKind.wrap, IntKind.bits, IntKind.signed]; omega
  clear hB1 hb1
  go_wp2
  go_loopw [6] (fun i wr => ∃ (z : Int) (zs : List Int), (-1 ≤ z ∧ z < m) ∧ i = .int .i64 z ∧ Hid (zs.length = m) ∧ Hid (BldI wr w.heap.size wr.heap.size (.slice a m c) zs) ∧ Hid (Src1 W0 g sv n wr) ∧ Hid (Within g (g + 1) w wr)) (fun i _ => (intOf i).toNat)
  case atStart => exact ⟨(m : Int) - 1, iota m, by omega, (by first | rfl | rw [hwr] | go_num), Lib.hid (length_iota m), HB1, HD1, HW1⟩
  case round =>
    clear HB1 HD1 HW1
    obtain ⟨z, zs, hz, rfl, HZL, HB, HDr, HWr⟩ := hrel
    by_cases hlt : 0 < z
    · obtain ⟨q, rfl⟩ : ∃ q : Nat, z = q := ⟨z.toNat, by omega⟩
      have hwq : IntKind.i64.wrap ((q : Int) + 1) = (q : Int) + 1 := by simp [IntKind.wrap, IntKind.bits, IntKind.signed]; omega
      go_wp2_with fail
      refine (HN.out _ _ HDr.out (by first | omega | (rw [hwq]; omega))).mono ?_
      rintro e w2 ⟨y, rfl, hy0, hy1, hD2, ho2⟩
      have hyq : y ≤ (q : Int) := by first | omega | (rw [hwq] at hy1; omega)
      obtain ⟨k, rfl⟩ : ∃ k : Nat, y = k := ⟨y.toNat, by omega⟩
      have hB2 := BldI.only ho2 HB.out hgl
      have hs2 := ho2.size
      have hzl := HZL.out
      obtain ⟨G, cap, cs, hv, hG, hBk, hcell⟩ := hB2.blk (by omega)
      rw [hzl] at hv
      obtain ⟨rfl, rfl⟩ : a = some ⟨G, 0, none⟩ ∧ c = cap := by simpa using hv
      obtain ⟨xq, hxq⟩ : ∃ x, zs[q]? = some x := ⟨zs[q]'(by omega), List.getElem?_eq_getElem _⟩
      obtain ⟨xk, hxk⟩ : ∃ x, zs[k]? = some x := ⟨zs[k]'(by omega), List.getElem?_eq_getElem _⟩
      have cq := hcell q xq hxq
      have ck := hcell k xk hxk
      have fG := hBk.free
      have lG := hBk.lt
      have HB2 := Lib.hid hB2
      have HD2 := Lib.hid hD2
      have HO2 := Lib.hid ho2
      have hge : W0.heap.size ≤ G := by
        have := HD.out.2.1.size
        omega
      have hgG : g ≠ G := by omega
      have i1 : (0 : Int) ≤ (q : Int) := by omega
      have i2 : (q : Int) < (m : Int) := by omega
      have i3 : (0 : Int) ≤ (k : Int) := by omega
      have i4 : (k : Int) < (m : Int) := by omega
      have HZL2 := Lib.hid hzl
      clear hv hcell hBk hB2 hD2 ho2 hxq hxk hzl HZL HB HDr
      have h1 := HB2.out.setAt q xk
      have h2 := h1.setAt k xq
      have hW2 : Within g (g + 1) w w2 := HWr.out.on HO2.out.within
      have hWs : ∀ v1 v2, Within g (g + 1) w ((w2.setCell ⟨G, q, none⟩ v1).setCell ⟨G, k, none⟩ v2) := fun v1 v2 => (hW2.new G q v1 (by omega)).new G k v2 (by omega)
      have HFIN := Lib.hid (show BldI ((w2.setCell ⟨G, q, none⟩ (.int .i64 xk)).setCell ⟨G, k, none⟩ (.int .i64 xq)) w.heap.size ((w2.setCell ⟨G, q, none⟩ (.int .i64 xk)).setCell ⟨G, k, none⟩ (.int .i64 xq)).heap.size (.slice (some ⟨G, 0, none⟩) m c) ((zs.set q xk).set k xq) from ⟨Nat.le_refl _, h2.2.1, fun g' hg' => by have := h2.2.2 g' hg'; simp at this ⊢; omega⟩)
      have HWS := Lib.hid (hWs (.int .i64 xk) (.int .i64 xq))
      have HDF := Lib.hid ((HD2.out.apart (o := q) (v := .int .i64 xk) hgG hge).apart (o := k) (v := .int .i64 xq) hgG hge)
      clear h1 h2 hW2 hWs
      by_cases hqk : q = k
      · subst hqk
        obtain rfl : xq = xk := by rw [cq] at ck; simpa using ck
        go_wp2
        exact ⟨⟨(q : Int) - 1, (zs.set q xq).set q xq, by omega, by go_num, Lib.hid (by simp [HZL2.out]), Lib.hid HFIN.out, Lib.hid HDF.out, Lib.hid HWS.out⟩, by simp [intOf]; omega⟩
      · have hkq : ¬ k = q := fun e => hqk e.symm
        go_wp2
        exact ⟨⟨(q : Int) - 1, (zs.set q xk).set k xq, by omega, by go_num, Lib.hid (by simp [HZL2.out]), Lib.hid HFIN.out, Lib.hid HDF.out, Lib.hid HWS.out⟩, by simp [intOf]; omega⟩
    · have i1 : ¬ (0 : Int) < z := hlt
      go_wp2
      go_ret
      first | exact ⟨_, zs, rfl, HZL.out, HB.out, HDr.out, HWr.out⟩ | exact ⟨_, rfl, zs, HZL.out, HB.out, HDr.out, HWr.out⟩
/- The draw of two orders, and of a matching. -/
theorem Src1.withinO {W0 w w' : World} {g n lo hi : Nat} {sv : Value} (h : Src1 W0 g sv n w) (hw : Within lo hi w w') (h1 : W0.heap.size ≤ lo) (h2 : g < lo ∨ hi ≤ g) : Src1 W0 g sv n w' := by
  have hl := h.lt
  obtain ⟨a1, a2, a3, a4, i, x, a5, a6, a7, a8⟩ := h
  exact ⟨a1, hw.below a2 h1, a3, a4, i, x, a5, a6, a7, (hw.block g hl h2).trans a8⟩
theorem below_new (w : World) (o : Obj) : Below w.heap.size w (w.alloc o) := (Below.refl _ w).alloc (Nat.le_refl _) o
theorem Within.newer {a w w' : World} {lo hi lo' hi' : Nat} (h : Within lo hi a w) (h' : Within lo' hi' w w') (hl : a.heap.size ≤ lo') : Within lo hi a w' :=
  ⟨h'.os.trans h.os, h'.tape.trans h.tape, h'.output.trans h.output, Nat.le_trans h.size h'.size, fun k hk hne => (h'.block k (Nat.lt_of_lt_of_le hk h.size) (.inl (by omega))).trans (h.block k hk hne)⟩
theorem Blk.differ2 {w : World} {g : Nat} {a b : Array Value} {T1 T2 : TypeId} (h1 : Blk w g a T1) (h2 : Blk w g b T2) : T1 = T2 := by
  have h := h1.symm.trans h2
  injection h with h
  injection h
theorem OwnR.offM {w : World} {lo hi T o : Nat} {cs : Array Value} {sv v : Value} {zs : List Int} (h : OwnR w lo hi sv zs) (hT : Blk w T cs 29) : OwnR (w.setCell ⟨T, o, none⟩ v) lo hi sv zs := by
  rcases h with h | ⟨g, cap, c2, h1, h2, h3, h4, h5, h6, h7⟩
  · exact .inl h
  · exact .inr ⟨g, cap, c2, h1, h2, h3, h4, h5, h6.apart T o v (fun e => by subst e; exact absurd (h6.differ2 hT) (by decide)), h7⟩
theorem OwnR.threeM {w : World} {lo hi M R : Nat} {cM cR : Array Value} {sv : Value} {zs : List Int} (h : OwnR w lo hi sv zs) (kM : Blk w M cM 29) (kR : Blk w R cR 29) (o : Nat) (y y0 y1 : Value) :
    OwnR (((w.setCell ⟨M, o, none⟩ y).setCell ⟨R, 0, none⟩ y0).setCell ⟨R, 1, none⟩ y1) lo hi sv zs := by
  have h1 := h.offM (o := o) (v := y) kM
  by_cases e : R = M
  · subst e
    exact (h1.offM (kM.set o y)).offM ((kM.set o y).set 0 y0)
  · exact (h1.offM (kR.apart M o y e)).offM ((kR.apart M o y e).set 0 y0)
def MaO (m : Nat) (w : World) (v : Value) (z : List Int × List Int) : Prop := ∃ s1 s2, v = .agg #[s1, s2] ∧ (∃ lo hi, m ≤ lo ∧ OwnR w lo hi s1 z.1) ∧ ∃ lo hi, m ≤ lo ∧ OwnR w lo hi s2 z.2
theorem MaO.ma {m : Nat} {w : World} {v : Value} {z : List Int × List Int} (h : MaO m w v z) : MaV w v z := by
  obtain ⟨s1, s2, e, ⟨_, _, _, h1⟩, _, _, _, h2⟩ := h
  exact ⟨s1, s2, e, h1.sl, h2.sl⟩
theorem MaO.by {m : Nat} {w w' : World} {v : Value} {z : List Int × List Int} (hb : Below w.heap.size w w') (h : MaO m w v z) : MaO m w' v z := by
  obtain ⟨s1, s2, e, ⟨_, _, a1, h1⟩, _, _, a2, h2⟩ := h
  exact ⟨s1, s2, e, ⟨_, _, a1, h1.by hb⟩, _, _, a2, h2.by hb⟩
theorem MaO.past {m lo hi : Nat} {w w' : World} {v : Value} {z : List Int × List Int} (hb : Within lo hi w w') (h : MaO m w v z) (hm : hi ≤ m) : MaO m w' v z := by
  obtain ⟨s1, s2, e, ⟨_, _, a1, h1⟩, _, _, a2, h2⟩ := h
  exact ⟨s1, s2, e, ⟨_, _, a1, h1.past hb (.inr (by omega))⟩, _, _, a2, h2.past hb (.inr (by omega))⟩
theorem MaO.low {m m' : Nat} {w : World} {v : Value} {z : List Int × List Int} (h : MaO m w v z) (hm : m' ≤ m) : MaO m' w v z := by
  obtain ⟨s1, s2, e, ⟨_, _, a1, h1⟩, _, _, a2, h2⟩ := h
  exact ⟨s1, s2, e, ⟨_, _, by omega, h1⟩, _, _, by omega, h2⟩
theorem MaO.offM {m T o : Nat} {cs : Array Value} {w : World} {v u : Value} {z : List Int × List Int} (h : MaO m w v z) (hT : Blk w T cs 29) : MaO m (w.setCell ⟨T, o, none⟩ u) v z := by
  obtain ⟨s1, s2, e, ⟨_, _, a1, h1⟩, _, _, a2, h2⟩ := h
  exact ⟨s1, s2, e, ⟨_, _, a1, h1.offM hT⟩, _, _, a2, h2.offM hT⟩
set_option maxRecDepth 100000 in
set_option maxHeartbeats 2000000 in
theorem l30DrawOrders_any (W0 : World) (g : Nat) (sv : Value) (n : Nat) (p q : Nat) (hp : p ≤ 100) (hq : q ≤ 100) (w : World) (hD : Src1 W0 g sv n w) :
    Calls Tryz.prog 74 #[.pointer (some ⟨g, 0, none⟩), .int .i64 (p : Int), .int .i64 (q : Int)] w fun e w' => ∃ v, e = .returned v ∧ ∃ z, MaO w.heap.size w' v z ∧ z.1.length ≤ 300 ∧ z.2.length ≤ 300 ∧ Src1 W0 g sv n w' ∧ Within g (g + 1) w w' := by
  have HN := Lib.hid (fun m w h hm => l01Next_any W0 g sv n m w h hm)
  have HO := Lib.hid (fun m hm w h => l27DrawOrder_any W0 g sv n m hm w h)
  have hgl := hD.lt
  have hg0 := hD.1
  have HD0 : Hid (Src1 W0 g sv n (w.alloc (.cells #[.slice none 0 0, .slice none 0 0] 29))) := Lib.hid (hD.by ((Below.refl _ w).alloc (Nat.le_refl _) _))
  have kR0 : Blk (w.alloc (.cells #[.slice none 0 0, .slice none 0 0] 29)) w.heap.size #[.slice none 0 0, .slice none 0 0] 29 := Blk.new _ rfl
  have HW0 : Hid (Within g (g + 1) w (w.alloc (.cells #[.slice none 0 0, .slice none 0 0] 29))) := Lib.hid ((Within.refl _ _ _).alloc _)
  have hs0 : (w.alloc (.cells #[.slice none 0 0, .slice none 0 0] 29)).heap.size = w.heap.size + 1 := by simp
  clear hD
  go_enter Tryz.func74, Tryz.ntmps74
  go_wp2_with fail
  refine (HO.out p (by omega) _ HD0.out).mono ?_
  rintro e w1 ⟨v1, z1, rfl, hl1, hB1, hD1, hW1⟩
  obtain ⟨a1, c1, rfl⟩ := hB1.sized
  rw [hl1] at hB1 ⊢
  have HB1 := Lib.hid hB1
  have HD1 := Lib.hid hD1
  have HL1 := Lib.hid hl1
  have hs1 := hW1.size
  have kR1 := hW1.blk kR0 (by omega)
  have HW1 := Lib.hid (HW0.out.on hW1)
  clear hB1 hD1 hl1 hW1 kR0 HW0 HD0
  go_wp2_with fail
  refine (HO.out q (by omega) _ HD1.out).mono ?_
  rintro e w2 ⟨v2, z2, rfl, hl2, hB2, hD2, hW2⟩
  obtain ⟨a2, c2, rfl⟩ := hB2.sized
  rw [hl2] at hB2 ⊢
  have HB2 := Lib.hid hB2
  have HL2 := Lib.hid hl2
  have hs2 := hW2.size
  have kR2 := hW2.blk kR1 (by omega)
  have HB1' := Lib.hid (HB1.out.past hW2 (.inl (by omega)))
  have HW2 := Lib.hid (HW1.out.on hW2)
  have HD2 := Lib.hid hD2
  clear hB2 hD2 hl2 hW2 kR1 HW1 HD1 HB1
  obtain ⟨M, hM⟩ : ∃ M, w2.heap.size = M := ⟨_, rfl⟩
  obtain ⟨w3, hw3⟩ : ∃ z, z = w2.alloc (.cells #[.slice a1 p c1, .slice a2 q c2] 29) := ⟨_, rfl⟩
  have hal : Below w2.heap.size w2 w3 := by rw [hw3]; exact (Below.refl _ w2).alloc (Nat.le_refl _) _
  have kM3 : Blk w3 M #[.slice a1 p c1, .slice a2 q c2] 29 := by rw [hw3]; exact Blk.new _ hM.symm
  have hs3 : w3.heap.size = M + 1 := by rw [hw3]; simp [hM]
  have kR3 := Blk.by hal kR2
  have HD3 := Lib.hid (HD2.out.by hal)
  have HB13 := Lib.hid (HB1'.out.by hal)
  have HB23 := Lib.hid (HB2.out.by hal)
  have HW3 : Hid (Within g (g + 1) w w3) := Lib.hid (HW2.out.on ⟨hal.os, hal.tape, hal.output, hal.size, fun k hk _ => hal.block k hk⟩)
  simp only [hs0] at HB13
  go_wp2_with fail
  (try rw [← hw3])
  (try rw [hM])
  clear hw3 hal kR2 HD2 HB1' HB2 HW2
  refine (HN.out 20 _ HD3.out (by omega)).mono ?_
  rintro e w4 ⟨y, rfl, hy0, hy1, hD4, ho4⟩
  have hs4 := ho4.size
  have kM4 : Blk w4 M _ 29 := ho4.blk kM3 (by omega)
  have kR4 : Blk w4 w.heap.size _ 29 := ho4.blk kR3 (by omega)
  have HB14 := Lib.hid (HB13.out.only ho4 (by omega))
  have HB24 := Lib.hid (HB23.out.only ho4 (by omega))
  have HW4 := Lib.hid (HW3.out.on ho4.within)
  have HD4 := Lib.hid hD4
  clear hD4 ho4 kM3 kR3 HB13 HB23 HW3 HD3
  have qM := kM4.cell
  have fM := kM4.free
  have lM := kM4.lt
  have qR := kR4.cell
  have fR := kR4.free
  have lR := kR4.lt
  have hge0 : W0.heap.size ≤ w.heap.size := by omega
  have hll1 := HL1.out
  have hll2 := HL2.out
  have HLL := Lib.hid (And.intro hll1 hll2)
  clear hll1 hll2
  by_cases y0 : y = 0
  · have e0 : (y == 0) = true := by simpa using y0
    clear y0
    go_upto_region 4 with fail
    have hS : (fun w' : World => w'.cell? ⟨M, 0, none⟩ = some (.slice a1 p c1)) { w4 with drawn := w4.drawn + 1 } := qM 0
    refine wp_region_any (by kernel_rfl) (wpAny_of_E (S := fun w' => w'.cell? ⟨M, 0, none⟩ = some (.slice a1 p c1)) (l := 7) _ _ _ _ ?_)
    change wpAnyE _ _ _ _ _ _ _ _ _ w4.drew
    refine wpAnyE_take (i := 0) (v := ?_) rfl (by kernel_rfl) (fun _ _ _ h => h) (Or.inl ⟨by rfl, ?_⟩) hS ?_
    rotate_left
    · intro w hSw; (try dsimp only at hSw); go_simp; (try with_reducible rfl)
    try simp only [Act.put, List.setIfInBounds_toArray, List.set_cons_zero, List.set_cons_succ]
    refine wpAnyE_take (i := 1) (v := ?_) rfl (by kernel_rfl) (fun _ _ _ h => h) (Or.inl ⟨by rfl, ?_⟩) hS ?_
    rotate_left
    · intro w hSw; (try dsimp only at hSw); go_simp; (try with_reducible rfl)
    try simp only [Act.put, List.setIfInBounds_toArray, List.set_cons_zero, List.set_cons_succ]
    refine wpAnyE_take (i := 2) (v := ?_) rfl (by kernel_rfl) (fun _ _ _ h => h) (Or.inl ⟨by rfl, ?_⟩) hS ?_
    rotate_left
    · intro w hSw; (try dsimp only at hSw); go_simp; (try with_reducible rfl)
    try simp only [Act.put, List.setIfInBounds_toArray, List.set_cons_zero, List.set_cons_succ]
    refine wpAnyE_one (k := 3) (by kernel_rfl) rfl (fun K hK => ?_)
    go_simp
    go_at_call 73
    refine (HN.out 3 _ (HD4.out.by (Below.refl _ w4).drew) (by omega)).mono ?_
    rintro e w5 ⟨x, rfl, hx0, hx1, hD5, ho5⟩
    have hs5 := ho5.size
    simp only [World.size_drew] at hs5
    have kM5 : Blk w5 M _ 29 := ho5.blk (kM4.drew) (by omega)
    have kR5 : Blk w5 w.heap.size _ 29 := ho5.blk (kR4.drew) (by omega)
    have HB15 := Lib.hid ((HB14.out.by (Below.refl _ w4).drew).only ho5 (by omega))
    have HB25 := Lib.hid ((HB24.out.by (Below.refl _ w4).drew).only ho5 (by omega))
    have HD5 := Lib.hid hD5
    have HW5 : Hid (Within g (g + 1) w w5) := Lib.hid ((HW4.out.drewN 1).on ho5.within)
    have qM5 := kM5.cell
    clear hD5 ho5
    go_simp
    refine hK.out _ _ (fun _ => qM5 0) ?_
    try simp only [Act.put, List.setIfInBounds_toArray, List.set_cons_zero, List.set_cons_succ]
    refine wpAnyE_one (k := 4) (by kernel_rfl) rfl (fun K hK => ?_)
    go_simp
    have hal : Below w5.heap.size w5 (w5.alloc (.cells #[.int .i64 x] 2)) := (Below.refl _ w5).alloc (Nat.le_refl _) _
    refine hK.out _ _ (fun _ => cell_by' hal (qM5 0)) ?_
    try simp only [Act.put, List.setIfInBounds_toArray, List.set_cons_zero, List.set_cons_succ]
    refine wpAnyE_one (k := 5) (by kernel_rfl) rfl (fun K hK => ?_)
    obtain ⟨hla, hlb⟩ := HLL.out
    refine step_pushI (by rfl) _ _ (by rfl) _ _ (.slice a1 p c1) z1 [x] (by rfl) (HB15.out.by hal) _ 1 #[.int .i64 x] (by rfl) rfl (by omega) (Blk.new _ (by omega)) rfl (by omega) (by omega) ?_
    intro a6 c6 w6 hB6 hw6
    rw [hla] at hB6 ⊢
    have hs6 := hw6.size
    simp only [World.size_alloc] at hs6
    have kM6 : Blk w6 M _ 29 := hw6.blk (kM5.past _) (by omega)
    have kR6 : Blk w6 w.heap.size _ 29 := hw6.blk (kR5.past _) (by omega)
    have HB6 := Lib.hid hB6
    have HB26 := Lib.hid ((HB25.out.by hal).past hw6 (.inl (by omega)))
    have HD6 := Lib.hid ((HD5.out.by hal).withinO hw6 (by omega) (.inl (by omega)))
    have HW6 : Hid (Within g (g + 1) w w6) := Lib.hid ((HW5.out.alloc _).newer hw6 (by omega))
    have qM6 := kM6.cell
    have fM6 := kM6.free
    have lM6 := kM6.lt
    have fR6 := kR6.free
    have lR6 := kR6.lt
    have qR6 := kR6.cell
    clear hB6 hw6 hal
    refine hK.out _ _ (fun _ => qM6 0) ?_
    try simp only [Act.put, List.setIfInBounds_toArray, List.set_cons_zero, List.set_cons_succ]
    refine wpAnyE_one (k := 6) (by kernel_rfl) rfl (fun K hK => ?_)
    go_simp
    refine hK.out _ _ (fun _ => qM6 0) ?_
    try simp only [Act.put, List.setIfInBounds_toArray, List.set_cons_zero, List.set_cons_succ]
    refine wpAnyE_one (k := 7) (by kernel_rfl) rfl (fun K hK => ?_)
    go_simp
    refine hK.out _ _ (fun h => absurd rfl h) ?_
    refine wpAnyE_done (by kernel_rfl) ?_ _
    clear hS
    have hMR : ¬ M = w.heap.size := by omega
    have hRM : ¬ w.heap.size = M := by omega
    go_wp2
    refine bodyPost_ret (v := .agg #[.slice a6 (p + 1) c6, .slice a2 q c2]) (by simp [results, Tryz.results74, go_sem, *]) rfl ⟨_, rfl, (z1 ++ [x], z2), ⟨_, _, rfl, ?_, ?_⟩, ?_, ?_, ?_, ?_⟩
    · exact ⟨_, _, by omega, OwnR.threeM (HB6.out).own kM6 kR6 _ _ _ _⟩
    · exact ⟨_, _, by omega, OwnR.threeM (HB26.out).own kM6 kR6 _ _ _ _⟩
    · simp; omega
    · simp; omega
    · exact (((HD6.out).apart (by omega) (by omega)).apart (by omega) (by omega)).apart (by omega) (by omega)
    · exact (((HW6.out).newer (Within.off _) (by omega)).newer (Within.off _) (by omega)).newer (Within.off _) (by omega)
  · have e0 : (y == 0) = false := by simpa using y0
    by_cases y1 : y = 1
    · have e1 : (y == 1) = true := by simpa using y1
      clear y0 y1
      have hMR : ¬ M = w.heap.size := by omega
      have hRM : ¬ w.heap.size = M := by omega
      obtain ⟨hla, hlb⟩ := HLL.out
      go_wp2_with (refine list_pushI (by rfl) _ _ (by rfl) _ _ (.slice a2 q c2) z2 [-1] (by rfl) (HB24.out.by blwT) _ 1 #[.int .i64 (-1)] (by rfl) (by rfl) (by omega) (Blk.new _ (by omega)) (by rfl) (by omega) (by omega) ?_; intro a6 c6 w6 hB6 hw6; rw [hlb] at hB6 ⊢; have hs6 := hw6.size; simp only [World.size_alloc] at hs6; have kM6 : Blk w6 M _ 29 := hw6.blk (kM4.past _) (by omega); have kR6 : Blk w6 w.heap.size _ 29 := hw6.blk (kR4.past _) (by omega); have HB6 := Lib.hid hB6; have HB16 := Lib.hid ((HB14.out.by (below_new w4 _)).past hw6 (.inr (by omega))); have HD6 := Lib.hid ((HD4.out.by (below_new w4 _)).withinO hw6 (by omega) (.inl (by omega))); have HW6 : Hid (Within g (g + 1) w w6) := Lib.hid ((HW4.out.alloc _).newer hw6 (by omega)); have qM6 := kM6.cell; have fM6 := kM6.free; have lM6 := kM6.lt; have fR6 := kR6.free; have lR6 := kR6.lt; have qR6 := kR6.cell; clear hB6 hw6)
      refine bodyPost_ret (v := .agg #[.slice a1 p c1, .slice a6 (q + 1) c6]) (by simp [results, Tryz.results74, go_sem, *]) rfl ⟨_, rfl, (z1, z2 ++ [-1]), ⟨_, _, rfl, ?_, ?_⟩, ?_, ?_, ?_, ?_⟩
      · exact ⟨_, _, by omega, OwnR.threeM (HB16.out).own kM6 kR6 _ _ _ _⟩
      · exact ⟨_, _, by omega, OwnR.threeM (HB6.out).own kM6 kR6 _ _ _ _⟩
      · simp; omega
      · simp; omega
      · exact (((HD6.out).apart (by omega) (by omega)).apart (by omega) (by omega)).apart (by omega) (by omega)
      · exact (((HW6.out).newer (Within.off _) (by omega)).newer (Within.off _) (by omega)).newer (Within.off _) (by omega)
    · have e1 : (y == 1) = false := by simpa using y1
      by_cases y2 : y = 2
      · have e2 : (y == 2) = true := by simpa using y2
        clear y0 y1 y2
        have hMR : ¬ M = w.heap.size := by omega
        have hRM : ¬ w.heap.size = M := by omega
        obtain ⟨hla, hlb⟩ := HLL.out
        go_wp2_with fail
        refine (HN.out 2 _ HD4.out (by omega)).mono ?_
        rintro e w5 ⟨x, rfl, hx0, hx1, hD5, ho5⟩
        obtain ⟨k, rfl⟩ : ∃ k : Nat, x = k := ⟨x.toNat, by omega⟩
        have hs5 := ho5.size
        have kM5 : Blk w5 M _ 29 := ho5.blk kM4 (by omega)
        have kR5 : Blk w5 w.heap.size _ 29 := ho5.blk kR4 (by omega)
        have HB25 := Lib.hid (HB24.out.only ho5 (by omega))
        have HD5 := Lib.hid hD5
        have HW5 : Hid (Within g (g + 1) w w5) := Lib.hid (HW4.out.on ho5.within)
        have hwk : IntKind.i64.wrap (24 + (k : Int)) = ((24 + k : Nat) : Int) := by simp [IntKind.wrap, IntKind.bits, IntKind.signed]; omega
        clear hD5 ho5
        go_wp2_with fail
        (try rw [hwk])
        (try rw [show (24 : Int) + (k : Int) = ((24 + k : Nat) : Int) by omega])
        refine (HO.out (24 + k) (by omega) _ HD5.out).mono ?_
        rintro e w6 ⟨v6, z6, rfl, hl6, hB6, hD6, hW6⟩
        obtain ⟨a6, c6, rfl⟩ := hB6.sized
        have hs6 := hW6.size
        have kM6 : Blk w6 M _ 29 := hW6.blk kM5 (by omega)
        have kR6 : Blk w6 w.heap.size _ 29 := hW6.blk kR5 (by omega)
        have HB6 := Lib.hid hB6
        have HB26 := Lib.hid (HB25.out.past hW6 (.inl (by omega)))
        have HD6 := Lib.hid hD6
        have HW6 : Hid (Within g (g + 1) w w6) := Lib.hid (HW5.out.on hW6)
        have HL6 := Lib.hid hl6
        have qM6 := kM6.cell
        have fM6 := kM6.free
        have lM6 := kM6.lt
        have fR6 := kR6.free
        have lR6 := kR6.lt
        have qR6 := kR6.cell
        clear hB6 hD6 hW6 hl6
        go_wp2
        have hl6 := HL6.out
        refine bodyPost_ret (v := .agg #[.slice a6 z6.length c6, .slice a2 q c2]) (by simp [results, Tryz.results74, go_sem, *]) rfl ⟨_, rfl, (z6, z2), ⟨_, _, rfl, ?_, ?_⟩, ?_, ?_, ?_, ?_⟩
        · exact ⟨_, _, by omega, OwnR.threeM (HB6.out).own kM6 kR6 _ _ _ _⟩
        · exact ⟨_, _, by omega, OwnR.threeM (HB26.out).own kM6 kR6 _ _ _ _⟩
        · simp; omega
        · simp; omega
        · exact (((HD6.out).apart (by omega) (by omega)).apart (by omega) (by omega)).apart (by omega) (by omega)
        · exact (((HW6.out).newer (Within.off _) (by omega)).newer (Within.off _) (by omega)).newer (Within.off _) (by omega)
      · have e2 : (y == 2) = false := by simpa using y2
        clear y0 y1 y2
        obtain ⟨hla, hlb⟩ := HLL.out
        go_wp2
        refine bodyPost_ret (v := .agg #[.slice a1 p c1, .slice a2 q c2]) (by simp [results, Tryz.results74, go_sem, *]) rfl ⟨_, rfl, (z1, z2), ⟨_, _, rfl, ?_, ?_⟩, ?_, ?_, ?_, ?_⟩
        · exact ⟨_, _, by omega, (BldI.past (Within.off _) (BldI.past (Within.off _) (HB14.out) (by omega)) (by omega)).own⟩
        · exact ⟨_, _, by omega, (BldI.past (Within.off _) (BldI.past (Within.off _) (HB24.out) (by omega)) (by omega)).own⟩
        · simp; omega
        · simp; omega
        · exact ((HD4.out).apart (by omega) (by omega)).apart (by omega) (by omega)
        · exact ((HW4.out).newer (Within.off _) (by omega)).newer (Within.off _) (by omega)
/- The draw of a matching for a netlist. -/
theorem OwnR.wideM {w : World} {lo hi lo' hi' : Nat} {v : Value} {zs : List Int} (h : OwnR w lo hi v zs) (h1 : lo' ≤ lo) (h2 : hi ≤ hi') : OwnR w lo' hi' v zs := by
  rcases h with h | ⟨g, cap, cs, e1, e2, e3, e4⟩
  · exact .inl h
  · exact .inr ⟨g, cap, cs, e1, by omega, by omega, e4⟩
set_option maxRecDepth 100000 in
set_option maxHeartbeats 8000000 in
theorem l30DrawMatching_any (W0 : World) (g : Nat) (sv : Value) (n : Nat) (nets : Int) (a1 a2 : Option Addr) (L L2 c1 c2 : Nat) (hn0 : -1000 ≤ nets) (hn1 : nets ≤ 200) (hL : L ≤ 200) (w : World) (hD : Src1 W0 g sv n w) :
    Calls Tryz.prog 72 #[.pointer (some ⟨g, 0, none⟩), .agg #[.int .i64 nets, .slice a1 L c1, .slice a2 L2 c2]] w fun e w' => ∃ v1 v2 z1 z2, e = .returned (.agg #[v1, v2]) ∧ z1.length ≤ 200 ∧ z2.length ≤ 200 ∧ OwnR w' w.heap.size w'.heap.size v1 z1 ∧ OwnR w' w.heap.size w'.heap.size v2 z2 ∧ Src1 W0 g sv n w' ∧ Within g (g + 1) w w' := by
  have HO := Lib.hid (fun m hm w h => l27DrawOrder_any W0 g sv n m hm w h)
  have hgl := hD.lt
  obtain ⟨m, hm⟩ : ∃ m : Nat, m = nets.toNat := ⟨_, rfl⟩
  have hm2 : m ≤ 200 := by omega
  have kB : Blk ((w.alloc (.cells #[.int .i64 nets, .slice a1 L c1, .slice a2 L2 c2] 35)).alloc (.cells #[.slice none 0 0, .slice none 0 0] 29)) w.heap.size #[.int .i64 nets, .slice a1 L c1, .slice a2 L2 c2] 35 := (Blk.new _ rfl).past _
  have kR : Blk ((w.alloc (.cells #[.int .i64 nets, .slice a1 L c1, .slice a2 L2 c2] 35)).alloc (.cells #[.slice none 0 0, .slice none 0 0] 29)) (w.heap.size + 1) #[.slice none 0 0, .slice none 0 0] 29 := Blk.new _ (by simp)
  have hW0 : Within g (g + 1) w ((w.alloc (.cells #[.int .i64 nets, .slice a1 L c1, .slice a2 L2 c2] 35)).alloc (.cells #[.slice none 0 0, .slice none 0 0] 29)) := ((Within.refl _ _ _).alloc _).alloc _
  have HD0 := Lib.hid ((hD.by ((Below.refl _ _).alloc (Nat.le_refl _) (.cells #[.int .i64 nets, .slice a1 L c1, .slice a2 L2 c2] 35))).by ((Below.refl _ _).alloc (Nat.le_refl _) (.cells #[.slice none 0 0, .slice none 0 0] 29)))
  have hs0 : ((w.alloc (.cells #[.int .i64 nets, .slice a1 L c1, .slice a2 L2 c2] 35)).alloc (.cells #[.slice none 0 0, .slice none 0 0] 29)).heap.size = w.heap.size + 2 := by simp
  have HM := Lib.hid hm
  have hg0 : W0.heap.size ≤ g := hD.1
  clear hD
  go_enter Tryz.func72, Tryz.ntmps72
  go_upto_region 1 with fail
  generalize (w.alloc (.cells #[.int .i64 nets, .slice a1 L c1, .slice a2 L2 c2] 35)).alloc (.cells #[.slice none 0 0, .slice none 0 0] 29) = wA at *
  have hsA : w.heap.size + 2 ≤ wA.heap.size := by omega
  clear hs0 hm
  have hS : (fun w' : World => Blk w' w.heap.size #[.int .i64 nets, .slice a1 L c1, .slice a2 L2 c2] 35) { wA with drawn := wA.drawn + 1 } := kB.drew
  refine wp_region_any (by kernel_rfl) (wpAny_of_E (S := fun w' : World => Blk w' w.heap.size #[.int .i64 nets, .slice a1 L c1, .slice a2 L2 c2] 35) (l := 11) _ _ _ _ ?_)
  change wpAnyE _ _ _ _ _ _ _ _ _ wA.drew
  refine wpAnyE_takeL (i := 0) (v := ?_) rfl (by kernel_rfl) (fun _ _ _ h => h) (Or.inl ⟨by rfl, ?_⟩) hS ?_
  rotate_left
  · intro w hSw; (try dsimp only at hSw); have hc0 := hSw.cell 0; have hc1 := hSw.cell 1; have hl := hSw.lt; clear hSw; go_simp; (try with_reducible rfl)
  try simp only [Act.put, List.setIfInBounds_toArray, List.set_cons_zero, List.set_cons_succ]
  refine wpAnyE_takeL (i := 1) (v := ?_) rfl (by kernel_rfl) (fun _ _ _ h => h) (Or.inl ⟨by rfl, ?_⟩) hS ?_
  rotate_left
  · intro w hSw; (try dsimp only at hSw); have hc0 := hSw.cell 0; have hc1 := hSw.cell 1; have hl := hSw.lt; clear hSw; go_simp; (try with_reducible rfl)
  try simp only [Act.put, List.setIfInBounds_toArray, List.set_cons_zero, List.set_cons_succ]
  refine wpAnyE_takeL (i := 2) (v := ?_) rfl (by kernel_rfl) (fun _ _ _ h => h) (Or.inl ⟨by rfl, ?_⟩) hS ?_
  rotate_left
  · intro w hSw; (try dsimp only at hSw); have hc0 := hSw.cell 0; have hc1 := hSw.cell 1; have hl := hSw.lt; clear hSw; go_simp; (try with_reducible rfl)
  try simp only [Act.put, List.setIfInBounds_toArray, List.set_cons_zero, List.set_cons_succ]
  refine wpAnyE_takeL (i := 3) (v := .int .i64 (m : Int)) rfl (by kernel_rfl) (fun _ _ _ h => h) (Or.inl ⟨by rfl, ?_⟩) hS ?_
  · intro w hSw
    have hm := HM.out
    have hmm : (m : Int) = max 0 nets := by omega
    go_simp
    split <;> omega
  try simp only [Act.put, List.setIfInBounds_toArray, List.set_cons_zero, List.set_cons_succ]
  refine wpAnyE_takeL (i := 5) (v := ?_) rfl (by kernel_rfl) (fun _ _ _ h => h) (Or.inl ⟨by rfl, ?_⟩) hS ?_
  rotate_left
  · intro w hSw; (try dsimp only at hSw); have hc0 := hSw.cell 0; have hc1 := hSw.cell 1; have hl := hSw.lt; clear hSw; go_simp; (try with_reducible rfl)
  try simp only [Act.put, List.setIfInBounds_toArray, List.set_cons_zero, List.set_cons_succ]
  refine wpAnyE_takeL (i := 6) (v := ?_) rfl (by kernel_rfl) (fun _ _ _ h => h) (Or.inl ⟨by rfl, ?_⟩) hS ?_
  rotate_left
  · intro w hSw; (try dsimp only at hSw); have hc0 := hSw.cell 0; have hc1 := hSw.cell 1; have hl := hSw.lt; clear hSw; go_simp; (try with_reducible rfl)
  try simp only [Act.put, List.setIfInBounds_toArray, List.set_cons_zero, List.set_cons_succ]
  refine wpAnyE_takeL (i := 7) (v := ?_) rfl (by kernel_rfl) (fun _ _ _ h => h) (Or.inl ⟨by rfl, ?_⟩) hS ?_
  rotate_left
  · intro w hSw; (try dsimp only at hSw); have hc0 := hSw.cell 0; have hc1 := hSw.cell 1; have hl := hSw.lt; clear hSw; go_simp; (try with_reducible rfl)
  try simp only [Act.put, List.setIfInBounds_toArray, List.set_cons_zero, List.set_cons_succ]
  refine wpAnyE_takeL (i := 8) (v := ?_) rfl (by kernel_rfl) (fun _ _ _ h => h) (Or.inl ⟨by rfl, ?_⟩) hS ?_
  rotate_left
  · intro w hSw; (try dsimp only at hSw); have hc0 := hSw.cell 0; have hc1 := hSw.cell 1; have hl := hSw.lt; clear hSw; go_simp; (try with_reducible rfl)
  try simp only [Act.put, List.setIfInBounds_toArray, List.set_cons_zero, List.set_cons_succ]
  refine wpAnyE_oneL (k := 4) (by kernel_rfl) rfl (fun K hK => ?_)
  go_simp
  go_at_call 122
  refine (HO.out m hm2 _ (HD0.out.by (below_of_drewN wA 1))).mono ?_
  rintro e w1 ⟨v1, z1, rfl, hl1, hB1, hD1, hW1⟩
  obtain ⟨b1, d1, rfl⟩ := hB1.sized
  have kB1 : Blk w1 w.heap.size _ 35 := hW1.blk kB.drew (by omega)
  have kR1 : Blk w1 (w.heap.size + 1) _ 29 := hW1.blk kR.drew (by omega)
  have HB1 := Lib.hid (show BldI w1 wA.heap.size w1.heap.size _ _ from hB1)
  have HD1 := Lib.hid hD1
  have HW1 := Lib.hid ((hW0.drewN 1).on hW1)
  have HL1 := Lib.hid hl1
  have hs1 : wA.heap.size ≤ w1.heap.size := hW1.size
  clear hB1 hD1 hl1 hW1 kB kR HD0 hW0
  refine hK.out _ _ (fun _ => kB1) ?_
  try simp only [Act.put, List.setIfInBounds_toArray, List.set_cons_zero, List.set_cons_succ]
  refine wpAnyE_oneL (k := 9) (by kernel_rfl) rfl (fun K hK => ?_)
  go_simp
  go_at_call 122
  refine (HO.out L hL _ HD1.out).mono ?_
  rintro e w2 ⟨v2, z2, rfl, hl2, hB2, hD2, hW2⟩
  obtain ⟨b2, d2, rfl⟩ := hB2.sized
  have kB2 : Blk w2 w.heap.size _ 35 := hW2.blk kB1 (by omega)
  have kR2 : Blk w2 (w.heap.size + 1) _ 29 := hW2.blk kR1 (by omega)
  have HO1 := Lib.hid (HB1.out.past hW2 (.inl (by omega))).own
  have HO2 := Lib.hid hB2.own
  have HD2 := Lib.hid hD2
  have HW2 := Lib.hid (HW1.out.on hW2)
  have HL2 := Lib.hid hl2
  have hs2 := hW2.size
  clear hB2 hD2 hl2 hW2 kB1 kR1 HB1 HD1 HW1 hS
  refine hK.out _ _ (fun _ => kB2) ?_
  try simp only [Act.put, List.setIfInBounds_toArray, List.set_cons_zero, List.set_cons_succ]
  refine wpAnyE_oneL (k := 10) (by kernel_rfl) rfl (fun K hK => ?_)
  go_simp
  refine hK.out _ _ (fun _ => kB2) ?_
  try simp only [Act.put, List.setIfInBounds_toArray, List.set_cons_zero, List.set_cons_succ]
  have qR := kR2.cell
  have fR := kR2.free
  have lR := kR2.lt
  refine wpAnyE_oneL (k := 11) (by kernel_rfl) rfl (fun K hK => ?_)
  go_simp
  refine hK.out _ _ (fun h => absurd rfl h) ?_
  refine wpAnyE_done (by kernel_rfl) ?_ _
  go_wp2
  have hfin : ∀ (y0 y1 : Value), ((w2.setCell ⟨w.heap.size + 1, 0, none⟩ y0).setCell ⟨w.heap.size + 1, 1, none⟩ y1).heap.size = w2.heap.size := fun _ _ => by simp
  refine bodyPost_ret (v := .agg #[.slice b1 z1.length d1, .slice b2 z2.length d2]) (by simp [results, Tryz.results72, go_sem, *]) rfl ⟨_, _, z1, z2, rfl, by have := HL1.out; omega, by have := HL2.out; omega, ?_, ?_, ?_, ?_⟩
  · exact OwnR.wideM ((HO1.out.offM kR2).offM (kR2.set _ _)) (by omega) (by rw [hfin]; omega)
  · exact OwnR.wideM ((HO2.out.offM kR2).offM (kR2.set _ _)) (by omega) (by rw [hfin]; omega)
  · exact (HD2.out.apart (by omega) (by omega)).apart (by omega) (by omega)
  · exact (HW2.out.new _ _ _ (by omega)).new _ _ _ (by omega)
def BldD (w : World) (lo hi : Nat) (v : Value) (ds : List Dv) : Prop := hi ≤ w.heap.size ∧ ∃ (pvs : List Value) (f : Nat → Nat), w.ownsRow lo 62 4 v ds.length (dcells ds pvs) ∧ pvs.length = ds.length ∧ (∀ g, v.ownBlock = some g → lo ≤ g ∧ g < hi) ∧
  (∀ i x pv, ds[i]? = some x → pvs[i]? = some pv → BldI w (f i) (f i + 1) pv x.pins ∧ (lo ≤ f i ∧ f i < hi) ∧ v.ownBlock ≠ some (f i)) ∧ (∀ i j, i < ds.length → j < ds.length → i ≠ j → f i ≠ f j)
section
variable {w w' : World} {lo hi : Nat} {v : Value} {ds : List Dv}
theorem BldD.nil (w : World) (lo : Nat) : BldD w lo w.heap.size (.slice none 0 0) [] :=
  ⟨Nat.le_refl _, [], fun _ => 0, World.ownsRow_nil w lo _ 4, rfl, (by intro g h; cases h), (by intro i x pv h; simp at h), (by intro i j h; simp at h)⟩
theorem BldD.by (hb : Below w.heap.size w w') (h : BldD w lo hi v ds) : BldD w' lo hi v ds := by
  obtain ⟨hs, pvs, f, h1, h2, h3, h4, h5⟩ := h
  refine ⟨Nat.le_trans hs hb.size, pvs, f, row_same h1 (fun g hg => hb.block g (by have := h3 g hg; omega)), h2, h3, fun i x pv hx hp => ?_, h5⟩
  obtain ⟨a, b, c⟩ := h4 i x pv hx hp
  exact ⟨BldI.by hb a, b, c⟩
theorem BldD.past {lo' hi' : Nat} (hb : Within lo' hi' w w') (h : BldD w lo hi v ds) (hd : hi' ≤ lo ∨ hi ≤ lo') : BldD w' lo hi v ds := by
  obtain ⟨hs, pvs, f, h1, h2, h3, h4, h5⟩ := h
  refine ⟨Nat.le_trans hs hb.size, pvs, f, row_same h1 (fun g hg => hb.block g (by have := h3 g hg; omega) (by have := h3 g hg; omega)), h2, h3, fun i x pv hx hp => ?_, h5⟩
  obtain ⟨a, b, c⟩ := h4 i x pv hx hp
  exact ⟨BldI.past hb a (by omega), b, c⟩
theorem BldD.sized (h : BldD w lo hi v ds) : ∃ a c, v = .slice a ds.length c := by
  obtain ⟨_, pvs, f, ⟨_, h1⟩, _⟩ := h
  rcases h1 with ⟨h1, h2⟩ | ⟨g, cap, cur, e1, _⟩
  · exact ⟨none, 0, by rw [h1, h2]⟩
  · exact ⟨_, _, e1⟩
theorem BldD.own (h : BldD w lo hi v ds) : OwnDs w lo hi v ds := by
  obtain ⟨hs, pvs, f, ⟨hlen, h1⟩, h2, h3, h4, h5⟩ := h
  rcases h1 with ⟨h1, hn⟩ | ⟨g, cap, cur, e1, e2, e3, e4, e5, e6, e7⟩
  · exact .inl ⟨_, _, h1, List.eq_nil_of_length_eq_zero hn⟩
  · have hcur : ∀ (j : Nat) u, (dcells ds pvs)[j]? = some u → cur[j]? = some u := by
      intro j u hu
      rw [← e7] at hu
      have hj : j < ds.length * 4 := by
        have := (List.getElem?_eq_some_iff.1 hu).1
        rw [List.length_take] at this; omega
      rw [List.getElem?_take_of_lt hj] at hu
      simpa using hu
    refine .inr ⟨g, cap, cur, f, e1, h3 g (by rw [e1]; rfl), e4, e5, e3, fun i x hx => ?_, h5⟩
    have hi : i < ds.length := (List.getElem?_eq_some_iff.1 hx).1
    obtain ⟨pv, hp⟩ : ∃ pv, pvs[i]? = some pv := ⟨pvs[i]'(by omega), List.getElem?_eq_getElem (by omega)⟩
    obtain ⟨a, b, c⟩ := h4 i x pv hx hp
    obtain ⟨q0, q1, q2, q3⟩ := dcells_get ds pvs i x pv hx hp
    refine ⟨⟨pv, ⟨hcur _ _ q0, hcur _ _ q1, hcur _ _ q2, hcur _ _ q3⟩, a.own⟩, b.1, b.2, fun e => c (by rw [e1, e]; rfl)⟩
end
theorem step_pushD {ops : Array Oper} {o : Oper} {a : Act} {w : World} {K : Act → World → Prop} {Q : Exit → Act → World → Prop} {E : Prop} (hgd : o.guard = none) (s x : Operand)
    (ho : o.op = .call { callee := .builtin .append, args := #[s, x], argTypes := #[32, 32] })
    (lo hi : Nat) (v : Value) (ds : List Dv) (hs : a.eval s = v) (hB : BldD w lo hi v ds) (nb : Nat) (d : Dv) (pv : Value) (fb : Nat) (hx : a.eval x = .slice (some ⟨nb, 0, none⟩) 1 1)
    (hnb : Blk w nb #[.int .i64 d.kind, pv, .int .i64 d.wd, .int .i64 d.len] 62) (hpv : BldI w fb (fb + 1) pv d.pins) (hlo : lo ≤ hi) (hhi : hi ≤ fb) (hfb : fb < w.heap.size) (hn : ds.length ≤ 1000)
    (hK : ∀ a' c' w', BldD w' lo w'.heap.size (.slice a' (ds.length + 1) c') (ds ++ [d]) → Within lo hi w w' → K (a.put o.dst (.slice a' (ds.length + 1) c')) w') :
    if Region.wanted o (yielded ops a.tmps) = true then Oper.wp Tryz.prog o a w K Q else E := by
  obtain ⟨i0, hi0, hz0, hz1, hz2⟩ := info_parts infoDev
  obtain ⟨hsz, pvs, f, h1, h2, h3, h4, h5⟩ := hB
  have hone : pv.oneCell' = true := by
    obtain ⟨_, _, rfl⟩ := hpv.sized
    rfl
  refine step_append_lies w hgd s x 32 ho lo 62 i0 _ 4 48 Tryz.underlying32 hi0 hz0 hz1 hz2 rfl (by decide) v ds.length _ hs h1 ⟨nb, 0, none⟩ 1 1 [.int .i64 d.kind, pv, .int .i64 d.wd, .int .i64 d.len] hx rfl (World.news_of_block (cs := #[.int .i64 d.kind, pv, .int .i64 d.wd, .int .i64 d.len]) hnb) ?_ (by decide) (by unfold maxLen; omega) (by omega) (by omega) w.heap.size rfl ?_
  · intro u hu
    simp at hu
    rcases hu with rfl | rfl | rfl | rfl
    · rfl
    · exact hone
    · rfl
    · rfl
  · intro g cap w' hrow hgrow hg hgl
    have hW : Within lo hi w w' := grown_within hgrow h3
    refine hK (some ⟨g, 0, none⟩) cap w' ⟨Nat.le_refl _, pvs ++ [pv], fun i => if i = ds.length then fb else f i, ?_, by simp [h2], ?_, ?_, ?_⟩ hW
    · rw [List.length_append, List.length_singleton, dcells_push ds pvs d pv h2]; exact hrow
    · intro g' hg'
      have : g = g' := by injection hg'
      subst this
      rcases hg with h | h
      · have := h3 g h; omega
      · omega
    · intro i y pv' hy hp'
      by_cases hi' : i < ds.length
      · rw [List.getElem?_append_left hi'] at hy
        rw [List.getElem?_append_left (by omega)] at hp'
        obtain ⟨a1, b1, c1⟩ := h4 i y pv' hy hp'
        simp only [if_neg (show i ≠ ds.length by omega)]
        have hsep : ∀ g0, v.ownBlock = some g0 → g0 ≠ f i := fun g0 e1 e2 => c1 (by rw [e1, e2])
        refine ⟨?_, by have := hgrow.size; omega, ?_⟩
        · cases hv : v.ownBlock with
          | none => exact BldI.by ⟨hgrow.os, hgrow.tape, hgrow.output, hgrow.size, fun k hk => hgrow.block k hk (by rw [hv]; simp)⟩ a1
          | some g0 => exact BldI.past (grown_within (lo := g0) (hi := g0 + 1) hgrow (fun g1 e => by rw [hv] at e; cases e; omega)) a1 (by have := hsep g0 hv; omega)
        · intro e
          have : g = f i := by injection e
          rcases hg with h | h
          · exact hsep g h this
          · omega
      · have hil : i < (ds ++ [d]).length := (List.getElem?_eq_some_iff.1 hy).1
        simp at hil
        obtain rfl : i = ds.length := by omega
        rw [List.getElem?_append_right (Nat.le_refl _)] at hy
        rw [List.getElem?_append_right (by omega)] at hp'
        simp [h2] at hy hp'
        subst hy hp'
        simp only [if_true]
        refine ⟨BldI.past hW hpv (by omega), by have := hgrow.size; omega, ?_⟩
        intro e
        have : g = fb := by injection e
        rcases hg with h | h
        · have := h3 g h; omega
        · omega
    · intro i j hi' hj' hij
      simp at hi' hj'
      by_cases e1 : i = ds.length
      · subst e1
        obtain ⟨y, hy⟩ : ∃ y, ds[j]? = some y := ⟨ds[j]'(by omega), List.getElem?_eq_getElem (by omega)⟩
        obtain ⟨p, hp⟩ : ∃ p, pvs[j]? = some p := ⟨pvs[j]'(by omega), List.getElem?_eq_getElem (by omega)⟩
        have := (h4 j y p hy hp).2.1
        simp only [if_true, if_neg (show j ≠ ds.length by omega)]
        omega
      · by_cases e2 : j = ds.length
        · subst e2
          obtain ⟨y, hy⟩ : ∃ y, ds[i]? = some y := ⟨ds[i]'(by omega), List.getElem?_eq_getElem (by omega)⟩
          obtain ⟨p, hp⟩ : ∃ p, pvs[i]? = some p := ⟨pvs[i]'(by omega), List.getElem?_eq_getElem (by omega)⟩
          have := (h4 i y p hy hp).2.1
          simp only [if_true, if_neg e1]
          omega
        · simp only [if_neg e1, if_neg e2]
          exact h5 i j (by omega) (by omega) hij
theorem list_pushD {ops : Array Oper} {rest : List Oper} {o : Oper} {a : Act} {w : World} {Q : Exit → Act → World → Prop} (hgd : o.guard = none) (s x : Operand)
    (ho : o.op = .call { callee := .builtin .append, args := #[s, x], argTypes := #[32, 32] })
    (lo hi : Nat) (v : Value) (ds : List Dv) (hs : a.eval s = v) (hB : BldD w lo hi v ds) (nb : Nat) (d : Dv) (pv : Value) (fb : Nat) (hx : a.eval x = .slice (some ⟨nb, 0, none⟩) 1 1)
    (hnb : Blk w nb #[.int .i64 d.kind, pv, .int .i64 d.wd, .int .i64 d.len] 62) (hpv : BldI w fb (fb + 1) pv d.pins) (hlo : lo ≤ hi) (hhi : hi ≤ fb) (hfb : fb < w.heap.size) (hn : ds.length ≤ 1000)
    (hK : ∀ a' c' w', BldD w' lo w'.heap.size (.slice a' (ds.length + 1) c') (ds ++ [d]) → Within lo hi w w' → wpList Tryz.prog ops Q rest (a.put o.dst (.slice a' (ds.length + 1) c')) w') : wpList Tryz.prog ops Q (o :: rest) a w :=
  wpList_plain hgd fun K hk => by
    have h := step_pushD (ops := ops) (K := K) (Q := Q) (E := False) hgd s x ho lo hi v ds hs hB nb d pv fb hx hnb hpv hlo hhi hfb hn (fun a' c' w' h1 h2 => hk _ _ (hK a' c' w' h1 h2))
    rwa [if_pos (by simp [Region.wanted, hgd])] at h
/- l27Own with pins that may grow afterwards. -/
section
variable {w : World} {sv : Value} {zs : List Int}
theorem clone_runB (h : IntSl w sv zs) (hne : zs ≠ []) (hn : zs.length ≤ 1048576) (b : Nat) (ty : TypeId) :
    ∃ v w', (Builtin.append_ #[27, 27] ty #[.slice (some ⟨b, 0, none⟩) 0 0, sv]).run Tryz.prog w = .ok v w' ∧ BldI w' w.heap.size (w.heap.size + 1) v zs ∧ w'.heap.size = w.heap.size + 1 ∧ Below w.heap.size w w' := by
  obtain ⟨i0, hi, hz0, hz1, hz2⟩ := info_parts infoI
  have hS := src_ints h
  have hl : 0 < zs.length := List.length_pos_iff.2 hne
  have hr := run_append_grow_src (P := Tryz.prog) w 27 27 ty 2 i0 _ Tryz.underlying27 hi hz0 (some ⟨b, 0, none⟩) 0 0 [] (by rw [hz1]; exact run_firstCells_some w.drew 1 0 _ 0 0 [] rfl (by simp)) sv zs.length (zs.map (Value.int .i64)) (by rw [hz1]; exact hS) (by omega) (by omega)
    (by rw [hz2]; simp only [Builtin.nextslicecap, Nat.mul_zero, Nat.zero_add]; rw [if_pos (by omega)]; omega)
  have hcap := grownCap_ge w (0 + zs.length) 0 2
  have hmx := grownCap_le_maxLen w (0 + zs.length) 0 2 (by unfold maxLen; omega)
  refine ⟨_, _, hr, ⟨by simp, ⟨by simp [icells], .inr ⟨w.heap.size, grownCap w (0 + zs.length) 0 2, _, by rw [Nat.zero_add], Nat.le_refl _, Blk.new _ rfl, by omega, hmx, ?_, ?_⟩⟩, ?_⟩, by simp, ((Below.refl _ _).drew).alloc (Nat.le_refl _) _⟩
  · rw [Nat.zero_add] at hcap
    simp [Builtin.zeroCells, Value.cells]
    omega
  · rw [Array.toList_append, Nat.mul_one, List.take_append_of_le_length (by simp), List.take_of_length_le (by simp)]
    simp [icells]
  · intro g hg
    have : w.heap.size = g := by injection hg
    omega
end
theorem step_cloneB {ops : Array Oper} {o : Oper} {a : Act} {w : World} {K : Act → World → Prop} {Q : Exit → Act → World → Prop} {E : Prop} (hgd : o.guard = none) (s x : Operand)
    (ho : o.op = .call { callee := .builtin .append, args := #[s, x], argTypes := #[27, 27] })
    (b : Nat) (hs : a.eval s = .slice (some ⟨b, 0, none⟩) 0 0) (sv : Value) (zs : List Int) (hx : a.eval x = sv) (h : IntSl w sv zs) (hne : zs ≠ []) (hn : zs.length ≤ 1048576)
    (hK : ∀ v w' g, BldI w' g (g + 1) v zs → w.heap.size ≤ g → Below w.heap.size w w' → K (a.put o.dst v) w') :
    if Region.wanted o (yielded ops a.tmps) = true then Oper.wp Tryz.prog o a w K Q else E := by
  have hw : Region.wanted o (yielded ops a.tmps) = true := by simp [Region.wanted, hgd]
  rw [if_pos hw]
  obtain ⟨v, w', hr, h2, h4, h3⟩ := clone_runB h hne hn b o.type
  unfold Oper.wp execOp
  simp only [ho, resolve, invoke, builtin, Sem.run_bind, Sem.run_pure, Result.andThen_ok, List.map_toArray, List.map_cons, List.map_nil, hs, hx, hr]
  exact hK v w' _ h2 (Nat.le_refl _) h3
set_option maxRecDepth 100000 in
set_option maxHeartbeats 1000000 in
theorem own_bld (kind wd len : Int) (sv : Value) (zs : List Int) (w : World) (h : IntSl w sv zs) (hne : zs ≠ []) (hn : zs.length ≤ 1048576) :
    Calls Tryz.prog 109 #[.agg #[.int .i64 kind, sv, .int .i64 wd, .int .i64 len]] w fun e w' => ∃ v g, e = .returned (.agg #[.int .i64 kind, v, .int .i64 wd, .int .i64 len]) ∧ BldI w' g (g + 1) v zs ∧ w.heap.size ≤ g ∧ Below w.heap.size w w' := by
  obtain ⟨a, c, rfl⟩ := h.len
  have HNE := Lib.hid hne
  clear hne
  go_enter Tryz.func109, Tryz.ntmps109
  go_wp2_with fail
  go_region_held_law ((fun w' => (Blk w' (w.heap.size) #[.int .i64 kind, .slice a zs.length c, .int .i64 wd, .int .i64 len] 62 ∧ ∀ o, w'.cell? ⟨w.heap.size, o, none⟩ = (#[.int .i64 kind, .slice a zs.length c, .int .i64 wd, .int .i64 len] : Array Value)[o]?) ∧ Below w.heap.size w w')) (((try (obtain ⟨⟨hS0, _⟩, hSB⟩ := hHeld)); refine ⟨Blk.both ?_, ?_⟩ <;> first | ((repeat (first | (with_reducible assumption) | (with_reducible refine Blk.drewN ?_ _) | (with_reducible refine Blk.drew ?_) | ((with_reducible refine Blk.new _ ?_); focus (first | omega | (simp; done) | (simp; omega))) | (with_reducible refine Blk.past ?_ _) | ((with_reducible refine Blk.apart ?_ _ _ _ ?_); rotate_left; focus (first | omega | (simp; done) | (simp; omega))) | (with_reducible refine Blk.by (by assumption) ?_))); done) | ((repeat (first | (with_reducible exact Below.refl _ _) | (with_reducible refine below_drewN ?_ _) | (with_reducible refine Below.drew ?_) | (with_reducible refine below_al ?_ _) | (with_reducible refine below_on (by assumption) ?_) | ((with_reducible refine Below.setCell ?_ ?_ _); rotate_left; focus (first | omega | (simp; done) | (simp; omega))) | (with_reducible assumption))); done)))
    ((refine step_cloneB (by rfl) _ _ (by rfl) _ (by rfl) _ zs (by rfl) (h.by blwT) HNE.out hn ?_; intro v w3 g hO hg3 hb3; (try simp at hg3); have HO := Lib.hid hO; obtain ⟨a1, c1, rfl⟩ := hO.sized; clear hO; have k2 : Blk w3 (w.heap.size + 1) #[.int .i64 0, .slice none 0 0, .int .i64 0, .int .i64 0] 62 := blkT; have c2 := k2.cell; have f2 := k2.free; have l2 := k2.lt))
  go_wp2
  refine bodyPost_ret (v := .agg #[.int .i64 kind, .slice a1 zs.length c1, .int .i64 wd, .int .i64 len]) (by simp [results, Tryz.results109, go_sem, *]) rfl ⟨_, g, rfl, ?_, by omega, blwT⟩
  repeat (first | (with_reducible exact HO.out) | (with_reducible refine BldI.past (Within.off _) ?_ (.inl (by omega))))
/- A slice of devices that grows; the pins lie elsewhere. -/
def BldR (w : World) (lo hi : Nat) (v : Value) (ds : List Dv) (pvs : List Value) : Prop := hi ≤ w.heap.size ∧ w.ownsRow lo 62 4 v ds.length (dcells ds pvs) ∧ pvs.length = ds.length ∧ (∀ g, v.ownBlock = some g → lo ≤ g ∧ g < hi)
section
variable {w w' : World} {lo hi : Nat} {v : Value} {ds : List Dv} {pvs : List Value}
theorem BldR.nil (w : World) (lo : Nat) : BldR w lo w.heap.size (.slice none 0 0) [] [] :=
  ⟨Nat.le_refl _, World.ownsRow_nil w lo _ 4, rfl, (by intro g h; cases h)⟩
theorem BldR.by (hb : Below w.heap.size w w') (h : BldR w lo hi v ds pvs) : BldR w' lo hi v ds pvs := by
  obtain ⟨hs, h1, h2, h3⟩ := h
  exact ⟨Nat.le_trans hs hb.size, row_same h1 (fun g hg => hb.block g (by have := h3 g hg; omega)), h2, h3⟩
theorem BldR.past {lo' hi' : Nat} (hb : Within lo' hi' w w') (h : BldR w lo hi v ds pvs) (hd : hi' ≤ lo ∨ hi ≤ lo') : BldR w' lo hi v ds pvs := by
  obtain ⟨hs, h1, h2, h3⟩ := h
  exact ⟨Nat.le_trans hs hb.size, row_same h1 (fun g hg => hb.block g (by have := h3 g hg; omega) (by have := h3 g hg; omega)), h2, h3⟩
theorem BldR.sized (h : BldR w lo hi v ds pvs) : ∃ a c, v = .slice a ds.length c := by
  obtain ⟨_, ⟨_, h1⟩, _⟩ := h
  rcases h1 with ⟨h1, h2⟩ | ⟨g, cap, cur, e1, _⟩
  · exact ⟨none, 0, by rw [h1, h2]⟩
  · exact ⟨_, _, e1⟩
end
/- A slice of devices that grows in memory of the call's own; the pins of one device lie elsewhere, at a block m below it. -/
def BldM (m : Nat) (av : Prop) (w : World) (lo hi : Nat) (v : Value) (ds : List Dv) : Prop := hi ≤ w.heap.size ∧ ∃ (pvs : List Value) (f : Nat → Nat), w.ownsRow lo 62 4 v ds.length (dcells ds pvs) ∧ pvs.length = ds.length ∧ (∀ g, v.ownBlock = some g → lo ≤ g ∧ g < hi) ∧
  (∀ i x pv, ds[i]? = some x → pvs[i]? = some pv → OwnR w (f i) (f i + 1) pv x.pins ∧ ((f i = m ∧ ¬ av) ∨ (lo ≤ f i ∧ f i < hi)) ∧ v.ownBlock ≠ some (f i)) ∧ (∀ i j, i < ds.length → j < ds.length → i ≠ j → f i ≠ f j)
section
variable {m : Nat} {av : Prop} {w w' : World} {lo hi : Nat} {v : Value} {ds : List Dv}
theorem BldM.nil (m : Nat) (av : Prop) (w : World) (lo : Nat) : BldM m av w lo w.heap.size (.slice none 0 0) [] :=
  ⟨Nat.le_refl _, [], fun _ => 0, World.ownsRow_nil w lo _ 4, rfl, (by intro g h; cases h), (by intro i x pv h; simp at h), (by intro i j h; simp at h)⟩
theorem BldM.sub {av' : Prop} (h : BldM m av w lo hi v ds) (ha : av' → av) : BldM m av' w lo hi v ds := by
  obtain ⟨hs, pvs, f, h1, h2, h3, h4, h5⟩ := h
  refine ⟨hs, pvs, f, h1, h2, h3, fun i x pv hx hp => ?_, h5⟩
  obtain ⟨a, b, c⟩ := h4 i x pv hx hp
  exact ⟨a, b.imp (fun h => ⟨h.1, fun k => h.2 (ha k)⟩) id, c⟩
theorem BldM.by (hb : Below w.heap.size w w') (h : BldM m av w lo hi v ds) : BldM m av w' lo hi v ds := by
  obtain ⟨hs, pvs, f, h1, h2, h3, h4, h5⟩ := h
  refine ⟨Nat.le_trans hs hb.size, pvs, f, row_same h1 (fun g hg => hb.block g (by have := h3 g hg; omega)), h2, h3, fun i x pv hx hp => ?_, h5⟩
  obtain ⟨a, b, c⟩ := h4 i x pv hx hp
  exact ⟨OwnR.by hb a, b, c⟩
theorem BldM.past {lo' hi' : Nat} (hb : Within lo' hi' w w') (h : BldM m av w lo hi v ds) (hd : hi' ≤ lo ∨ hi ≤ lo') (hm : m < lo' ∨ hi' ≤ m) : BldM m av w' lo hi v ds := by
  obtain ⟨hs, pvs, f, h1, h2, h3, h4, h5⟩ := h
  refine ⟨Nat.le_trans hs hb.size, pvs, f, row_same h1 (fun g hg => hb.block g (by have := h3 g hg; omega) (by have := h3 g hg; omega)), h2, h3, fun i x pv hx hp => ?_, h5⟩
  obtain ⟨a, b, c⟩ := h4 i x pv hx hp
  exact ⟨OwnR.past hb a (by omega), b, c⟩
theorem BldM.sized (h : BldM m av w lo hi v ds) : ∃ a c, v = .slice a ds.length c := by
  obtain ⟨_, pvs, f, ⟨_, h1⟩, _⟩ := h
  rcases h1 with ⟨h1, h2⟩ | ⟨g, cap, cur, e1, _⟩
  · exact ⟨none, 0, by rw [h1, h2]⟩
  · exact ⟨_, _, e1⟩
end
theorem Within.newerM {a w w' : World} {lo hi lo' hi' : Nat} (h : Within lo hi a w) (h' : Within lo' hi' w w') (hl : a.heap.size ≤ lo') : Within lo hi a w' :=
  ⟨h'.os.trans h.os, h'.tape.trans h.tape, h'.output.trans h.output, Nat.le_trans h.size h'.size, fun k hk hn => (h'.block k (by have := h.size; omega) (by omega)).trans (h.block k hk hn)⟩
theorem Within.ofBelowM {w w' : World} (lo hi : Nat) (h : Below w.heap.size w w') : Within lo hi w w' := ⟨h.os, h.tape, h.output, h.size, fun k hk _ => h.block k hk⟩
end Go.Proofs.YtifbffianbgeaaaGreat
