/- slices.SortFunc at slices of int64: a permutation of the row, ascending. -/
import Derived.Test.YtjldkejegdljiaaRank0
import Derived.Test.YtjldkejegdljiaaShelf
import Derived.Test.YtjldkejegdljiaaLl
import Derived.Test.YtjldkejegdljiaaDelM
import Derived.Lib.SliceRun
namespace Go.Proofs.Ytjldkejegdljiaa
open Go.RowKit Go.Sort Go.Proofs
set_option linter.unusedVariables false
set_option linter.unusedSimpArgs false

/-- A row's elements: a slice and the numbers that it holds, whatever happens to the row's own block. -/
structure Elt (w : World) (blk : Nat) where
  v : Value
  xs : List Int
  one : v.oneCell' = true
  rd : ∀ w', Off blk w w' → IntSl w' v xs
instance instElt (w : World) (blk : Nat) : Inhabited (Elt w blk) := ⟨⟨.slice none 0 0, [], rfl, fun _ _ => .inl ⟨_, _, rfl, rfl⟩⟩⟩
def eltV {w : World} {blk : Nat} (x : Elt w blk) : Value := x.v
def eltC {w : World} {blk : Nat} (x y : Elt w blk) : Int := lcmp x.xs y.xs
def eltP {w : World} {blk : Nat} (x : Elt w blk) : Value × List Int := (x.v, x.xs)
theorem swo_elt (w : World) (blk : Nat) : SWO (ltOf (eltC (w := w) (blk := blk))) where
  irrefl x := decide_eq_false (by unfold eltC; rw [lcmp_self]; omega)
  trans x y z h1 h2 := decide_eq_true (lcmp_trans _ _ _ (of_decide_eq_true h1) (of_decide_eq_true h2))
  ntrans x y z h1 h2 := by
    have a := of_decide_eq_false h1
    have b := of_decide_eq_false h2
    refine decide_eq_false ?_
    have := lcmp_ntrans x.xs y.xs z.xs (by unfold eltC at a; omega) (by unfold eltC at b; omega)
    unfold eltC; omega
def eltsOf {w : World} {blk : Nat} (ps : List (Value × List Int)) (he : ∀ p ∈ ps, p.1.oneCell' = true ∧ ∀ w', Off blk w w' → IntSl w' p.1 p.2) : List (Elt w blk) := ps.pmap (fun p h => ⟨p.1, p.2, h.1, h.2⟩) he
theorem map_eltsOf {w : World} {blk : Nat} (ps : List (Value × List Int)) (he : ∀ p ∈ ps, p.1.oneCell' = true ∧ ∀ w', Off blk w w' → IntSl w' p.1 p.2) : (eltsOf ps he).map eltP = ps := by
  unfold eltsOf
  rw [List.map_pmap]
  induction ps with
  | nil => rfl
  | cons p ps ih =>
    rw [List.pmap_cons, ih (fun q hq => he q (by simp [hq]))]
    rfl
theorem off_sortWorld {α : Type} [Inhabited α] (enc : α → Value) (w : World) (blk off n : Nat) (d : Array α) (os : Array Obj) : Off blk w (sortWorld enc w blk off n d os) := by
  intro k hk hne
  unfold sortWorld
  rw [heap_grow_old _ _ (by rw [size_putRow]; exact hk)]
  show (mapBlock (Sort.ahead w n) blk (putCells enc off d)).heap[k]? = _
  simp only [mapBlock, Array.getElem?_modify]
  rw [if_neg (fun e => hne e.symm)]
  rfl
theorem within_sortWorld {α : Type} [Inhabited α] (enc : α → Value) (w : World) (blk off n : Nat) (d : Array α) (os : Array Obj) : Within blk (blk + 1) w (sortWorld enc w blk off n d os) :=
  ⟨rfl, rfl, rfl, by unfold sortWorld; rw [size_grow, size_putRow]; exact Nat.le_add_right _ _, fun k hk hne => off_sortWorld enc w blk off n d os k hk (by omega)⟩
theorem blk_sortWorld {α : Type} [Inhabited α] (enc : α → Value) (w : World) (blk off n : Nat) (d : Array α) (os : Array Obj) {cs : Array Value} {T : TypeId} (h : Blk w blk cs T) : Blk (sortWorld enc w blk off n d os) blk (putCells enc off d cs) T := by
  have hl := h.lt
  unfold Blk at *
  unfold sortWorld
  rw [heap_grow_old _ _ (by rw [size_putRow]; exact hl)]
  show (mapBlock (Sort.ahead w n) blk (putCells enc off d)).heap[blk]? = _
  simp only [mapBlock, Array.getElem?_modify, if_pos trivial]
  show (w.heap[blk]?).map _ = _
  rw [h]
  rfl

set_option maxRecDepth 100000 in
set_option maxHeartbeats 2000000 in
/-- The row in block g (cells cs) holds the slices ps; behind the call it holds a permutation of them, ascending. -/
theorem sortFuncL_any (g : Nat) (eg : ∀ args w, (callFunc g args).run Try.prog w = .ok (.enter g args) w)
    (hg : ∀ (W : World) (s1 s2 : Value) (xs ys : List Int), IntSl W s1 xs → IntSl W s2 ys → Calls Try.prog g #[s1, s2] W fun e w' => e = .returned (.int .i64 (lcmp xs ys)) ∧ ∃ n, w' = W.drewN n)
    (blk cap : Nat) (ps : List (Value × List Int)) (w : World) (cs : Array Value) (hB : Blk w blk cs 39)
    (hc : ∀ (i : Nat) p, ps[i]? = some p → cs[i]? = some p.1)
    (he : ∀ p ∈ ps, p.1.oneCell' = true ∧ ∀ w', Off blk w w' → IntSl w' p.1 p.2) (hn : ps.length ≤ 1000000) :
    Calls Try.prog 110 #[.slice (some ⟨blk, 0, none⟩) ps.length cap, .func (.func g) #[] #[]] w fun e w' => e = .returned (.tuple #[]) ∧
      ∃ (qs : List (Value × List Int)) (ds : Array Value), qs.Perm ps ∧ qs.Pairwise (fun a b => lcmp a.2 b.2 ≤ 0) ∧ Blk w' blk ds 39 ∧ ds.size = cs.size ∧ (∀ (i : Nat) p, qs[i]? = some p → ds[i]? = some p.1) ∧ Within blk (blk + 1) w w' := by
  obtain ⟨d, hd⟩ : ∃ d : Array (Elt w blk), d = (eltsOf ps he).toArray := ⟨_, rfl⟩
  have hdl : d.toList.map eltP = ps := by rw [hd]; exact map_eltsOf ps he
  have hds : d.size = ps.length := by rw [← hdl]; simp
  have hget : ∀ (a : Array (Elt w blk)) (j : Nat) (hj : j < a.size), a[j]! = a[j] := fun a j hj => getElem!_pos a j hj
  have hH : Holds (eltV (w := w) (blk := blk)) w blk 0 d := by
    intro j hj
    rw [Nat.zero_add]
    refine ⟨?_, hB.free j⟩
    rw [hB.cell, hget d j hj]
    refine hc j (eltP d[j]) ?_
    rw [← hdl, List.getElem?_map, Array.getElem?_toList, Array.getElem?_eq_getElem hj]
    rfl
  have hcmp : CmpReads Try.prog g #[] (eltV (w := w) (blk := blk)) eltC blk 0 d.size w := by
    intro m os dk hs x y
    have ho := off_sortWorld (eltV (w := w) (blk := blk)) w blk 0 m dk os
    exact hg _ _ _ _ _ (x.rd _ ho) (y.rd _ ho)
  have hcon := Try.slices_SortFunc (eltV (w := w) (blk := blk)) (fun x => x.one) eltC (swo_elt w blk) g #[] blk 0 cap d w eg hcmp.lays hH hB.lt (by omega)
  rw [hds] at hcon
  refine hcon.mono ?_
  rintro e w' ⟨rfl, d', n, os, hperm, hsort, rfl⟩
  refine ⟨rfl, d'.toList.map eltP, putCells eltV 0 d' cs, ?_, ?_, blk_sortWorld _ w blk 0 n d' os hB, by simp [putCells], ?_, within_sortWorld _ w blk 0 n d' os⟩
  · obtain ⟨e1, _, e2⟩ := hperm
    have e3 : d'.extract 0 ps.length = d' := by rw [← hds, ← e1]; exact Array.extract_size
    have e4 : d.extract 0 ps.length = d := by rw [← hds]; exact Array.extract_size
    rw [e3, e4] at e2
    have := e2.map eltP
    rwa [hdl] at this
  · rw [List.pairwise_map, List.pairwise_iff_getElem]
    intro i j hi hj hij
    have hi' : i < d'.size := by simpa using hi
    have hj' : j < d'.size := by simpa using hj
    have hsz : d'.size = d.size := hperm.1
    have := of_decide_eq_false (hsort i j (Nat.zero_le _) hij (by omega))
    rw [hget d' j hj', hget d' i hi'] at this
    have h2 : ¬ lcmp d'[j].xs d'[i].xs < 0 := this
    rw [lcmp_flip] at h2
    simp only [Array.getElem_toList]
    show lcmp d'[i].xs d'[j].xs ≤ 0
    omega
  · intro i p hp
    rw [List.getElem?_map] at hp
    have hi : i < d'.size := by
      rcases Nat.lt_or_ge i d'.size with h | h
      · exact h
      · rw [Array.getElem?_toList, Array.getElem?_eq_none h] at hp; simp at hp
    rw [Array.getElem?_toList, Array.getElem?_eq_getElem hi] at hp
    simp only [Option.map_some, Option.some.injEq] at hp
    have hics : i < cs.size := by
      have hsz : d'.size = d.size := hperm.1
      have h2 : ps[i]? = some (ps[i]'(by omega)) := List.getElem?_eq_getElem _
      exact (Array.getElem?_eq_some_iff.1 (hc i _ h2)).1
    simp only [putCells, Array.getElem?_mapIdx, Array.getElem?_eq_getElem hics, Option.map_some, Nat.zero_le, true_and, Nat.zero_add, Nat.sub_zero, if_pos hi]
    rw [hget d' i hi, ← hp]
    rfl
end Go.Proofs.Ytjldkejegdljiaa

/- slices.CompactFunc at slices of int64. -/
namespace Go.Proofs.Ytjldkejegdljiaa
open Go.RowKit
set_option linter.unusedVariables false
set_option linter.unusedSimpArgs false

/-- The first k of ps without those that are like their neighbour ahead. -/
def keepTo (ps : List (Value × List Int)) : Nat → List (Value × List Int)
  | 0 => []
  | k + 1 => match ps[k]? with
    | none => keepTo ps k
    | some p => if (ps[k - 1]?.map (·.2)) = some p.2 ∧ 0 < k then keepTo ps k else keepTo ps k ++ [p]
theorem keepTo_same {ps : List (Value × List Int)} {k : Nat} {p q : Value × List Int} (hp : ps[k + 1]? = some p) (hq : ps[k]? = some q) (h : p.2 = q.2) : keepTo ps (k + 2) = keepTo ps (k + 1) := by
  show (match ps[k + 1]? with | none => _ | some p => _) = _
  rw [hp]
  simp [hq, h]
theorem keepTo_new {ps : List (Value × List Int)} {k : Nat} {p q : Value × List Int} (hp : ps[k + 1]? = some p) (hq : ps[k]? = some q) (h : p.2 ≠ q.2) : keepTo ps (k + 2) = keepTo ps (k + 1) ++ [p] := by
  show (match ps[k + 1]? with | none => _ | some p => _) = _
  rw [hp]
  simp [hq, Ne.symm h]
theorem keepTo_one {ps : List (Value × List Int)} : keepTo ps 1 = ps.take 1 := by
  cases ps <;> simp [keepTo]
theorem mem_keepTo {ps : List (Value × List Int)} {p : Value × List Int} : ∀ k, p ∈ keepTo ps k → p ∈ ps
  | 0, h => by simp [keepTo] at h
  | k + 1, h => by
    unfold keepTo at h
    split at h
    · exact mem_keepTo k h
    · rename_i q hq
      split at h
      · exact mem_keepTo k h
      · rcases List.mem_append.1 h with h | h
        · exact mem_keepTo k h
        · simp at h; subst h; exact List.mem_of_getElem? hq
theorem keepTo_le (ps : List (Value × List Int)) : ∀ k, (keepTo ps k).length ≤ k
  | 0 => Nat.le_refl _
  | k + 1 => by
    have ih := keepTo_le ps k
    unfold keepTo
    split
    · omega
    · split
      · omega
      · simp; omega
theorem ddpA_snoc {α : Type} [DecidableEq α] (p : α) (l : List α) (x : α) : ddpA p (l ++ [x]) = if x = l.getLast?.getD p then ddpA p l else ddpA p l ++ [x] := by
  induction l generalizing p with
  | nil => by_cases h : x = p <;> simp [ddpA, h]
  | cons b l ih =>
    have e : (b :: l).getLast?.getD p = l.getLast?.getD b := by rw [List.getLast?_cons]; rfl
    rw [e]
    simp only [List.cons_append, ddpA, ih b]
    by_cases h1 : b = p <;> by_cases h2 : x = l.getLast?.getD b <;> simp [h1, h2]
theorem ddp_snoc {α : Type} [DecidableEq α] {l : List α} {x y : α} (h : l.getLast? = some y) : ddp (l ++ [x]) = if x = y then ddp l else ddp l ++ [x] := by
  cases l with
  | nil => simp at h
  | cons a l =>
    rw [List.getLast?_cons] at h
    have e : l.getLast?.getD a = y := by simpa using h
    simp only [List.cons_append, ddp, ddpA_snoc, e]
    split <;> simp
theorem keepTo_ddp (ps : List (Value × List Int)) : ∀ k, k ≤ ps.length → (keepTo ps k).map (·.2) = ddp ((ps.take k).map (·.2))
  | 0, _ => rfl
  | 1, _ => by rw [keepTo_one]; cases ps <;> simp [ddp, ddpA]
  | k + 2, hk => by
    have ih := keepTo_ddp ps (k + 1) (by omega)
    obtain ⟨p, hp⟩ : ∃ p, ps[k + 1]? = some p := ⟨ps[k + 1], List.getElem?_eq_getElem (by omega)⟩
    obtain ⟨q, hq⟩ : ∃ q, ps[k]? = some q := ⟨ps[k], List.getElem?_eq_getElem (by omega)⟩
    have hl : ((ps.take (k + 1)).map (·.2)).getLast? = some q.2 := by
      rw [List.getLast?_eq_getElem?, List.length_map, List.length_take, show min (k + 1) ps.length - 1 = k by omega, List.getElem?_map, List.getElem?_take_of_lt (by omega), hq]; rfl
    rw [take_snoc_of ps (k + 1) p hp, List.map_append]
    show _ = ddp ((ps.take (k + 1)).map (·.2) ++ [p.2])
    rw [ddp_snoc hl]
    by_cases h : p.2 = q.2
    · rw [keepTo_same hp hq h, if_pos h, ih]
    · rw [keepTo_new hp hq h, if_neg h, List.map_append, ih]; rfl
theorem keepTo_pos {ps : List (Value × List Int)} (h : 0 < ps.length) : ∀ k, 0 < (keepTo ps (k + 1)).length
  | 0 => by rw [keepTo_one]; simp; omega
  | k + 1 => by
    have ih := keepTo_pos h k
    show 0 < (match ps[k + 1]? with | none => _ | some p => _ : List (Value × List Int)).length
    split
    · exact ih
    · split
      · exact ih
      · simp

def CompPost (blk cap : Nat) (ps : List (Value × List Int)) (w : World) (e : Ending) (w' : World) : Prop :=
  ∃ (qs : List (Value × List Int)) (ds : Array Value), e = .returned (.slice (some ⟨blk, 0, none⟩) qs.length cap) ∧ qs.map (·.2) = ddp (ps.map (·.2)) ∧ (∀ p ∈ qs, p ∈ ps) ∧ Blk w' blk ds 39 ∧ (∀ (i : Nat) p, qs[i]? = some p → ds[i]? = some p.1) ∧ Within blk (blk + 1) w w' ∧ qs.length ≤ ps.length

end Go.Proofs.Ytjldkejegdljiaa
