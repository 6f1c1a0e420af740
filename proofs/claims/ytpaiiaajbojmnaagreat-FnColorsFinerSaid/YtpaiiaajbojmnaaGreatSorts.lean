/- slices.SortFunc at slices of int64: a permutation of the row, ascending. -/
import Derived.Test.YtpaiiaajbojmnaaGreatRank0
import Derived.Test.YtpaiiaajbojmnaaGreatShelf
import Derived.Test.YtpaiiaajbojmnaaGreatLl
import Derived.Lib.SliceRun
namespace Go.Proofs.YtpaiiaajbojmnaaGreat
open Go.RowKit Go.Sort Go.Proofs
set_option linter.unusedVariables false
set_option linter.unusedSimpArgs false

/-- A row's elements: a slice and the numbers that it holds, whatever happens to the row's own block. -/
structure Elt (w : World) (blk : Nat) where
  v : Value
  xs : List Int
  one : v.oneCell' = true
  rd : ∀ w', Off blk w w' → IntSl w' v xs
instance instElt (w : World) (blk : Nat) : Inhabited (Elt w blk) := ⟨⟨.slice none 0 0, [], rfl, fun _ _ => .inl ⟨_, _, rfl, rfl⟩⟩⟩
def eltV {w : World} {blk : Nat} (x : Elt w blk) : Value := x.v
def eltC {w : World} {blk : Nat} (x y : Elt w blk) : Int := lcmp x.xs y.xs
def eltP {w : World} {blk : Nat} (x : Elt w blk) : Value × List Int := (x.v, x.xs)
theorem swo_elt (w : World) (blk : Nat) : SWO (ltOf (eltC (w := w) (blk := blk))) where
  irrefl x := decide_eq_false (by unfold eltC; rw [lcmp_self]; omega)
  trans x y z h1 h2 := decide_eq_true (lcmp_trans _ _ _ (of_decide_eq_true h1) (of_decide_eq_true h2))
  ntrans x y z h1 h2 := by
    have a := of_decide_eq_false h1
    have b := of_decide_eq_false h2
    refine decide_eq_false ?_
    have := lcmp_ntrans x.xs y.xs z.xs (by unfold eltC at a; omega) (by unfold eltC at b; omega)
    unfold eltC; omega
def eltsOf {w : World} {blk : Nat} (ps : List (Value × List Int)) (he : ∀ p ∈ ps, p.1.oneCell' = true ∧ ∀ w', Off blk w w' → IntSl w' p.1 p.2) : List (Elt w blk) := ps.pmap (fun p h => ⟨p.1, p.2, h.1, h.2⟩) he
theorem map_eltsOf {w : World} {blk : Nat} (ps : List (Value × List Int)) (he : ∀ p ∈ ps, p.1.oneCell' = true ∧ ∀ w', Off blk w w' → IntSl w' p.1 p.2) : (eltsOf ps he).map eltP = ps := by
  unfold eltsOf
  rw [List.map_pmap]
  induction ps with
  | nil => rfl
  | cons p ps ih =>
    rw [List.pmap_cons, ih (fun q hq => he q (by simp [hq]))]
    rfl
theorem off_sortWorld {α : Type} [Inhabited α] (enc : α → Value) (w : World) (blk off n : Nat) (d : Array α) (os : Array Obj) : Off blk w (sortWorld enc w blk off n d os) := by
  intro k hk hne
  unfold sortWorld
  rw [heap_grow_old _ _ (by rw [size_putRow]; exact hk)]
  show (mapBlock (Sort.ahead w n) blk (putCells enc off d)).heap[k]? = _
  simp only [mapBlock, Array.getElem?_modify]
  rw [if_neg (fun e => hne e.symm)]
  rfl
theorem within_sortWorld {α : Type} [Inhabited α] (enc : α → Value) (w : World) (blk off n : Nat) (d : Array α) (os : Array Obj) : Within blk (blk + 1) w (sortWorld enc w blk off n d os) :=
  ⟨rfl, rfl, rfl, by unfold sortWorld; rw [size_grow, size_putRow]; exact Nat.le_add_right _ _, fun k hk hne => off_sortWorld enc w blk off n d os k hk (by omega)⟩
theorem blk_sortWorld {α : Type} [Inhabited α] (enc : α → Value) (w : World) (blk off n : Nat) (d : Array α) (os : Array Obj) {cs : Array Value} {T : TypeId} (h : Blk w blk cs T) : Blk (sortWorld enc w blk off n d os) blk (putCells enc off d cs) T := by
  have hl := h.lt
  unfold Blk at *
  unfold sortWorld
  rw [heap_grow_old _ _ (by rw [size_putRow]; exact hl)]
  show (mapBlock (Sort.ahead w n) blk (putCells enc off d)).heap[blk]? = _
  simp only [mapBlock, Array.getElem?_modify, if_pos trivial]
  show (w.heap[blk]?).map _ = _
  rw [h]
  rfl

set_option maxRecDepth 100000 in
set_option maxHeartbeats 2000000 in
/-- The row in block g (cells cs) holds the slices ps; behind the call it holds a permutation of them, ascending. -/
theorem sortFuncL_any (g : Nat) (eg : ∀ args w, (callFunc g args).run Tryz.prog w = .ok (.enter g args) w)
    (hg : ∀ (W : World) (s1 s2 : Value) (xs ys : List Int), IntSl W s1 xs → IntSl W s2 ys → Calls Tryz.prog g #[s1, s2] W fun e w' => e = .returned (.int .i64 (lcmp xs ys)) ∧ ∃ n, w' = W.drewN n)
    (blk cap : Nat) (ps : List (Value × List Int)) (w : World) (cs : Array Value) (hB : Blk w blk cs 28)
    (hc : ∀ (i : Nat) p, ps[i]? = some p → cs[i]? = some p.1)
    (he : ∀ p ∈ ps, p.1.oneCell' = true ∧ ∀ w', Off blk w w' → IntSl w' p.1 p.2) (hn : ps.length ≤ 1000000) :
    Calls Tryz.prog 54 #[.slice (some ⟨blk, 0, none⟩) ps.length cap, .func (.func g) #[] #[]] w fun e w' => e = .returned (.tuple #[]) ∧
      ∃ (qs : List (Value × List Int)) (ds : Array Value), qs.Perm ps ∧ qs.Pairwise (fun a b => lcmp a.2 b.2 ≤ 0) ∧ Blk w' blk ds 28 ∧ ds.size = cs.size ∧ (∀ (i : Nat) p, qs[i]? = some p → ds[i]? = some p.1) ∧ Within blk (blk + 1) w w' := by
  obtain ⟨d, hd⟩ : ∃ d : Array (Elt w blk), d = (eltsOf ps he).toArray := ⟨_, rfl⟩
  have hdl : d.toList.map eltP = ps := by rw [hd]; exact map_eltsOf ps he
  have hds : d.size = ps.length := by rw [← hdl]; simp
  have hget : ∀ (a : Array (Elt w blk)) (j : Nat) (hj : j < a.size), a[j]! = a[j] := fun a j hj => getElem!_pos a j hj
  have hH : Holds (eltV (w := w) (blk := blk)) w blk 0 d := by
    intro j hj
    rw [Nat.zero_add]
    refine ⟨?_, hB.free j⟩
    rw [hB.cell, hget d j hj]
    refine hc j (eltP d[j]) ?_
    rw [← hdl, List.getElem?_map, Array.getElem?_toList, Array.getElem?_eq_getElem hj]
    rfl
  have hcmp : CmpReads Tryz.prog g #[] (eltV (w := w) (blk := blk)) eltC blk 0 d.size w := by
    intro m os dk hs x y
    have ho := off_sortWorld (eltV (w := w) (blk := blk)) w blk 0 m dk os
    exact hg _ _ _ _ _ (x.rd _ ho) (y.rd _ ho)
  have hcon := Tryz.slices_SortFunc (eltV (w := w) (blk := blk)) (fun x => x.one) eltC (swo_elt w blk) g #[] blk 0 cap d w eg hcmp.lays hH hB.lt (by omega)
  rw [hds] at hcon
  refine hcon.mono ?_
  rintro e w' ⟨rfl, d', n, os, hperm, hsort, rfl⟩
  refine ⟨rfl, d'.toList.map eltP, putCells eltV 0 d' cs, ?_, ?_, blk_sortWorld _ w blk 0 n d' os hB, by simp [putCells], ?_, within_sortWorld _ w blk 0 n d' os⟩
  · obtain ⟨e1, _, e2⟩ := hperm
    have e3 : d'.extract 0 ps.length = d' := by rw [← hds, ← e1]; exact Array.extract_size
    have e4 : d.extract 0 ps.length = d := by rw [← hds]; exact Array.extract_size
    rw [e3, e4] at e2
    have := e2.map eltP
    rwa [hdl] at this
  · rw [List.pairwise_map, List.pairwise_iff_getElem]
    intro i j hi hj hij
    have hi' : i < d'.size := by simpa using hi
    have hj' : j < d'.size := by simpa using hj
    have hsz : d'.size = d.size := hperm.1
    have := of_decide_eq_false (hsort i j (Nat.zero_le _) hij (by omega))
    rw [hget d' j hj', hget d' i hi'] at this
    have h2 : ¬ lcmp d'[j].xs d'[i].xs < 0 := this
    rw [lcmp_flip] at h2
    simp only [Array.getElem_toList]
    show lcmp d'[i].xs d'[j].xs ≤ 0
    omega
  · intro i p hp
    rw [List.getElem?_map] at hp
    have hi : i < d'.size := by
      rcases Nat.lt_or_ge i d'.size with h | h
      · exact h
      · rw [Array.getElem?_toList, Array.getElem?_eq_none h] at hp; simp at hp
    rw [Array.getElem?_toList, Array.getElem?_eq_getElem hi] at hp
    simp only [Option.map_some, Option.some.injEq] at hp
    have hics : i < cs.size := by
      have hsz : d'.size = d.size := hperm.1
      have h2 : ps[i]? = some (ps[i]'(by omega)) := List.getElem?_eq_getElem _
      exact (Array.getElem?_eq_some_iff.1 (hc i _ h2)).1
    simp only [putCells, Array.getElem?_mapIdx, Array.getElem?_eq_getElem hics, Option.map_some, Nat.zero_le, true_and, Nat.zero_add, Nat.sub_zero, if_pos hi]
    rw [hget d' i hi, ← hp]
    rfl
end Go.Proofs.YtpaiiaajbojmnaaGreat

/- slices.CompactFunc at slices of int64. -/
namespace Go.Proofs.YtpaiiaajbojmnaaGreat
open Go.RowKit
set_option linter.unusedVariables false
set_option linter.unusedSimpArgs false

/-- The first k of ps without those that are like their neighbour ahead. -/
def keepTo (ps : List (Value × List Int)) : Nat → List (Value × List Int)
  | 0 => []
  | k + 1 => match ps[k]? with
    | none => keepTo ps k
    | some p => if (ps[k - 1]?.map (·.2)) = some p.2 ∧ 0 < k then keepTo ps k else keepTo ps k ++ [p]
theorem keepTo_same {ps : List (Value × List Int)} {k : Nat} {p q : Value × List Int} (hp : ps[k + 1]? = some p) (hq : ps[k]? = some q) (h : p.2 = q.2) : keepTo ps (k + 2) = keepTo ps (k + 1) := by
  show (match ps[k + 1]? with | none => _ | some p => _) = _
  rw [hp]
  simp [hq, h]
theorem keepTo_new {ps : List (Value × List Int)} {k : Nat} {p q : Value × List Int} (hp : ps[k + 1]? = some p) (hq : ps[k]? = some q) (h : p.2 ≠ q.2) : keepTo ps (k + 2) = keepTo ps (k + 1) ++ [p] := by
  show (match ps[k + 1]? with | none => _ | some p => _) = _
  rw [hp]
  simp [hq, Ne.symm h]
theorem keepTo_one {ps : List (Value × List Int)} : keepTo ps 1 = ps.take 1 := by
  cases ps <;> simp [keepTo]
theorem mem_keepTo {ps : List (Value × List Int)} {p : Value × List Int} : ∀ k, p ∈ keepTo ps k → p ∈ ps
  | 0, h => by simp [keepTo] at h
  | k + 1, h => by
    unfold keepTo at h
    split at h
    · exact mem_keepTo k h
    · rename_i q hq
      split at h
      · exact mem_keepTo k h
      · rcases List.mem_append.1 h with h | h
        · exact mem_keepTo k h
        · simp at h; subst h; exact List.mem_of_getElem? hq
theorem keepTo_le (ps : List (Value × List Int)) : ∀ k, (keepTo ps k).length ≤ k
  | 0 => Nat.le_refl _
  | k + 1 => by
    have ih := keepTo_le ps k
    unfold keepTo
    split
    · omega
    · split
      · omega
      · simp; omega
theorem ddpA_snoc {α : Type} [DecidableEq α] (p : α) (l : List α) (x : α) : ddpA p (l ++ [x]) = if x = l.getLast?.getD p then ddpA p l else ddpA p l ++ [x] := by
  induction l generalizing p with
  | nil => by_cases h : x = p <;> simp [ddpA, h]
  | cons b l ih =>
    have e : (b :: l).getLast?.getD p = l.getLast?.getD b := by rw [List.getLast?_cons]; rfl
    rw [e]
    simp only [List.cons_append, ddpA, ih b]
    by_cases h1 : b = p <;> by_cases h2 : x = l.getLast?.getD b <;> simp [h1, h2]
theorem ddp_snoc {α : Type} [DecidableEq α] {l : List α} {x y : α} (h : l.getLast? = some y) : ddp (l ++ [x]) = if x = y then ddp l else ddp l ++ [x] := by
  cases l with
  | nil => simp at h
  | cons a l =>
    rw [List.getLast?_cons] at h
    have e : l.getLast?.getD a = y := by simpa using h
    simp only [List.cons_append, ddp, ddpA_snoc, e]
    split <;> simp
theorem keepTo_ddp (ps : List (Value × List Int)) : ∀ k, k ≤ ps.length → (keepTo ps k).map (·.2) = ddp ((ps.take k).map (·.2))
  | 0, _ => rfl
  | 1, _ => by rw [keepTo_one]; cases ps <;> simp [ddp, ddpA]
  | k + 2, hk => by
    have ih := keepTo_ddp ps (k + 1) (by omega)
    obtain ⟨p, hp⟩ : ∃ p, ps[k + 1]? = some p := ⟨ps[k + 1], List.getElem?_eq_getElem (by omega)⟩
    obtain ⟨q, hq⟩ : ∃ q, ps[k]? = some q := ⟨ps[k], List.getElem?_eq_getElem (by omega)⟩
    have hl : ((ps.take (k + 1)).map (·.2)).getLast? = some q.2 := by
      rw [List.getLast?_eq_getElem?, List.length_map, List.length_take, show min (k + 1) ps.length - 1 = k by omega, List.getElem?_map, List.getElem?_take_of_lt (by omega), hq]; rfl
    rw [take_snoc_of ps (k + 1) p hp, List.map_append]
    show _ = ddp ((ps.take (k + 1)).map (·.2) ++ [p.2])
    rw [ddp_snoc hl]
    by_cases h : p.2 = q.2
    · rw [keepTo_same hp hq h, if_pos h, ih]
    · rw [keepTo_new hp hq h, if_neg h, List.map_append, ih]; rfl
theorem keepTo_pos {ps : List (Value × List Int)} (h : 0 < ps.length) : ∀ k, 0 < (keepTo ps (k + 1)).length
  | 0 => by rw [keepTo_one]; simp; omega
  | k + 1 => by
    have ih := keepTo_pos h k
    show 0 < (match ps[k + 1]? with | none => _ | some p => _ : List (Value × List Int)).length
    split
    · exact ih
    · split
      · exact ih
      · simp

def CompPost (blk cap : Nat) (ps : List (Value × List Int)) (w : World) (e : Ending) (w' : World) : Prop :=
  ∃ (qs : List (Value × List Int)) (ds : Array Value), e = .returned (.slice (some ⟨blk, 0, none⟩) qs.length cap) ∧ qs.map (·.2) = ddp (ps.map (·.2)) ∧ (∀ p ∈ qs, p ∈ ps) ∧ Blk w' blk ds 28 ∧ (∀ (i : Nat) p, qs[i]? = some p → ds[i]? = some p.1) ∧ Within blk (blk + 1) w w' ∧ qs.length ≤ ps.length

set_option maxRecDepth 100000 in
set_option maxHeartbeats 2000000 in
theorem compactFuncL_any (g : Nat) (eg : ∀ args w, (callFunc g args).run Tryz.prog w = .ok (.enter g args) w)
    (hg : ∀ (W : World) (s1 s2 : Value) (xs ys : List Int), IntSl W s1 xs → IntSl W s2 ys → Calls Tryz.prog g #[s1, s2] W fun e w' => e = .returned (.bool (decide (xs = ys))) ∧ ∃ n, w' = W.drewN n)
    (blk cap : Nat) (ps : List (Value × List Int)) (w : World) (cs : Array Value) (hB : Blk w blk cs 28)
    (hc : ∀ (i : Nat) p, ps[i]? = some p → cs[i]? = some p.1)
    (he : ∀ p ∈ ps, p.1.oneCell' = true ∧ ∀ w', Off blk w w' → IntSl w' p.1 p.2) (hn : ps.length ≤ 1000000) (hcap : ps.length ≤ cap) (hmx : cap ≤ maxLen) :
    Calls Tryz.prog 57 #[.slice (some ⟨blk, 0, none⟩) ps.length cap, .func (.func g) #[] #[]] w (CompPost blk cap ps w) := by
  obtain ⟨PP, hPP⟩ : ∃ P, CompPost blk cap ps w = P := ⟨_, rfl⟩
  rw [hPP]
  have HPP := Lib.hid hPP
  clear hPP
  unfold maxLen at hmx
  by_cases h2 : ps.length < 2
  · have hs : ps.map (·.2) = ddp (ps.map (·.2)) := by
      match ps, h2 with
      | [], _ => rfl
      | [p], _ => rfl
    have hl : (ps.length : Int) < 2 := by omega
    have HS := Lib.hid hs
    have HC := Lib.hid hc
    clear hs hc he
    go_enter Tryz.func57, Tryz.ntmps57
    go_wp2
    rw [← HPP.out]
    exact ⟨ps, cs, rfl, HS.out, fun p hp => hp, hB, HC.out, Within.refl _ _ _, Nat.le_refl _⟩
  · have hl : ¬ (ps.length : Int) < 2 := by omega
    have HC := Lib.hid hc
    have HE := Lib.hid he
    have HG := Lib.hid hg
    have HD := Lib.hid (keepTo_ddp ps ps.length (Nat.le_refl _))
    have HK1 := Lib.hid (show keepTo ps (0 + 1) = ps.take (0 + 1) from keepTo_one)
    have HKS := Lib.hid (fun k p q => @keepTo_same ps k p q)
    have HKN := Lib.hid (fun k p q => @keepTo_new ps k p q)
    have HTS := Lib.hid (fun k p h => take_snoc_of ps k p h)
    have hBl := hB.lt
    have hBc := hB.cell
    clear hc he hg
    go_enter Tryz.func57, Tryz.ntmps57
    go_wp2
    go_loopw [5] (fun i wr => ∃ m n : Nat, m + 1 ≤ ps.length ∧ i = .int .i64 ((m : Int) + 1) ∧ Hid (keepTo ps (m + 1) = ps.take (m + 1)) ∧ wr = w.drewN n) (fun i _ => ps.length - (intOf i).toNat)
    case atStart => exact ⟨0, 0, by omega, rfl, HK1, rfl⟩
    case round =>
      obtain ⟨m, n, hm, rfl, HKT, rfl⟩ := hrel
      by_cases hlt : m + 1 < ps.length
      · obtain ⟨p, hp⟩ : ∃ p, ps[m + 1]? = some p := ⟨ps[m + 1], List.getElem?_eq_getElem hlt⟩
        obtain ⟨q, hq⟩ : ∃ q, ps[m]? = some q := ⟨ps[m], List.getElem?_eq_getElem (by omega)⟩
        have c1 : w.cell? ⟨blk, m + 1, none⟩ = some p.1 := (hBc _).trans (HC.out _ p hp)
        have c2 : w.cell? ⟨blk, m, none⟩ = some q.1 := (hBc _).trans (HC.out _ q hq)
        have HPE := Lib.hid (HE.out p (List.mem_of_getElem? hp))
        have HQE := Lib.hid (HE.out q (List.mem_of_getElem? hq))
        obtain ⟨s1, xs⟩ := p
        obtain ⟨s2, ys⟩ := q
        dsimp only at c1 c2 HPE HQE
        have HCALL := Lib.hid (HG.out (w.drewN n).drew s1 s2 xs ys (HPE.out.2 _ (fun k _ _ => rfl)) (HQE.out.2 _ (fun k _ _ => rfl)))
        obtain ⟨a1, d1, rfl⟩ := (HPE.out.2 w (fun k _ _ => rfl)).len
        obtain ⟨a2, d2, rfl⟩ := (HQE.out.2 w (fun k _ _ => rfl)).len
        have HP := Lib.hid hp
        have HQ := Lib.hid hq
        have i1 : (0 : Int) ≤ (m : Int) := by omega
        have i2 : (m : Int) < (ps.length : Int) := by omega
        have i3 : (m : Int) + 1 < (ps.length : Int) := by omega
        have i4 : (0 : Int) ≤ (m : Int) + 1 := by omega
        have wr1 : IntKind.i64.wrap (m : Int) = m := by simp [IntKind.wrap, IntKind.bits, IntKind.signed]; omega
        clear hp hq hBc
        cases hxy : decide (xs = ys) with
        | false =>
          rw [hxy] at HCALL
          have HXY := Lib.hid (of_decide_eq_false hxy)
          clear hxy
          go_wp2_with fail
          go_region_held3 (fun w' => w'.cell? ⟨blk, m + 1, none⟩ = some (.slice a1 xs.length d1) ∧ w'.cell? ⟨blk, m, none⟩ = some (.slice a2 ys.length d2))
            (exact ⟨c1, c2⟩)
            (first | (go_at_fn g; refine HCALL.out.mono ?_; rintro e w1 ⟨rfl, n1, rfl⟩))
          go_wp2
          refine ⟨⟨m + 1, _, by omega, by go_num, Lib.hid ?_, by first | rfl | exact World.drewN_drewN _ _ _ | (show (w.drewN (n + 1)).drewN n1 = _; exact World.drewN_drewN _ _ _)⟩, by simp [intOf]; omega⟩
          rw [HKN.out m _ _ HP.out HQ.out HXY.out, HKT.out, HTS.out _ _ HP.out]
        | true =>
          rw [hxy] at HCALL
          have HXY := Lib.hid (of_decide_eq_true hxy)
          clear hxy
          have HK0 := Lib.hid (show keepTo ps (m + 2) = ps.take (m + 1) by rw [HKS.out m _ _ HP.out HQ.out HXY.out, HKT.out])
          have i5 : (m : Int) + 1 ≤ (ps.length : Int) := by omega
          have i6 : (m : Int) + 1 ≤ (cap : Int) := by omega
          go_wp2_with fail
          go_region_held3 (fun w' => w'.cell? ⟨blk, m + 1, none⟩ = some (.slice a1 xs.length d1) ∧ w'.cell? ⟨blk, m, none⟩ = some (.slice a2 ys.length d2))
            (exact ⟨c1, c2⟩)
            (first | (go_at_fn g; refine HCALL.out.mono ?_; rintro e w1 ⟨rfl, n1, rfl⟩))
          go_wp2
          obtain ⟨wo, hwo⟩ : ∃ wo : World, wo = w.drewN (n + 1 + n1) := ⟨_, rfl⟩
          have hWo : Within blk (blk + 1) w wo := by rw [hwo]; exact (Within.refl _ _ _).drewN _
          have hBo : Blk wo blk cs 28 := by rw [hwo]; exact hB
          rw [← hwo]
          have HK0L := Lib.hid (show (keepTo ps (m + 2)).length = m + 1 by rw [HK0.out, List.length_take]; omega)
          have HD0 := Lib.hid (show ∀ (i : Nat) p, (keepTo ps (m + 2))[i]? = some p → cs[i]? = some p.1 from fun i p h => by
            rw [HK0.out] at h
            have hi : i < m + 1 := by have := (List.getElem?_eq_some_iff.1 h).1; simp at this; omega
            rw [List.getElem?_take_of_lt hi] at h
            exact HC.out i p h)
          clear hwo c1 c2 HCALL HP HQ HPE HQE HXY HK0 HKT hB hBl
          go_loopw [5, 7] (fun i j wr => ∃ k q : Nat, k ≤ m + 1 + q ∧ m + 2 + q ≤ ps.length ∧ i = .int .i64 (k : Int) ∧ j = .int .i64 ((q : Int) + 1) ∧ Hid ((keepTo ps (m + 2 + q)).length = k) ∧
            (∃ ds : Array Value, Blk wr blk ds 28 ∧ ds.size = cs.size ∧ Hid (∀ (i : Nat) p, (keepTo ps (m + 2 + q))[i]? = some p → ds[i]? = some p.1) ∧ Hid (∀ (i : Nat) p, m + 1 + q ≤ i → ps[i]? = some p → ds[i]? = some p.1)) ∧ Within blk (blk + 1) w wr) (fun _ j _ => ps.length - (intOf j).toNat)
          case atStart => exact ⟨m + 1, 0, by omega, by omega, by go_num, by go_num, HK0L, ⟨cs, hBo, rfl, HD0, Lib.hid (fun i p _ h => HC.out i p h)⟩, hWo⟩
          case round =>
            clear HK0L hBo hWo HD0
            obtain ⟨k, q, hkq, hql, rfl, rfl, HKL, ⟨ds, hB, HZ, HDA, HDB⟩, hW⟩ := hrel
            have hBl := hB.lt
            have hOff : Off blk w wr := fun k hk hne => hW.block k hk (by omega)
            by_cases hlt2 : m + 2 + q < ps.length
            · obtain ⟨p, hp⟩ : ∃ p, ps[m + 2 + q]? = some p := ⟨ps[m + 2 + q], List.getElem?_eq_getElem hlt2⟩
              obtain ⟨p', hq⟩ : ∃ p, ps[m + 1 + q]? = some p := ⟨ps[m + 1 + q], List.getElem?_eq_getElem (by omega)⟩
              have c1 : wr.cell? ⟨blk, m + 1 + (q + 1), none⟩ = some p.1 := (hB.cell _).trans (HDB.out _ p (by omega) (by rw [← hp]; congr 1; omega))
              have c2 : wr.cell? ⟨blk, m + 1 + q, none⟩ = some p'.1 := (hB.cell _).trans (HDB.out _ p' (by omega) hq)
              have HPE := Lib.hid (HE.out p (List.mem_of_getElem? hp))
              have HQE := Lib.hid (HE.out p' (List.mem_of_getElem? hq))
              obtain ⟨s1, zs⟩ := p
              obtain ⟨s2, ys'⟩ := p'
              dsimp only at c1 c2 HPE HQE
              have HCALL := Lib.hid (HG.out wr.drew s1 s2 zs ys' (HPE.out.2 _ (fun k h1 h2 => hOff k h1 h2)) (HQE.out.2 _ (fun k h1 h2 => hOff k h1 h2)))
              obtain ⟨a3, d3, rfl⟩ := (HPE.out.2 wr hOff).len
              obtain ⟨a4, d4, rfl⟩ := (HQE.out.2 wr hOff).len
              have HP := Lib.hid (show ps[(m + 1 + q) + 1]? = some (Value.slice a3 zs.length d3, zs) by rw [← hp]; congr 1; omega)
              have HQ := Lib.hid hq
              have j1 : (0 : Int) ≤ (q : Int) + 1 := by omega
              have j0 : (0 : Int) ≤ (q : Int) := by omega
              have j2 : (q : Int) + 1 < ((ps.length - (m + 1) : Nat) : Int) := by omega
              have j3 : (q : Int) < ((ps.length - (m + 1) : Nat) : Int) := by omega
              have wr2 : IntKind.i64.wrap (q : Int) = q := by simp [IntKind.wrap, IntKind.bits, IntKind.signed]; omega
              have k1 : (0 : Int) ≤ (k : Int) := by omega
              have k2 : (k : Int) < (ps.length : Int) := by omega
              clear hp hq hOff
              cases hxy : decide (zs = ys') with
              | true =>
                rw [hxy] at HCALL
                have HXY := Lib.hid (of_decide_eq_true hxy)
                have HSM := Lib.hid (show keepTo ps (m + 2 + (q + 1)) = keepTo ps (m + 2 + q) by
                  have := HKS.out (m + 1 + q) _ _ HP.out HQ.out HXY.out
                  rw [show m + 1 + q + 2 = m + 2 + (q + 1) by omega, show m + 1 + q + 1 = m + 2 + q by omega] at this
                  exact this)
                clear hxy
                go_wp2_with fail
                go_region_held3 (fun w' => w'.cell? ⟨blk, m + 1 + (q + 1), none⟩ = some (.slice a3 zs.length d3) ∧ w'.cell? ⟨blk, m + 1 + q, none⟩ = some (.slice a4 ys'.length d4))
                  (exact ⟨c1, c2⟩)
                  (first | (go_at_fn g; refine HCALL.out.mono ?_; rintro e w1 ⟨rfl, n1, rfl⟩))
                go_wp2
                exact ⟨⟨k, q + 1, by omega, by omega, rfl, by go_num, Lib.hid (by rw [HSM.out]; exact HKL.out), ⟨ds, hB, HZ, Lib.hid (by rw [HSM.out]; exact HDA.out), Lib.hid (fun i p hi h => HDB.out i p (by omega) h)⟩, hW.drewN _⟩, by simp [intOf]; omega⟩
              | false =>
                rw [hxy] at HCALL
                have HXY := Lib.hid (of_decide_eq_false hxy)
                have HSM := Lib.hid (show keepTo ps (m + 2 + (q + 1)) = keepTo ps (m + 2 + q) ++ [(Value.slice a3 zs.length d3, zs)] by
                  have := HKN.out (m + 1 + q) _ _ HP.out HQ.out HXY.out
                  rw [show m + 1 + q + 2 = m + 2 + (q + 1) by omega, show m + 1 + q + 1 = m + 2 + q by omega] at this
                  exact this)
                clear hxy
                have hkc : k < cs.size := by
                  have hk' : k < ps.length := by omega
                  exact (Array.getElem?_eq_some_iff.1 (HC.out k _ (List.getElem?_eq_getElem hk'))).1
                obtain ⟨u0, t0⟩ : ∃ u, wr.cell? ⟨blk, k, none⟩ = some u := ⟨ds[k]'(by omega), by rw [hB.cell]; exact Array.getElem?_eq_getElem _⟩
                have fB := hB.free
                have HKC := Lib.hid hkc
                clear hkc
                go_wp2_with fail
                go_region_held3 (fun w' => w'.cell? ⟨blk, m + 1 + (q + 1), none⟩ = some (.slice a3 zs.length d3) ∧ w'.cell? ⟨blk, m + 1 + q, none⟩ = some (.slice a4 ys'.length d4))
                  (exact ⟨c1, c2⟩)
                  (first | (go_at_fn g; refine HCALL.out.mono ?_; rintro e w1 ⟨rfl, n1, rfl⟩))
                go_wp2
                refine ⟨⟨k + 1, q + 1, by omega, by omega, by go_num, by go_num, Lib.hid (by rw [HSM.out, List.length_append, HKL.out]; rfl), ⟨ds.setIfInBounds k (.slice a3 zs.length d3), (hB.drewN _).set k _, by simp [HZ], Lib.hid (fun i p h => ?_), Lib.hid (fun i p hi h => ?_)⟩, (hW.drewN _).set blk _ _ (Nat.le_refl _) (by omega)⟩, by simp [intOf]; omega⟩
                · rw [HSM.out] at h
                  rw [Array.getElem?_setIfInBounds]
                  by_cases e : k = i
                  · subst e
                    rw [List.getElem?_append_right (by rw [HKL.out]; exact Nat.le_refl _), HKL.out] at h
                    simp at h
                    subst h
                    rw [if_pos rfl, if_pos (by have := HKC.out; omega)]
                  · rw [if_neg e]
                    have hi : i < k := by
                      have := (List.getElem?_eq_some_iff.1 h).1
                      rw [List.length_append, HKL.out] at this
                      simp at this; omega
                    rw [List.getElem?_append_left (by rw [HKL.out]; exact hi)] at h
                    exact HDA.out i p h
                · rw [Array.getElem?_setIfInBounds, if_neg (by omega)]
                  exact HDB.out i p (by omega) h
            · have HQL := Lib.hid (show m + 2 + q = ps.length by omega)
              have j2 : ¬ (q : Int) + 1 < ((ps.length - (m + 1) : Nat) : Int) := by have := HQL.out; omega
              have k1 : (0 : Int) ≤ (k : Int) := by omega
              have k2 : (k : Int) ≤ (ps.length : Int) := by omega
              have k3 : (k : Int) ≤ (cap : Int) := by omega
              have hBc := hB.cell
              have hBf := hB.free
              have hcl := fun ty => Lib.run_clear_slice (P := Tryz.prog) wr 38 28 ty (.slice none 0 0) Tryz.underlying38 (fun w => by kernel_rfl) (by kernel_rfl) rfl blk k (ps.length - k) (cap - k) (by omega) (fun j hj => by
                rw [hBc]
                have hk' : k + j < ps.length := by omega
                have := (Array.getElem?_eq_some_iff.1 (HC.out (k + j) _ (List.getElem?_eq_getElem hk'))).1
                rw [Array.getElem?_eq_getElem (by omega)]; rfl) (fun j hj => hBf _)
              obtain ⟨ds', hB', he', hW'⟩ := Blk.setCells blk (List.replicate (ps.length - k) (Value.slice none 0 0)) k wr ds hB
              generalize wr.setCells blk k (List.replicate (ps.length - k) (Value.slice none 0 0)) = w9 at *
              clear hBc hBf
              go_wp2
              rw [← HPP.out]
              refine ⟨keepTo ps ps.length, ds', by rw [← HQL.out, HKL.out], by have := HD.out; rwa [List.take_length] at this, fun p hp => mem_keepTo _ hp, hB', fun i p h => ?_, hW.on hW', keepTo_le ps ps.length⟩
              rw [← HQL.out] at h
              have hi : i < k := by have := (List.getElem?_eq_some_iff.1 h).1; rwa [HKL.out] at this
              rw [he' i hi]
              exact HDA.out i p h
      · have HL := Lib.hid (show ps.length = m + 1 by omega)
        go_wp2
        rw [← HPP.out]
        have h1 := HD.out
        rw [List.take_length] at h1
        refine ⟨ps, cs, rfl, ?_, fun p hp => hp, hB, HC.out, (Within.refl _ _ _).drewN n, Nat.le_refl _⟩
        rw [← h1, HL.out, HKT.out, ← HL.out, List.take_length]
end Go.Proofs.YtpaiiaajbojmnaaGreat
