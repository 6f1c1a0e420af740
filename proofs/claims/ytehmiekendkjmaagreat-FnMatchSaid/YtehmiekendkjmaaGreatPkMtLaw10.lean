/- Contracts and plain laws, part 10, for the statement's proof. -/
import Derived.Test.YtehmiekendkjmaaGreatPkMtLaw9
import Derived.Lib.SliceRun
import Derived.BigRegion
import Derived.Deep.DeepCutAuto
namespace Go.Proofs.YtehmiekendkjmaaGreat
open Go.RowKit Go.Sort Go.Proofs
set_option linter.unusedVariables false
set_option linter.unusedSimpArgs false
structure Elt (w : World) (blk : Nat) where
  v : Value
  xs : List Int
  one : v.oneCell' = true
  rd : ∀ w', Off blk w w' → IntSl w' v xs
instance instElt (w : World) (blk : Nat) : Inhabited (Elt w blk) := ⟨⟨.slice none 0 0, [], rfl, fun _ _ => .inl ⟨_, _, rfl, rfl⟩⟩⟩
def eltV {w : World} {blk : Nat} (x : Elt w blk) : Value := x.v
def eltC {w : World} {blk : Nat} (x y : Elt w blk) : Int := lcmp x.xs y.xs
def eltP {w : World} {blk : Nat} (x : Elt w blk) : Value × List Int := (x.v, x.xs)
theorem swo_elt (w : World) (blk : Nat) : SWO (ltOf (eltC (w := w) (blk := blk))) where
  irrefl x := decide_eq_false (by unfold eltC; rw [lcmp_self]; omega)
  trans x y z h1 h2 := decide_eq_true (lcmp_trans _ _ _ (of_decide_eq_true h1) (of_decide_eq_true h2))
  ntrans x y z h1 h2 := by
    have a := of_decide_eq_false h1
    have b := of_decide_eq_false h2
    refine decide_eq_false ?_
    have := lcmp_ntrans x.xs y.xs z.xs (by unfold eltC at a; omega) (by unfold eltC at b; omega)
    unfold eltC; omega
def eltsOf {w : World} {blk : Nat} (ps : List (Value × List Int)) (he : ∀ p ∈ ps, p.1.oneCell' = true ∧ ∀ w', Off blk w w' → IntSl w' p.1 p.2) : List (Elt w blk) := ps.pmap (fun p h => ⟨p.1, p.2, h.1, h.2⟩) he
theorem map_eltsOf {w : World} {blk : Nat} (ps : List (Value × List Int)) (he : ∀ p ∈ ps, p.1.oneCell' = true ∧ ∀ w', Off blk w w' → IntSl w' p.1 p.2) : (eltsOf ps he).map eltP = ps := by
  unfold eltsOf
  rw [List.map_pmap]
  induction ps with
  | nil => rfl
  | cons p ps ih =>
    rw [List.pmap_cons, ih (fun q hq => he q (by simp [hq]))]
    rfl
theorem off_sortWorld {α : Type} [Inhabited α] (enc : α → Value) (w : World) (blk off n : Nat) (d : Array α) (os : Array Obj) : Off blk w (sortWorld enc w blk off n d os) := by
  intro k hk hne
  unfold sortWorld
  rw [heap_grow_old _ _ (by rw [size_putRow]; exact hk)]
  show (mapBlock (Sort.ahead w n) blk (putCells enc off d)).heap[k]? = _
  simp only [mapBlock, Array.getElem?_modify]
  rw [if_neg (fun e => hne e.symm)]
  rfl
theorem within_sortWorld {α : Type} [Inhabited α] (enc : α → Value) (w : World) (blk off n : Nat) (d : Array α) (os : Array Obj) : Within blk (blk + 1) w (sortWorld enc w blk off n d os) :=
  ⟨rfl, rfl, rfl, by unfold sortWorld; rw [size_grow, size_putRow]; exact Nat.le_add_right _ _, fun k hk hne => off_sortWorld enc w blk off n d os k hk (by omega)⟩
theorem blk_sortWorld {α : Type} [Inhabited α] (enc : α → Value) (w : World) (blk off n : Nat) (d : Array α) (os : Array Obj) {cs : Array Value} {T : TypeId} (h : Blk w blk cs T) : Blk (sortWorld enc w blk off n d os) blk (putCells enc off d cs) T := by
  have hl := h.lt
  unfold Blk at *
  unfold sortWorld
  rw [heap_grow_old _ _ (by rw [size_putRow]; exact hl)]
  show (mapBlock (Sort.ahead w n) blk (putCells enc off d)).heap[blk]? = _
  simp only [mapBlock, Array.getElem?_modify, if_pos trivial]
  show (w.heap[blk]?).map _ = _
  rw [h]
  rfl
set_option maxRecDepth 100000 in
set_option maxHeartbeats 2000000 in
theorem sortFuncL_any (g : Nat) (eg : ∀ args w, (callFunc g args).run Tryz.prog w = .ok (.enter g args) w)
    (hg : ∀ (W : World) (s1 s2 : Value) (xs ys : List Int), IntSl W s1 xs → IntSl W s2 ys → Calls Tryz.prog g #[s1, s2] W fun e w' => e = .returned (.int .i64 (lcmp xs ys)) ∧ ∃ n, w' = W.drewN n)
    (blk cap : Nat) (ps : List (Value × List Int)) (w : World) (cs : Array Value) (hB : Blk w blk cs 30)
    (hc : ∀ (i : Nat) p, ps[i]? = some p → cs[i]? = some p.1)
    (he : ∀ p ∈ ps, p.1.oneCell' = true ∧ ∀ w', Off blk w w' → IntSl w' p.1 p.2) (hn : ps.length ≤ 1000000) :
    Calls Tryz.prog 71 #[.slice (some ⟨blk, 0, none⟩) ps.length cap, .func (.func g) #[] #[]] w fun e w' => e = .returned (.tuple #[]) ∧
      ∃ (qs : List (Value × List Int)) (ds : Array Value), qs.Perm ps ∧ qs.Pairwise (fun a b => lcmp a.2 b.2 ≤ 0) ∧ Blk w' blk ds 30 ∧ ds.size = cs.size ∧ (∀ (i : Nat) p, qs[i]? = some p → ds[i]? = some p.1) ∧ Within blk (blk + 1) w w' := by
  obtain ⟨d, hd⟩ : ∃ d : Array (Elt w blk), d = (eltsOf ps he).toArray := ⟨_, rfl⟩
  have hdl : d.toList.map eltP = ps := by rw [hd]; exact map_eltsOf ps he
  have hds : d.size = ps.length := by rw [← hdl]; simp
  have hget : ∀ (a : Array (Elt w blk)) (j : Nat) (hj : j < a.size), a[j]! = a[j] := fun a j hj => getElem!_pos a j hj
  have hH : Holds (eltV (w := w) (blk := blk)) w blk 0 d := by
    intro j hj
    rw [Nat.zero_add]
    refine ⟨?_, hB.free j⟩
    rw [hB.cell, hget d j hj]
    refine hc j (eltP d[j]) ?_
    rw [← hdl, List.getElem?_map, Array.getElem?_toList, Array.getElem?_eq_getElem hj]
    rfl
  have hcmp : CmpReads Tryz.prog g #[] (eltV (w := w) (blk := blk)) eltC blk 0 d.size w := by
    intro m os dk hs x y
    have ho := off_sortWorld (eltV (w := w) (blk := blk)) w blk 0 m dk os
    exact hg _ _ _ _ _ (x.rd _ ho) (y.rd _ ho)
  have hcon := Tryz.slices_SortFunc (eltV (w := w) (blk := blk)) (fun x => x.one) eltC (swo_elt w blk) g #[] blk 0 cap d w eg hcmp.lays hH hB.lt (by omega)
  rw [hds] at hcon
  refine hcon.mono ?_
  rintro e w' ⟨rfl, d', n, os, hperm, hsort, rfl⟩
  refine ⟨rfl, d'.toList.map eltP, putCells eltV 0 d' cs, ?_, ?_, blk_sortWorld _ w blk 0 n d' os hB, by simp [putCells], ?_, within_sortWorld _ w blk 0 n d' os⟩
  · obtain ⟨e1, _, e2⟩ := hperm
    have e3 : d'.extract 0 ps.length = d' := by rw [← hds, ← e1]; exact Array.extract_size
    have e4 : d.extract 0 ps.length = d := by rw [← hds]; exact Array.extract_size
    rw [e3, e4] at e2
    have := e2.map eltP
    rwa [hdl] at this
  · rw [List.pairwise_map, List.pairwise_iff_getElem]
    intro i j hi hj hij
    have hi' : i < d'.size := by simpa using hi
    have hj' : j < d'.size := by simpa using hj
    have hsz : d'.size = d.size := hperm.1
    have := of_decide_eq_false (hsort i j (Nat.zero_le _) hij (by omega))
    rw [hget d' j hj', hget d' i hi'] at this
    have h2 : ¬ lcmp d'[j].xs d'[i].xs < 0 := this
    rw [lcmp_flip] at h2
    simp only [Array.getElem_toList]
    show lcmp d'[i].xs d'[j].xs ≤ 0
    omega
  · intro i p hp
    rw [List.getElem?_map] at hp
    have hi : i < d'.size := by
      rcases Nat.lt_or_ge i d'.size with h | h
      · exact h
      · rw [Array.getElem?_toList, Array.getElem?_eq_none h] at hp; simp at hp
    rw [Array.getElem?_toList, Array.getElem?_eq_getElem hi] at hp
    simp only [Option.map_some, Option.some.injEq] at hp
    have hics : i < cs.size := by
      have hsz : d'.size = d.size := hperm.1
      have h2 : ps[i]? = some (ps[i]'(by omega)) := List.getElem?_eq_getElem _
      exact (Array.getElem?_eq_some_iff.1 (hc i _ h2)).1
    simp only [putCells, Array.getElem?_mapIdx, Array.getElem?_eq_getElem hics, Option.map_some, Nat.zero_le, true_and, Nat.zero_add, Nat.sub_zero, if_pos hi]
    rw [hget d' i hi, ← hp]
    rfl
/- slices.CompactFunc at slices of int64. -/
open Go.RowKit
def keepTo (ps : List (Value × List Int)) : Nat → List (Value × List Int)
  | 0 => []
  | k + 1 => match ps[k]? with
    | none => keepTo ps k
    | some p => if (ps[k - 1]?.map (·.2)) = some p.2 ∧ 0 < k then keepTo ps k else keepTo ps k ++ [p]
theorem keepTo_same {ps : List (Value × List Int)} {k : Nat} {p q : Value × List Int} (hp : ps[k + 1]? = some p) (hq : ps[k]? = some q) (h : p.2 = q.2) : keepTo ps (k + 2) = keepTo ps (k + 1) := by
  show (match ps[k + 1]? with | none => _ | some p => _) = _
  rw [hp]
  simp [hq, h]
theorem keepTo_new {ps : List (Value × List Int)} {k : Nat} {p q : Value × List Int} (hp : ps[k + 1]? = some p) (hq : ps[k]? = some q) (h : p.2 ≠ q.2) : keepTo ps (k + 2) = keepTo ps (k + 1) ++ [p] := by
  show (match ps[k + 1]? with | none => _ | some p => _) = _
  rw [hp]
  simp [hq, Ne.symm h]
theorem keepTo_one {ps : List (Value × List Int)} : keepTo ps 1 = ps.take 1 := by
  cases ps <;> simp [keepTo]
theorem mem_keepTo {ps : List (Value × List Int)} {p : Value × List Int} : ∀ k, p ∈ keepTo ps k → p ∈ ps
  | 0, h => by simp [keepTo] at h
  | k + 1, h => by
    unfold keepTo at h
    split at h
    · exact mem_keepTo k h
    · rename_i q hq
      split at h
      · exact mem_keepTo k h
      · rcases List.mem_append.1 h with h | h
        · exact mem_keepTo k h
        · simp at h; subst h; exact List.mem_of_getElem? hq
theorem keepTo_le (ps : List (Value × List Int)) : ∀ k, (keepTo ps k).length ≤ k
  | 0 => Nat.le_refl _
  | k + 1 => by
    have ih := keepTo_le ps k
    unfold keepTo
    split
    · omega
    · split
      · omega
      · simp; omega
theorem ddpA_snoc {α : Type} [DecidableEq α] (p : α) (l : List α) (x : α) : ddpA p (l ++ [x]) = if x = l.getLast?.getD p then ddpA p l else ddpA p l ++ [x] := by
  induction l generalizing p with
  | nil => by_cases h : x = p <;> simp [ddpA, h]
  | cons b l ih =>
    have e : (b :: l).getLast?.getD p = l.getLast?.getD b := by rw [List.getLast?_cons]; rfl
    rw [e]
    simp only [List.cons_append, ddpA, ih b]
    by_cases h1 : b = p <;> by_cases h2 : x = l.getLast?.getD b <;> simp [h1, h2]
theorem ddp_snoc {α : Type} [DecidableEq α] {l : List α} {x y : α} (h : l.getLast? = some y) : ddp (l ++ [x]) = if x = y then ddp l else ddp l ++ [x] := by
  cases l with
  | nil => simp at h
  | cons a l =>
    rw [List.getLast?_cons] at h
    have e : l.getLast?.getD a = y := by simpa using h
    simp only [List.cons_append, ddp, ddpA_snoc, e]
    split <;> simp
theorem keepTo_ddp (ps : List (Value × List Int)) : ∀ k, k ≤ ps.length → (keepTo ps k).map (·.2) = ddp ((ps.take k).map (·.2))
  | 0, _ => rfl
  | 1, _ => by rw [keepTo_one]; cases ps <;> simp [ddp, ddpA]
  | k + 2, hk => by
    have ih := keepTo_ddp ps (k + 1) (by omega)
    obtain ⟨p, hp⟩ : ∃ p, ps[k + 1]? = some p := ⟨ps[k + 1], List.getElem?_eq_getElem (by omega)⟩
    obtain ⟨q, hq⟩ : ∃ q, ps[k]? = some q := ⟨ps[k], List.getElem?_eq_getElem (by omega)⟩
    have hl : ((ps.take (k + 1)).map (·.2)).getLast? = some q.2 := by
      rw [List.getLast?_eq_getElem?, List.length_map, List.length_take, show min (k + 1) ps.length - 1 = k by omega, List.getElem?_map, List.getElem?_take_of_lt (by omega), hq]; rfl
    rw [take_snoc_of ps (k + 1) p hp, List.map_append]
    show _ = ddp ((ps.take (k + 1)).map (·.2) ++ [p.2])
    rw [ddp_snoc hl]
    by_cases h : p.2 = q.2
    · rw [keepTo_same hp hq h, if_pos h, ih]
    · rw [keepTo_new hp hq h, if_neg h, List.map_append, ih]; rfl
def CompPost (blk cap : Nat) (ps : List (Value × List Int)) (w : World) (e : Ending) (w' : World) : Prop :=
  ∃ (qs : List (Value × List Int)) (ds : Array Value), e = .returned (.slice (some ⟨blk, 0, none⟩) qs.length cap) ∧ qs.map (·.2) = ddp (ps.map (·.2)) ∧ (∀ p ∈ qs, p ∈ ps) ∧ Blk w' blk ds 30 ∧ (∀ (i : Nat) p, qs[i]? = some p → ds[i]? = some p.1) ∧ Within blk (blk + 1) w w' ∧ qs.length ≤ ps.length
set_option maxRecDepth 100000 in
set_option maxHeartbeats 2000000 in
theorem compactFuncL_any (g : Nat) (eg : ∀ args w, (callFunc g args).run Tryz.prog w = .ok (.enter g args) w)
    (hg : ∀ (W : World) (s1 s2 : Value) (xs ys : List Int), IntSl W s1 xs → IntSl W s2 ys → Calls Tryz.prog g #[s1, s2] W fun e w' => e = .returned (.bool (decide (xs = ys))) ∧ ∃ n, w' = W.drewN n)
    (blk cap : Nat) (ps : List (Value × List Int)) (w : World) (cs : Array Value) (hB : Blk w blk cs 30)
    (hc : ∀ (i : Nat) p, ps[i]? = some p → cs[i]? = some p.1)
    (he : ∀ p ∈ ps, p.1.oneCell' = true ∧ ∀ w', Off blk w w' → IntSl w' p.1 p.2) (hn : ps.length ≤ 1000000) (hcap : ps.length ≤ cap) (hmx : cap ≤ maxLen) :
    Calls Tryz.prog 104 #[.slice (some ⟨blk, 0, none⟩) ps.length cap, .func (.func g) #[] #[]] w (CompPost blk cap ps w) := by
  obtain ⟨PP, hPP⟩ : ∃ P, CompPost blk cap ps w = P := ⟨_, rfl⟩
  rw [hPP]
  have HPP := Lib.hid hPP
  clear hPP
  unfold maxLen at hmx
  by_cases h2 : ps.length < 2
  · have hs : ps.map (·.2) = ddp (ps.map (·.2)) := by
      match ps, h2 with
      | [], _ => rfl
      | [p], _ => rfl
    have hl : (ps.length : Int) < 2 := by omega
    have HS := Lib.hid hs
    have HC := Lib.hid hc
    clear hs hc he
    go_enter Tryz.func104, Tryz.ntmps104
    go_wp2
    rw [← HPP.out]
    exact ⟨ps, cs, rfl, HS.out, fun p hp => hp, hB, HC.out, Within.refl _ _ _, Nat.le_refl _⟩
  · have hl : ¬ (ps.length : Int) < 2 := by omega
    have HC := Lib.hid hc
    have HE := Lib.hid he
    have HG := Lib.hid hg
    have HD := Lib.hid (keepTo_ddp ps ps.length (Nat.le_refl _))
    have HK1 := Lib.hid (show keepTo ps (0 + 1) = ps.take (0 + 1) from keepTo_one)
    have HKS := Lib.hid (fun k p q => @keepTo_same ps k p q)
    have HKN := Lib.hid (fun k p q => @keepTo_new ps k p q)
    have HTS := Lib.hid (fun k p h => take_snoc_of ps k p h)
    have hBl := hB.lt
    have hBc := hB.cell
    clear hc he hg
    go_enter Tryz.func104, Tryz.ntmps104
    go_wp2
    go_loopw [5] (fun i wr => ∃ m n : Nat, m + 1 ≤ ps.length ∧ i = .int .i64 ((m : Int) + 1) ∧ Hid (keepTo ps (m + 1) = ps.take (m + 1)) ∧ wr = w.drewN n) (fun i _ => ps.length - (intOf i).toNat)
    case atStart => exact ⟨0, 0, by omega, rfl, HK1, rfl⟩
    case round =>
      obtain ⟨m, n, hm, rfl, HKT, rfl⟩ := hrel
      by_cases hlt : m + 1 < ps.length
      · obtain ⟨p, hp⟩ : ∃ p, ps[m + 1]? = some p := ⟨ps[m + 1], List.getElem?_eq_getElem hlt⟩
        obtain ⟨q, hq⟩ : ∃ q, ps[m]? = some q := ⟨ps[m], List.getElem?_eq_getElem (by omega)⟩
        have c1 : w.cell? ⟨blk, m + 1, none⟩ = some p.1 := (hBc _).trans (HC.out _ p hp)
        have c2 : w.cell? ⟨blk, m, none⟩ = some q.1 := (hBc _).trans (HC.out _ q hq)
        have HPE := Lib.hid (HE.out p (List.mem_of_getElem? hp))
        have HQE := Lib.hid (HE.out q (List.mem_of_getElem? hq))
        obtain ⟨s1, xs⟩ := p
        obtain ⟨s2, ys⟩ := q
        dsimp only at c1 c2 HPE HQE
        have HCALL := Lib.hid (HG.out (w.drewN n).drew s1 s2 xs ys (HPE.out.2 _ (fun k _ _ => rfl)) (HQE.out.2 _ (fun k _ _ => rfl)))
        obtain ⟨a1, d1, rfl⟩ := (HPE.out.2 w (fun k _ _ => rfl)).len
        obtain ⟨a2, d2, rfl⟩ := (HQE.out.2 w (fun k _ _ => rfl)).len
        have HP := Lib.hid hp
        have HQ := Lib.hid hq
        have i1 : (0 : Int) ≤ (m : Int) := by omega
        have i2 : (m : Int) < (ps.length : Int) := by omega
        have i3 : (m : Int) + 1 < (ps.length : Int) := by omega
        have i4 : (0 : Int) ≤ (m : Int) + 1 := by omega
        have wr1 : IntKind.i64.wrap (m : Int) = m := by simp [IntKind.wrap, IntKind.bits, IntKind.signed]; omega
        clear hp hq hBc
        cases hxy : decide (xs = ys) with
        | false =>
          rw [hxy] at HCALL
          have HXY := Lib.hid (of_decide_eq_false hxy)
          clear hxy
          go_wp2_with fail
          go_region_held3 (fun w' => w'.cell? ⟨blk, m + 1, none⟩ = some (.slice a1 xs.length d1) ∧ w'.cell? ⟨blk, m, none⟩ = some (.slice a2 ys.length d2))
            (exact ⟨c1, c2⟩)
            (first | (go_at_fn g; refine HCALL.out.mono ?_; rintro e w1 ⟨rfl, n1, rfl⟩))
          go_wp2
          refine ⟨⟨m + 1, _, by omega, by go_num, Lib.hid ?_, by first | rfl | exact World.drewN_drewN _ _ _ | (show (w.drewN (n + 1)).drewN n1 = _; exact World.drewN_drewN _ _ _)⟩, by simp [intOf]; omega⟩
          rw [HKN.out m _ _ HP.out HQ.out HXY.out, HKT.out, HTS.out _ _ HP.out]
        | true =>
          rw [hxy] at HCALL
          have HXY := Lib.hid (of_decide_eq_true hxy)
          clear hxy
          have HK0 := Lib.hid (show keepTo ps (m + 2) = ps.take (m + 1) by rw [HKS.out m _ _ HP.out HQ.out HXY.out, HKT.out])
          have i5 : (m : Int) + 1 ≤ (ps.length : Int) := by omega
          have i6 : (m : Int) + 1 ≤ (cap : Int) := by omega
          go_wp2_with fail
          go_region_held3 (fun w' => w'.cell? ⟨blk, m + 1, none⟩ = some (.slice a1 xs.length d1) ∧ w'.cell? ⟨blk, m, none⟩ = some (.slice a2 ys.length d2))
            (exact ⟨c1, c2⟩)
            (first | (go_at_fn g; refine HCALL.out.mono ?_; rintro e w1 ⟨rfl, n1, rfl⟩))
          go_wp2
          obtain ⟨wo, hwo⟩ : ∃ wo : World, wo = w.drewN (n + 1 + n1) := ⟨_, rfl⟩
          have hWo : Within blk (blk + 1) w wo := by rw [hwo]; exact (Within.refl _ _ _).drewN _
          have hBo : Blk wo blk cs 30 := by rw [hwo]; exact hB
          rw [← hwo]
          have HK0L := Lib.hid (show (keepTo ps (m + 2)).length = m + 1 by rw [HK0.out, List.length_take]; omega)
          have HD0 := Lib.hid (show ∀ (i : Nat) p, (keepTo ps (m + 2))[i]? = some p → cs[i]? = some p.1 from fun i p h => by
            rw [HK0.out] at h
            have hi : i < m + 1 := by have := (List.getElem?_eq_some_iff.1 h).1; simp at this; omega
            rw [List.getElem?_take_of_lt hi] at h
            exact HC.out i p h)
          clear hwo c1 c2 HCALL HP HQ HPE HQE HXY HK0 HKT hB hBl
          go_loopw [5, 7] (fun i j wr => ∃ k q : Nat, k ≤ m + 1 + q ∧ m + 2 + q ≤ ps.length ∧ i = .int .i64 (k : Int) ∧ j = .int .i64 ((q : Int) + 1) ∧ Hid ((keepTo ps (m + 2 + q)).length = k) ∧
            (∃ ds : Array Value, Blk wr blk ds 30 ∧ ds.size = cs.size ∧ Hid (∀ (i : Nat) p, (keepTo ps (m + 2 + q))[i]? = some p → ds[i]? = some p.1) ∧ Hid (∀ (i : Nat) p, m + 1 + q ≤ i → ps[i]? = some p → ds[i]? = some p.1)) ∧ Within blk (blk + 1) w wr) (fun _ j _ => ps.length - (intOf j).toNat)
          case atStart => exact ⟨m + 1, 0, by omega, by omega, by go_num, by go_num, HK0L, ⟨cs, hBo, rfl, HD0, Lib.hid (fun i p _ h => HC.out i p h)⟩, hWo⟩
          case round =>
            clear HK0L hBo hWo HD0
            obtain ⟨k, q, hkq, hql, rfl, rfl, HKL, ⟨ds, hB, HZ, HDA, HDB⟩, hW⟩ := hrel
            have hBl := hB.lt
            have hOff : Off blk w wr := fun k hk hne => hW.block k hk (by omega)
            by_cases hlt2 : m + 2 + q < ps.length
            · obtain ⟨p, hp⟩ : ∃ p, ps[m + 2 + q]? = some p := ⟨ps[m + 2 + q], List.getElem?_eq_getElem hlt2⟩
              obtain ⟨p', hq⟩ : ∃ p, ps[m + 1 + q]? = some p := ⟨ps[m + 1 + q], List.getElem?_eq_getElem (by omega)⟩
              have c1 : wr.cell? ⟨blk, m + 1 + (q + 1), none⟩ = some p.1 := (hB.cell _).trans (HDB.out _ p (by omega) (by rw [← hp]; congr 1; omega))
              have c2 : wr.cell? ⟨blk, m + 1 + q, none⟩ = some p'.1 := (hB.cell _).trans (HDB.out _ p' (by omega) hq)
              have HPE := Lib.hid (HE.out p (List.mem_of_getElem? hp))
              have HQE := Lib.hid (HE.out p' (List.mem_of_getElem? hq))
              obtain ⟨s1, zs⟩ := p
              obtain ⟨s2, ys'⟩ := p'
              dsimp only at c1 c2 HPE HQE
              have HCALL := Lib.hid (HG.out wr.drew s1 s2 zs ys' (HPE.out.2 _ (fun k h1 h2 => hOff k h1 h2)) (HQE.out.2 _ (fun k h1 h2 => hOff k h1 h2)))
              obtain ⟨a3, d3, rfl⟩ := (HPE.out.2 wr hOff).len
              obtain ⟨a4, d4, rfl⟩ := (HQE.out.2 wr hOff).len
              have HP := Lib.hid (show ps[(m + 1 + q) + 1]? = some (Value.slice a3 zs.length d3, zs) by rw [← hp]; congr 1; omega)
              have HQ := Lib.hid hq
              have j1 : (0 : Int) ≤ (q : Int) + 1 := by omega
              have j0 : (0 : Int) ≤ (q : Int) := by omega
              have j2 : (q : Int) + 1 < ((ps.length - (m + 1) : Nat) : Int) := by omega
              have j3 : (q : Int) < ((ps.length - (m + 1) : Nat) : Int) := by omega
              have wr2 : IntKind.i64.wrap (q : Int) = q := by simp [IntKind.wrap, IntKind.bits, IntKind.signed]; omega
              have k1 : (0 : Int) ≤ (k : Int) := by omega
              have k2 : (k : Int) < (ps.length : Int) := by omega
              clear hp hq hOff
              cases hxy : decide (zs = ys') with
              | true =>
                rw [hxy] at HCALL
                have HXY := Lib.hid (of_decide_eq_true hxy)
                have HSM := Lib.hid (show keepTo ps (m + 2 + (q + 1)) = keepTo ps (m + 2 + q) by
                  have := HKS.out (m + 1 + q) _ _ HP.out HQ.out HXY.out
                  rw [show m + 1 + q + 2 = m + 2 + (q + 1) by omega, show m + 1 + q + 1 = m + 2 + q by omega] at this
                  exact this)
                clear hxy
                go_wp2_with fail
                go_region_held3 (fun w' => w'.cell? ⟨blk, m + 1 + (q + 1), none⟩ = some (.slice a3 zs.length d3) ∧ w'.cell? ⟨blk, m + 1 + q, none⟩ = some (.slice a4 ys'.length d4))
                  (exact ⟨c1, c2⟩)
                  (first | (go_at_fn g; refine HCALL.out.mono ?_; rintro e w1 ⟨rfl, n1, rfl⟩))
                go_wp2
                exact ⟨⟨k, q + 1, by omega, by omega, rfl, by go_num, Lib.hid (by rw [HSM.out]; exact HKL.out), ⟨ds, hB, HZ, Lib.hid (by rw [HSM.out]; exact HDA.out), Lib.hid (fun i p hi h => HDB.out i p (by omega) h)⟩, hW.drewN _⟩, by simp [intOf]; omega⟩
              | false =>
                rw [hxy] at HCALL
                have HXY := Lib.hid (of_decide_eq_false hxy)
                have HSM := Lib.hid (show keepTo ps (m + 2 + (q + 1)) = keepTo ps (m + 2 + q) ++ [(Value.slice a3 zs.length d3, zs)] by
                  have := HKN.out (m + 1 + q) _ _ HP.out HQ.out HXY.out
                  rw [show m + 1 + q + 2 = m + 2 + (q + 1) by omega, show m + 1 + q + 1 = m + 2 + q by omega] at this
                  exact this)
                clear hxy
                have hkc : k < cs.size := by
                  have hk' : k < ps.length := by omega
                  exact (Array.getElem?_eq_some_iff.1 (HC.out k _ (List.getElem?_eq_getElem hk'))).1
                obtain ⟨u0, t0⟩ : ∃ u, wr.cell? ⟨blk, k, none⟩ = some u := ⟨ds[k]'(by omega), by rw [hB.cell]; exact Array.getElem?_eq_getElem _⟩
                have fB := hB.free
                have HKC := Lib.hid hkc
                clear hkc
                go_wp2_with fail
                go_region_held3 (fun w' => w'.cell? ⟨blk, m + 1 + (q + 1), none⟩ = some (.slice a3 zs.length d3) ∧ w'.cell? ⟨blk, m + 1 + q, none⟩ = some (.slice a4 ys'.length d4))
                  (exact ⟨c1, c2⟩)
                  (first | (go_at_fn g; refine HCALL.out.mono ?_; rintro e w1 ⟨rfl, n1, rfl⟩))
                go_wp2
                refine ⟨⟨k + 1, q + 1, by omega, by omega, by go_num, by go_num, Lib.hid (by rw [HSM.out, List.length_append, HKL.out]; rfl), ⟨ds.setIfInBounds k (.slice a3 zs.length d3), (hB.drewN _).set k _, by simp [HZ], Lib.hid (fun i p h => ?_), Lib.hid (fun i p hi h => ?_)⟩, (hW.drewN _).set blk _ _ (Nat.le_refl _) (by omega)⟩, by simp [intOf]; omega⟩
                · rw [HSM.out] at h
                  rw [Array.getElem?_setIfInBounds]
                  by_cases e : k = i
                  · subst e
                    rw [List.getElem?_append_right (by rw [HKL.out]; exact Nat.le_refl _), HKL.out] at h
                    simp at h
                    subst h
                    rw [if_pos rfl, if_pos (by have := HKC.out; omega)]
                  · rw [if_neg e]
                    have hi : i < k := by
                      have := (List.getElem?_eq_some_iff.1 h).1
                      rw [List.length_append, HKL.out] at this
                      simp at this; omega
                    rw [List.getElem?_append_left (by rw [HKL.out]; exact hi)] at h
                    exact HDA.out i p h
                · rw [Array.getElem?_setIfInBounds, if_neg (by omega)]
                  exact HDB.out i p (by omega) h
            · have HQL := Lib.hid (show m + 2 + q = ps.length by omega)
              have j2 : ¬ (q : Int) + 1 < ((ps.length - (m + 1) : Nat) : Int) := by have := HQL.out; omega
              have k1 : (0 : Int) ≤ (k : Int) := by omega
              have k2 : (k : Int) ≤ (ps.length : Int) := by omega
              have k3 : (k : Int) ≤ (cap : Int) := by omega
              have hBc := hB.cell
              have hBf := hB.free
              have hcl := fun ty => Lib.run_clear_slice (P := Tryz.prog) wr 75 30 ty (.slice none 0 0) Tryz.underlying75 (fun w => by kernel_rfl) (by kernel_rfl) rfl blk k (ps.length - k) (cap - k) (by omega) (fun j hj => by
                rw [hBc]
                have hk' : k + j < ps.length := by omega
                have := (Array.getElem?_eq_some_iff.1 (HC.out (k + j) _ (List.getElem?_eq_getElem hk'))).1
                rw [Array.getElem?_eq_getElem (by omega)]; rfl) (fun j hj => hBf _)
              obtain ⟨ds', hB', he', hW'⟩ := Blk.setCells blk (List.replicate (ps.length - k) (Value.slice none 0 0)) k wr ds hB
              generalize wr.setCells blk k (List.replicate (ps.length - k) (Value.slice none 0 0)) = w9 at *
              clear hBc hBf
              go_wp2
              rw [← HPP.out]
              refine ⟨keepTo ps ps.length, ds', by rw [← HQL.out, HKL.out], by have := HD.out; rwa [List.take_length] at this, fun p hp => mem_keepTo _ hp, hB', fun i p h => ?_, hW.on hW', keepTo_le ps ps.length⟩
              rw [← HQL.out] at h
              have hi : i < k := by have := (List.getElem?_eq_some_iff.1 h).1; rwa [HKL.out] at this
              rw [he' i hi]
              exact HDA.out i p h
      · have HL := Lib.hid (show ps.length = m + 1 by omega)
        go_wp2
        rw [← HPP.out]
        have h1 := HD.out
        rw [List.take_length] at h1
        refine ⟨ps, cs, rfl, ?_, fun p hp => hp, hB, HC.out, (Within.refl _ _ _).drewN n, Nat.le_refl _⟩
        rw [← h1, HL.out, HKT.out, ← HL.out, List.take_length]
set_option maxRecDepth 100000 in
theorem sortRow_any (L : Nat) (P : Nat → Prop) (v : Value) (ls : List (List Int)) (w : World) (h : RowE w L P v ls) (hn : ls.length ≤ 1000000) :
    Calls Tryz.prog 71 #[v, .func (.func 109) #[] #[]] w fun e w' => e = .returned (.tuple #[]) ∧
      ∃ S : List (List Int), S.Perm ls ∧ S.Pairwise (fun a b => lcmp a b ≤ 0) ∧ RowE w' L P v S ∧ (∀ k, k < w.heap.size → v.ownBlock ≠ some k → w'.heap[k]? = w.heap[k]?) ∧ Within L w.heap.size w w' := by
  obtain ⟨vs, ⟨hvl, hrow⟩, h2, h3, h4⟩ := h
  rcases hrow with ⟨rfl, hz⟩ | ⟨g, cap, cur, rfl, c1, c2, c3, c4, c5, c6⟩
  · have hls : ls = [] := List.eq_nil_of_length_eq_zero hz
    subst hls
    refine (Tryz.slices_SortFunc_none (α := Nat) none 0 _ w).mono ?_
    rintro e w' ⟨rfl, rfl⟩
    exact ⟨rfl, [], List.Perm.refl _, List.Pairwise.nil, RowE.nil _ _ _, fun _ _ _ => rfl, Within.refl _ _ _⟩
  · obtain ⟨hg1, hg2, hg3⟩ := h3 g rfl
    simp only [Nat.mul_one] at c5 c6
    have hpl : (vs.zip ls).length = ls.length := by rw [List.length_zip, h2]; simp
    have hz : ∀ (i : Nat) p, (vs.zip ls)[i]? = some p → vs[i]? = some p.1 ∧ ls[i]? = some p.2 := fun i p hp => by
      rw [List.getElem?_zip_eq_some] at hp; exact hp
    have hmem : ∀ p ∈ vs.zip ls, ∃ f, P f ∧ f < w.heap.size ∧ OwnR w f (f + 1) p.1 p.2 := fun p hp => by
      obtain ⟨i, hi, e⟩ := List.mem_iff_getElem.1 hp
      obtain ⟨a, b⟩ := hz i p (by rw [List.getElem?_eq_getElem hi, e])
      exact h4 i _ _ b a
    have hs := sortFuncL_any 109 (fun args w => rfl) (fun W s1 s2 xs ys a b => nsig1_any s1 s2 xs ys W a b) g cap (vs.zip ls) w cur c2 (fun i p hp => by
      have := (hz i p hp).1
      rw [← c6, List.getElem?_take] at this
      split at this
      · simpa using this
      · cases this) (fun p hp => by
      obtain ⟨f, f1, f2, f3⟩ := hmem p hp
      refine ⟨f3.sl.one, fun w' ho => (f3.same fun k k1 k2 => ?_).sl⟩
      obtain rfl : k = f := by omega
      exact ho k f2 (fun e => hg3 (e ▸ f1))) (by rw [hpl]; exact hn)
    rw [hpl] at hs
    refine hs.mono ?_
    rintro e w' ⟨rfl, qs, ds, q1, q2, q3, q4, q5, q6⟩
    have hql : qs.length = ls.length := by rw [q1.length_eq, hpl]
    have hSp : (qs.map (·.2)).Perm ls := by
      have := q1.map (·.2)
      rwa [List.map_snd_zip (by rw [h2]; exact Nat.le_refl _)] at this
    refine ⟨rfl, qs.map (·.2), hSp, List.pairwise_map.2 q2, ⟨qs.map (·.1), ⟨by simp, ?_⟩, by simp, fun g' hg' => ?_, fun i x s hx hp => ?_⟩, fun k hk hne => q6.block k hk ?_, ⟨q6.os, q6.tape, q6.output, q6.size, fun k hk hne => q6.block k hk (by omega)⟩⟩
    · refine .inr ⟨g, cap, ds, by simp [hql], c1, q3, by simp [hql]; exact c3, c4, by rw [q4, c5, Nat.mul_one], ?_⟩
      rw [Nat.mul_one, List.length_map, hql]
      refine List.ext_getElem? fun i => ?_
      rw [List.getElem?_take, List.getElem?_map]
      split
      · obtain ⟨q, hq⟩ : ∃ q, qs[i]? = some q := ⟨qs[i]'(by omega), List.getElem?_eq_getElem _⟩
        rw [hq, Array.getElem?_toList, q5 i q hq]
        rfl
      · rw [List.getElem?_eq_none (by omega)]
        rfl
    · have : g = g' := by injection hg'
      subst this
      exact ⟨hg1, Nat.lt_of_lt_of_le hg2 q6.size, hg3⟩
    · rw [List.getElem?_map, Option.map_eq_some_iff] at hx hp
      obtain ⟨q, e1, rfl⟩ := hx
      obtain ⟨q', e2, rfl⟩ := hp
      rw [e1] at e2
      cases e2
      obtain ⟨f, f1, f2, f3⟩ := hmem q (q1.mem_iff.1 (List.mem_of_getElem? e1))
      refine ⟨f, f1, Nat.lt_of_lt_of_le f2 q6.size, f3.same fun k k1 k2 => ?_⟩
      obtain rfl : k = f := by omega
      refine q6.block k f2 ?_
      have : k ≠ g := fun e => hg3 (e ▸ f1)
      omega
    · have : g ≠ k := fun e => hne (by rw [← e]; rfl)
      omega
/- The program's netSignatures. -/
theorem ownR_cells {w : World} {g : Nat} {cs : Array Value} {zs : List Int} (h : Blk w g cs 2) (hc : cs.toList = icells zs) (hz : zs.length ≤ 1000) : OwnR w g (g + 1) (.slice (some ⟨g, 0, none⟩) zs.length zs.length) zs := by
  have hl : cs.size = zs.length := by rw [← Array.length_toList, hc]; simp [icells]
  refine .inr ⟨g, zs.length, cs, rfl, Nat.le_refl _, Nat.lt_succ_self _, Nat.le_refl _, by unfold maxLen; omega, h, fun i x hx => ?_⟩
  rw [← Array.getElem?_toList, hc]
  simp [icells, hx]
theorem OwnR.new {w : World} {lo hi : Nat} {sv : Value} {zs : List Int} (h : OwnR w lo hi sv zs) (o : Obj) : OwnR (w.alloc o) lo hi sv zs := h.by ((Below.refl _ w).alloc (Nat.le_refl _) o)
theorem below_two (w : World) (o o' : Obj) : Below w.heap.size w ((w.alloc o).alloc o') := ((Below.refl _ w).alloc (Nat.le_refl _) o).alloc (by simp) o'
theorem RowE.two {w : World} {L : Nat} {P : Nat → Prop} {v : Value} {ls : List (List Int)} (h : RowE w L P v ls) (o o' : Obj) : RowE ((w.alloc o).alloc o') L P v ls := h.off (below_two w o o').size (fun z hz _ => (below_two w o o').block z hz)
theorem OwnR.pick' {w : World} {lo hi : Nat} {s : Value} {zs : List Int} (h : OwnR w lo hi s zs) (hz : 0 < zs.length) : ∃ f, (lo ≤ f ∧ f < hi) ∧ OwnR w f (f + 1) s zs := by
  rcases h with ⟨_, _, _, e⟩ | ⟨g, cap, cs, h1, h2, h2', h3⟩
  · rw [e] at hz; simp at hz
  · exact ⟨g, ⟨h2, h2'⟩, .inr ⟨g, cap, cs, h1, Nat.le_refl _, Nat.lt_succ_self _, h3⟩⟩
set_option maxRecDepth 100000 in
set_option maxHeartbeats 2000000 in
theorem implNet_any (x : Nl) (c : List Int × List Int) (m : Nat) (v u : Value) (w : World) (h : NlV w v x) (hc : CoV w u c) (hm : x.nets = m) (hm24 : m ≤ 24) (hl : x.ds.length ≤ 24) (hcn : c.1.length = m) (hcd : c.2.length = x.ds.length)
    (hpn : ∀ d ∈ x.ds, d.pins.length ≤ 3 ∧ ∀ p ∈ d.pins, 0 ≤ p ∧ p < m) (hO : ∀ net, ∀ o ∈ occs x.ds c.2 net x.ds.length, ∃ q r : Nat, q < 24 ∧ r < 3 ∧ o = [(q : Int), (r : Int)])
    (HSR : Hid (∀ (L : Nat) (P : Nat → Prop) (v : Value) (ls : List (List Int)) (w : World), RowE w L P v ls → ls.length ≤ 1000000 → Calls Tryz.prog 71 #[v, .func (.func 109) #[] #[]] w fun e w' => e = .returned (.tuple #[]) ∧
      ∃ S : List (List Int), S.Perm ls ∧ S.Pairwise (fun a b => lcmp a b ≤ 0) ∧ RowE w' L P v S ∧ (∀ k, k < w.heap.size → v.ownBlock ≠ some k → w'.heap[k]? = w.heap[k]?) ∧ Within L w.heap.size w w')) :
    Calls Tryz.prog 90 #[v, u] w fun e w' => ∃ v', e = .returned v' ∧ BldL w' w.heap.size w'.heap.size v' ((List.range m).map fun j : Nat => netL' x c (j : Int)) ∧ Below w.heap.size w w' := by
  obtain ⟨s1, s2, rfl, hd, hp⟩ := h
  obtain ⟨t1, t2, rfl, hc1, hc2⟩ := hc
  have hpn' : ∀ d ∈ x.ds, d.pins.length ≤ 3 := fun d hd => (hpn d hd).1
  obtain ⟨Z, hZ⟩ : ∃ Z, ((List.range m).map fun j : Nat => netL' x c (j : Int)) = Z := ⟨_, rfl⟩
  rw [hZ]
  have hZl : Z.length = m := by rw [← hZ]; simp
  have hZt : ∀ k, k < m → Z.take (k + 1) = Z.take k ++ [netL' x c (k : Int)] := fun k hk => take_snoc_of Z k _ (by rw [← hZ]; simp [hk])
  have hZn : ∀ k : Nat, (netL' x c (k : Int)).length ≤ 20000 := fun k => by
    have h1 := cTo_len hpn' c.2 (k : Int) 24
    have h2 : 24 * (3 * (x.ds.length * 6)) ≤ 10368 := by omega
    unfold netL'
    rw [List.length_append]
    simp
    omega
  have hZs : ∀ (k : Nat) (S : List (List Int)), S.Perm (occs x.ds c.2 (k : Int) x.ds.length) → S.Pairwise (fun a b => lcmp a b ≤ 0) → [nmOf c.1 (k : Int)] ++ S.flatten = netL' x c (k : Int) ∧ (∀ o ∈ S, 0 < o.length) := fun k S h1 h2 => ⟨netL_sorted x c (k : Int) S h1 h2 (hO _), fun o ho => by
    obtain ⟨_, _, _, _, rfl⟩ := hO _ o (h1.mem_iff.1 ho)
    simp⟩
  obtain ⟨nets, ds, ps⟩ := x
  obtain ⟨cn, cd⟩ := c
  dsimp only at hd hp hc1 hc2 hm hl hcn hcd hpn hpn' hZs hZt hZn
  subst hm
  obtain ⟨X, hX⟩ : ∃ X : Nat → List Int, ∀ k : Nat, netL' ⟨(m : Int), ds, ps⟩ (cn, cd) (k : Int) = X k := ⟨_, fun _ => rfl⟩
  simp only [hX] at hZt hZn hZs
  clear hX hZ hO
  have HD := Lib.hid hd
  have HC1 := Lib.hid hc1
  have HC2 := Lib.hid hc2
  have HPN := Lib.hid hpn
  have HZT := Lib.hid hZt
  have HZN := Lib.hid hZn
  have HZS := Lib.hid hZs
  have HZL := Lib.hid hZl
  have HO1 := Lib.hid (fun net i d => occs_succ ds cd net i d)
  have HO2 := Lib.hid (fun ci kind pins net k => occD_succ ci kind pins net k)
  have HO3 := Lib.hid (fun net i => occs_len hpn' cd net i)
  have HO4 := Lib.hid (fun ci kind pins net k => occD_len ci kind pins net k)
  have HO0 := Lib.hid (fun net => show occs ds cd net 0 = [] from rfl)
  have HOD0 := Lib.hid (fun ci kind pins net => show occD ci kind pins net 0 = [] from rfl)
  have HCC := Lib.hid (fun ls sv w h h0 hb hn hne => concatI_any ls sv w h h0 hb hn hne)
  obtain ⟨a1, c1, rfl⟩ := hd.sized
  obtain ⟨a2, c2, rfl⟩ := hp.sized
  obtain ⟨b1, e1, rfl⟩ := hc1.len
  obtain ⟨b2, e2, rfl⟩ := hc2.len
  obtain ⟨N, hN⟩ : ∃ N, w.heap.size + 1 + 1 = N := ⟨_, rfl⟩
  obtain ⟨cs0, hcs0, hcz, hmk⟩ := make_lists3 m (by omega) ((w.alloc (.cells #[.int .i64 (m : Int), .slice a1 ds.length c1, .slice a2 ps.length c2] 27)).alloc (.cells #[.slice b1 cn.length e1, .slice b2 cd.length e2] 77))
  simp only [World.size_alloc] at hmk
  have HN := Lib.hid hN
  have hcn1 : m ≤ cn.length := by omega
  have hcd1 : ds.length ≤ cd.length := by omega
  have hcd2 : cd.length ≤ ds.length := by omega
  clear hd hp hc1 hc2 hN hpn hpn' hZl hZt hZn hZs hcn hcd
  go_enter Tryz.func90, Tryz.ntmps90
  go_wp2
  clear hmk
  rw [HN.out]
  obtain ⟨wI, hwI⟩ : ∃ wI, wI = ((w.alloc (.cells #[.int .i64 (m : Int), .slice a1 ds.length c1, .slice a2 ps.length c2] 27)).alloc (.cells #[.slice b1 cn.length e1, .slice b2 cd.length e2] 77)).alloc (.cells cs0 75) := ⟨_, rfl⟩
  have kA : Blk wI w.heap.size #[.int .i64 (m : Int), .slice a1 ds.length c1, .slice a2 ps.length c2] 27 := by rw [hwI]; exact blkT
  have kC : Blk wI (w.heap.size + 1) #[.slice b1 cn.length e1, .slice b2 cd.length e2] 77 := by rw [hwI]; exact blkT
  have kN : Blk wI N cs0 75 := by rw [hwI, ← HN.out]; exact blkT
  have hbI : Below w.heap.size w wI := by rw [hwI]; exact blwT
  have HNI : Hid (NetsB wI N (N + 1) m (fun j : Nat => occs ds cd (j : Int) 0)) := by
    apply Lib.hid
    refine ⟨fun _ => False, cs0, fun _ => .slice none 0 0, fun k hk => hk.elim, kN, hcs0, fun j hj => ⟨hcz j hj, ?_⟩, fun i j hi hj hij g hg => by cases hg⟩
    show RowE wI (N + 1) _ (.slice none 0 0) (occs ds cd (j : Int) 0)
    rw [HO0.out]
    exact RowE.nil wI (N + 1) _
  have hNw : w.heap.size + 1 < N := by have := HN.out; omega
  rw [← hwI]
  clear hwI kN hcz hcs0
  go_loopw [20] (fun i wr => ∃ k : Nat, k ≤ ds.length ∧ i = .int .i64 k ∧ Hid (NetsB wr N (N + 1) m (fun j : Nat => occs ds cd (j : Int) k)) ∧ Blk wr w.heap.size #[.int .i64 (m : Int), .slice a1 ds.length c1, .slice a2 ps.length c2] 27 ∧ Blk wr (w.heap.size + 1) #[.slice b1 cn.length e1, .slice b2 cd.length e2] 77 ∧ Below w.heap.size w wr) (fun i _ => ds.length - (intOf i).toNat)
  case atStart => exact ⟨0, Nat.zero_le _, rfl, HNI, kA, kC, hbI⟩
  case round =>
    clear HNI kA kC hbI
    obtain ⟨k, hk, rfl, HNI, kA, kC, hb⟩ := hrel
    have qA := kA.cell
    have lA := kA.lt
    by_cases hlt : k < ds.length
    · obtain ⟨d, hd⟩ : ∃ d, ds[k]? = some d := ⟨ds[k], List.getElem?_eq_getElem hlt⟩
      obtain ⟨hp3, hpq⟩ := HPN.out d (List.mem_of_getElem? hd)
      rcases HD.out with ⟨_, _, _, e2⟩ | ⟨db, do_, dc, he, _, _, h4⟩
      · rw [e2] at hd; simp at hd
      obtain ⟨rfl, rfl⟩ : a1 = some ⟨db, do_, none⟩ ∧ c1 = dc := by simpa using he
      obtain ⟨sp, d1, d2, d3, d4, hS⟩ := (h4 k d hd).by hb
      have HS0 : Hid (IntSl w sp d.pins) := by
        obtain ⟨sp', f1, f2, f3, f4, hS'⟩ := h4 k d hd
        have := cell_by' hb f2
        rw [d2] at this
        have e : sp = sp' := by simpa using this
        rw [e]
        exact Lib.hid hS'
      obtain ⟨ck, hck⟩ : ∃ ck, cd[k]? = some ck := ⟨cd[k]'(by omega), List.getElem?_eq_getElem _⟩
      have hck' : nmOf cd (k : Int) = ck := by simp [nmOf, List.getD_eq_getElem?_getD, hck]
      rcases HC2.out with ⟨_, _, _, e2'⟩ | ⟨cb, co, cc, hce, _, _, c4⟩
      · rw [e2'] at hck; simp at hck
      obtain ⟨rfl, rfl⟩ : b2 = some ⟨cb, co, none⟩ ∧ e2 = cc := by simpa using hce
      have hcell := c4 k ck hck
      have HCL := Lib.hid hcell
      have HCK := Lib.hid hck'
      have hcbl := lt_of_cell hcell
      dsimp only at hcbl
      obtain ⟨ap, cp, rfl⟩ := hS.len
      have HST := Lib.hid (fun net => HO1.out net k d hd)
      have HPQ := Lib.hid hpq
      obtain ⟨kind, pins, wd, len⟩ := d
      dsimp only at d1 d2 d3 d4 hp3 HS0 HST HPQ ⊢
      rw [hck'] at HST
      have i1 : (0 : Int) ≤ (k : Int) := by omega
      have i2 : (k : Int) < (ds.length : Int) := by omega
      clear hd h4 he hS hpq hck hck' hce c4 hcell
      go_wp2
      obtain ⟨D, hD⟩ : ∃ D, wr.heap.size = D := ⟨_, rfl⟩
      obtain ⟨wA, hwA⟩ : ∃ wA, wA = wr.alloc (.cells #[.int .i64 kind, .slice ap pins.length cp, .int .i64 wd, .int .i64 len] 54) := ⟨_, rfl⟩
      have hal : Below wr.heap.size wr wA := by rw [hwA]; exact (Below.refl _ wr).alloc (Nat.le_refl _) _
      have kD : Blk wA D #[.int .i64 kind, .slice ap pins.length cp, .int .i64 wd, .int .i64 len] 54 := by rw [hwA]; exact Blk.new _ hD.symm
      have hsA : wA.heap.size = D + 1 := by rw [hwA]; simp [hD]
      have hwl := lA
      have hND : N < D := by
        obtain ⟨P, hP⟩ := HNI.out
        obtain ⟨_, _, _, q1, _⟩ := hP
        have := q1.lt
        omega
      have HNA : Hid (∃ P : Nat → Prop, P D ∧ NetsQ wA N (N + 1) m P (fun j : Nat => occs ds cd (j : Int) k ++ occD ck kind pins (j : Int) 0)) := by
        apply Lib.hid
        obtain ⟨P, hP⟩ := HNI.out
        have hNl : N < wr.heap.size := by
          obtain ⟨_, _, _, q1, _⟩ := hP
          exact q1.lt
        have := NetsQ.mark (D := D) hal hP (by omega) (by omega) (by omega)
        have e : (fun j : Nat => occs ds cd (j : Int) k ++ occD ck kind pins (j : Int) 0) = (fun j : Nat => occs ds cd (j : Int) k) := by
          funext j
          rw [HOD0.out, List.append_nil]
        rw [e]
        exact ⟨_, .inr rfl, this⟩
      have kA' := Blk.by hal kA
      have kC' := Blk.by hal kC
      have hb' := below_on hal hb
      rw [← hwA]
      (try rw [hD])
      clear hwA HNI kA kC hb qA lA hal hD d1 d2 d3 d4
      go_loopw [28] (fun i wr2 => ∃ p : Nat, p ≤ pins.length ∧ i = .int .i64 p ∧ Hid (∃ P : Nat → Prop, P D ∧ NetsQ wr2 N (N + 1) m P (fun j : Nat => occs ds cd (j : Int) k ++ occD ck kind pins (j : Int) p)) ∧ Blk wr2 D #[.int .i64 kind, .slice ap pins.length cp, .int .i64 wd, .int .i64 len] 54 ∧ Blk wr2 w.heap.size #[.int .i64 (m : Int), .slice (some ⟨db, do_, none⟩) ds.length c1, .slice a2 ps.length c2] 27 ∧ Blk wr2 (w.heap.size + 1) #[.slice b1 cn.length e1, .slice (some ⟨cb, co, none⟩) cd.length e2] 77 ∧ Below w.heap.size w wr2) (fun i _ => pins.length - (intOf i).toNat)
      case atStart => exact ⟨0, Nat.zero_le _, rfl, HNA, kD, kA', kC', hb'⟩
      case round =>
        clear HNA kD kA' kC' hb' hwl hsA
        obtain ⟨p, hp, rfl, HNQ, kD, kA, kC, hb⟩ := hrel
        have qD := kD.cell
        have qC := kC.cell
        have lD := kD.lt
        have lC := kC.lt
        by_cases hlp : p < pins.length
        · obtain ⟨q', hq'⟩ : ∃ q', pins[p]? = some q' := ⟨pins[p], List.getElem?_eq_getElem hlp⟩
          obtain ⟨hq0, hq1⟩ := HPQ.out q' (List.mem_of_getElem? hq')
          rcases HS0.out with ⟨_, _, _, e3⟩ | ⟨pb, po, pc, hpe, _, _, p4⟩
          · rw [e3] at hq'; simp at hq'
          obtain ⟨rfl, rfl⟩ : ap = some ⟨pb, po, none⟩ ∧ cp = pc := by simpa using hpe
          have pcell := cell_by' hb (p4 p q' hq')
          have hqd : pins.getD p 0 = q' := by simp [List.getD_eq_getElem?_getD, hq']
          obtain ⟨q, rfl⟩ : ∃ q : Nat, q' = q := ⟨q'.toNat, by omega⟩
          have hqm : q < m := by omega
          have HSD := Lib.hid (fun j : Nat => show occD ck kind pins (j : Int) (p + 1) = occD ck kind pins (j : Int) p ++ (if q = j then [[ck, roleOf kind p]] else []) from by
            rw [HO2.out, hqd]
            congr 1
            by_cases e : q = j
            · rw [if_pos e, if_pos (by omega)]
            · rw [if_neg e, if_neg (by omega)])
          have hl1 := HO3.out (q : Int) k
          have hl2 := HO4.out ck kind pins (q : Int) p
          have hll : (occs ds cd (q : Int) k ++ occD ck kind pins (q : Int) p).length ≤ 100 := by rw [List.length_append]; omega
          have hlst : ∀ r, roleOf kind p = r → occs ds cd (q : Int) k ++ occD ck kind pins (q : Int) (p + 1) = occs ds cd (q : Int) k ++ occD ck kind pins (q : Int) p ++ [[ck, r]] := fun r hr => by rw [HSD.out, hr, if_pos rfl, ← List.append_assoc]
          obtain ⟨Y, hY⟩ : ∃ Y, occs ds cd (q : Int) k ++ occD ck kind pins (q : Int) p = Y := ⟨_, rfl⟩
          rw [hY] at hll hlst
          have HYY := Lib.hid hY
          have HLST := Lib.hid hlst
          clear hY hl1 hl2 hlst
          obtain ⟨rv, hrv, hrz, hro⟩ : ∃ rv : Value, wr.cell? ⟨N, q, none⟩ = some rv ∧ (∃ av cv, rv = .slice av Y.length cv) ∧ N < wr.heap.size ∧ (∀ g, rv.ownBlock = some g → N + 1 ≤ g ∧ g < wr.heap.size ∧ g ≠ D) := by
            obtain ⟨P, hPD, cs, vs, n0, n1, n2, n3, n4⟩ := HNQ.out
            obtain ⟨n5, n6⟩ := n3 q hqm
            (try dsimp only at n6)
            rw [HYY.out] at n6
            refine ⟨vs q, (n1.cell _).trans n5, n6.sized, n1.lt, fun g hg => ?_⟩
            obtain ⟨_, _, _, n7, _⟩ := n6
            obtain ⟨n8, n9, n10⟩ := n7 g hg
            exact ⟨n8, n9, fun e => n10 (e ▸ hPD)⟩
          obtain ⟨av, cv, rfl⟩ := hrz
          obtain ⟨lN, hown⟩ := hro
          have HOW := Lib.hid hown
          have HRV := Lib.hid hrv
          have ccell := cell_by' hb HCL.out
          have j1 : (0 : Int) ≤ (p : Int) := by omega
          have j2 : (p : Int) < (pins.length : Int) := by omega
          have j3 : (0 : Int) ≤ (q : Int) := by omega
          have j4 : (q : Int) < (m : Int) := by omega
          have j5 : (k : Int) < (cd.length : Int) := by omega
          clear hq' hpe p4 hqd hown
          obtain ⟨wo, hwo⟩ : ∃ y : World, y = wr := ⟨_, rfl⟩
          subst hwo
          by_cases h2 : kind = 2
          · have e1 : (kind == 2) = true := by simpa using h2
            have hr : roleOf kind p = 2 := by unfold roleOf; rw [if_pos h2]
            clear h2
            go_upto_region 13 with fail
            have hS : (fun w' : World => w'.cell? ⟨N, q, none⟩ = some (.slice av Y.length cv) ∧ w'.cell? ⟨w.heap.size + 1, 1, none⟩ = some (.slice (some ⟨cb, co, none⟩) cd.length e2) ∧ w'.cell? ⟨cb, co + k, none⟩ = some (.int .i64 ck)) { wo with drawn := wo.drawn + 1 } := ⟨hrv, qC 1, ccell⟩
            refine wp_region_any (by kernel_rfl) (wpAny_of_E (S := fun w' => w'.cell? ⟨N, q, none⟩ = some (.slice av Y.length cv) ∧ w'.cell? ⟨w.heap.size + 1, 1, none⟩ = some (.slice (some ⟨cb, co, none⟩) cd.length e2) ∧ w'.cell? ⟨cb, co + k, none⟩ = some (.int .i64 ck)) (l := 16) _ _ _ _ ?_)
            change wpAnyE _ _ _ _ _ _ _ _ _ wo.drew
            refine wpAnyE_take (i := 0) (v := ?_) rfl (by kernel_rfl) (fun _ _ _ h => h) (Or.inl ⟨by rfl, ?_⟩) hS ?_
            rotate_left
            · intro w hSw; (try dsimp only at hSw); go_simp; (try with_reducible rfl)
            try simp only [Act.put, List.setIfInBounds_toArray, List.set_cons_zero, List.set_cons_succ]
            refine wpAnyE_take (i := 1) (v := ?_) rfl (by kernel_rfl) (fun _ _ _ h => h) (Or.inl ⟨by rfl, ?_⟩) hS ?_
            rotate_left
            · intro w hSw; (try dsimp only at hSw); go_simp; (try with_reducible rfl)
            try simp only [Act.put, List.setIfInBounds_toArray, List.set_cons_zero, List.set_cons_succ]
            refine wpAnyE_take (i := 2) (v := ?_) rfl (by kernel_rfl) (fun _ _ _ h => h) (Or.inl ⟨by rfl, ?_⟩) hS ?_
            rotate_left
            · intro w hSw; (try dsimp only at hSw); go_simp; (try with_reducible rfl)
            try simp only [Act.put, List.setIfInBounds_toArray, List.set_cons_zero, List.set_cons_succ]
            refine wpAnyE_take (i := 3) (v := ?_) rfl (by kernel_rfl) (fun _ _ _ h => h) (Or.inl ⟨by rfl, ?_⟩) hS ?_
            rotate_left
            · intro w hSw; (try dsimp only at hSw); go_simp; (try with_reducible rfl)
            try simp only [Act.put, List.setIfInBounds_toArray, List.set_cons_zero, List.set_cons_succ]
            refine wpAnyE_take (i := 4) (v := ?_) rfl (by kernel_rfl) (fun _ _ _ h => h) (Or.inl ⟨by rfl, ?_⟩) hS ?_
            rotate_left
            · intro w hSw; (try dsimp only at hSw); go_simp; (try with_reducible rfl)
            try simp only [Act.put, List.setIfInBounds_toArray, List.set_cons_zero, List.set_cons_succ]
            refine wpAnyE_take (i := 5) (v := ?_) rfl (by kernel_rfl) (fun _ _ _ h => h) (Or.inl ⟨by rfl, ?_⟩) hS ?_
            rotate_left
            · intro w hSw; (try dsimp only at hSw); go_simp; (try with_reducible rfl)
            try simp only [Act.put, List.setIfInBounds_toArray, List.set_cons_zero, List.set_cons_succ]
            refine wpAnyE_take (i := 6) (v := ?_) rfl (by kernel_rfl) (fun _ _ _ h => h) (Or.inl ⟨by rfl, ?_⟩) hS ?_
            rotate_left
            · intro w hSw; (try dsimp only at hSw); go_simp; (try with_reducible rfl)
            try simp only [Act.put, List.setIfInBounds_toArray, List.set_cons_zero, List.set_cons_succ]
            refine wpAnyE_take (i := 7) (v := ?_) rfl (by kernel_rfl) (fun _ _ _ h => h) (Or.inl ⟨by rfl, ?_⟩) hS ?_
            rotate_left
            · intro w hSw; (try dsimp only at hSw); go_simp; (try with_reducible rfl)
            try simp only [Act.put, List.setIfInBounds_toArray, List.set_cons_zero, List.set_cons_succ]
            refine wpAnyE_take (i := 8) (v := ?_) rfl (by kernel_rfl) (fun _ _ _ h => h) (Or.inl ⟨by rfl, ?_⟩) hS ?_
            rotate_left
            · intro w hSw; (try dsimp only at hSw); go_simp; (try with_reducible rfl)
            try simp only [Act.put, List.setIfInBounds_toArray, List.set_cons_zero, List.set_cons_succ]
            refine wpAnyE_take (i := 9) (v := ?_) rfl (by kernel_rfl) (fun _ _ _ h => h) (Or.inl ⟨by rfl, ?_⟩) hS ?_
            rotate_left
            · intro w hSw; (try dsimp only at hSw); go_simp; (try with_reducible rfl)
            try simp only [Act.put, List.setIfInBounds_toArray, List.set_cons_zero, List.set_cons_succ]
            refine wpAnyE_take (i := 10) (v := ?_) rfl (by kernel_rfl) (fun _ _ _ h => h) (Or.inl ⟨by rfl, ?_⟩) hS ?_
            rotate_left
            · intro w hSw; (try dsimp only at hSw); go_simp; (try with_reducible rfl)
            try simp only [Act.put, List.setIfInBounds_toArray, List.set_cons_zero, List.set_cons_succ]
            refine wpAnyE_take (i := 11) (v := ?_) rfl (by kernel_rfl) (fun _ _ _ h => h) (Or.inl ⟨by rfl, ?_⟩) hS ?_
            rotate_left
            · intro w hSw; (try dsimp only at hSw); go_simp; (try with_reducible rfl)
            try simp only [Act.put, List.setIfInBounds_toArray, List.set_cons_zero, List.set_cons_succ]
            refine wpAnyE_one (k := 12) (by kernel_rfl) rfl (fun K hK => ?_)
            go_simp
            have hal2 : Below wo.heap.size wo (wo.drew.alloc (.cells #[.int .i64 ck, .int .i64 2] 2)) := (Below.refl _ wo).drew.alloc (Nat.le_refl _) _
            refine hK.out _ _ (fun _ => ⟨cell_by' hal2 hrv, cell_by' hal2 (qC 1), cell_by' hal2 ccell⟩) ?_
            try simp only [Act.put, List.setIfInBounds_toArray, List.set_cons_zero, List.set_cons_succ]
            refine wpAnyE_one (k := 13) (by kernel_rfl) rfl (fun K hK => ?_)
            go_simp
            have hal3 : Below wo.heap.size wo ((wo.drew.alloc (.cells #[.int .i64 ck, .int .i64 2] 2)).alloc (.cells #[.slice (some ⟨wo.heap.size, 0, none⟩) 2 2] 30)) := hal2.alloc (by simp) _
            refine hK.out _ _ (fun _ => ⟨cell_by' hal3 hrv, cell_by' hal3 (qC 1), cell_by' hal3 ccell⟩) ?_
            try simp only [Act.put, List.setIfInBounds_toArray, List.set_cons_zero, List.set_cons_succ]
            refine wpAnyE_one (k := 14) (by kernel_rfl) rfl (fun K hK => ?_)
            obtain ⟨P, hPD, HQ0⟩ := HNQ.out
            obtain ⟨cs, vs, n0, n1, n2, n3, n4⟩ := NetsQ.mark (D := wo.heap.size) hal3 HQ0 (Nat.le_refl _) (by simp; omega) (by omega)
            obtain ⟨n5, n6⟩ := n3 q hqm
            have hvq : vs q = (.slice av Y.length cv) := by
              have e1 := cell_by' hal3 hrv
              rw [n1.cell q, n5] at e1
              simpa using e1
            rw [hvq] at n5 n6
            (try dsimp only at n6)
            rw [HYY.out] at n6
            refine step_pushB (by rfl) _ _ (by rfl) (N + 1) _ (.slice av Y.length cv) Y (by rfl) n6 (wo.heap.size + 1) [ck, 2] _ wo.heap.size (by rfl) (Blk.new _ (by simp)) ((ownR_cells (zs := [ck, 2]) (Blk.new _ rfl) rfl (by simp)).new _) (.inr rfl) (by simp; omega) (by simp; omega) (fun k' hk' => (n0 k' hk').2) (by omega) ?_
            intro g5 c5 w5 hB5 hk5 ho5 hw5
            have hsz5 := hw5.size
            have hsz5' := hw5.size
            have hk5' := hk5
            have ho5' := ho5
            have hlst := HLST.out 2 hr
            simp only [World.size_alloc, World.size_drew] at hsz5 hk5 ho5
            have hown := HOW.out
            have hA5 : (Value.ownBlock (.slice av Y.length cv)) ≠ some w.heap.size := fun e => by have := hown _ e; omega
            have hC5 : (Value.ownBlock (.slice av Y.length cv)) ≠ some (w.heap.size + 1) := fun e => by have := hown _ e; omega
            have hN5 : (Value.ownBlock (.slice av Y.length cv)) ≠ some N := fun e => by have := hown _ e; omega
            have hD5 : (Value.ownBlock (.slice av Y.length cv)) ≠ some D := fun e => (hown _ e).2.2 rfl
            have hcb5 : (Value.ownBlock (.slice av Y.length cv)) ≠ some cb := fun e => by have := hown _ e; omega
            have hold : ∀ z, z < wo.heap.size → (Value.ownBlock (.slice av Y.length cv)) ≠ some z → w5.heap[z]? = wo.heap[z]? := fun z hz hne => (hk5 z (by omega) hne).trans (hal3.block z hz)
            have hrv5 : w5.cell? ⟨N, q, none⟩ = some (.slice av Y.length cv) := by
              rw [← hrv]
              simp only [World.cell?, hold N lN hN5]
            have kC5 : Blk w5 (w.heap.size + 1) _ 77 := (hold _ lC hC5).trans kC
            have kA5 : Blk w5 w.heap.size _ 27 := (hold _ kA.lt hA5).trans kA
            have kD5 : Blk w5 D _ 54 := (hold _ lD hD5).trans kD
            have ccell5 : w5.cell? ⟨cb, co + k, none⟩ = some (.int .i64 ck) := by
              rw [← ccell]
              simp only [World.cell?, hold cb (by have := hb.size; omega) hcb5]
            have hS5 : w5.cell? ⟨N, q, none⟩ = some (.slice av Y.length cv) ∧ w5.cell? ⟨w.heap.size + 1, 1, none⟩ = some (.slice (some ⟨cb, co, none⟩) cd.length e2) ∧ w5.cell? ⟨cb, co + k, none⟩ = some (.int .i64 ck) := ⟨hrv5, kC5.cell 1, ccell5⟩
            have hW5 : Within (N + 1) wo.heap.size wo w5 := ⟨hw5.os.trans hal3.os, hw5.tape.trans hal3.tape, hw5.output.trans hal3.output, by omega, fun z hz hne => hold z hz (fun e => by have := hown z e; omega)⟩
            have hb5 := hW5.below hb (by omega)
            have kN5 : Blk w5 N cs 75 := (hk5 N (by omega) hN5).trans n1
            have fN5 := kN5.free
            have lN5 := kN5.lt
            have hlen2 : (Y ++ [[ck, (2 : Int)]]).length = Y.length + 1 := by simp
            have hfin := NetsQ.grow (lst := (fun j : Nat => occs ds cd (j : Int) k ++ occD ck kind pins (j : Int) p)) (lst' := (fun j : Nat => occs ds cd (j : Int) k ++ occD ck kind pins (j : Int) (p + 1))) (g := g5) (cap := c5) n0 n1 n2 n3 n4 hqm (by omega) (by
              (try dsimp only)
              rw [hlst, hlen2]
              exact hB5) (by rw [hvq]; exact hk5') (by rw [hvq]; exact ho5') hsz5' (fun i hi => by
              (try dsimp only)
              rw [HSD.out, if_neg (fun e => hi e.symm), List.append_nil])
            (try dsimp only at hfin)
            rw [hlst, hlen2] at hfin
            have HFIN := Lib.hid hfin
            clear hB5 hk5 ho5 hk5' ho5' hsz5' hlst hlen2 hold n0 n1 n2 n3 n4 n5 n6 hvq hfin hown hrv5 ccell5 hrv
            refine hK.out _ _ (fun _ => hS5) ?_
            try simp only [Act.put, List.setIfInBounds_toArray, List.set_cons_zero, List.set_cons_succ]
            refine wpAnyE_one (k := 15) (by kernel_rfl) rfl (fun K hK => ?_)
            go_simp
            refine hK.out _ _ (fun _ => hS5) ?_
            try simp only [Act.put, List.setIfInBounds_toArray, List.set_cons_zero, List.set_cons_succ]
            refine wpAnyE_one (k := 16) (by kernel_rfl) rfl (fun K hK => ?_)
            go_simp
            refine hK.out _ _ (fun h => absurd rfl h) ?_
            refine wpAnyE_done (by kernel_rfl) ?_ _
            clear hS hS5
            go_wp2_with fail
            exact ⟨⟨p + 1, by omega, by go_num, Lib.hid ⟨_, .inl hPD, HFIN.out⟩, kD5.apart N q _ (by omega), kA5.apart N q _ (by omega), kC5.apart N q _ (by omega), hb5.setCell (by simp; omega) _⟩, by simp [intOf]; omega⟩
          · have e1 : (kind == 2) = false := by simpa using h2
            by_cases h3 : p = 0
            · have e2' : ((p : Int) == 0) = true := by simpa using h3
              have hr : roleOf kind p = 0 := by unfold roleOf; rw [if_neg h2]; omega
              clear h2 h3
              go_upto_region 13 with fail
              have hS : (fun w' : World => w'.cell? ⟨N, q, none⟩ = some (.slice av Y.length cv) ∧ w'.cell? ⟨w.heap.size + 1, 1, none⟩ = some (.slice (some ⟨cb, co, none⟩) cd.length e2) ∧ w'.cell? ⟨cb, co + k, none⟩ = some (.int .i64 ck)) { wo with drawn := wo.drawn + 1 } := ⟨hrv, qC 1, ccell⟩
              refine wp_region_any (by kernel_rfl) (wpAny_of_E (S := fun w' => w'.cell? ⟨N, q, none⟩ = some (.slice av Y.length cv) ∧ w'.cell? ⟨w.heap.size + 1, 1, none⟩ = some (.slice (some ⟨cb, co, none⟩) cd.length e2) ∧ w'.cell? ⟨cb, co + k, none⟩ = some (.int .i64 ck)) (l := 16) _ _ _ _ ?_)
              change wpAnyE _ _ _ _ _ _ _ _ _ wo.drew
              refine wpAnyE_take (i := 0) (v := ?_) rfl (by kernel_rfl) (fun _ _ _ h => h) (Or.inl ⟨by rfl, ?_⟩) hS ?_
              rotate_left
              · intro w hSw; (try dsimp only at hSw); go_simp; (try with_reducible rfl)
              try simp only [Act.put, List.setIfInBounds_toArray, List.set_cons_zero, List.set_cons_succ]
              refine wpAnyE_take (i := 1) (v := ?_) rfl (by kernel_rfl) (fun _ _ _ h => h) (Or.inl ⟨by rfl, ?_⟩) hS ?_
              rotate_left
              · intro w hSw; (try dsimp only at hSw); go_simp; (try with_reducible rfl)
              try simp only [Act.put, List.setIfInBounds_toArray, List.set_cons_zero, List.set_cons_succ]
              refine wpAnyE_take (i := 2) (v := ?_) rfl (by kernel_rfl) (fun _ _ _ h => h) (Or.inl ⟨by rfl, ?_⟩) hS ?_
              rotate_left
              · intro w hSw; (try dsimp only at hSw); go_simp; (try with_reducible rfl)
              try simp only [Act.put, List.setIfInBounds_toArray, List.set_cons_zero, List.set_cons_succ]
              refine wpAnyE_take (i := 3) (v := ?_) rfl (by kernel_rfl) (fun _ _ _ h => h) (Or.inl ⟨by rfl, ?_⟩) hS ?_
              rotate_left
              · intro w hSw; (try dsimp only at hSw); go_simp; (try with_reducible rfl)
              try simp only [Act.put, List.setIfInBounds_toArray, List.set_cons_zero, List.set_cons_succ]
              refine wpAnyE_take (i := 4) (v := ?_) rfl (by kernel_rfl) (fun _ _ _ h => h) (Or.inl ⟨by rfl, ?_⟩) hS ?_
              rotate_left
              · intro w hSw; (try dsimp only at hSw); go_simp; (try with_reducible rfl)
              try simp only [Act.put, List.setIfInBounds_toArray, List.set_cons_zero, List.set_cons_succ]
              refine wpAnyE_take (i := 5) (v := ?_) rfl (by kernel_rfl) (fun _ _ _ h => h) (Or.inl ⟨by rfl, ?_⟩) hS ?_
              rotate_left
              · intro w hSw; (try dsimp only at hSw); go_simp; (try with_reducible rfl)
              try simp only [Act.put, List.setIfInBounds_toArray, List.set_cons_zero, List.set_cons_succ]
              refine wpAnyE_take (i := 6) (v := ?_) rfl (by kernel_rfl) (fun _ _ _ h => h) (Or.inl ⟨by rfl, ?_⟩) hS ?_
              rotate_left
              · intro w hSw; (try dsimp only at hSw); go_simp; (try with_reducible rfl)
              try simp only [Act.put, List.setIfInBounds_toArray, List.set_cons_zero, List.set_cons_succ]
              refine wpAnyE_take (i := 7) (v := ?_) rfl (by kernel_rfl) (fun _ _ _ h => h) (Or.inl ⟨by rfl, ?_⟩) hS ?_
              rotate_left
              · intro w hSw; (try dsimp only at hSw); go_simp; (try with_reducible rfl)
              try simp only [Act.put, List.setIfInBounds_toArray, List.set_cons_zero, List.set_cons_succ]
              refine wpAnyE_take (i := 8) (v := ?_) rfl (by kernel_rfl) (fun _ _ _ h => h) (Or.inl ⟨by rfl, ?_⟩) hS ?_
              rotate_left
              · intro w hSw; (try dsimp only at hSw); go_simp; (try with_reducible rfl)
              try simp only [Act.put, List.setIfInBounds_toArray, List.set_cons_zero, List.set_cons_succ]
              refine wpAnyE_take (i := 9) (v := ?_) rfl (by kernel_rfl) (fun _ _ _ h => h) (Or.inl ⟨by rfl, ?_⟩) hS ?_
              rotate_left
              · intro w hSw; (try dsimp only at hSw); go_simp; (try with_reducible rfl)
              try simp only [Act.put, List.setIfInBounds_toArray, List.set_cons_zero, List.set_cons_succ]
              refine wpAnyE_take (i := 10) (v := ?_) rfl (by kernel_rfl) (fun _ _ _ h => h) (Or.inl ⟨by rfl, ?_⟩) hS ?_
              rotate_left
              · intro w hSw; (try dsimp only at hSw); go_simp; (try with_reducible rfl)
              try simp only [Act.put, List.setIfInBounds_toArray, List.set_cons_zero, List.set_cons_succ]
              refine wpAnyE_take (i := 11) (v := ?_) rfl (by kernel_rfl) (fun _ _ _ h => h) (Or.inl ⟨by rfl, ?_⟩) hS ?_
              rotate_left
              · intro w hSw; (try dsimp only at hSw); go_simp; (try with_reducible rfl)
              try simp only [Act.put, List.setIfInBounds_toArray, List.set_cons_zero, List.set_cons_succ]
              refine wpAnyE_one (k := 12) (by kernel_rfl) rfl (fun K hK => ?_)
              go_simp
              have hal2 : Below wo.heap.size wo (wo.drew.alloc (.cells #[.int .i64 ck, .int .i64 0] 2)) := (Below.refl _ wo).drew.alloc (Nat.le_refl _) _
              refine hK.out _ _ (fun _ => ⟨cell_by' hal2 hrv, cell_by' hal2 (qC 1), cell_by' hal2 ccell⟩) ?_
              try simp only [Act.put, List.setIfInBounds_toArray, List.set_cons_zero, List.set_cons_succ]
              refine wpAnyE_one (k := 13) (by kernel_rfl) rfl (fun K hK => ?_)
              go_simp
              have hal3 : Below wo.heap.size wo ((wo.drew.alloc (.cells #[.int .i64 ck, .int .i64 0] 2)).alloc (.cells #[.slice (some ⟨wo.heap.size, 0, none⟩) 2 2] 30)) := hal2.alloc (by simp) _
              refine hK.out _ _ (fun _ => ⟨cell_by' hal3 hrv, cell_by' hal3 (qC 1), cell_by' hal3 ccell⟩) ?_
              try simp only [Act.put, List.setIfInBounds_toArray, List.set_cons_zero, List.set_cons_succ]
              refine wpAnyE_one (k := 14) (by kernel_rfl) rfl (fun K hK => ?_)
              obtain ⟨P, hPD, HQ0⟩ := HNQ.out
              obtain ⟨cs, vs, n0, n1, n2, n3, n4⟩ := NetsQ.mark (D := wo.heap.size) hal3 HQ0 (Nat.le_refl _) (by simp; omega) (by omega)
              obtain ⟨n5, n6⟩ := n3 q hqm
              have hvq : vs q = (.slice av Y.length cv) := by
                have e1 := cell_by' hal3 hrv
                rw [n1.cell q, n5] at e1
                simpa using e1
              rw [hvq] at n5 n6
              (try dsimp only at n6)
              rw [HYY.out] at n6
              refine step_pushB (by rfl) _ _ (by rfl) (N + 1) _ (.slice av Y.length cv) Y (by rfl) n6 (wo.heap.size + 1) [ck, 0] _ wo.heap.size (by rfl) (Blk.new _ (by simp)) ((ownR_cells (zs := [ck, 0]) (Blk.new _ rfl) rfl (by simp)).new _) (.inr rfl) (by simp; omega) (by simp; omega) (fun k' hk' => (n0 k' hk').2) (by omega) ?_
              intro g5 c5 w5 hB5 hk5 ho5 hw5
              have hsz5 := hw5.size
              have hsz5' := hw5.size
              have hk5' := hk5
              have ho5' := ho5
              have hlst := HLST.out 0 hr
              simp only [World.size_alloc, World.size_drew] at hsz5 hk5 ho5
              have hown := HOW.out
              have hA5 : (Value.ownBlock (.slice av Y.length cv)) ≠ some w.heap.size := fun e => by have := hown _ e; omega
              have hC5 : (Value.ownBlock (.slice av Y.length cv)) ≠ some (w.heap.size + 1) := fun e => by have := hown _ e; omega
              have hN5 : (Value.ownBlock (.slice av Y.length cv)) ≠ some N := fun e => by have := hown _ e; omega
              have hD5 : (Value.ownBlock (.slice av Y.length cv)) ≠ some D := fun e => (hown _ e).2.2 rfl
              have hcb5 : (Value.ownBlock (.slice av Y.length cv)) ≠ some cb := fun e => by have := hown _ e; omega
              have hold : ∀ z, z < wo.heap.size → (Value.ownBlock (.slice av Y.length cv)) ≠ some z → w5.heap[z]? = wo.heap[z]? := fun z hz hne => (hk5 z (by omega) hne).trans (hal3.block z hz)
              have hrv5 : w5.cell? ⟨N, q, none⟩ = some (.slice av Y.length cv) := by
                rw [← hrv]
                simp only [World.cell?, hold N lN hN5]
              have kC5 : Blk w5 (w.heap.size + 1) _ 77 := (hold _ lC hC5).trans kC
              have kA5 : Blk w5 w.heap.size _ 27 := (hold _ kA.lt hA5).trans kA
              have kD5 : Blk w5 D _ 54 := (hold _ lD hD5).trans kD
              have ccell5 : w5.cell? ⟨cb, co + k, none⟩ = some (.int .i64 ck) := by
                rw [← ccell]
                simp only [World.cell?, hold cb (by have := hb.size; omega) hcb5]
              have hS5 : w5.cell? ⟨N, q, none⟩ = some (.slice av Y.length cv) ∧ w5.cell? ⟨w.heap.size + 1, 1, none⟩ = some (.slice (some ⟨cb, co, none⟩) cd.length e2) ∧ w5.cell? ⟨cb, co + k, none⟩ = some (.int .i64 ck) := ⟨hrv5, kC5.cell 1, ccell5⟩
              have hW5 : Within (N + 1) wo.heap.size wo w5 := ⟨hw5.os.trans hal3.os, hw5.tape.trans hal3.tape, hw5.output.trans hal3.output, by omega, fun z hz hne => hold z hz (fun e => by have := hown z e; omega)⟩
              have hb5 := hW5.below hb (by omega)
              have kN5 : Blk w5 N cs 75 := (hk5 N (by omega) hN5).trans n1
              have fN5 := kN5.free
              have lN5 := kN5.lt
              have hlen2 : (Y ++ [[ck, (0 : Int)]]).length = Y.length + 1 := by simp
              have hfin := NetsQ.grow (lst := (fun j : Nat => occs ds cd (j : Int) k ++ occD ck kind pins (j : Int) p)) (lst' := (fun j : Nat => occs ds cd (j : Int) k ++ occD ck kind pins (j : Int) (p + 1))) (g := g5) (cap := c5) n0 n1 n2 n3 n4 hqm (by omega) (by
                (try dsimp only)
                rw [hlst, hlen2]
                exact hB5) (by rw [hvq]; exact hk5') (by rw [hvq]; exact ho5') hsz5' (fun i hi => by
                (try dsimp only)
                rw [HSD.out, if_neg (fun e => hi e.symm), List.append_nil])
              (try dsimp only at hfin)
              rw [hlst, hlen2] at hfin
              have HFIN := Lib.hid hfin
              clear hB5 hk5 ho5 hk5' ho5' hsz5' hlst hlen2 hold n0 n1 n2 n3 n4 n5 n6 hvq hfin hown hrv5 ccell5 hrv
              refine hK.out _ _ (fun _ => hS5) ?_
              try simp only [Act.put, List.setIfInBounds_toArray, List.set_cons_zero, List.set_cons_succ]
              refine wpAnyE_one (k := 15) (by kernel_rfl) rfl (fun K hK => ?_)
              go_simp
              refine hK.out _ _ (fun _ => hS5) ?_
              try simp only [Act.put, List.setIfInBounds_toArray, List.set_cons_zero, List.set_cons_succ]
              refine wpAnyE_one (k := 16) (by kernel_rfl) rfl (fun K hK => ?_)
              go_simp
              refine hK.out _ _ (fun h => absurd rfl h) ?_
              refine wpAnyE_done (by kernel_rfl) ?_ _
              clear hS hS5
              go_wp2_with fail
              exact ⟨⟨p + 1, by omega, by go_num, Lib.hid ⟨_, .inl hPD, HFIN.out⟩, kD5.apart N q _ (by omega), kA5.apart N q _ (by omega), kC5.apart N q _ (by omega), hb5.setCell (by simp; omega) _⟩, by simp [intOf]; omega⟩
            · have e2' : ((p : Int) == 0) = false := by simpa using h3
              have hr : roleOf kind p = 1 := by unfold roleOf; rw [if_neg h2]; omega
              clear h2 h3
              go_upto_region 13 with fail
              have hS : (fun w' : World => w'.cell? ⟨N, q, none⟩ = some (.slice av Y.length cv) ∧ w'.cell? ⟨w.heap.size + 1, 1, none⟩ = some (.slice (some ⟨cb, co, none⟩) cd.length e2) ∧ w'.cell? ⟨cb, co + k, none⟩ = some (.int .i64 ck)) { wo with drawn := wo.drawn + 1 } := ⟨hrv, qC 1, ccell⟩
              refine wp_region_any (by kernel_rfl) (wpAny_of_E (S := fun w' => w'.cell? ⟨N, q, none⟩ = some (.slice av Y.length cv) ∧ w'.cell? ⟨w.heap.size + 1, 1, none⟩ = some (.slice (some ⟨cb, co, none⟩) cd.length e2) ∧ w'.cell? ⟨cb, co + k, none⟩ = some (.int .i64 ck)) (l := 16) _ _ _ _ ?_)
              change wpAnyE _ _ _ _ _ _ _ _ _ wo.drew
              refine wpAnyE_take (i := 0) (v := ?_) rfl (by kernel_rfl) (fun _ _ _ h => h) (Or.inl ⟨by rfl, ?_⟩) hS ?_
              rotate_left
              · intro w hSw; (try dsimp only at hSw); go_simp; (try with_reducible rfl)
              try simp only [Act.put, List.setIfInBounds_toArray, List.set_cons_zero, List.set_cons_succ]
              refine wpAnyE_take (i := 1) (v := ?_) rfl (by kernel_rfl) (fun _ _ _ h => h) (Or.inl ⟨by rfl, ?_⟩) hS ?_
              rotate_left
              · intro w hSw; (try dsimp only at hSw); go_simp; (try with_reducible rfl)
              try simp only [Act.put, List.setIfInBounds_toArray, List.set_cons_zero, List.set_cons_succ]
              refine wpAnyE_take (i := 2) (v := ?_) rfl (by kernel_rfl) (fun _ _ _ h => h) (Or.inl ⟨by rfl, ?_⟩) hS ?_
              rotate_left
              · intro w hSw; (try dsimp only at hSw); go_simp; (try with_reducible rfl)
              try simp only [Act.put, List.setIfInBounds_toArray, List.set_cons_zero, List.set_cons_succ]
              refine wpAnyE_take (i := 3) (v := ?_) rfl (by kernel_rfl) (fun _ _ _ h => h) (Or.inl ⟨by rfl, ?_⟩) hS ?_
              rotate_left
              · intro w hSw; (try dsimp only at hSw); go_simp; (try with_reducible rfl)
              try simp only [Act.put, List.setIfInBounds_toArray, List.set_cons_zero, List.set_cons_succ]
              refine wpAnyE_take (i := 4) (v := ?_) rfl (by kernel_rfl) (fun _ _ _ h => h) (Or.inl ⟨by rfl, ?_⟩) hS ?_
              rotate_left
              · intro w hSw; (try dsimp only at hSw); go_simp; (try with_reducible rfl)
              try simp only [Act.put, List.setIfInBounds_toArray, List.set_cons_zero, List.set_cons_succ]
              refine wpAnyE_take (i := 5) (v := ?_) rfl (by kernel_rfl) (fun _ _ _ h => h) (Or.inl ⟨by rfl, ?_⟩) hS ?_
              rotate_left
              · intro w hSw; (try dsimp only at hSw); go_simp; (try with_reducible rfl)
              try simp only [Act.put, List.setIfInBounds_toArray, List.set_cons_zero, List.set_cons_succ]
              refine wpAnyE_take (i := 6) (v := ?_) rfl (by kernel_rfl) (fun _ _ _ h => h) (Or.inl ⟨by rfl, ?_⟩) hS ?_
              rotate_left
              · intro w hSw; (try dsimp only at hSw); go_simp; (try with_reducible rfl)
              try simp only [Act.put, List.setIfInBounds_toArray, List.set_cons_zero, List.set_cons_succ]
              refine wpAnyE_take (i := 7) (v := ?_) rfl (by kernel_rfl) (fun _ _ _ h => h) (Or.inl ⟨by rfl, ?_⟩) hS ?_
              rotate_left
              · intro w hSw; (try dsimp only at hSw); go_simp; (try with_reducible rfl)
              try simp only [Act.put, List.setIfInBounds_toArray, List.set_cons_zero, List.set_cons_succ]
              refine wpAnyE_take (i := 8) (v := ?_) rfl (by kernel_rfl) (fun _ _ _ h => h) (Or.inl ⟨by rfl, ?_⟩) hS ?_
              rotate_left
              · intro w hSw; (try dsimp only at hSw); go_simp; (try with_reducible rfl)
              try simp only [Act.put, List.setIfInBounds_toArray, List.set_cons_zero, List.set_cons_succ]
              refine wpAnyE_take (i := 9) (v := ?_) rfl (by kernel_rfl) (fun _ _ _ h => h) (Or.inl ⟨by rfl, ?_⟩) hS ?_
              rotate_left
              · intro w hSw; (try dsimp only at hSw); go_simp; (try with_reducible rfl)
              try simp only [Act.put, List.setIfInBounds_toArray, List.set_cons_zero, List.set_cons_succ]
              refine wpAnyE_take (i := 10) (v := ?_) rfl (by kernel_rfl) (fun _ _ _ h => h) (Or.inl ⟨by rfl, ?_⟩) hS ?_
              rotate_left
              · intro w hSw; (try dsimp only at hSw); go_simp; (try with_reducible rfl)
              try simp only [Act.put, List.setIfInBounds_toArray, List.set_cons_zero, List.set_cons_succ]
              refine wpAnyE_take (i := 11) (v := ?_) rfl (by kernel_rfl) (fun _ _ _ h => h) (Or.inl ⟨by rfl, ?_⟩) hS ?_
              rotate_left
              · intro w hSw; (try dsimp only at hSw); go_simp; (try with_reducible rfl)
              try simp only [Act.put, List.setIfInBounds_toArray, List.set_cons_zero, List.set_cons_succ]
              refine wpAnyE_one (k := 12) (by kernel_rfl) rfl (fun K hK => ?_)
              go_simp
              have hal2 : Below wo.heap.size wo (wo.drew.alloc (.cells #[.int .i64 ck, .int .i64 1] 2)) := (Below.refl _ wo).drew.alloc (Nat.le_refl _) _
              refine hK.out _ _ (fun _ => ⟨cell_by' hal2 hrv, cell_by' hal2 (qC 1), cell_by' hal2 ccell⟩) ?_
              try simp only [Act.put, List.setIfInBounds_toArray, List.set_cons_zero, List.set_cons_succ]
              refine wpAnyE_one (k := 13) (by kernel_rfl) rfl (fun K hK => ?_)
              go_simp
              have hal3 : Below wo.heap.size wo ((wo.drew.alloc (.cells #[.int .i64 ck, .int .i64 1] 2)).alloc (.cells #[.slice (some ⟨wo.heap.size, 0, none⟩) 2 2] 30)) := hal2.alloc (by simp) _
              refine hK.out _ _ (fun _ => ⟨cell_by' hal3 hrv, cell_by' hal3 (qC 1), cell_by' hal3 ccell⟩) ?_
              try simp only [Act.put, List.setIfInBounds_toArray, List.set_cons_zero, List.set_cons_succ]
              refine wpAnyE_one (k := 14) (by kernel_rfl) rfl (fun K hK => ?_)
              obtain ⟨P, hPD, HQ0⟩ := HNQ.out
              obtain ⟨cs, vs, n0, n1, n2, n3, n4⟩ := NetsQ.mark (D := wo.heap.size) hal3 HQ0 (Nat.le_refl _) (by simp; omega) (by omega)
              obtain ⟨n5, n6⟩ := n3 q hqm
              have hvq : vs q = (.slice av Y.length cv) := by
                have e1 := cell_by' hal3 hrv
                rw [n1.cell q, n5] at e1
                simpa using e1
              rw [hvq] at n5 n6
              (try dsimp only at n6)
              rw [HYY.out] at n6
              refine step_pushB (by rfl) _ _ (by rfl) (N + 1) _ (.slice av Y.length cv) Y (by rfl) n6 (wo.heap.size + 1) [ck, 1] _ wo.heap.size (by rfl) (Blk.new _ (by simp)) ((ownR_cells (zs := [ck, 1]) (Blk.new _ rfl) rfl (by simp)).new _) (.inr rfl) (by simp; omega) (by simp; omega) (fun k' hk' => (n0 k' hk').2) (by omega) ?_
              intro g5 c5 w5 hB5 hk5 ho5 hw5
              have hsz5 := hw5.size
              have hsz5' := hw5.size
              have hk5' := hk5
              have ho5' := ho5
              have hlst := HLST.out 1 hr
              simp only [World.size_alloc, World.size_drew] at hsz5 hk5 ho5
              have hown := HOW.out
              have hA5 : (Value.ownBlock (.slice av Y.length cv)) ≠ some w.heap.size := fun e => by have := hown _ e; omega
              have hC5 : (Value.ownBlock (.slice av Y.length cv)) ≠ some (w.heap.size + 1) := fun e => by have := hown _ e; omega
              have hN5 : (Value.ownBlock (.slice av Y.length cv)) ≠ some N := fun e => by have := hown _ e; omega
              have hD5 : (Value.ownBlock (.slice av Y.length cv)) ≠ some D := fun e => (hown _ e).2.2 rfl
              have hcb5 : (Value.ownBlock (.slice av Y.length cv)) ≠ some cb := fun e => by have := hown _ e; omega
              have hold : ∀ z, z < wo.heap.size → (Value.ownBlock (.slice av Y.length cv)) ≠ some z → w5.heap[z]? = wo.heap[z]? := fun z hz hne => (hk5 z (by omega) hne).trans (hal3.block z hz)
              have hrv5 : w5.cell? ⟨N, q, none⟩ = some (.slice av Y.length cv) := by
                rw [← hrv]
                simp only [World.cell?, hold N lN hN5]
              have kC5 : Blk w5 (w.heap.size + 1) _ 77 := (hold _ lC hC5).trans kC
              have kA5 : Blk w5 w.heap.size _ 27 := (hold _ kA.lt hA5).trans kA
              have kD5 : Blk w5 D _ 54 := (hold _ lD hD5).trans kD
              have ccell5 : w5.cell? ⟨cb, co + k, none⟩ = some (.int .i64 ck) := by
                rw [← ccell]
                simp only [World.cell?, hold cb (by have := hb.size; omega) hcb5]
              have hS5 : w5.cell? ⟨N, q, none⟩ = some (.slice av Y.length cv) ∧ w5.cell? ⟨w.heap.size + 1, 1, none⟩ = some (.slice (some ⟨cb, co, none⟩) cd.length e2) ∧ w5.cell? ⟨cb, co + k, none⟩ = some (.int .i64 ck) := ⟨hrv5, kC5.cell 1, ccell5⟩
              have hW5 : Within (N + 1) wo.heap.size wo w5 := ⟨hw5.os.trans hal3.os, hw5.tape.trans hal3.tape, hw5.output.trans hal3.output, by omega, fun z hz hne => hold z hz (fun e => by have := hown z e; omega)⟩
              have hb5 := hW5.below hb (by omega)
              have kN5 : Blk w5 N cs 75 := (hk5 N (by omega) hN5).trans n1
              have fN5 := kN5.free
              have lN5 := kN5.lt
              have hlen2 : (Y ++ [[ck, (1 : Int)]]).length = Y.length + 1 := by simp
              have hfin := NetsQ.grow (lst := (fun j : Nat => occs ds cd (j : Int) k ++ occD ck kind pins (j : Int) p)) (lst' := (fun j : Nat => occs ds cd (j : Int) k ++ occD ck kind pins (j : Int) (p + 1))) (g := g5) (cap := c5) n0 n1 n2 n3 n4 hqm (by omega) (by
                (try dsimp only)
                rw [hlst, hlen2]
                exact hB5) (by rw [hvq]; exact hk5') (by rw [hvq]; exact ho5') hsz5' (fun i hi => by
                (try dsimp only)
                rw [HSD.out, if_neg (fun e => hi e.symm), List.append_nil])
              (try dsimp only at hfin)
              rw [hlst, hlen2] at hfin
              have HFIN := Lib.hid hfin
              clear hB5 hk5 ho5 hk5' ho5' hsz5' hlst hlen2 hold n0 n1 n2 n3 n4 n5 n6 hvq hfin hown hrv5 ccell5 hrv
              refine hK.out _ _ (fun _ => hS5) ?_
              try simp only [Act.put, List.setIfInBounds_toArray, List.set_cons_zero, List.set_cons_succ]
              refine wpAnyE_one (k := 15) (by kernel_rfl) rfl (fun K hK => ?_)
              go_simp
              refine hK.out _ _ (fun _ => hS5) ?_
              try simp only [Act.put, List.setIfInBounds_toArray, List.set_cons_zero, List.set_cons_succ]
              refine wpAnyE_one (k := 16) (by kernel_rfl) rfl (fun K hK => ?_)
              go_simp
              refine hK.out _ _ (fun h => absurd rfl h) ?_
              refine wpAnyE_done (by kernel_rfl) ?_ _
              clear hS hS5
              go_wp2_with fail
              exact ⟨⟨p + 1, by omega, by go_num, Lib.hid ⟨_, .inl hPD, HFIN.out⟩, kD5.apart N q _ (by omega), kA5.apart N q _ (by omega), kC5.apart N q _ (by omega), hb5.setCell (by simp; omega) _⟩, by simp [intOf]; omega⟩
        · obtain rfl : p = pins.length := by omega
          go_wp2
          refine ⟨⟨k + 1, by omega, by go_num, Lib.hid ?_, kA, kC, hb⟩, by simp [intOf]; omega⟩
          obtain ⟨P, _, hQ⟩ := HNQ.out
          have e : (fun j : Nat => occs ds cd (j : Int) (k + 1)) = (fun j : Nat => occs ds cd (j : Int) k ++ occD ck kind pins (j : Int) pins.length) := by
            funext j
            rw [HST.out]
          rw [e]
          exact ⟨P, hQ⟩
    · obtain rfl : k = ds.length := by omega
      obtain ⟨wo, hwo⟩ : ∃ y : World, y = wr := ⟨_, rfl⟩
      subst hwo
      obtain ⟨P, cs, vs, n0, n1, n2, n3, n4⟩ := HNI.out
      obtain ⟨E, hE⟩ : ∃ E, wo.heap.size = E := ⟨_, rfl⟩
      have HOW : Hid (∀ i, i < m → ∀ g, (vs i).ownBlock = some g → N + 1 ≤ g ∧ g < E) := Lib.hid (fun i hi g hg => by
        obtain ⟨_, _, _, n7, _⟩ := (n3 i hi).2
        have := n7 g hg
        omega)
      have HP0 : Hid (∀ z, P z → N + 1 ≤ z ∧ z < E) := Lib.hid (fun z hz => by have := n0 z hz; omega)
      have HCS : Hid (∀ i, i < m → cs[i]? = some (vs i)) := Lib.hid (fun i hi => (n3 i hi).1)
      have HRW : Hid (∀ i, i < m → RowE wo (N + 1) P (vs i) (occs ds cd (i : Int) ds.length)) := Lib.hid (fun i hi => (n3 i hi).2)
      have HDJ := Lib.hid n4
      have lN := n1.lt
      have lC := kC.lt
      clear n0 n2 n3 n4 HNI qA lA
      have hEE := hE
      clear hlt hk
      go_wp2
      (try rw [hE])
      obtain ⟨wE, hwE⟩ : ∃ wE, wE = wo.alloc (.cells #[] 30) := ⟨_, rfl⟩
      have hal : Below wo.heap.size wo wE := by rw [hwE]; exact (Below.refl _ wo).alloc (Nat.le_refl _) _
      have kE : Blk wE E #[] 30 := by rw [hwE]; exact Blk.new _ hE.symm
      have hsE : wE.heap.size = E + 1 := by rw [hwE]; simp [hE]
      have hbE := below_on hal hb
      have kNE : Blk wE N cs 75 := Blk.by hal n1
      have kCE := Blk.by hal kC
      have HRE : Hid (∀ i, 0 ≤ i → i < m → RowE wE (N + 1) P (vs i) (occs ds cd (i : Int) ds.length)) := Lib.hid (fun i _ hi => (HRW.out i hi).off hal.size (fun z hz _ => hal.block z hz))
      have HBE : Hid (BldL wE E (E + 1) (.slice (some ⟨E, 0, none⟩) 0 0) (Z.take 0)) := by
        apply Lib.hid
        rw [List.take_zero]
        exact BldL.lit kE (Nat.le_refl _) (by omega) (by omega)
      rw [← hwE]
      clear hwE kE hal n1 kC kA HRW hb
      go_loopw [11, 61] (fun u i wr2 => ∃ (j h2 : Nat), j ≤ m ∧ i = .int .i64 j ∧ Hid (BldL wr2 E h2 u (Z.take j)) ∧ (E < h2 ∧ E < wr2.heap.size) ∧ Hid (∀ i, j ≤ i → i < m → RowE wr2 (N + 1) P (vs i) (occs ds cd (i : Int) ds.length)) ∧ Blk wr2 N cs 75 ∧ Blk wr2 (w.heap.size + 1) #[.slice b1 cn.length e1, .slice b2 cd.length e2] 77 ∧ Below w.heap.size w wr2) (fun _ i _ => m - (intOf i).toNat)
      case atStart => exact ⟨0, E + 1, Nat.zero_le _, rfl, HBE, ⟨by omega, by omega⟩, HRE, kNE, kCE, hbE⟩
      case round =>
        clear HBE HRE kNE kCE hbE hsE
        obtain ⟨j, h2, hj, rfl, HBd, ⟨hh2, hE2⟩, HRE, kN, kC, hb⟩ := hrel
        obtain ⟨ad, cd', rfl⟩ := HBd.out.sized
        have hml : (Z.take j).length = j := by rw [List.length_take, HZL.out]; omega
        rw [hml] at HBd ⊢
        have HML := Lib.hid hml
        have hIs := HBd.out.1
        have qN := kN.cell
        clear hml
        by_cases hlj : j < m
        · have hcj := HCS.out j hlj
          have hNj : wr.cell? ⟨N, j, none⟩ = some (vs j) := (qN j).trans hcj
          have hrow := HRE.out j (Nat.le_refl _) hlj
          obtain ⟨av, cv, hvj⟩ := hrow.sized
          have hol := HO3.out (j : Int) ds.length
          have j1 : (0 : Int) ≤ (j : Int) := by omega
          have j2 : (j : Int) < (m : Int) := by omega
          obtain ⟨col, hcol⟩ : ∃ col, cn[j]? = some col := ⟨cn[j]'(by omega), List.getElem?_eq_getElem _⟩
          have hcol' : nmOf cn (j : Int) = col := by simp [nmOf, List.getD_eq_getElem?_getD, hcol]
          rcases HC1.out with ⟨_, _, _, e3⟩ | ⟨nb, no, nc, hne, _, _, c4⟩
          · rw [e3] at hcol; simp at hcol
          obtain ⟨rfl, rfl⟩ : b1 = some ⟨nb, no, none⟩ ∧ e1 = nc := by simpa using hne
          have hcell := c4 j col hcol
          have HCOL := Lib.hid hcol'
          have HCEL := Lib.hid hcell
          have hS := HSR.out (N + 1) P (vs j) (occs ds cd (j : Int) ds.length) wr hrow (by omega)
          have HVJ := Lib.hid hvj
          rw [hvj] at hNj hS
          have HSS := Lib.hid hS
          have hcnl : (j : Int) < (cn.length : Int) := by omega
          clear hcol hcol' c4 hcell hS hrow hvj hcj qN
          go_wp2_with fail
          refine HSS.out.mono ?_
          rintro e w3 ⟨rfl, S, hperm, hsort, hRow, hold3, hW3⟩
          have hs3 := hW3.size
          have hVJ := HVJ.out
          have hown : ∀ g, (Value.slice av (occs ds cd (j : Int) ds.length).length cv).ownBlock = some g → N + 1 ≤ g ∧ g < E := by rw [← hVJ]; exact HOW.out j hlj
          have kN3 : Blk w3 N cs 75 := (hold3 N kN.lt (fun e => by have := hown _ e; omega)).trans kN
          have kC3 : Blk w3 (w.heap.size + 1) #[.slice (some ⟨nb, no, none⟩) cn.length e1, .slice b2 cd.length e2] 77 := (hold3 _ kC.lt (fun e => by have := hown _ e; omega)).trans kC
          have hb3 : Below w.heap.size w w3 := hW3.below hb (by omega)
          have HB3 : Hid (BldL w3 E h2 (.slice ad j cd') (Z.take j)) := Lib.hid (HBd.out.same hs3 (fun z z1 z2 => hold3 z (by omega) (fun e => by have := hown z e; omega)))
          have hlen := hperm.length_eq
          obtain ⟨hz1, hz2⟩ := HZS.out j S hperm hsort
          rw [HCOL.out] at hz1
          have hzl := HZN.out j
          have HZ1 := Lib.hid hz1
          have HZ2 := Lib.hid hz2
          have hRow' := hRow
          have HROW := Lib.hid hRow'
          have hfl : ([[col]] ++ S).flatten = X j := by rw [← hz1]; simp
          have hXp : 0 < (X j).length := by rw [← hfl]; simp
          have HCL := Lib.hid (fun sv w h => HCC.out ([[col]] ++ S) sv w h (by rw [hfl]; exact hXp) (by rw [hfl]; omega) (by simp; omega) (fun o ho => by
            rcases List.mem_append.1 ho with ho | ho
            · simp at ho; subst ho; simp
            · exact hz2 o ho))
          rw [hfl] at HCL
          have HRE3 : Hid (∀ i, j + 1 ≤ i → i < m → RowE w3 (N + 1) P (vs i) (occs ds cd (i : Int) ds.length)) := Lib.hid (fun i hi him => (HRE.out i (by omega) him).off hs3 (fun z hz hor => hold3 z hz (fun e => by
            rcases hor with hp | ho
            · rw [← hVJ] at e
              obtain ⟨_, _, _, n7, _⟩ := HRE.out j (Nat.le_refl _) hlj
              exact (n7 z e).2.2 hp
            · rw [← hVJ] at e
              exact HDJ.out i j him hlj (by omega) z ho e)))
          have ccell := cell_by' hb3 HCEL.out
          have qC := kC3.cell
          have HOWN := Lib.hid hown
          have hSl : S.length ≤ 100 := by omega
          clear hperm hsort hRow' hRow hfl hlen hold3 hW3 hz1 hz2 HSS HBd HRE kN kC hb hown hVJ
          go_wp2_with (refine list_append1 (by rfl) _ _ (by rfl) w3.heap.size w3.heap.size (w3.heap.size + 1) [col] _ (by rfl) (Blk.new _ (by simp)) ((ownR_cells (zs := [col]) (Blk.new _ rfl) rfl (by simp)).new _) (by simp; omega) (Nat.le_refl _) (by omega) (by omega) (N + 1) P _ S (by rfl) (HROW.out.two _ _) (fun g e => by have := HOWN.out g e; omega) (fun z hz => by have := HP0.out z hz; omega) (by omega) ?_; intro a4 c4 w4 hL4 hb4; have HL4 := Lib.hid hL4; clear hL4)
          refine (HCL.out _ _ HL4.out).mono ?_
          rintro e w6 ⟨v6, rfl, hO6, hb6⟩
          obtain ⟨f6, ⟨f61, f62⟩, hp6⟩ := hO6.pick' hXp
          have HP6 := Lib.hid hp6
          obtain ⟨a6, c6, rfl⟩ := hO6.sl.len
          have hs6 := hb6.size
          have hs4 := hb4.size
          simp only [World.size_alloc] at hs4
          have hb36 : Below w3.heap.size w3 w6 := (hb4.trans (hb6.mono (by omega))) |> fun h => (below_two w3 _ _).trans h
          have HB6 : Hid (BldL w6 E h2 (.slice ad j cd') (Z.take j)) := Lib.hid (HB3.out.by hb36)
          clear hO6 hp6 hb6 hb4
          go_wp2_with (refine list_pushL (by rfl) _ _ (by rfl) E h2 (.slice ad j cd') (Z.take j) (by rfl) (HB6.out.by blwT) w6.heap.size (X j) _ f6 (by rfl) (Blk.new _ rfl) (HP6.out.new _) (by omega) (by omega) (by simp; omega) (by rw [HML.out]; omega) ?_; intro a7 c7 w7 hB7 hw7; have HB7 := Lib.hid hB7; rw [HML.out]; clear hB7)
          have hs7 := hw7.size
          simp only [World.size_alloc] at hs7
          have hold7 : ∀ z, z < E → w7.heap[z]? = w3.heap[z]? := fun z hz => (hw7.block z (by simp; omega) (.inl hz)).trans ((((Below.refl _ w6).alloc (Nat.le_refl _) _).block z (by omega)).trans (hb36.block z (by omega)))
          refine ⟨⟨j + 1, w7.heap.size, by omega, by go_num, Lib.hid ?_, ⟨by omega, by omega⟩, Lib.hid (fun i hi him => (HRE3.out i hi him).off (by omega) (fun z hz hor => hold7 z ?_)), (hold7 N (by omega)).trans kN3, (hold7 _ (by omega)).trans kC3, hw7.below (below_on ((Below.refl _ w6).alloc (Nat.le_refl _) _) (below_on hb36 hb3)) (by omega)⟩, by simp [intOf]; omega⟩
          · rw [HZT.out j hlj]
            have := HB7.out
            rw [HML.out] at this
            exact this
          · rcases hor with hp | ho
            · exact (HP0.out z hp).2
            · exact (HOW.out i him z ho).2
        · obtain rfl : m = j := by omega
          have hBl := HBd.out
          rw [List.take_of_length_le (by rw [HZL.out]; exact Nat.le_refl _)] at hBl
          have HBL := Lib.hid (hBl.wide (lo' := w.heap.size) (hi' := wr.heap.size) (by omega) hIs (Nat.le_refl _))
          clear hBl HBd HRE
          go_wp2
          go_ret
          exact ⟨_, rfl, HBL.out, hb⟩
/- The program's NetSignature. -/
theorem implNets_any (x : Nl) (c : List Int × List Int) (m : Nat) (v u : Value) (w : World) (h : NlV w v x) (hc : CoV w u c) (hm : x.nets = m) (hm24 : m ≤ 24) (hl : x.ds.length ≤ 24) (hcn : c.1.length = m) (hcd : c.2.length = x.ds.length)
    (hpn : ∀ d ∈ x.ds, d.pins.length ≤ 3 ∧ ∀ p ∈ d.pins, 0 ≤ p ∧ p < m) (hO : ∀ net, ∀ o ∈ occs x.ds c.2 net x.ds.length, ∃ q r : Nat, q < 24 ∧ r < 3 ∧ o = [(q : Int), (r : Int)]) :
    Calls Tryz.prog 90 #[v, u] w fun e w' => ∃ v', e = .returned v' ∧ BldL w' w.heap.size w'.heap.size v' ((List.range m).map fun j : Nat => netL' x c (j : Int)) ∧ Below w.heap.size w w' :=
  implNet_any x c m v u w h hc hm hm24 hl hcn hcd hpn hO (Lib.hid (fun L P v ls w h hn => sortRow_any L P v ls w h hn))
theorem BldL.at {w : World} {lo hi : Nat} {v : Value} {ls : List (List Int)} (h : BldL w lo hi v ls) (i : Nat) (x : List Int) (hx : ls[i]? = some x) :
    ∃ g cap s fi, v = .slice (some ⟨g, 0, none⟩) ls.length cap ∧ w.cell? ⟨g, i, none⟩ = some s ∧ OwnR w fi (fi + 1) s x ∧ lo ≤ fi ∧ fi < hi := by
  obtain ⟨hs, vs, f, ⟨hlen, h1⟩, h2, h3, h4⟩ := h
  have hi' : i < ls.length := (List.getElem?_eq_some_iff.1 hx).1
  rcases h1 with ⟨h1, hn⟩ | ⟨g, cap, cur, e1, e2, e3, e4, e5, e6, e7⟩
  · omega
  · obtain ⟨s, hsv⟩ : ∃ s, vs[i]? = some s := ⟨vs[i]'(by omega), List.getElem?_eq_getElem (by omega)⟩
    have h6 := hsv
    rw [← e7, List.getElem?_take_of_lt (by omega)] at h6
    have hB : Blk w g cur 30 := e3
    obtain ⟨a, b, c⟩ := h4 i x s hx hsv
    exact ⟨g, cap, s, f i, e1, by rw [hB.cell]; simpa using h6, a, b.1, b.2⟩
def LlBlk (w : World) (g : Nat) (ps : List (Value × List Int)) : Prop := ∃ cs : Array Value, Blk w g cs 30 ∧ ∀ (i : Nat) p, ps[i]? = some p → cs[i]? = some p.1
set_option maxRecDepth 100000 in
theorem cloneL_any (ls : List (List Int)) (b off n c : Nat) (w : World) (h : LlSl w (.slice (some ⟨b, off, none⟩) n c) ls) (hn : ls.length ≤ 1000000) :
    Calls Tryz.prog 102 #[.slice (some ⟨b, off, none⟩) n c] w fun e w' => ∃ (g cap : Nat) (ps : List (Value × List Int)), e = .returned (.slice (some ⟨g, 0, none⟩) ls.length cap) ∧ ps.map (·.2) = ls ∧ (∀ p ∈ ps, IntSl w p.1 p.2) ∧ w.heap.size ≤ g ∧ LlBlk w' g ps ∧ ls.length ≤ cap ∧ cap ≤ maxLen ∧ Below w.heap.size w w' := by
  obtain ⟨i0, hi0, hz0, hz1, hz2⟩ := info_parts infoL
  have key : ∃ vs : List Value, vs.length = ls.length ∧ (∀ (j : Nat) u, vs[j]? = some u → w.cell? ⟨b, off + j, none⟩ = some u) ∧ ∀ (i : Nat) s xs, vs[i]? = some s → ls[i]? = some xs → IntSl w s xs := by
    rcases h with ⟨a, c', e, rfl⟩ | ⟨b', off', cap', e, h1, h2, h3⟩
    · exact ⟨[], rfl, by simp, by simp⟩
    · simp only [Value.slice.injEq, Option.some.injEq, Addr.mk.injEq, and_true] at e
      obtain ⟨⟨rfl, rfl⟩, e2, rfl⟩ := e
      have hch : ∀ i : Fin ls.length, ∃ s, w.cell? ⟨b, off + i, none⟩ = some s ∧ IntSl w s ls[i] := fun i => h3 i ls[i] (List.getElem?_eq_getElem i.2)
      refine ⟨List.ofFn fun i => Classical.choose (hch i), by simp, fun j u hu => ?_, fun i s xs hs hx => ?_⟩
      · rw [List.getElem?_ofFn] at hu
        split at hu
        · rename_i hj
          cases hu
          exact (Classical.choose_spec (hch ⟨j, hj⟩)).1
        · cases hu
      · rw [List.getElem?_ofFn] at hs
        split at hs
        · rename_i hj
          cases hs
          have h5 := (Classical.choose_spec (hch ⟨i, hj⟩)).2
          rw [List.getElem?_eq_getElem hj] at hx
          cases hx
          exact h5
        · cases hs
  have hnl : n = ls.length := by
    obtain ⟨a, c', e⟩ := h.sized
    simp at e; exact e.2.1
  subst hnl
  obtain ⟨vs, k1, k2, k3⟩ := key
  have hone : ∀ u ∈ vs, u.oneCell' = true := fun u hu => by
    obtain ⟨i, hi, e⟩ := List.mem_iff_getElem.1 hu
    exact (k3 i u (ls[i]'(by omega)) (by rw [List.getElem?_eq_getElem hi, e]) (List.getElem?_eq_getElem _)).one
  have hcon := Tryz.slices_Clone_f102 i0 _ 1 24 hi0 hz0 hz1 hz2 rfl (by decide) (fun w => by kernel_rfl) b off ls.length c vs w (by omega) (by unfold maxLen; omega) (by omega) k2 hone
  refine hcon.mono ?_
  rintro e w' ⟨v', rfl, ⟨hl, hrow⟩, hne, hb⟩
  rcases hrow with ⟨rfl, _⟩ | ⟨g, cap, cur, rfl, hg, hblk, hc1, hc2, hc3, hc4⟩
  · exact absurd rfl hne
  refine ⟨g, cap, vs.zip ls, rfl, by rw [List.map_snd_zip (by omega)], fun p hp => ?_, hg, ⟨cur, hblk, fun i p hp => ?_⟩, hc1, hc2, hb⟩
  · obtain ⟨i, hi, e⟩ := List.mem_iff_getElem.1 hp
    have hi' : i < vs.length ∧ i < ls.length := by simp at hi; omega
    rw [List.getElem_zip] at e
    rw [← e]
    exact k3 i _ _ (List.getElem?_eq_getElem hi'.1) (List.getElem?_eq_getElem hi'.2)
  · have hi : i < (vs.zip ls).length := (List.getElem?_eq_some_iff.1 hp).1
    have hi' : i < vs.length ∧ i < ls.length := by simp at hi; omega
    rw [List.getElem?_eq_getElem hi, List.getElem_zip] at hp
    cases hp
    have h6 : (cur.toList.take (ls.length * 1))[i]? = some vs[i] := by rw [hc4, List.getElem?_eq_getElem hi'.1]
    rw [List.getElem?_take_of_lt (by omega)] at h6
    simpa using h6
/- The program's ranks: the walk. -/
theorem LlBlk.ll {w' : World} {g cap : Nat} {ps : List (Value × List Int)} (h : LlBlk w' g ps) (he : ∀ p ∈ ps, IntSl w' p.1 p.2) (hcap : ps.length ≤ cap) (hmx : cap ≤ maxLen) : LlSl w' (.slice (some ⟨g, 0, none⟩) ps.length cap) (ps.map (·.2)) := by
  obtain ⟨cs, hB, hc⟩ := h
  refine .inr ⟨g, 0, cap, by rw [List.length_map], by rw [List.length_map]; exact hcap, hmx, fun i xs hx => ?_⟩
  rw [List.getElem?_map] at hx
  obtain ⟨p, hp, rfl⟩ := Option.map_eq_some_iff.1 hx
  exact ⟨p.1, by rw [Nat.zero_add, hB.cell]; exact hc i p hp, he p (List.mem_of_getElem? hp)⟩
set_option maxRecDepth 100000 in
set_option maxHeartbeats 2000000 in
theorem implRanks_some (ls : List (List Int)) (b off n c : Nat) (w : World) (h : LlSl w (.slice (some ⟨b, off, none⟩) n c) ls) (hn : ls.length ≤ 1000) :
    Calls Tryz.prog 88 #[.slice (some ⟨b, off, none⟩) n c] w fun e w' => ∃ v, e = .returned v ∧ OwnR w' w.heap.size w'.heap.size v (rankS ls) ∧ Below w.heap.size w w' := by
  have eg1 : ∀ args w, (callFunc 103 args).run Tryz.prog w = .ok (.enter 103 args) w := enters_of Tryz.func103 (by kernel_rfl) rfl
  have eg2 : ∀ args w, (callFunc 105 args).run Tryz.prog w = .ok (.enter 105 args) w := enters_of Tryz.func105 (by kernel_rfl) rfl
  have eg3 : ∀ args w, (callFunc 107 args).run Tryz.prog w = .ok (.enter 107 args) w := enters_of Tryz.func107 (by kernel_rfl) rfl
  have HCL := Lib.hid (cloneL_any ls b off n c w h (by omega))
  have HS := Lib.hid (fun blk cap ps w cs hB hc he hn => sortFuncL_any 103 eg1 (fun W s1 s2 xs ys h h' => ranks1_any s1 s2 xs ys W h h') blk cap ps w cs hB hc he hn)
  have HCM := Lib.hid (fun blk cap ps w cs hB hc he hn h1 h2 => compactFuncL_any 105 eg2 (fun W s1 s2 xs ys h h' => ranks2_any s1 s2 xs ys W h h') blk cap ps w cs hB hc he hn h1 h2)
  have HIX := Lib.hid (fun lb p s0 xs w h hp => indexFuncL_any 107 lb eg3 p s0 xs w h hp)
  have HL := Lib.hid h
  have hnl : n = ls.length := by
    obtain ⟨a, c', e⟩ := h.sized
    simp at e; exact e.2.1
  subst hnl
  clear h eg1 eg2 eg3
  go_enter Tryz.func88, Tryz.ntmps88
  go_wp2_with fail
  refine HCL.out.mono ?_
  rintro e w1 ⟨g, cap, ps, rfl, hps, hpe, hgl, ⟨cs, hB, hc⟩, hcap, hmx, hb1⟩
  have hpl : ps.length = ls.length := by rw [← hps, List.length_map]
  have old1 : ∀ k, k < w.heap.size → w1.heap[k]? = w.heap[k]? := fun k hk => hb1.block k hk
  have HSC := Lib.hid (HS.out g cap ps w1 cs hB hc (fun p hp => ⟨(hpe p hp).one, fun w' ho => (hpe p hp).old (fun k hk => (ho k (by have := hb1.size; omega) (by omega)).trans (old1 k hk))⟩) (by omega))
  rw [hpl] at HSC
  have HPE := Lib.hid hpe
  have HPS := Lib.hid hps
  have HPL := Lib.hid hpl
  clear hB hc hpe hps hpl HS
  go_wp2_with fail
  refine HSC.out.mono ?_
  rintro e w2 ⟨rfl, qs, ds, hperm, hsort, hB2, hsz2, hc2, hW2⟩
  have hql : qs.length = ls.length := by rw [hperm.length_eq]; exact HPL.out
  have hqe : ∀ p ∈ qs, IntSl w p.1 p.2 := fun p hp => HPE.out p (hperm.mem_iff.1 hp)
  have old2 : ∀ k, k < w.heap.size → w2.heap[k]? = w.heap[k]? := fun k hk => (hW2.block k (by have := hb1.size; omega) (by omega)).trans (old1 k hk)
  have hb2 : Below w.heap.size w w2 := hW2.below hb1 hgl
  have HCC := Lib.hid (HCM.out g cap qs w2 ds hB2 hc2 (fun p hp => ⟨(hqe p hp).one, fun w' ho => (hqe p hp).old (fun k hk => (ho k (by have := hb2.size; omega) (by omega)).trans (old2 k hk))⟩) (by omega) (by omega) hmx)
  rw [hql] at HCC
  have HSO := Lib.hid (show (qs.map (·.2)).Pairwise (fun a b => lcmp a b ≤ 0) by rw [List.pairwise_map]; exact hsort)
  have HQP := Lib.hid (show ∀ z, z ∈ qs.map (·.2) ↔ z ∈ ls by
    intro z
    rw [← HPS.out]
    exact (hperm.map _).mem_iff)
  have HQE := Lib.hid hqe
  have HQL := Lib.hid hql
  clear HCL HSC hperm hsort hB2 hc2 hql hqe HPE HPS HPL HCM hsz2 old1
  go_wp2_with fail
  refine HCC.out.mono ?_
  rintro e w3 ⟨rs, es, rfl, hdd, hmem, hB3, hc3, hW3, hrq⟩
  have hb3 : Below w.heap.size w w3 := hW3.below hb2 hgl
  have old3 : ∀ k, k < w.heap.size → w3.heap[k]? = w.heap[k]? := fun k hk => hb3.block k hk
  have hrl : rs.length ≤ ls.length := by have := HQL.out; omega
  have hLD : LlSl w3 (.slice (some ⟨g, 0, none⟩) rs.length cap) (ddp (qs.map (·.2))) := by
    rw [← hdd]
    exact LlBlk.ll ⟨es, hB3, hc3⟩ (fun p hp => (HQE.out p (hmem p hp)).old old3) (by omega) hmx
  have HLD := Lib.hid hLD
  have HPR := Lib.hid (show ∀ x, x ∈ ls → fidx (fun y => decide (y = x)) (ddp (qs.map (·.2))) = rankOf ls x from fun x hx => place_rank (ddp_sorted HSO.out) (fun z => (mem_ddp _ _).trans (HQP.out z)) hx)
  have HL3 := Lib.hid (HL.out.by hb3)
  generalize ddp (qs.map (·.2)) = D at *
  have HTK := Lib.hid (fun k x (h : ls[k]? = some x) => show (rankS ls).take (k + 1) = (rankS ls).take k ++ [(rankOf ls x : Int)] from take_snoc_of (rankS ls) k _ (by simp [rankS, h]))
  have HLR := Lib.hid (length_rankS ls)
  have hrb : ∀ x, rankOf ls x ≤ ls.length := fun x => rankTo_le ls x _
  have HRB := Lib.hid hrb
  clear hLD HCC hdd hmem hB3 hc3 hW3 HSO HQP HQE HQL hb2 old2 old3 hW2 hb1 HL hrq hrb
  have hbs3 := hb3.size
  go_wp2
  go_loopw [4, 16] (fun v i wr => ∃ (k hi : Nat), k ≤ ls.length ∧ i = .int .i64 k ∧ Hid (BldI wr w3.heap.size hi v ((rankS ls).take k)) ∧ w3.heap.size ≤ hi ∧ Below w3.heap.size w3 wr) (fun _ i _ => ls.length - (intOf i).toNat)
  case atStart =>
    refine ⟨0, w3.heap.size + 1, Nat.zero_le _, rfl, Lib.hid ?_, by omega, blwT⟩
    have hB : Blk (w3.alloc (.cells #[] 2)) w3.heap.size #[] 2 := Blk.new _ rfl
    exact BldI.lit (zs := []) hB rfl (by simp) (Nat.le_refl _) (by omega) (by simp)
  case round =>
    obtain ⟨k, hi, hk, rfl, HB, hhi, hb⟩ := hrel
    have hml : ((rankS ls).take k).length = k := by rw [List.length_take, HLR.out]; omega
    obtain ⟨av, cv, rfl⟩ := HB.out.sized
    rw [hml] at HB ⊢
    have HML := Lib.hid hml
    have hbs := hb.size
    clear hml
    by_cases hlt : k < ls.length
    · obtain ⟨x, hx⟩ : ∃ x, ls[k]? = some x := ⟨ls[k], List.getElem?_eq_getElem hlt⟩
      rcases HL3.out.by hb with ⟨_, _, _, e2⟩ | ⟨b', off', cap', he, _, _, hcc⟩
      · rw [e2] at hlt; simp at hlt
      obtain ⟨⟨rfl, rfl⟩, rfl⟩ : (b = b' ∧ off = off') ∧ c = cap' := by simpa using he
      obtain ⟨s, c1, hS⟩ := hcc k x hx
      have HSX := Lib.hid hS
      have HX := Lib.hid hx
      have HTX := Lib.hid (HTK.out k x hx)
      have HRX := Lib.hid (HPR.out x (List.mem_of_getElem? hx))
      have hrx := HRB.out x
      obtain ⟨ax, cx, rfl⟩ := hS.len
      obtain ⟨R, hR⟩ : ∃ R, wr.heap.size = R := ⟨_, rfl⟩
      obtain ⟨wA, hwA⟩ : ∃ wA, wA = wr.alloc (.cells #[.slice ax x.length cx] 30) := ⟨_, rfl⟩
      have hal : Below wr.heap.size wr wA := by rw [hwA]; exact (Below.refl _ wr).alloc (Nat.le_refl _) _
      have kX : Blk wA R #[.slice ax x.length cx] 30 := by rw [hwA]; exact Blk.new _ hR.symm
      have hCI := HIX.out #[.pointer (some ⟨R, 0, none⟩)] (fun y => decide (y = x)) (.slice (some ⟨g, 0, none⟩) rs.length cap) D wA ((HLD.out.by hb).by hal) (fun W y sv hbW hy hSy => ranks3_any sv (.slice ax x.length cx) y x R W hSy ((HSX.out.by hal).by hbW) (by rw [(Blk.by hbW kX).cell]; rfl))
      rw [HRX.out] at hCI
      have HCI := Lib.hid hCI
      have HWA := Lib.hid hwA
      have i1 : (0 : Int) ≤ (k : Int) := by omega
      have i2 : (k : Int) < (ls.length : Int) := by omega
      generalize rankOf ls x = rk at *
      clear hx he hcc hS hCI hwA
      go_wp2_with fail
      rw [← HWA.out]
      (try rw [hR])
      refine HCI.out.mono ?_
      rintro e w4 ⟨rfl, hb4⟩
      have hb5 : Below wr.heap.size wr w4 := below_on hb4 hal
      have HB4 := Lib.hid (HB.out.by hb5)
      have hb6 : Below w3.heap.size w3 w4 := below_on hb5 hb
      have hs4 := hb5.size
      clear hb4 hb5 hal kX HCI
      go_wp2_with (refine list_pushI (by rfl) _ _ (by rfl) w3.heap.size hi _ _ [(rk : Int)] (by rfl) (HB4.out.by blwT) w4.heap.size 1 #[.int .i64 (rk : Int)] (by rfl) (by rfl) (by omega) (Blk.new _ rfl) (by rfl) hhi (by rw [HML.out]; omega) ?_; intro a2 c2' w5 hB5 hw5; have HB5 := Lib.hid hB5; rw [HML.out]; clear hB5)
      have hsz := hw5.size
      simp only [World.size_alloc] at hsz
      refine ⟨⟨k + 1, w5.heap.size, by omega, by go_num, Lib.hid ?_, by omega, hw5.below (below_al hb6 _) (by omega)⟩, by simp [intOf]; omega⟩
      rw [HTX.out]
      have := HB5.out
      rw [HML.out] at this
      exact this
    · obtain rfl : k = ls.length := by omega
      have hBD := HB.out
      rw [List.take_of_length_le (by rw [HLR.out]; exact Nat.le_refl _)] at hBD
      have HBD := Lib.hid hBD
      clear hBD HB
      go_wp2
      go_ret
      refine ⟨_, rfl, OwnR.wide' HBD.out.own (by omega) HBD.out.1, ?_⟩
      exact hb3.trans (hb.mono (by omega))
/- The program's ranks: one contract. -/
set_option maxRecDepth 100000 in
set_option maxHeartbeats 2000000 in
theorem implRanks_none (c : Nat) (w : World) :
    Calls Tryz.prog 88 #[.slice none 0 c] w fun e w' => ∃ v, e = .returned v ∧ OwnR w' w.heap.size w'.heap.size v (rankS []) ∧ Below w.heap.size w w' := by
  have HCL := Lib.hid (Tryz.slices_Clone_nil_f102 0 c w)
  have HSN := Lib.hid (fun fv w => Tryz.slices_SortFunc_none (α := Nat) none 0 fv w)
  have HCM : Hid (∀ fv w, Calls Tryz.prog 104 #[.slice none 0 0, fv] w fun e w' => e = .returned (.slice none 0 0) ∧ w' = w) := by
    apply Lib.hid
    intro fv w
    go_enter Tryz.func104, Tryz.ntmps104
    go_wp2
    go_ret
    exact ⟨rfl, rfl⟩
  go_enter Tryz.func88, Tryz.ntmps88
  go_wp2_with fail
  refine HCL.out.mono ?_
  rintro e w1 ⟨rfl, rfl⟩
  go_wp2_with fail
  refine (HSN.out _ _).mono ?_
  rintro e w2 ⟨rfl, rfl⟩
  go_wp2_with fail
  refine (HCM.out _ _).mono ?_
  rintro e w3 ⟨rfl, rfl⟩
  go_wp2
  go_loopw [4, 16] (fun v i wr => i = .int .i64 0 ∧ (∃ c, v = .slice c 0 0) ∧ Below w3.heap.size w3 wr) (fun _ _ _ => 0)
  case atStart => exact ⟨rfl, ⟨_, rfl⟩, blwT⟩
  case round =>
    obtain ⟨rfl, ⟨cc, rfl⟩, hb⟩ := hrel
    go_wp2
    go_ret
    exact ⟨_, rfl, .inl ⟨_, _, rfl, rfl⟩, hb⟩
theorem implRanks_any (ls : List (List Int)) (sv : Value) (w : World) (h : LlSl w sv ls) (hf : (∃ c, sv = .slice none 0 c) ∨ ∃ b n c, sv = .slice (some ⟨b, 0, none⟩) n c) (hn : ls.length ≤ 1000) :
    Calls Tryz.prog 88 #[sv] w fun e w' => ∃ v, e = .returned v ∧ OwnR w' w.heap.size w'.heap.size v (rankS ls) ∧ Below w.heap.size w w' := by
  rcases hf with ⟨c, rfl⟩ | ⟨b, n, c, rfl⟩
  · have : ls = [] := by
      obtain ⟨a, c', e⟩ := h.sized
      simp at e
      exact List.eq_nil_of_length_eq_zero e.2.1.symm
    subst this
    exact implRanks_none c w
  · exact implRanks_some ls b 0 n c w h hn
end Go.Proofs.YtehmiekendkjmaaGreat
