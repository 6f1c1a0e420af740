/- slices.Compact at int64. -/
import Derived.Test.YtpaiiaajbojmnaaGreatSorts
import Derived.Test.YtpaiiaajbojmnaaGreatOrdB
import Derived.BigQuiet
import Derived.Test.YtpaiiaajbojmnaaGreatRank0
import Derived.Test.YtpaiiaajbojmnaaGreatOrdI
import Derived.Test.YtpaiiaajbojmnaaGreatPairC
import Derived.Deep.RegionHeld3
namespace Go.Proofs.YtpaiiaajbojmnaaGreat
open Go.RowKit
set_option linter.unusedVariables false
set_option linter.unusedSimpArgs false

/-- The first k of zs without those that are like their neighbour ahead. -/
def keepI (zs : List Int) : Nat → List Int
  | 0 => []
  | k + 1 => match zs[k]? with
    | none => keepI zs k
    | some z => if zs[k - 1]? = some z ∧ 0 < k then keepI zs k else keepI zs k ++ [z]
theorem keepI_same {zs : List Int} {k : Nat} {p q : Int} (hp : zs[k + 1]? = some p) (hq : zs[k]? = some q) (h : p = q) : keepI zs (k + 2) = keepI zs (k + 1) := by
  show (match zs[k + 1]? with | none => _ | some z => _) = _
  rw [hp]
  simp [hq, h]
theorem keepI_new {zs : List Int} {k : Nat} {p q : Int} (hp : zs[k + 1]? = some p) (hq : zs[k]? = some q) (h : p ≠ q) : keepI zs (k + 2) = keepI zs (k + 1) ++ [p] := by
  show (match zs[k + 1]? with | none => _ | some z => _) = _
  rw [hp]
  simp [hq, Ne.symm h]
theorem keepI_one {zs : List Int} : keepI zs 1 = zs.take 1 := by
  cases zs <;> simp [keepI]
theorem keepI_ddp (zs : List Int) : ∀ k, k ≤ zs.length → keepI zs k = ddp (zs.take k)
  | 0, _ => rfl
  | 1, _ => by rw [keepI_one]; cases zs <;> simp [ddp, ddpA]
  | k + 2, hk => by
    have ih := keepI_ddp zs (k + 1) (by omega)
    obtain ⟨p, hp⟩ : ∃ p, zs[k + 1]? = some p := ⟨zs[k + 1], List.getElem?_eq_getElem (by omega)⟩
    obtain ⟨q, hq⟩ : ∃ q, zs[k]? = some q := ⟨zs[k], List.getElem?_eq_getElem (by omega)⟩
    have hl : (zs.take (k + 1)).getLast? = some q := by
      rw [List.getLast?_eq_getElem?, List.length_take, show min (k + 1) zs.length - 1 = k by omega, List.getElem?_take_of_lt (by omega), hq]
    rw [take_snoc_of zs (k + 1) p hp, ddp_snoc hl]
    by_cases h : p = q
    · rw [keepI_same hp hq h, if_pos h, ih]
    · rw [keepI_new hp hq h, if_neg h, ih]
def CompIPost (blk cap : Nat) (zs : List Int) (w : World) (e : Ending) (w' : World) : Prop :=
  ∃ (ds : Array Value), e = .returned (.slice (some ⟨blk, 0, none⟩) (ddp zs).length cap) ∧ Blk w' blk ds 2 ∧ (∀ (i : Nat) z, (ddp zs)[i]? = some z → ds[i]? = some (.int .i64 z)) ∧ Within blk (blk + 1) w w' ∧ (ddp zs).length ≤ zs.length
theorem length_ddpA {α : Type} [DecidableEq α] (p : α) (l : List α) : (ddpA p l).length ≤ l.length := by
  induction l generalizing p with
  | nil => simp [ddpA]
  | cons a l ih =>
    unfold ddpA
    split
    · have := ih a; simp; omega
    · have := ih a; simp; omega
theorem length_ddp {α : Type} [DecidableEq α] (l : List α) : (ddp l).length ≤ l.length := by
  cases l with
  | nil => simp [ddp]
  | cons a l => have := length_ddpA a l; simp [ddp]; omega

set_option maxRecDepth 100000 in
set_option maxHeartbeats 2000000 in
theorem compactI_any (blk cap : Nat) (zs : List Int) (w : World) (cs : Array Value) (hB : Blk w blk cs 2)
    (hc : ∀ (i : Nat) z, zs[i]? = some z → cs[i]? = some (.int .i64 z)) (hn : zs.length ≤ 1000000) (hcap : zs.length ≤ cap) (hmx : cap ≤ maxLen) :
    Calls Tryz.prog 18 #[.slice (some ⟨blk, 0, none⟩) zs.length cap] w (CompIPost blk cap zs w) := by
  obtain ⟨PP, hPP⟩ : ∃ P, CompIPost blk cap zs w = P := ⟨_, rfl⟩
  rw [hPP]
  have HPP := Lib.hid hPP
  clear hPP
  unfold maxLen at hmx
  by_cases h2 : zs.length < 2
  · have hs : ddp zs = zs := by
      match zs, h2 with
      | [], _ => rfl
      | [p], _ => rfl
    have hl : (zs.length : Int) < 2 := by omega
    have HS := Lib.hid hs
    have HC := Lib.hid hc
    clear hs hc
    go_enter Tryz.func18, Tryz.ntmps18
    go_wp2
    rw [← HPP.out]
    exact ⟨cs, by rw [HS.out]; rfl, hB, by rw [HS.out]; exact HC.out, Within.refl _ _ _, length_ddp zs⟩
  · have hl : ¬ (zs.length : Int) < 2 := by omega
    have HC := Lib.hid hc
    have HD := Lib.hid (keepI_ddp zs zs.length (Nat.le_refl _))
    have HK1 := Lib.hid (show keepI zs (0 + 1) = zs.take (0 + 1) from keepI_one)
    have HKS := Lib.hid (fun k p q => @keepI_same zs k p q)
    have HKN := Lib.hid (fun k p q => @keepI_new zs k p q)
    have HTS := Lib.hid (fun k p h => take_snoc_of zs k p h)
    have hBl := hB.lt
    have hBc := hB.cell
    clear hc
    go_enter Tryz.func18, Tryz.ntmps18
    go_wp2
    go_loopw [3] (fun i wr => ∃ m n : Nat, m + 1 ≤ zs.length ∧ i = .int .i64 ((m : Int) + 1) ∧ Hid (keepI zs (m + 1) = zs.take (m + 1)) ∧ wr = w.drewN n) (fun i _ => zs.length - (intOf i).toNat)
    case atStart => exact ⟨0, 0, by omega, rfl, HK1, rfl⟩
    case round =>
      obtain ⟨m, n, hm, rfl, HKT, rfl⟩ := hrel
      by_cases hlt : m + 1 < zs.length
      · obtain ⟨p, hp⟩ : ∃ p, zs[m + 1]? = some p := ⟨zs[m + 1], List.getElem?_eq_getElem hlt⟩
        obtain ⟨q, hq⟩ : ∃ q, zs[m]? = some q := ⟨zs[m], List.getElem?_eq_getElem (by omega)⟩
        have c1 : w.cell? ⟨blk, m + 1, none⟩ = some (.int .i64 p) := (hBc _).trans (HC.out _ p hp)
        have c2 : w.cell? ⟨blk, m, none⟩ = some (.int .i64 q) := (hBc _).trans (HC.out _ q hq)
        have HP := Lib.hid hp
        have HQ := Lib.hid hq
        have i1 : (0 : Int) ≤ (m : Int) := by omega
        have i2 : (m : Int) < (zs.length : Int) := by omega
        have i3 : (m : Int) + 1 < (zs.length : Int) := by omega
        have i4 : (0 : Int) ≤ (m : Int) + 1 := by omega
        have wr1 : IntKind.i64.wrap (m : Int) = m := by simp [IntKind.wrap, IntKind.bits, IntKind.signed]; omega
        clear hp hq hBc
        by_cases hxy : p = q
        · have HXY := Lib.hid hxy
          have e1 : (p == q) = true := by simpa using hxy
          have HK0 := Lib.hid (show keepI zs (m + 2) = zs.take (m + 1) by rw [HKS.out m _ _ HP.out HQ.out hxy, HKT.out])
          have i5 : (m : Int) + 1 ≤ (zs.length : Int) := by omega
          have i6 : (m : Int) + 1 ≤ (cap : Int) := by omega
          clear hxy
          go_wp2_with fail
          go_quiet (fail)
          go_wp2
          obtain ⟨wo, hwo⟩ : ∃ wo : World, wo = w.drewN (n + nq) := ⟨_, rfl⟩
          have hWo : Within blk (blk + 1) w wo := by rw [hwo]; exact (Within.refl _ _ _).drewN _
          have hBo : Blk wo blk cs 2 := by rw [hwo]; exact hB
          (try rw [← hwo])
          have HK0L := Lib.hid (show (keepI zs (m + 2)).length = m + 1 by rw [HK0.out, List.length_take]; omega)
          have HD0 := Lib.hid (show ∀ (i : Nat) p, (keepI zs (m + 2))[i]? = some p → cs[i]? = some (.int .i64 p) from fun i p h => by
            rw [HK0.out] at h
            have hi : i < m + 1 := by have := (List.getElem?_eq_some_iff.1 h).1; simp at this; omega
            rw [List.getElem?_take_of_lt hi] at h
            exact HC.out i p h)
          clear hwo c1 c2 HP HQ HXY HK0 HKT hB hBl e1
          go_loopw [3, 5] (fun i j wr => ∃ k q : Nat, k ≤ m + 1 + q ∧ m + 2 + q ≤ zs.length ∧ i = .int .i64 (k : Int) ∧ j = .int .i64 ((q : Int) + 1) ∧ Hid ((keepI zs (m + 2 + q)).length = k) ∧
            (∃ ds : Array Value, Blk wr blk ds 2 ∧ ds.size = cs.size ∧ Hid (∀ (i : Nat) p, (keepI zs (m + 2 + q))[i]? = some p → ds[i]? = some (.int .i64 p)) ∧ Hid (∀ (i : Nat) p, m + 1 + q ≤ i → zs[i]? = some p → ds[i]? = some (.int .i64 p))) ∧ Within blk (blk + 1) w wr) (fun _ j _ => zs.length - (intOf j).toNat)
          case atStart => exact ⟨m + 1, 0, by omega, by omega, by go_num, by go_num, HK0L, ⟨cs, hBo, rfl, HD0, Lib.hid (fun i p _ h => HC.out i p h)⟩, hWo⟩
          case round =>
            clear HK0L hBo hWo HD0
            obtain ⟨k, q, hkq, hql, rfl, rfl, HKL, ⟨ds, hB, HZ, HDA, HDB⟩, hW⟩ := hrel
            have hBl := hB.lt
            by_cases hlt2 : m + 2 + q < zs.length
            · obtain ⟨p, hp⟩ : ∃ p, zs[m + 2 + q]? = some p := ⟨zs[m + 2 + q], List.getElem?_eq_getElem hlt2⟩
              obtain ⟨p', hq⟩ : ∃ p, zs[m + 1 + q]? = some p := ⟨zs[m + 1 + q], List.getElem?_eq_getElem (by omega)⟩
              have c1 : wr.cell? ⟨blk, m + 1 + (q + 1), none⟩ = some (.int .i64 p) := (hB.cell _).trans (HDB.out _ p (by omega) (by rw [← hp]; congr 1; omega))
              have c2 : wr.cell? ⟨blk, m + 1 + q, none⟩ = some (.int .i64 p') := (hB.cell _).trans (HDB.out _ p' (by omega) hq)
              have HP := Lib.hid (show zs[(m + 1 + q) + 1]? = some p by rw [← hp]; congr 1; omega)
              have HQ := Lib.hid hq
              have j1 : (0 : Int) ≤ (q : Int) + 1 := by omega
              have j0 : (0 : Int) ≤ (q : Int) := by omega
              have j2 : (q : Int) + 1 < ((zs.length - (m + 1) : Nat) : Int) := by omega
              have j3 : (q : Int) < ((zs.length - (m + 1) : Nat) : Int) := by omega
              have wr2 : IntKind.i64.wrap (q : Int) = q := by simp [IntKind.wrap, IntKind.bits, IntKind.signed]; omega
              have k1 : (0 : Int) ≤ (k : Int) := by omega
              have k2 : (k : Int) < (zs.length : Int) := by omega
              have HZH := Lib.hid HZ
              clear hp hq HZ
              by_cases hxy : p = p'
              · have HSM := Lib.hid (show keepI zs (m + 2 + (q + 1)) = keepI zs (m + 2 + q) by
                  have := HKS.out (m + 1 + q) _ _ HP.out HQ.out hxy
                  rw [show m + 1 + q + 2 = m + 2 + (q + 1) by omega, show m + 1 + q + 1 = m + 2 + q by omega] at this
                  exact this)
                have e2 : (p == p') = true := by simpa using hxy
                have e3 : (p != p') = false := by simpa using hxy
                clear hxy
                go_wp2_with fail
                go_quiet (fail)
                go_wp2
                exact ⟨⟨k, q + 1, by omega, by omega, rfl, by go_num, Lib.hid (by rw [HSM.out]; exact HKL.out), ⟨ds, hB, HZH.out, Lib.hid (by rw [HSM.out]; exact HDA.out), Lib.hid (fun i p hi h => HDB.out i p (by omega) h)⟩, hW.drewN _⟩, by simp [intOf]; omega⟩
              · have HSM := Lib.hid (show keepI zs (m + 2 + (q + 1)) = keepI zs (m + 2 + q) ++ [p] by
                  have := HKN.out (m + 1 + q) _ _ HP.out HQ.out hxy
                  rw [show m + 1 + q + 2 = m + 2 + (q + 1) by omega, show m + 1 + q + 1 = m + 2 + q by omega] at this
                  exact this)
                have e2 : (p == p') = false := by simpa using hxy
                have e3 : (p != p') = true := by simpa using hxy
                have hkc : k < cs.size := by
                  have hk' : k < zs.length := by omega
                  exact (Array.getElem?_eq_some_iff.1 (HC.out k _ (List.getElem?_eq_getElem hk'))).1
                obtain ⟨u0, t0⟩ : ∃ u, wr.cell? ⟨blk, k, none⟩ = some u := ⟨ds[k]'(by have := HZH.out; omega), by rw [hB.cell]; exact Array.getElem?_eq_getElem _⟩
                have fB := hB.free
                have HKC := Lib.hid hkc
                clear hkc hxy
                go_wp2_with fail
                go_quiet (fail)
                go_wp2
                refine ⟨⟨k + 1, q + 1, by omega, by omega, by go_num, by go_num, Lib.hid (by rw [HSM.out, List.length_append, HKL.out]; rfl), ⟨ds.setIfInBounds k (.int .i64 p), (hB.drewN _).set k _, by simp [HZH.out], Lib.hid (fun i p h => ?_), Lib.hid (fun i p hi h => ?_)⟩, (hW.drewN _).set blk _ _ (Nat.le_refl _) (by omega)⟩, by simp [intOf]; omega⟩
                · rw [HSM.out] at h
                  rw [Array.getElem?_setIfInBounds]
                  by_cases e : k = i
                  · subst e
                    rw [List.getElem?_append_right (by rw [HKL.out]; exact Nat.le_refl _), HKL.out] at h
                    simp at h
                    subst h
                    rw [if_pos rfl, if_pos (by have := HKC.out; have := HZH.out; omega)]
                  · rw [if_neg e]
                    have hi : i < k := by
                      have := (List.getElem?_eq_some_iff.1 h).1
                      rw [List.length_append, HKL.out] at this
                      simp at this; omega
                    rw [List.getElem?_append_left (by rw [HKL.out]; exact hi)] at h
                    exact HDA.out i p h
                · rw [Array.getElem?_setIfInBounds, if_neg (by omega)]
                  exact HDB.out i p (by omega) h
            · have HQL := Lib.hid (show m + 2 + q = zs.length by omega)
              have j2 : ¬ (q : Int) + 1 < ((zs.length - (m + 1) : Nat) : Int) := by have := HQL.out; omega
              have k1 : (0 : Int) ≤ (k : Int) := by omega
              have k2 : (k : Int) ≤ (zs.length : Int) := by omega
              have k3 : (k : Int) ≤ (cap : Int) := by omega
              have hBc := hB.cell
              have hBf := hB.free
              have hcl := fun ty => Lib.run_clear_slice (P := Tryz.prog) wr 28 2 ty (.int .i64 0) Tryz.underlying28 (fun w => by kernel_rfl) (by kernel_rfl) rfl blk k (zs.length - k) (cap - k) (by omega) (fun j hj => by
                rw [hBc]
                have hk' : k + j < zs.length := by omega
                have := (Array.getElem?_eq_some_iff.1 (HC.out (k + j) _ (List.getElem?_eq_getElem hk'))).1
                rw [Array.getElem?_eq_getElem (by omega)]; rfl) (fun j hj => hBf _)
              obtain ⟨ds', hB', he', hW'⟩ := Blk.setCells blk (List.replicate (zs.length - k) (Value.int .i64 0)) k wr ds hB
              generalize wr.setCells blk k (List.replicate (zs.length - k) (Value.int .i64 0)) = w9 at *
              clear hBc hBf
              go_wp2
              rw [← HPP.out]
              have hdd := HD.out
              rw [List.take_length] at hdd
              refine ⟨ds', by rw [← hdd, ← HQL.out, HKL.out], hB', fun i p h => ?_, hW.on hW', length_ddp zs⟩
              rw [← hdd, ← HQL.out] at h
              have hi : i < k := by have := (List.getElem?_eq_some_iff.1 h).1; rwa [HKL.out] at this
              rw [he' i hi]
              exact HDA.out i p h
        · have HXY := Lib.hid hxy
          have e1 : (p == q) = false := by simpa using hxy
          clear hxy
          go_wp2_with fail
          go_quiet (fail)
          go_wp2
          refine ⟨⟨m + 1, _, by omega, by go_num, Lib.hid ?_, by first | rfl | exact World.drewN_drewN _ _ _⟩, by simp [intOf]; omega⟩
          rw [HKN.out m _ _ HP.out HQ.out HXY.out, HKT.out, HTS.out _ _ HP.out]
      · have HL := Lib.hid (show zs.length = m + 1 by omega)
        go_wp2
        rw [← HPP.out]
        have h1 := HD.out
        rw [List.take_length] at h1
        refine ⟨cs, ?_, hB, ?_, (Within.refl _ _ _).drewN n, length_ddp zs⟩
        · rw [← h1, HL.out, HKT.out, ← HL.out, List.take_length]
          rfl
        · rw [← h1, HL.out, HKT.out, ← HL.out, List.take_length]
          exact HC.out
end Go.Proofs.YtpaiiaajbojmnaaGreat

/- The number of different numbers of a list: the plain part. -/
namespace Go.Proofs.YtpaiiaajbojmnaaGreat
open Go.RowKit
set_option linter.unusedVariables false
set_option linter.unusedSimpArgs false

/-- The numbers that stand first among the first k. -/
def fstTo (zs : List Int) : Nat → List Int
  | 0 => []
  | k + 1 => match zs[k]? with
    | none => fstTo zs k
    | some z => if z ∈ zs.take k then fstTo zs k else fstTo zs k ++ [z]
/-- How many different numbers there are. -/
def difI (zs : List Int) : Nat := (fstTo zs zs.length).length
theorem fstTo_old {zs : List Int} {k : Nat} {z : Int} (h : zs[k]? = some z) (hm : z ∈ zs.take k) : fstTo zs (k + 1) = fstTo zs k := by
  show (match zs[k]? with | none => _ | some z => _) = _
  rw [h]
  simp only [if_pos hm]
theorem fstTo_new {zs : List Int} {k : Nat} {z : Int} (h : zs[k]? = some z) (hm : ¬ z ∈ zs.take k) : fstTo zs (k + 1) = fstTo zs k ++ [z] := by
  show (match zs[k]? with | none => _ | some z => _) = _
  rw [h]
  simp only [if_neg hm]
theorem mem_fstTo {zs : List Int} {x : Int} : ∀ k, k ≤ zs.length → (x ∈ fstTo zs k ↔ x ∈ zs.take k)
  | 0, _ => by simp [fstTo]
  | k + 1, hk => by
    obtain ⟨z, hz⟩ : ∃ z, zs[k]? = some z := ⟨zs[k], List.getElem?_eq_getElem (by omega)⟩
    have ih := mem_fstTo (zs := zs) (x := x) k (by omega)
    rw [take_snoc_of zs k z hz, List.mem_append, List.mem_singleton]
    by_cases hm : z ∈ zs.take k
    · rw [fstTo_old hz hm, ih]
      exact ⟨.inl, fun h => h.elim id (fun e => e ▸ hm)⟩
    · rw [fstTo_new hz hm, List.mem_append, List.mem_singleton, ih]
theorem nodup_fstTo {zs : List Int} : ∀ k, k ≤ zs.length → (fstTo zs k).Nodup
  | 0, _ => by simp [fstTo]
  | k + 1, hk => by
    obtain ⟨z, hz⟩ : ∃ z, zs[k]? = some z := ⟨zs[k], List.getElem?_eq_getElem (by omega)⟩
    have ih := nodup_fstTo (zs := zs) k (by omega)
    by_cases hm : z ∈ zs.take k
    · rw [fstTo_old hz hm]; exact ih
    · rw [fstTo_new hz hm, List.nodup_append]
      refine ⟨ih, by simp, fun a ha b hb => ?_⟩
      simp at hb
      subst hb
      intro e
      subst e
      exact hm ((mem_fstTo k (by omega)).1 ha)
theorem length_fstTo (zs : List Int) : ∀ k, (fstTo zs k).length ≤ k
  | 0 => by simp [fstTo]
  | k + 1 => by
    have ih := length_fstTo zs k
    show (match zs[k]? with | none => _ | some z => _ : List Int).length ≤ _
    split
    · omega
    · split
      · omega
      · simp; omega
theorem difI_le (zs : List Int) : difI zs ≤ zs.length := length_fstTo zs _
theorem ddpA_lt (p : Int) (l : List Int) (h : (p :: l).Pairwise (fun a b => a ≤ b)) : (p :: ddpA p l).Pairwise (fun a b => a < b) := by
  induction l generalizing p with
  | nil => simp [ddpA]
  | cons b l ih =>
    rw [List.pairwise_cons] at h
    have hb := ih b h.2
    unfold ddpA
    by_cases e : b = p
    · subst e; rw [if_pos rfl]; exact hb
    · rw [if_neg e, List.pairwise_cons]
      refine ⟨fun a ha => ?_, hb⟩
      have hpb : p ≤ b := h.1 b (by simp)
      rcases List.mem_cons.1 ha with rfl | ha
      · omega
      · have := (List.pairwise_cons.1 hb).1 a ha
        omega
theorem ddp_lt {l : List Int} (h : l.Pairwise (fun a b => a ≤ b)) : (ddp l).Pairwise (fun a b => a < b) := by
  cases l with
  | nil => simp [ddp]
  | cons a l => exact ddpA_lt a l h
theorem srt_le (zs : List Int) : (srt zs).Pairwise (fun a b => a ≤ b) := (srt_pairwise zs).imp (fun h => by simpa using h)
/-- The program's number is the reference's. -/
theorem difI_srt (zs : List Int) : (ddp (srt zs)).length = difI zs := by
  refine (perm_of_mem _ _ ?_ (nodup_fstTo zs.length (Nat.le_refl _)) (fun z => ?_)).length_eq
  · exact (ddp_lt (srt_le zs)).imp (fun h => by omega)
  · rw [mem_ddp, mem_fstTo _ (Nat.le_refl _), List.take_length]
    exact (srt_perm zs).mem_iff
end Go.Proofs.YtpaiiaajbojmnaaGreat

/- How many different numbers: the reference's and the program's. -/
namespace Go.Proofs.YtpaiiaajbojmnaaGreat
open Go.RowKit
set_option linter.unusedVariables false
set_option linter.unusedSimpArgs false

set_option maxRecDepth 100000 in
set_option maxHeartbeats 1000000 in
theorem compactN_any (c : Nat) (w : World) :
    Calls Tryz.prog 18 #[.slice none 0 c] w fun e w' => e = .returned (.slice none 0 c) ∧ w = w' := by
  go_enter Tryz.func18, Tryz.ntmps18
  go_wp2
  go_ret
  exact ⟨rfl, rfl⟩
theorem compactB_any (lo hi : Nat) (v : Value) (ws : List Int) (w : World) (h : BldI w lo hi v ws) (hn : ws.length ≤ 1000000) :
    Calls Tryz.prog 18 #[v] w fun e w' => ∃ v', e = .returned v' ∧ IntSl w' v' (ddp ws) ∧ Within lo hi w w' := by
  obtain ⟨hs, ⟨hlen, r⟩, h3⟩ := h
  rcases r with ⟨rfl, r2⟩ | ⟨g, cap, cur, rfl, e2, e3, e4, e5, e6, e7⟩
  · have hw : ws = [] := List.eq_nil_of_length_eq_zero r2
    subst hw
    refine (compactN_any 0 w).mono ?_
    rintro e w' ⟨rfl, rfl⟩
    exact ⟨_, rfl, .inl ⟨_, _, rfl, rfl⟩, Within.refl _ _ _⟩
  · have hg := h3 g rfl
    simp only [Nat.mul_one] at e6 e7
    refine (compactI_any g cap ws w cur e3 (fun i z hz => ?_) hn e4 e5).mono ?_
    · have hi : i < ws.length := (List.getElem?_eq_some_iff.1 hz).1
      have : (icells ws)[i]? = some (.int .i64 z) := by simp [icells, hz]
      rw [← e7, List.getElem?_take_of_lt hi] at this
      simpa using this
    · rintro e w' ⟨ds, rfl, hB, hd, hW, hle⟩
      refine ⟨_, rfl, .inr ⟨g, 0, cap, rfl, by omega, by (first | exact e5 | (unfold maxLen at e5; omega)), fun i x hx => ?_⟩, hW.sub (by omega) (by omega)⟩
      rw [Nat.zero_add, hB.cell]
      exact hd i x hx

set_option maxRecDepth 100000 in
set_option maxHeartbeats 2000000 in
theorem different_any (sv : Value) (zs : List Int) (w : World) (h : IntSl w sv zs) (hl : zs.length ≤ 1000000) :
    Calls Tryz.prog 44 #[sv] w fun e w' => e = .returned (.int .i64 (difI zs)) ∧ Below w.heap.size w w' := by
  have H := Lib.hid h
  have HSO := Lib.hid (fun Bs sv w h1 h2 h3 => sorted_any Bs sv zs (by omega) w h1 h2 h3)
  obtain ⟨ws, hws⟩ : ∃ ws, srt zs = ws := ⟨_, rfl⟩
  have hwl : ws.length ≤ 1000000 := by rw [← hws, length_srt]; exact hl
  have HCM := Lib.hid (fun lo hi v w h => compactB_any lo hi v ws w h hwl)
  have hdd := difI_srt zs
  rw [hws] at HSO hdd
  rw [← hdd]
  obtain ⟨a, c, rfl⟩ := h.len
  obtain ⟨DD, hDD⟩ : ∃ DD, ddp ws = DD := ⟨_, rfl⟩
  rw [hDD] at HCM ⊢
  clear h hws hdd hDD
  go_enter Tryz.func44, Tryz.ntmps44
  go_wp2_with (first | (go_at_call 20; refine (values_any _ _ _ _).mono ?_; rintro e w' ⟨rfl, rfl⟩) | (go_at_call 19; refine (HSO.out w.heap.size (.slice a zs.length c) _ (by simp) ((Blk.new (cs := #[.slice a zs.length c]) (T := 28) w.heap.size rfl : Blk (w.alloc _) w.heap.size _ _).cell 0) ((H.out.by ((Below.refl _ w).alloc (Nat.le_refl _) _)).at)).mono ?_; rintro e w1 ⟨v, rfl, hB, hb⟩; obtain ⟨a1, c1, rfl⟩ := hB.sized; have HB := Lib.hid hB; have Hb := Lib.hid hb; clear hB hb) | (go_at_call 18; refine (HCM.out _ _ _ _ HB.out).mono ?_; rintro e w2 ⟨v2, rfl, hI2, hw2⟩; obtain ⟨a2, c2, rfl⟩ := hI2.len; have HW2 := Lib.hid hw2; clear hI2 hw2))
  go_ret
  refine ⟨rfl, ?_⟩
  have h1 := Hb.out
  have h2 : Below w.heap.size w w1 := below_on h1 ((Below.refl _ w).alloc (Nat.le_refl _) _)
  exact HW2.out.below h2 (by simp)

/-- The number of colours. -/
def cntC (c : List Int × List Int) : Int := (difI c.1 : Int) + (difI c.2 : Int)

set_option maxRecDepth 100000 in
set_option maxHeartbeats 2000000 in
theorem colorCount_any (c : List Int × List Int) (u : Value) (w : World) (h : CoV w u c) (h1 : c.1.length ≤ 1000000) (h2 : c.2.length ≤ 1000000) :
    Calls Tryz.prog 22 #[u] w fun e w' => e = .returned (.int .i64 (cntC c)) ∧ Below w.heap.size w w' := by
  obtain ⟨s1, s2, rfl, hc1, hc2⟩ := h
  have H1 := Lib.hid (fun w h => different_any s1 c.1 w h h1)
  have H2 := Lib.hid (fun w h => different_any s2 c.2 w h h2)
  have HC1 := Lib.hid hc1
  have HC2 := Lib.hid hc2
  obtain ⟨a, ca, rfl⟩ := hc1.len
  obtain ⟨a', ca', rfl⟩ := hc2.len
  have hd1 := difI_le c.1
  have hd2 := difI_le c.2
  unfold cntC
  generalize difI c.1 = D1 at *
  generalize difI c.2 = D2 at *
  have hw : IntKind.i64.wrap ((D1 : Int) + (D2 : Int)) = (D1 : Int) + (D2 : Int) := by simp [IntKind.wrap, IntKind.bits, IntKind.signed]; omega
  clear hc1 hc2
  go_enter Tryz.func22, Tryz.ntmps22
  go_wp2_with fail
  have kC : Blk (w.alloc (.cells #[.slice a c.1.length ca, .slice a' c.2.length ca'] 30)) w.heap.size #[.slice a c.1.length ca, .slice a' c.2.length ca'] 30 := Blk.new _ rfl
  have qC := kC.cell
  go_region_held3 ((fun w' => (Blk w' (w.heap.size) #[.slice a c.1.length ca, .slice a' c.2.length ca'] 30 ∧ ∀ o, w'.cell? ⟨w.heap.size, o, none⟩ = (#[.slice a c.1.length ca, .slice a' c.2.length ca'] : Array Value)[o]?) ∧ Below w.heap.size w w')) (((try (obtain ⟨⟨hS0, _⟩, hSB⟩ := hHeld)); refine ⟨Blk.both ?_, ?_⟩ <;> first | ((repeat (first | (with_reducible assumption) | (with_reducible refine Blk.drewN ?_ _) | (with_reducible refine Blk.drew ?_) | ((with_reducible refine Blk.new _ ?_); focus (first | omega | (simp; done) | (simp; omega))) | (with_reducible refine Blk.past ?_ _) | ((with_reducible refine Blk.apart ?_ _ _ _ ?_); rotate_left; focus (first | omega | (simp; done) | (simp; omega))) | (with_reducible refine Blk.by (by assumption) ?_))); done) | ((repeat (first | (with_reducible exact Below.refl _ _) | (with_reducible refine below_drewN ?_ _) | (with_reducible refine Below.drew ?_) | (with_reducible refine below_al ?_ _) | (with_reducible refine below_on (by assumption) ?_) | ((with_reducible refine Below.setCell ?_ ?_ _); rotate_left; focus (first | omega | (simp; done) | (simp; omega))) | (with_reducible assumption))); done)))
    (first | (go_at_call_of 44 (Value.slice a c.1.length ca); refine (H1.out _ (HC1.out.by (by ((repeat (first | (with_reducible exact Below.refl _ _) | (with_reducible refine below_drewN ?_ _) | (with_reducible refine Below.drew ?_) | (with_reducible refine below_al ?_ _) | (with_reducible refine below_on (by assumption) ?_) | ((with_reducible refine Below.setCell ?_ ?_ _); rotate_left; focus (first | omega | (simp; done) | (simp; omega))) | (with_reducible assumption))); done)))).mono ?_; rintro e w1 ⟨rfl, hb1⟩; (try (refine with_fact (p := Blk w1 (w.heap.size) #[.slice a c.1.length ca, .slice a' c.2.length ca'] 30) (Blk.by hb1 ?_) ?_; (focus ((repeat (first | (with_reducible assumption) | (with_reducible refine Blk.drewN ?_ _) | (with_reducible refine Blk.drew ?_) | ((with_reducible refine Blk.new _ ?_); focus (first | omega | (simp; done) | (simp; omega))) | (with_reducible refine Blk.past ?_ _) | ((with_reducible refine Blk.apart ?_ _ _ _ ?_); rotate_left; focus (first | omega | (simp; done) | (simp; omega))) | (with_reducible refine Blk.by (by assumption) ?_))); done)); intro k3; have c3' := k3.cell))) | (go_at_call_of 44 (Value.slice a' c.2.length ca'); refine (H2.out _ (HC2.out.by (by ((repeat (first | (with_reducible exact Below.refl _ _) | (with_reducible refine below_drewN ?_ _) | (with_reducible refine Below.drew ?_) | (with_reducible refine below_al ?_ _) | (with_reducible refine below_on (by assumption) ?_) | ((with_reducible refine Below.setCell ?_ ?_ _); rotate_left; focus (first | omega | (simp; done) | (simp; omega))) | (with_reducible assumption))); done)))).mono ?_; rintro e w2 ⟨rfl, hb2⟩))
  all_goals go_wp2
  all_goals go_ret
  all_goals exact ⟨ret_i64 (by first | exact hw | rfl), (by ((repeat (first | (with_reducible exact Below.refl _ _) | (with_reducible refine below_drewN ?_ _) | (with_reducible refine Below.drew ?_) | (with_reducible refine below_al ?_ _) | (with_reducible refine below_on (by assumption) ?_) | ((with_reducible refine Below.setCell ?_ ?_ _); rotate_left; focus (first | omega | (simp; done) | (simp; omega))) | (with_reducible assumption))); done))⟩
end Go.Proofs.YtpaiiaajbojmnaaGreat
