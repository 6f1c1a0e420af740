/- Contracts and plain laws, part 8, for the statement's proof. -/
import Derived.Test.YtmmohdhkpccjbaaGreatPkNrLaw7
import Derived.BigQuiet
import Derived.Deep.AppendSrc
import Derived.ProofKit
import Derived.OpenShut
import Derived.ShutString
import Derived.ChangeMaps5
import Derived.Test.YtmmohdhkpccjbaaGreatRows
import Derived.WalkKit
namespace Go.Proofs.YtmmohdhkpccjbaaGreat
open Go.RowKit
set_option linter.unusedVariables false
set_option linter.unusedSimpArgs false
theorem ddpA_snocI {α : Type} [DecidableEq α] (p : α) (l : List α) (x : α) : ddpA p (l ++ [x]) = if x = l.getLast?.getD p then ddpA p l else ddpA p l ++ [x] := by
  induction l generalizing p with
  | nil => by_cases h : x = p <;> simp [ddpA, h]
  | cons b l ih =>
    have e : (b :: l).getLast?.getD p = l.getLast?.getD b := by rw [List.getLast?_cons]; rfl
    rw [e]
    simp only [List.cons_append, ddpA, ih b]
    by_cases h1 : b = p <;> by_cases h2 : x = l.getLast?.getD b <;> simp [h1, h2]
theorem ddp_snocI {α : Type} [DecidableEq α] {l : List α} {x y : α} (h : l.getLast? = some y) : ddp (l ++ [x]) = if x = y then ddp l else ddp l ++ [x] := by
  cases l with
  | nil => simp at h
  | cons a l =>
    rw [List.getLast?_cons] at h
    have e : l.getLast?.getD a = y := by simpa using h
    simp only [List.cons_append, ddp, ddpA_snocI, e]
    split <;> simp
def keepI (zs : List Int) : Nat → List Int
  | 0 => []
  | k + 1 => match zs[k]? with
    | none => keepI zs k
    | some z => if zs[k - 1]? = some z ∧ 0 < k then keepI zs k else keepI zs k ++ [z]
theorem keepI_same {zs : List Int} {k : Nat} {p q : Int} (hp : zs[k + 1]? = some p) (hq : zs[k]? = some q) (h : p = q) : keepI zs (k + 2) = keepI zs (k + 1) := by
  show (match zs[k + 1]? with | none => _ | some z => _) = _
  rw [hp]
  simp [hq, h]
theorem keepI_new {zs : List Int} {k : Nat} {p q : Int} (hp : zs[k + 1]? = some p) (hq : zs[k]? = some q) (h : p ≠ q) : keepI zs (k + 2) = keepI zs (k + 1) ++ [p] := by
  show (match zs[k + 1]? with | none => _ | some z => _) = _
  rw [hp]
  simp [hq, Ne.symm h]
theorem keepI_one {zs : List Int} : keepI zs 1 = zs.take 1 := by
  cases zs <;> simp [keepI]
theorem keepI_ddp (zs : List Int) : ∀ k, k ≤ zs.length → keepI zs k = ddp (zs.take k)
  | 0, _ => rfl
  | 1, _ => by rw [keepI_one]; cases zs <;> simp [ddp, ddpA]
  | k + 2, hk => by
    have ih := keepI_ddp zs (k + 1) (by omega)
    obtain ⟨p, hp⟩ : ∃ p, zs[k + 1]? = some p := ⟨zs[k + 1], List.getElem?_eq_getElem (by omega)⟩
    obtain ⟨q, hq⟩ : ∃ q, zs[k]? = some q := ⟨zs[k], List.getElem?_eq_getElem (by omega)⟩
    have hl : (zs.take (k + 1)).getLast? = some q := by
      rw [List.getLast?_eq_getElem?, List.length_take, show min (k + 1) zs.length - 1 = k by omega, List.getElem?_take_of_lt (by omega), hq]
    rw [take_snoc_of zs (k + 1) p hp, ddp_snocI hl]
    by_cases h : p = q
    · rw [keepI_same hp hq h, if_pos h, ih]
    · rw [keepI_new hp hq h, if_neg h, ih]
def CompIPost (blk cap : Nat) (zs : List Int) (w : World) (e : Ending) (w' : World) : Prop :=
  ∃ (ds : Array Value), e = .returned (.slice (some ⟨blk, 0, none⟩) (ddp zs).length cap) ∧ Blk w' blk ds 2 ∧ (∀ (i : Nat) z, (ddp zs)[i]? = some z → ds[i]? = some (.int .i64 z)) ∧ Within blk (blk + 1) w w' ∧ (ddp zs).length ≤ zs.length
theorem length_ddpA {α : Type} [DecidableEq α] (p : α) (l : List α) : (ddpA p l).length ≤ l.length := by
  induction l generalizing p with
  | nil => simp [ddpA]
  | cons a l ih =>
    unfold ddpA
    split
    · have := ih a; simp; omega
    · have := ih a; simp; omega
theorem length_ddp {α : Type} [DecidableEq α] (l : List α) : (ddp l).length ≤ l.length := by
  cases l with
  | nil => simp [ddp]
  | cons a l => have := length_ddpA a l; simp [ddp]; omega
set_option maxRecDepth 100000 in
set_option maxHeartbeats 2000000 in
theorem compactI_any (blk cap : Nat) (zs : List Int) (w : World) (cs : Array Value) (hB : Blk w blk cs 2)
    (hc : ∀ (i : Nat) z, zs[i]? = some z → cs[i]? = some (.int .i64 z)) (hn : zs.length ≤ 1000000) (hcap : zs.length ≤ cap) (hmx : cap ≤ maxLen) :
    Calls Tryz.prog 30 #[.slice (some ⟨blk, 0, none⟩) zs.length cap] w (CompIPost blk cap zs w) := by
  obtain ⟨PP, hPP⟩ : ∃ P, CompIPost blk cap zs w = P := ⟨_, rfl⟩
  rw [hPP]
  have HPP := Lib.hid hPP
  clear hPP
  unfold maxLen at hmx
  by_cases h2 : zs.length < 2
  · have hs : ddp zs = zs := by
      match zs, h2 with
      | [], _ => rfl
      | [p], _ => rfl
    have hl : (zs.length : Int) < 2 := by omega
    have HS := Lib.hid hs
    have HC := Lib.hid hc
    clear hs hc
    go_enter Tryz.func30, Tryz.ntmps30
    go_wp2
    rw [← HPP.out]
    exact ⟨cs, by rw [HS.out]; rfl, hB, by rw [HS.out]; exact HC.out, Within.refl _ _ _, length_ddp zs⟩
  · have hl : ¬ (zs.length : Int) < 2 := by omega
    have HC := Lib.hid hc
    have HD := Lib.hid (keepI_ddp zs zs.length (Nat.le_refl _))
    have HK1 := Lib.hid (show keepI zs (0 + 1) = zs.take (0 + 1) from keepI_one)
    have HKS := Lib.hid (fun k p q => @keepI_same zs k p q)
    have HKN := Lib.hid (fun k p q => @keepI_new zs k p q)
    have HTS := Lib.hid (fun k p h => take_snoc_of zs k p h)
    have hBl := hB.lt
    have hBc := hB.cell
    clear hc
    go_enter Tryz.func30, Tryz.ntmps30
    go_wp2
    go_loopw [3] (fun i wr => ∃ m n : Nat, m + 1 ≤ zs.length ∧ i = .int .i64 ((m : Int) + 1) ∧ Hid (keepI zs (m + 1) = zs.take (m + 1)) ∧ wr = w.drewN n) (fun i _ => zs.length - (intOf i).toNat)
    case atStart => exact ⟨0, 0, by omega, rfl, HK1, rfl⟩
    case round =>
      obtain ⟨m, n, hm, rfl, HKT, rfl⟩ := hrel
      by_cases hlt : m + 1 < zs.length
      · obtain ⟨p, hp⟩ : ∃ p, zs[m + 1]? = some p := ⟨zs[m + 1], List.getElem?_eq_getElem hlt⟩
        obtain ⟨q, hq⟩ : ∃ q, zs[m]? = some q := ⟨zs[m], List.getElem?_eq_getElem (by omega)⟩
        have c1 : w.cell? ⟨blk, m + 1, none⟩ = some (.int .i64 p) := (hBc _).trans (HC.out _ p hp)
        have c2 : w.cell? ⟨blk, m, none⟩ = some (.int .i64 q) := (hBc _).trans (HC.out _ q hq)
        have HP := Lib.hid hp
        have HQ := Lib.hid hq
        have i1 : (0 : Int) ≤ (m : Int) := by omega
        have i2 : (m : Int) < (zs.length : Int) := by omega
        have i3 : (m : Int) + 1 < (zs.length : Int) := by omega
        have i4 : (0 : Int) ≤ (m : Int) + 1 := by omega
        have wr1 : IntKind.i64.wrap (m : Int) = m := by simp [IntKind.wrap, IntKind.bits, IntKind.signed]; omega
        clear hp hq hBc
        by_cases hxy : p = q
        · have HXY := Lib.hid hxy
          have e1 : (p == q) = true := by simpa using hxy
          have HK0 := Lib.hid (show keepI zs (m + 2) = zs.take (m + 1) by rw [HKS.out m _ _ HP.out HQ.out hxy, HKT.out])
          have i5 : (m : Int) + 1 ≤ (zs.length : Int) := by omega
          have i6 : (m : Int) + 1 ≤ (cap : Int) := by omega
          clear hxy
          go_wp2_with fail
          go_quiet (fail)
          go_wp2
          obtain ⟨wo, hwo⟩ : ∃ wo : World, wo = w.drewN (n + nq) := ⟨_, rfl⟩
          have hWo : Within blk (blk + 1) w wo := by rw [hwo]; exact (Within.refl _ _ _).drewN _
          have hBo : Blk wo blk cs 2 := by rw [hwo]; exact hB
          (try rw [← hwo])
          have HK0L := Lib.hid (show (keepI zs (m + 2)).length = m + 1 by rw [HK0.out, List.length_take]; omega)
          have HD0 := Lib.hid (show ∀ (i : Nat) p, (keepI zs (m + 2))[i]? = some p → cs[i]? = some (.int .i64 p) from fun i p h => by
            rw [HK0.out] at h
            have hi : i < m + 1 := by have := (List.getElem?_eq_some_iff.1 h).1; simp at this; omega
            rw [List.getElem?_take_of_lt hi] at h
            exact HC.out i p h)
          clear hwo c1 c2 HP HQ HXY HK0 HKT hB hBl e1
          go_loopw [3, 5] (fun i j wr => ∃ k q : Nat, k ≤ m + 1 + q ∧ m + 2 + q ≤ zs.length ∧ i = .int .i64 (k : Int) ∧ j = .int .i64 ((q : Int) + 1) ∧ Hid ((keepI zs (m + 2 + q)).length = k) ∧
            (∃ ds : Array Value, Blk wr blk ds 2 ∧ ds.size = cs.size ∧ Hid (∀ (i : Nat) p, (keepI zs (m + 2 + q))[i]? = some p → ds[i]? = some (.int .i64 p)) ∧ Hid (∀ (i : Nat) p, m + 1 + q ≤ i → zs[i]? = some p → ds[i]? = some (.int .i64 p))) ∧ Within blk (blk + 1) w wr) (fun _ j _ => zs.length - (intOf j).toNat)
          case atStart => exact ⟨m + 1, 0, by omega, by omega, by go_num, by go_num, HK0L, ⟨cs, hBo, rfl, HD0, Lib.hid (fun i p _ h => HC.out i p h)⟩, hWo⟩
          case round =>
            clear HK0L hBo hWo HD0
            obtain ⟨k, q, hkq, hql, rfl, rfl, HKL, ⟨ds, hB, HZ, HDA, HDB⟩, hW⟩ := hrel
            have hBl := hB.lt
            by_cases hlt2 : m + 2 + q < zs.length
            · obtain ⟨p, hp⟩ : ∃ p, zs[m + 2 + q]? = some p := ⟨zs[m + 2 + q], List.getElem?_eq_getElem hlt2⟩
              obtain ⟨p', hq⟩ : ∃ p, zs[m + 1 + q]? = some p := ⟨zs[m + 1 + q], List.getElem?_eq_getElem (by omega)⟩
              have c1 : wr.cell? ⟨blk, m + 1 + (q + 1), none⟩ = some (.int .i64 p) := (hB.cell _).trans (HDB.out _ p (by omega) (by rw [← hp]; congr 1; omega))
              have c2 : wr.cell? ⟨blk, m + 1 + q, none⟩ = some (.int .i64 p') := (hB.cell _).trans (HDB.out _ p' (by omega) hq)
              have HP := Lib.hid (show zs[(m + 1 + q) + 1]? = some p by rw [← hp]; congr 1; omega)
              have HQ := Lib.hid hq
              have j1 : (0 : Int) ≤ (q : Int) + 1 := by omega
              have j0 : (0 : Int) ≤ (q : Int) := by omega
              have j2 : (q : Int) + 1 < ((zs.length - (m + 1) : Nat) : Int) := by omega
              have j3 : (q : Int) < ((zs.length - (m + 1) : Nat) : Int) := by omega
              have wr2 : IntKind.i64.wrap (q : Int) = q := by simp [IntKind.wrap, IntKind.bits, IntKind.signed]; omega
              have k1 : (0 : Int) ≤ (k : Int) := by omega
              have k2 : (k : Int) < (zs.length : Int) := by omega
              have HZH := Lib.hid HZ
              clear hp hq HZ
              by_cases hxy : p = p'
              · have HSM := Lib.hid (show keepI zs (m + 2 + (q + 1)) = keepI zs (m + 2 + q) by
                  have := HKS.out (m + 1 + q) _ _ HP.out HQ.out hxy
                  rw [show m + 1 + q + 2 = m + 2 + (q + 1) by omega, show m + 1 + q + 1 = m + 2 + q by omega] at this
                  exact this)
                have e2 : (p == p') = true := by simpa using hxy
                have e3 : (p != p') = false := by simpa using hxy
                clear hxy
                go_wp2_with fail
                go_quiet (fail)
                go_wp2
                exact ⟨⟨k, q + 1, by omega, by omega, rfl, by go_num, Lib.hid (by rw [HSM.out]; exact HKL.out), ⟨ds, hB, HZH.out, Lib.hid (by rw [HSM.out]; exact HDA.out), Lib.hid (fun i p hi h => HDB.out i p (by omega) h)⟩, hW.drewN _⟩, by simp [intOf]; omega⟩
              · have HSM := Lib.hid (show keepI zs (m + 2 + (q + 1)) = keepI zs (m + 2 + q) ++ [p] by
                  have := HKN.out (m + 1 + q) _ _ HP.out HQ.out hxy
                  rw [show m + 1 + q + 2 = m + 2 + (q + 1) by omega, show m + 1 + q + 1 = m + 2 + q by omega] at this
                  exact this)
                have e2 : (p == p') = false := by simpa using hxy
                have e3 : (p != p') = true := by simpa using hxy
                have hkc : k < cs.size := by
                  have hk' : k < zs.length := by omega
                  exact (Array.getElem?_eq_some_iff.1 (HC.out k _ (List.getElem?_eq_getElem hk'))).1
                obtain ⟨u0, t0⟩ : ∃ u, wr.cell? ⟨blk, k, none⟩ = some u := ⟨ds[k]'(by have := HZH.out; omega), by rw [hB.cell]; exact Array.getElem?_eq_getElem _⟩
                have fB := hB.free
                have HKC := Lib.hid hkc
                clear hkc hxy
                go_wp2_with fail
                go_quiet (fail)
                go_wp2
                refine ⟨⟨k + 1, q + 1, by omega, by omega, by go_num, by go_num, Lib.hid (by rw [HSM.out, List.length_append, HKL.out]; rfl), ⟨ds.setIfInBounds k (.int .i64 p), (hB.drewN _).set k _, by simp [HZH.out], Lib.hid (fun i p h => ?_), Lib.hid (fun i p hi h => ?_)⟩, (hW.drewN _).set blk _ _ (Nat.le_refl _) (by omega)⟩, by simp [intOf]; omega⟩
                · rw [HSM.out] at h
                  rw [Array.getElem?_setIfInBounds]
                  by_cases e : k = i
                  · subst e
                    rw [List.getElem?_append_right (by rw [HKL.out]; exact Nat.le_refl _), HKL.out] at h
                    simp at h
                    subst h
                    rw [if_pos rfl, if_pos (by have := HKC.out; have := HZH.out; omega)]
                  · rw [if_neg e]
                    have hi : i < k := by
                      have := (List.getElem?_eq_some_iff.1 h).1
                      rw [List.length_append, HKL.out] at this
                      simp at this; omega
                    rw [List.getElem?_append_left (by rw [HKL.out]; exact hi)] at h
                    exact HDA.out i p h
                · rw [Array.getElem?_setIfInBounds, if_neg (by omega)]
                  exact HDB.out i p (by omega) h
            · have HQL := Lib.hid (show m + 2 + q = zs.length by omega)
              have j2 : ¬ (q : Int) + 1 < ((zs.length - (m + 1) : Nat) : Int) := by have := HQL.out; omega
              have k1 : (0 : Int) ≤ (k : Int) := by omega
              have k2 : (k : Int) ≤ (zs.length : Int) := by omega
              have k3 : (k : Int) ≤ (cap : Int) := by omega
              have hBc := hB.cell
              have hBf := hB.free
              have hcl := fun ty => Lib.run_clear_slice (P := Tryz.prog) wr 49 2 ty (.int .i64 0) Tryz.underlying49 (fun w => by kernel_rfl) (by kernel_rfl) rfl blk k (zs.length - k) (cap - k) (by omega) (fun j hj => by
                rw [hBc]
                have hk' : k + j < zs.length := by omega
                have := (Array.getElem?_eq_some_iff.1 (HC.out (k + j) _ (List.getElem?_eq_getElem hk'))).1
                rw [Array.getElem?_eq_getElem (by omega)]; rfl) (fun j hj => hBf _)
              obtain ⟨ds', hB', he', hW'⟩ := Blk.setCells blk (List.replicate (zs.length - k) (Value.int .i64 0)) k wr ds hB
              generalize wr.setCells blk k (List.replicate (zs.length - k) (Value.int .i64 0)) = w9 at *
              clear hBc hBf
              go_wp2
              rw [← HPP.out]
              have hdd := HD.out
              rw [List.take_length] at hdd
              refine ⟨ds', by rw [← hdd, ← HQL.out, HKL.out], hB', fun i p h => ?_, hW.on hW', length_ddp zs⟩
              rw [← hdd, ← HQL.out] at h
              have hi : i < k := by have := (List.getElem?_eq_some_iff.1 h).1; rwa [HKL.out] at this
              rw [he' i hi]
              exact HDA.out i p h
        · have HXY := Lib.hid hxy
          have e1 : (p == q) = false := by simpa using hxy
          clear hxy
          go_wp2_with fail
          go_quiet (fail)
          go_wp2
          refine ⟨⟨m + 1, _, by omega, by go_num, Lib.hid ?_, by first | rfl | exact World.drewN_drewN _ _ _⟩, by simp [intOf]; omega⟩
          rw [HKN.out m _ _ HP.out HQ.out HXY.out, HKT.out, HTS.out _ _ HP.out]
      · have HL := Lib.hid (show zs.length = m + 1 by omega)
        go_wp2
        rw [← HPP.out]
        have h1 := HD.out
        rw [List.take_length] at h1
        refine ⟨cs, ?_, hB, ?_, (Within.refl _ _ _).drewN n, length_ddp zs⟩
        · rw [← h1, HL.out, HKT.out, ← HL.out, List.take_length]
          rfl
        · rw [← h1, HL.out, HKT.out, ← HL.out, List.take_length]
          exact HC.out
theorem IBld.of {w : World} {g : Nat} {cs : Array Value} {zs : List Int} (h : Blk w g cs 2) (hcs : cs.toList = icells zs) (hm : zs.length ≤ 1048576) : IBld w g zs.length zs.length zs := by
  have hl : cs.size = zs.length := by
    have := congrArg List.length hcs
    simpa [icells] using this
  refine ⟨⟨by simp [icells], .inr ⟨g, zs.length, cs, rfl, Nat.zero_le _, h, Nat.le_refl _, by unfold maxLen; omega, by omega, ?_⟩⟩, rfl, h.lt⟩
  rw [← hcs, List.take_of_length_le (by rw [Array.length_toList]; omega)]
theorem step_catX {ops : Array Oper} {o : Oper} {a : Act} {w : World} {K : Act → World → Prop} {Q : Exit → Act → World → Prop} {E : Prop} (hgd : o.guard = none) (s x : Operand)
    (ho : o.op = .call { callee := .builtin .append, args := #[s, x], argTypes := #[49, 49] })
    (g0 n0 c0 m0 : Nat) (zs ys : List Int) (hs : a.eval s = .slice (some ⟨g0, 0, none⟩) n0 c0) (hB : IBld w g0 n0 c0 zs) (sv : Value) (hx : a.eval x = sv) (h : IntSl w sv ys) (hm0 : ys.length = m0) (hn : n0 + m0 ≤ 8000000)
    (hK : ∀ g c' w', IBld w' g (n0 + m0) c' (zs ++ ys) → w.grownBy w' (some g0) → (g = g0 ∨ g = w.heap.size) → K (a.put o.dst (.slice (some ⟨g, 0, none⟩) (n0 + m0) c')) w') :
    if Region.wanted o (yielded ops a.tmps) = true then Oper.wp Tryz.prog o a w K Q else E := by
  have hB0 := hB
  obtain ⟨h1, rfl, h4⟩ := hB
  subst hm0
  obtain ⟨i0, hi0, hz0, hz1, hz2⟩ := info_parts infoI
  have hcap : zs.length ≤ c0 := by
    obtain ⟨_, h1⟩ := h1
    rcases h1 with ⟨h1, _⟩ | ⟨g, cap, cur, e1, e2, e3, e4, _⟩
    · cases h1
    · simp only [Value.slice.injEq] at e1
      omega
  by_cases h0 : ys = []
  · subst h0
    have hS := src_ints h
    have hw : Region.wanted o (yielded ops a.tmps) = true := by simp [Region.wanted, hgd]
    rw [if_pos hw]
    have hr := run_append_room_src (P := Tryz.prog) w 49 49 o.type 2 i0 Tryz.underlying49 hi0 g0 0 zs.length c0 sv 0 [] (by rw [hz1]; exact hS) (by omega) (by simp) (by simp)
    unfold Oper.wp execOp
    simp only [ho, resolve, invoke, builtin, Sem.run_bind, Sem.run_pure, Result.andThen_ok, List.map_toArray, List.map_cons, List.map_nil, hs, hx, hr]
    have hk := hK g0 c0 w (by rw [List.append_nil]; exact hB0) ⟨rfl, rfl, rfl, Nat.le_refl _, fun _ _ _ => rfl⟩ (.inl rfl)
    exact hk
  · have hl : 0 < ys.length := List.length_pos_iff.2 h0
    rcases h with ⟨_, _, _, e2⟩ | ⟨b, off, cap, rfl, q2, q3, q4⟩
    · exact absurd e2 h0
    refine step_append_lies w hgd s x 49 ho 0 2 i0 _ 1 8 Tryz.underlying49 hi0 hz0 hz1 hz2 rfl (by decide) _ zs.length _ hs h1 ⟨b, off, none⟩ ys.length cap (icells ys) hx (by simp [icells]) ?_ ?_ hl (by unfold maxLen; omega) (by omega) (by omega) w.heap.size rfl ?_
    · intro j u hu
      simp only [icells, List.getElem?_map, Option.map_eq_some_iff] at hu
      obtain ⟨z, hz, rfl⟩ := hu
      rw [Addr.add_lit]
      exact q4 j z hz
    · intro u hu
      simp only [icells, List.mem_map] at hu
      obtain ⟨_, _, rfl⟩ := hu
      rfl
    · intro g cap' w' hrow hgrow hg hgl
      refine hK g cap' w' ⟨?_, by rw [List.length_append], hgl⟩ hgrow (hg.imp (fun e => (Option.some.inj e).symm) id)
      rw [List.length_append, icells_push]; exact hrow
theorem list_catX {ops : Array Oper} {rest : List Oper} {o : Oper} {a : Act} {w : World} {Q : Exit → Act → World → Prop} (hgd : o.guard = none) (s x : Operand)
    (ho : o.op = .call { callee := .builtin .append, args := #[s, x], argTypes := #[49, 49] })
    (g0 n0 c0 m0 : Nat) (zs ys : List Int) (hs : a.eval s = .slice (some ⟨g0, 0, none⟩) n0 c0) (hB : IBld w g0 n0 c0 zs) (sv : Value) (hx : a.eval x = sv) (h : IntSl w sv ys) (hm0 : ys.length = m0) (hn : n0 + m0 ≤ 8000000)
    (hK : ∀ g c' w', IBld w' g (n0 + m0) c' (zs ++ ys) → w.grownBy w' (some g0) → (g = g0 ∨ g = w.heap.size) → wpList Tryz.prog ops Q rest (a.put o.dst (.slice (some ⟨g, 0, none⟩) (n0 + m0) c')) w') : wpList Tryz.prog ops Q (o :: rest) a w :=
  wpList_plain hgd fun K hk => by
    have h := step_catX (ops := ops) (K := K) (Q := Q) (E := False) hgd s x ho g0 n0 c0 m0 zs ys hs hB sv hx h hm0 hn (fun g c' w' h1 h2 h3 => hk _ _ (hK g c' w' h1 h2 h3))
    rwa [if_pos (by simp [Region.wanted, hgd])] at h
open Go.RowKit Go.ChangeShapes Go.WideShapes Go.ChangeAt
open Go.ChangeMaps (open_string)
def IsStr (v : Value) (s : ByteArray) : Prop := v = .string s ∧ s.size ≤ 9223372036854775807
set_option maxRecDepth 100000 in
theorem opened_str {H : Type} {enc : TypeId × Value → H} {W : World} {base b0 : Nat} {r : Reach} {spare : Nat → Bool} {held : Bool} {v : Value} {d : DataW H} {p : List MemPlace}
    (hv : Value.okWide Tryz.prog W r b0 9 v) (h : DataW.Trod enc Tryz.prog W base spare held 9 v d p) : ∃ x, IsStr v x := by
  obtain ⟨s, rfl, _, _, hs⟩ := open_string Tryz.underlying9 hv h
  exact ⟨s, rfl, by unfold maxLen at hs; omega⟩
end Go.Proofs.YtmmohdhkpccjbaaGreat
namespace Go.Proofs.YtmmohdhkpccjbaaGreat.facts
open Go.RowKit Go.Proofs.YtmmohdhkpccjbaaGreat
theorem laid : (laidOutB Tryz.pinned.checked.prog) = true := by kernel_rfl
theorem rowed : (mapsRowed Tryz.pinned.checked.prog) = true := by kernel_rfl
theorem stops : (Tryz.pinned.checked.prog.stops == []) = true := by kernel_rfl
theorem knobs : (Tryz.pinned.checked.prog.stopKnobs == []) = true := by kernel_rfl
theorem keys : (Rows.fnExactNetlistResistanceRow.plainKeys == Tryz.pinned.checked.prog.plainKeys) = true := by kernel_rfl
theorem heard : (Tryz.pinned.checked.prog.stopsHeard) = true := by kernel_rfl
theorem enter : (Tryz.pinned.checked.prog.mayEnter) = true := by kernel_rfl
theorem lifts : (Rows.fnExactNetlistResistanceRow.lifted == Tryz.pinned.checked.prog.liftsFinal) = true := by kernel_rfl
theorem make : (Tryz.pinned.checked.prog.make == some Rows.fnExactNetlistResistanceRow.make) = true := by kernel_rfl
theorem own : ownKnob Tryz.prog.godebug = none := by kernel_rfl
theorem laidOut : laidOutB Tryz.prog = true := laid
end Go.Proofs.YtmmohdhkpccjbaaGreat.facts
