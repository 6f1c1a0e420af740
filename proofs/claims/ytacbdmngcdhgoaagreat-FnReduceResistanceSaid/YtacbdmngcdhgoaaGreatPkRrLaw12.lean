/- Contracts and plain laws, part 12, for the statement's proof. -/
import Derived.Test.YtacbdmngcdhgoaaGreatPkRrLaw11
import Derived.BigQuiet
import Derived.Deep.AppendSrc
import Derived.BigRegion
namespace Go.Proofs.YtacbdmngcdhgoaaGreat
open Go.RowKit
set_option linter.unusedVariables false
set_option linter.unusedSimpArgs false
theorem ddpA_snocI {α : Type} [DecidableEq α] (p : α) (l : List α) (x : α) : ddpA p (l ++ [x]) = if x = l.getLast?.getD p then ddpA p l else ddpA p l ++ [x] := by
  induction l generalizing p with
  | nil => by_cases h : x = p <;> simp [ddpA, h]
  | cons b l ih =>
    have e : (b :: l).getLast?.getD p = l.getLast?.getD b := by rw [List.getLast?_cons]; rfl
    rw [e]
    simp only [List.cons_append, ddpA, ih b]
    by_cases h1 : b = p <;> by_cases h2 : x = l.getLast?.getD b <;> simp [h1, h2]
theorem ddp_snocI {α : Type} [DecidableEq α] {l : List α} {x y : α} (h : l.getLast? = some y) : ddp (l ++ [x]) = if x = y then ddp l else ddp l ++ [x] := by
  cases l with
  | nil => simp at h
  | cons a l =>
    rw [List.getLast?_cons] at h
    have e : l.getLast?.getD a = y := by simpa using h
    simp only [List.cons_append, ddp, ddpA_snocI, e]
    split <;> simp
def keepI (zs : List Int) : Nat → List Int
  | 0 => []
  | k + 1 => match zs[k]? with
    | none => keepI zs k
    | some z => if zs[k - 1]? = some z ∧ 0 < k then keepI zs k else keepI zs k ++ [z]
theorem keepI_same {zs : List Int} {k : Nat} {p q : Int} (hp : zs[k + 1]? = some p) (hq : zs[k]? = some q) (h : p = q) : keepI zs (k + 2) = keepI zs (k + 1) := by
  show (match zs[k + 1]? with | none => _ | some z => _) = _
  rw [hp]
  simp [hq, h]
theorem keepI_new {zs : List Int} {k : Nat} {p q : Int} (hp : zs[k + 1]? = some p) (hq : zs[k]? = some q) (h : p ≠ q) : keepI zs (k + 2) = keepI zs (k + 1) ++ [p] := by
  show (match zs[k + 1]? with | none => _ | some z => _) = _
  rw [hp]
  simp [hq, Ne.symm h]
theorem keepI_one {zs : List Int} : keepI zs 1 = zs.take 1 := by
  cases zs <;> simp [keepI]
theorem keepI_ddp (zs : List Int) : ∀ k, k ≤ zs.length → keepI zs k = ddp (zs.take k)
  | 0, _ => rfl
  | 1, _ => by rw [keepI_one]; cases zs <;> simp [ddp, ddpA]
  | k + 2, hk => by
    have ih := keepI_ddp zs (k + 1) (by omega)
    obtain ⟨p, hp⟩ : ∃ p, zs[k + 1]? = some p := ⟨zs[k + 1], List.getElem?_eq_getElem (by omega)⟩
    obtain ⟨q, hq⟩ : ∃ q, zs[k]? = some q := ⟨zs[k], List.getElem?_eq_getElem (by omega)⟩
    have hl : (zs.take (k + 1)).getLast? = some q := by
      rw [List.getLast?_eq_getElem?, List.length_take, show min (k + 1) zs.length - 1 = k by omega, List.getElem?_take_of_lt (by omega), hq]
    rw [take_snoc_of zs (k + 1) p hp, ddp_snocI hl]
    by_cases h : p = q
    · rw [keepI_same hp hq h, if_pos h, ih]
    · rw [keepI_new hp hq h, if_neg h, ih]
def CompIPost (blk cap : Nat) (zs : List Int) (w : World) (e : Ending) (w' : World) : Prop :=
  ∃ (ds : Array Value), e = .returned (.slice (some ⟨blk, 0, none⟩) (ddp zs).length cap) ∧ Blk w' blk ds 2 ∧ (∀ (i : Nat) z, (ddp zs)[i]? = some z → ds[i]? = some (.int .i64 z)) ∧ Within blk (blk + 1) w w' ∧ (ddp zs).length ≤ zs.length
theorem length_ddpA {α : Type} [DecidableEq α] (p : α) (l : List α) : (ddpA p l).length ≤ l.length := by
  induction l generalizing p with
  | nil => simp [ddpA]
  | cons a l ih =>
    unfold ddpA
    split
    · have := ih a; simp; omega
    · have := ih a; simp; omega
theorem length_ddp {α : Type} [DecidableEq α] (l : List α) : (ddp l).length ≤ l.length := by
  cases l with
  | nil => simp [ddp]
  | cons a l => have := length_ddpA a l; simp [ddp]; omega
set_option maxRecDepth 100000 in
set_option maxHeartbeats 2000000 in
theorem compactI_any (blk cap : Nat) (zs : List Int) (w : World) (cs : Array Value) (hB : Blk w blk cs 2)
    (hc : ∀ (i : Nat) z, zs[i]? = some z → cs[i]? = some (.int .i64 z)) (hn : zs.length ≤ 1000000) (hcap : zs.length ≤ cap) (hmx : cap ≤ maxLen) :
    Calls Tryz.prog 18 #[.slice (some ⟨blk, 0, none⟩) zs.length cap] w (CompIPost blk cap zs w) := by
  obtain ⟨PP, hPP⟩ : ∃ P, CompIPost blk cap zs w = P := ⟨_, rfl⟩
  rw [hPP]
  have HPP := Lib.hid hPP
  clear hPP
  unfold maxLen at hmx
  by_cases h2 : zs.length < 2
  · have hs : ddp zs = zs := by
      match zs, h2 with
      | [], _ => rfl
      | [p], _ => rfl
    have hl : (zs.length : Int) < 2 := by omega
    have HS := Lib.hid hs
    have HC := Lib.hid hc
    clear hs hc
    go_enter Tryz.func18, Tryz.ntmps18
    go_wp2
    rw [← HPP.out]
    exact ⟨cs, by rw [HS.out]; rfl, hB, by rw [HS.out]; exact HC.out, Within.refl _ _ _, length_ddp zs⟩
  · have hl : ¬ (zs.length : Int) < 2 := by omega
    have HC := Lib.hid hc
    have HD := Lib.hid (keepI_ddp zs zs.length (Nat.le_refl _))
    have HK1 := Lib.hid (show keepI zs (0 + 1) = zs.take (0 + 1) from keepI_one)
    have HKS := Lib.hid (fun k p q => @keepI_same zs k p q)
    have HKN := Lib.hid (fun k p q => @keepI_new zs k p q)
    have HTS := Lib.hid (fun k p h => take_snoc_of zs k p h)
    have hBl := hB.lt
    have hBc := hB.cell
    clear hc
    go_enter Tryz.func18, Tryz.ntmps18
    go_wp2
    go_loopw [3] (fun i wr => ∃ m n : Nat, m + 1 ≤ zs.length ∧ i = .int .i64 ((m : Int) + 1) ∧ Hid (keepI zs (m + 1) = zs.take (m + 1)) ∧ wr = w.drewN n) (fun i _ => zs.length - (intOf i).toNat)
    case atStart => exact ⟨0, 0, by omega, rfl, HK1, rfl⟩
    case round =>
      obtain ⟨m, n, hm, rfl, HKT, rfl⟩ := hrel
      by_cases hlt : m + 1 < zs.length
      · obtain ⟨p, hp⟩ : ∃ p, zs[m + 1]? = some p := ⟨zs[m + 1], List.getElem?_eq_getElem hlt⟩
        obtain ⟨q, hq⟩ : ∃ q, zs[m]? = some q := ⟨zs[m], List.getElem?_eq_getElem (by omega)⟩
        have c1 : w.cell? ⟨blk, m + 1, none⟩ = some (.int .i64 p) := (hBc _).trans (HC.out _ p hp)
        have c2 : w.cell? ⟨blk, m, none⟩ = some (.int .i64 q) := (hBc _).trans (HC.out _ q hq)
        have HP := Lib.hid hp
        have HQ := Lib.hid hq
        have i1 : (0 : Int) ≤ (m : Int) := by omega
        have i2 : (m : Int) < (zs.length : Int) := by omega
        have i3 : (m : Int) + 1 < (zs.length : Int) := by omega
        have i4 : (0 : Int) ≤ (m : Int) + 1 := by omega
        have wr1 : IntKind.i64.wrap (m : Int) = m := by simp [IntKind.wrap, IntKind.bits, IntKind.signed]; omega
        clear hp hq hBc
        by_cases hxy : p = q
        · have HXY := Lib.hid hxy
          have e1 : (p == q) = true := by simpa using hxy
          have HK0 := Lib.hid (show keepI zs (m + 2) = zs.take (m + 1) by rw [HKS.out m _ _ HP.out HQ.out hxy, HKT.out])
          have i5 : (m : Int) + 1 ≤ (zs.length : Int) := by omega
          have i6 : (m : Int) + 1 ≤ (cap : Int) := by omega
          clear hxy
          go_wp2_with fail
          go_quiet (fail)
          go_wp2
          obtain ⟨wo, hwo⟩ : ∃ wo : World, wo = w.drewN (n + nq) := ⟨_, rfl⟩
          have hWo : Within blk (blk + 1) w wo := by rw [hwo]; exact (Within.refl _ _ _).drewN _
          have hBo : Blk wo blk cs 2 := by rw [hwo]; exact hB
          (try rw [← hwo])
          have HK0L := Lib.hid (show (keepI zs (m + 2)).length = m + 1 by rw [HK0.out, List.length_take]; omega)
          have HD0 := Lib.hid (show ∀ (i : Nat) p, (keepI zs (m + 2))[i]? = some p → cs[i]? = some (.int .i64 p) from fun i p h => by
            rw [HK0.out] at h
            have hi : i < m + 1 := by have := (List.getElem?_eq_some_iff.1 h).1; simp at this; omega
            rw [List.getElem?_take_of_lt hi] at h
            exact HC.out i p h)
          clear hwo c1 c2 HP HQ HXY HK0 HKT hB hBl e1
          go_loopw [3, 5] (fun i j wr => ∃ k q : Nat, k ≤ m + 1 + q ∧ m + 2 + q ≤ zs.length ∧ i = .int .i64 (k : Int) ∧ j = .int .i64 ((q : Int) + 1) ∧ Hid ((keepI zs (m + 2 + q)).length = k) ∧
            (∃ ds : Array Value, Blk wr blk ds 2 ∧ ds.size = cs.size ∧ Hid (∀ (i : Nat) p, (keepI zs (m + 2 + q))[i]? = some p → ds[i]? = some (.int .i64 p)) ∧ Hid (∀ (i : Nat) p, m + 1 + q ≤ i → zs[i]? = some p → ds[i]? = some (.int .i64 p))) ∧ Within blk (blk + 1) w wr) (fun _ j _ => zs.length - (intOf j).toNat)
          case atStart => exact ⟨m + 1, 0, by omega, by omega, by go_num, by go_num, HK0L, ⟨cs, hBo, rfl, HD0, Lib.hid (fun i p _ h => HC.out i p h)⟩, hWo⟩
          case round =>
            clear HK0L hBo hWo HD0
            obtain ⟨k, q, hkq, hql, rfl, rfl, HKL, ⟨ds, hB, HZ, HDA, HDB⟩, hW⟩ := hrel
            have hBl := hB.lt
            by_cases hlt2 : m + 2 + q < zs.length
            · obtain ⟨p, hp⟩ : ∃ p, zs[m + 2 + q]? = some p := ⟨zs[m + 2 + q], List.getElem?_eq_getElem hlt2⟩
              obtain ⟨p', hq⟩ : ∃ p, zs[m + 1 + q]? = some p := ⟨zs[m + 1 + q], List.getElem?_eq_getElem (by omega)⟩
              have c1 : wr.cell? ⟨blk, m + 1 + (q + 1), none⟩ = some (.int .i64 p) := (hB.cell _).trans (HDB.out _ p (by omega) (by rw [← hp]; congr 1; omega))
              have c2 : wr.cell? ⟨blk, m + 1 + q, none⟩ = some (.int .i64 p') := (hB.cell _).trans (HDB.out _ p' (by omega) hq)
              have HP := Lib.hid (show zs[(m + 1 + q) + 1]? = some p by rw [← hp]; congr 1; omega)
              have HQ := Lib.hid hq
              have j1 : (0 : Int) ≤ (q : Int) + 1 := by omega
              have j0 : (0 : Int) ≤ (q : Int) := by omega
              have j2 : (q : Int) + 1 < ((zs.length - (m + 1) : Nat) : Int) := by omega
              have j3 : (q : Int) < ((zs.length - (m + 1) : Nat) : Int) := by omega
              have wr2 : IntKind.i64.wrap (q : Int) = q := by simp [IntKind.wrap, IntKind.bits, IntKind.signed]; omega
              have k1 : (0 : Int) ≤ (k : Int) := by omega
              have k2 : (k : Int) < (zs.length : Int) := by omega
              have HZH := Lib.hid HZ
              clear hp hq HZ
              by_cases hxy : p = p'
              · have HSM := Lib.hid (show keepI zs (m + 2 + (q + 1)) = keepI zs (m + 2 + q) by
                  have := HKS.out (m + 1 + q) _ _ HP.out HQ.out hxy
                  rw [show m + 1 + q + 2 = m + 2 + (q + 1) by omega, show m + 1 + q + 1 = m + 2 + q by omega] at this
                  exact this)
                have e2 : (p == p') = true := by simpa using hxy
                have e3 : (p != p') = false := by simpa using hxy
                clear hxy
                go_wp2_with fail
                go_quiet (fail)
                go_wp2
                exact ⟨⟨k, q + 1, by omega, by omega, rfl, by go_num, Lib.hid (by rw [HSM.out]; exact HKL.out), ⟨ds, hB, HZH.out, Lib.hid (by rw [HSM.out]; exact HDA.out), Lib.hid (fun i p hi h => HDB.out i p (by omega) h)⟩, hW.drewN _⟩, by simp [intOf]; omega⟩
              · have HSM := Lib.hid (show keepI zs (m + 2 + (q + 1)) = keepI zs (m + 2 + q) ++ [p] by
                  have := HKN.out (m + 1 + q) _ _ HP.out HQ.out hxy
                  rw [show m + 1 + q + 2 = m + 2 + (q + 1) by omega, show m + 1 + q + 1 = m + 2 + q by omega] at this
                  exact this)
                have e2 : (p == p') = false := by simpa using hxy
                have e3 : (p != p') = true := by simpa using hxy
                have hkc : k < cs.size := by
                  have hk' : k < zs.length := by omega
                  exact (Array.getElem?_eq_some_iff.1 (HC.out k _ (List.getElem?_eq_getElem hk'))).1
                obtain ⟨u0, t0⟩ : ∃ u, wr.cell? ⟨blk, k, none⟩ = some u := ⟨ds[k]'(by have := HZH.out; omega), by rw [hB.cell]; exact Array.getElem?_eq_getElem _⟩
                have fB := hB.free
                have HKC := Lib.hid hkc
                clear hkc hxy
                go_wp2_with fail
                go_quiet (fail)
                go_wp2
                refine ⟨⟨k + 1, q + 1, by omega, by omega, by go_num, by go_num, Lib.hid (by rw [HSM.out, List.length_append, HKL.out]; rfl), ⟨ds.setIfInBounds k (.int .i64 p), (hB.drewN _).set k _, by simp [HZH.out], Lib.hid (fun i p h => ?_), Lib.hid (fun i p hi h => ?_)⟩, (hW.drewN _).set blk _ _ (Nat.le_refl _) (by omega)⟩, by simp [intOf]; omega⟩
                · rw [HSM.out] at h
                  rw [Array.getElem?_setIfInBounds]
                  by_cases e : k = i
                  · subst e
                    rw [List.getElem?_append_right (by rw [HKL.out]; exact Nat.le_refl _), HKL.out] at h
                    simp at h
                    subst h
                    rw [if_pos rfl, if_pos (by have := HKC.out; have := HZH.out; omega)]
                  · rw [if_neg e]
                    have hi : i < k := by
                      have := (List.getElem?_eq_some_iff.1 h).1
                      rw [List.length_append, HKL.out] at this
                      simp at this; omega
                    rw [List.getElem?_append_left (by rw [HKL.out]; exact hi)] at h
                    exact HDA.out i p h
                · rw [Array.getElem?_setIfInBounds, if_neg (by omega)]
                  exact HDB.out i p (by omega) h
            · have HQL := Lib.hid (show m + 2 + q = zs.length by omega)
              have j2 : ¬ (q : Int) + 1 < ((zs.length - (m + 1) : Nat) : Int) := by have := HQL.out; omega
              have k1 : (0 : Int) ≤ (k : Int) := by omega
              have k2 : (k : Int) ≤ (zs.length : Int) := by omega
              have k3 : (k : Int) ≤ (cap : Int) := by omega
              have hBc := hB.cell
              have hBf := hB.free
              have hcl := fun ty => Lib.run_clear_slice (P := Tryz.prog) wr 44 2 ty (.int .i64 0) Tryz.underlying44 (fun w => by kernel_rfl) (by kernel_rfl) rfl blk k (zs.length - k) (cap - k) (by omega) (fun j hj => by
                rw [hBc]
                have hk' : k + j < zs.length := by omega
                have := (Array.getElem?_eq_some_iff.1 (HC.out (k + j) _ (List.getElem?_eq_getElem hk'))).1
                rw [Array.getElem?_eq_getElem (by omega)]; rfl) (fun j hj => hBf _)
              obtain ⟨ds', hB', he', hW'⟩ := Blk.setCells blk (List.replicate (zs.length - k) (Value.int .i64 0)) k wr ds hB
              generalize wr.setCells blk k (List.replicate (zs.length - k) (Value.int .i64 0)) = w9 at *
              clear hBc hBf
              go_wp2
              rw [← HPP.out]
              have hdd := HD.out
              rw [List.take_length] at hdd
              refine ⟨ds', by rw [← hdd, ← HQL.out, HKL.out], hB', fun i p h => ?_, hW.on hW', length_ddp zs⟩
              rw [← hdd, ← HQL.out] at h
              have hi : i < k := by have := (List.getElem?_eq_some_iff.1 h).1; rwa [HKL.out] at this
              rw [he' i hi]
              exact HDA.out i p h
        · have HXY := Lib.hid hxy
          have e1 : (p == q) = false := by simpa using hxy
          clear hxy
          go_wp2_with fail
          go_quiet (fail)
          go_wp2
          refine ⟨⟨m + 1, _, by omega, by go_num, Lib.hid ?_, by first | rfl | exact World.drewN_drewN _ _ _⟩, by simp [intOf]; omega⟩
          rw [HKN.out m _ _ HP.out HQ.out HXY.out, HKT.out, HTS.out _ _ HP.out]
      · have HL := Lib.hid (show zs.length = m + 1 by omega)
        go_wp2
        rw [← HPP.out]
        have h1 := HD.out
        rw [List.take_length] at h1
        refine ⟨cs, ?_, hB, ?_, (Within.refl _ _ _).drewN n, length_ddp zs⟩
        · rw [← h1, HL.out, HKT.out, ← HL.out, List.take_length]
          rfl
        · rw [← h1, HL.out, HKT.out, ← HL.out, List.take_length]
          exact HC.out
theorem IBld.of {w : World} {g : Nat} {cs : Array Value} {zs : List Int} (h : Blk w g cs 2) (hcs : cs.toList = icells zs) (hm : zs.length ≤ 1048576) : IBld w g zs.length zs.length zs := by
  have hl : cs.size = zs.length := by
    have := congrArg List.length hcs
    simpa [icells] using this
  refine ⟨⟨by simp [icells], .inr ⟨g, zs.length, cs, rfl, Nat.zero_le _, h, Nat.le_refl _, by unfold maxLen; omega, by omega, ?_⟩⟩, rfl, h.lt⟩
  rw [← hcs, List.take_of_length_le (by rw [Array.length_toList]; omega)]
theorem step_catX {ops : Array Oper} {o : Oper} {a : Act} {w : World} {K : Act → World → Prop} {Q : Exit → Act → World → Prop} {E : Prop} (hgd : o.guard = none) (s x : Operand)
    (ho : o.op = .call { callee := .builtin .append, args := #[s, x], argTypes := #[44, 44] })
    (g0 n0 c0 m0 : Nat) (zs ys : List Int) (hs : a.eval s = .slice (some ⟨g0, 0, none⟩) n0 c0) (hB : IBld w g0 n0 c0 zs) (sv : Value) (hx : a.eval x = sv) (h : IntSl w sv ys) (hm0 : ys.length = m0) (hn : n0 + m0 ≤ 8000000)
    (hK : ∀ g c' w', IBld w' g (n0 + m0) c' (zs ++ ys) → w.grownBy w' (some g0) → (g = g0 ∨ g = w.heap.size) → K (a.put o.dst (.slice (some ⟨g, 0, none⟩) (n0 + m0) c')) w') :
    if Region.wanted o (yielded ops a.tmps) = true then Oper.wp Tryz.prog o a w K Q else E := by
  have hB0 := hB
  obtain ⟨h1, rfl, h4⟩ := hB
  subst hm0
  obtain ⟨i0, hi0, hz0, hz1, hz2⟩ := info_parts infoI
  have hcap : zs.length ≤ c0 := by
    obtain ⟨_, h1⟩ := h1
    rcases h1 with ⟨h1, _⟩ | ⟨g, cap, cur, e1, e2, e3, e4, _⟩
    · cases h1
    · simp only [Value.slice.injEq] at e1
      omega
  by_cases h0 : ys = []
  · subst h0
    have hS := src_ints h
    have hw : Region.wanted o (yielded ops a.tmps) = true := by simp [Region.wanted, hgd]
    rw [if_pos hw]
    have hr := run_append_room_src (P := Tryz.prog) w 44 44 o.type 2 i0 Tryz.underlying44 hi0 g0 0 zs.length c0 sv 0 [] (by rw [hz1]; exact hS) (by omega) (by simp) (by simp)
    unfold Oper.wp execOp
    simp only [ho, resolve, invoke, builtin, Sem.run_bind, Sem.run_pure, Result.andThen_ok, List.map_toArray, List.map_cons, List.map_nil, hs, hx, hr]
    have hk := hK g0 c0 w (by rw [List.append_nil]; exact hB0) ⟨rfl, rfl, rfl, Nat.le_refl _, fun _ _ _ => rfl⟩ (.inl rfl)
    exact hk
  · have hl : 0 < ys.length := List.length_pos_iff.2 h0
    rcases h with ⟨_, _, _, e2⟩ | ⟨b, off, cap, rfl, q2, q3, q4⟩
    · exact absurd e2 h0
    refine step_append_lies w hgd s x 44 ho 0 2 i0 _ 1 8 Tryz.underlying44 hi0 hz0 hz1 hz2 rfl (by decide) _ zs.length _ hs h1 ⟨b, off, none⟩ ys.length cap (icells ys) hx (by simp [icells]) ?_ ?_ hl (by unfold maxLen; omega) (by omega) (by omega) w.heap.size rfl ?_
    · intro j u hu
      simp only [icells, List.getElem?_map, Option.map_eq_some_iff] at hu
      obtain ⟨z, hz, rfl⟩ := hu
      rw [Addr.add_lit]
      exact q4 j z hz
    · intro u hu
      simp only [icells, List.mem_map] at hu
      obtain ⟨_, _, rfl⟩ := hu
      rfl
    · intro g cap' w' hrow hgrow hg hgl
      refine hK g cap' w' ⟨?_, by rw [List.length_append], hgl⟩ hgrow (hg.imp (fun e => (Option.some.inj e).symm) id)
      rw [List.length_append, icells_push]; exact hrow
theorem list_catX {ops : Array Oper} {rest : List Oper} {o : Oper} {a : Act} {w : World} {Q : Exit → Act → World → Prop} (hgd : o.guard = none) (s x : Operand)
    (ho : o.op = .call { callee := .builtin .append, args := #[s, x], argTypes := #[44, 44] })
    (g0 n0 c0 m0 : Nat) (zs ys : List Int) (hs : a.eval s = .slice (some ⟨g0, 0, none⟩) n0 c0) (hB : IBld w g0 n0 c0 zs) (sv : Value) (hx : a.eval x = sv) (h : IntSl w sv ys) (hm0 : ys.length = m0) (hn : n0 + m0 ≤ 8000000)
    (hK : ∀ g c' w', IBld w' g (n0 + m0) c' (zs ++ ys) → w.grownBy w' (some g0) → (g = g0 ∨ g = w.heap.size) → wpList Tryz.prog ops Q rest (a.put o.dst (.slice (some ⟨g, 0, none⟩) (n0 + m0) c')) w') : wpList Tryz.prog ops Q (o :: rest) a w :=
  wpList_plain hgd fun K hk => by
    have h := step_catX (ops := ops) (K := K) (Q := Q) (E := False) hgd s x ho g0 n0 c0 m0 zs ys hs hB sv hx h hm0 hn (fun g c' w' h1 h2 h3 => hk _ _ (hK g c' w' h1 h2 h3))
    rwa [if_pos (by simp [Region.wanted, hgd])] at h
def cR (S : Int → Int) (r : Res) : Int := (S r.a - S r.b) / r.num
def PosR (rs : List Res) : Prop := ∀ r ∈ rs, 1 ≤ r.num ∧ 1 ≤ r.den
def Sol (rs : List Res) (A B N T : Int) : Prop := 0 < T ∧ ∃ S : Int → Int, (∀ r ∈ rs, S r.a - S r.b = r.num * cR S r) ∧ (∀ f : Int → Int, lsum (fun r => r.den * (f r.a - f r.b) * cR S r) rs = T * (f A - f B)) ∧ S A - S B = N
theorem cR_of {S : Int → Int} {r : Res} {c : Int} (h : 1 ≤ r.num) (e : S r.a - S r.b = r.num * c) : cR S r = c := by
  unfold cR; rw [e, Int.mul_ediv_cancel_left _ (by omega)]
theorem cR_mul {S : Int → Int} {r : Res} (k : Int) (h : 1 ≤ r.num) (e : S r.a - S r.b = r.num * cR S r) : cR (fun z => k * S z) r = k * cR S r :=
  cR_of h (by show k * S r.a - k * S r.b = _; rw [← Int.mul_sub, e]; grind)
theorem lsum_perm {g : Res → Int} {xs ys : List Res} (h : xs.Perm ys) : lsum g xs = lsum g ys := by
  induction h with
  | nil => rfl
  | cons x _ ih => simp only [lsum, ih]
  | swap x y l => simp only [lsum]; omega
  | trans _ _ i1 i2 => exact i1.trans i2
theorem lsum_map {g : Res → Int} {h : Res → Res} {xs : List Res} : lsum g (xs.map h) = lsum (fun r => g (h r)) xs := by
  induction xs with
  | nil => rfl
  | cons x xs ih => simp only [List.map_cons, lsum, ih]
theorem lsum_cons (g : Res → Int) (r : Res) (xs : List Res) : lsum g (r :: xs) = g r + lsum g xs := rfl
theorem sol_recip {rs : List Res} {A B N T N' T' : Int} (h : Sol rs A B N T) (h' : Sol rs A B N' T') : N * T' = N' * T := by
  obtain ⟨_, S, h1, h2, rfl⟩ := h
  obtain ⟨_, S', h1', h2', rfl⟩ := h'
  have e1 := h2 S'
  have e2 := h2' S
  have e3 : lsum (fun r => r.den * (S' r.a - S' r.b) * cR S r) rs = lsum (fun r => r.den * (S r.a - S r.b) * cR S' r) rs := lsum_congr (fun r hr => by
    rw [h1 r hr, h1' r hr]; grind)
  rw [e1, e2] at e3
  rw [Int.mul_comm _ T', Int.mul_comm _ T]
  exact e3.symm
theorem sol_perm {rs qs : List Res} {A B N T : Int} (hp : rs.Perm qs) (h : Sol rs A B N T) : Sol qs A B N T := by
  obtain ⟨h0, S, h1, h2, h3⟩ := h
  exact ⟨h0, S, fun r hr => h1 r (hp.mem_iff.2 hr), fun f => by rw [← lsum_perm hp]; exact h2 f, h3⟩
theorem sol_drop {rs : List Res} {A B N T : Int} {p : Res → Bool} (hp : ∀ r ∈ rs, p r = false → r.a = r.b) (h : Sol rs A B N T) : Sol (rs.filter p) A B N T := by
  obtain ⟨h0, S, h1, h2, h3⟩ := h
  refine ⟨h0, S, fun r hr => h1 r (List.mem_filter.1 hr).1, fun f => ?_, h3⟩
  rw [lsum_filter (fun r hr h => by rw [hp r hr h]; simp)]
  exact h2 f
theorem sol_turn {rs : List Res} {A B N T : Int} {g : Res → Res} (hp : PosR rs) (hg : ∀ r ∈ rs, g r = r ∨ g r = ⟨r.b, r.a, r.num, r.den⟩) (h : Sol rs A B N T) : Sol (rs.map g) A B N T := by
  obtain ⟨h0, S, h1, h2, h3⟩ := h
  have hc : ∀ r ∈ rs, S r.b - S r.a = r.num * -cR S r := fun r hr => by have := h1 r hr; grind
  refine ⟨h0, S, fun r hr => ?_, fun f => ?_, h3⟩
  · obtain ⟨q, hq, rfl⟩ := List.mem_map.1 hr
    rcases hg q hq with e | e
    · rw [e]; exact h1 q hq
    · rw [e, cR_of (S := S) (r := ⟨q.b, q.a, q.num, q.den⟩) (c := -cR S q) (hp q hq).1 (hc q hq)]; exact hc q hq
  · rw [lsum_map, ← h2 f]
    refine lsum_congr (fun r hr => ?_)
    rcases hg r hr with e | e
    · rw [e]
    · rw [e, cR_of (S := S) (r := ⟨r.b, r.a, r.num, r.den⟩) (c := -cR S r) (hp r hr).1 (hc r hr)]
      show r.den * (f r.b - f r.a) * -cR S r = _
      grind
theorem ren_inv {U : Int → Prop} {g : Int → Int} (hi : ∀ y z, U y → U z → g y = g z → y = z) : ∃ h : Int → Int, ∀ z, U z → h (g z) = z := by
  classical
  refine ⟨fun k => if H : ∃ z, U z ∧ g z = k then H.choose else 0, fun z hz => ?_⟩
  have H : ∃ y, U y ∧ g y = g z := ⟨z, hz, rfl⟩
  show (if H : ∃ y, U y ∧ g y = g z then H.choose else 0) = z
  rw [dif_pos H]
  exact hi _ _ H.choose_spec.1 hz H.choose_spec.2
theorem sol_ren {rs : List Res} {A B N T : Int} {U : Int → Prop} {g : Int → Int} (hp : PosR rs) (hi : ∀ y z, U y → U z → g y = g z → y = z) (hU : ∀ r ∈ rs, U r.a ∧ U r.b) (hA : U A) (hB : U B) :
    Sol rs A B N T ↔ Sol (rs.map fun r => ⟨g r.a, g r.b, r.num, r.den⟩) (g A) (g B) N T := by
  obtain ⟨k, hk⟩ := ren_inv hi
  constructor
  · rintro ⟨h0, S, h1, h2, h3⟩
    have hc : ∀ r ∈ rs, (fun z => S (k z)) (g r.a) - (fun z => S (k z)) (g r.b) = r.num * cR S r := fun r hr => by
      dsimp only; rw [hk _ (hU r hr).1, hk _ (hU r hr).2]; exact h1 r hr
    refine ⟨h0, fun z => S (k z), fun r hr => ?_, fun f => ?_, by dsimp only; rw [hk _ hA, hk _ hB]; exact h3⟩
    · obtain ⟨q, hq, rfl⟩ := List.mem_map.1 hr
      rw [cR_of (S := fun z => S (k z)) (r := ⟨g q.a, g q.b, q.num, q.den⟩) (c := cR S q) (hp q hq).1 (hc q hq)]; exact hc q hq
    · rw [lsum_map, ← h2 (fun z => f (g z))]
      refine lsum_congr (fun r hr => ?_)
      rw [cR_of (S := fun z => S (k z)) (r := ⟨g r.a, g r.b, r.num, r.den⟩) (c := cR S r) (hp r hr).1 (hc r hr)]
  · rintro ⟨h0, S, h1, h2, h3⟩
    have hc : ∀ r ∈ rs, (fun z => S (g z)) r.a - (fun z => S (g z)) r.b = r.num * cR S ⟨g r.a, g r.b, r.num, r.den⟩ := fun r hr => h1 _ (List.mem_map.2 ⟨r, hr, rfl⟩)
    refine ⟨h0, fun z => S (g z), fun r hr => ?_, fun f => ?_, h3⟩
    · rw [cR_of (hp r hr).1 (hc r hr)]; exact hc r hr
    · have h := h2 (fun z => f (k z))
      rw [lsum_map] at h
      dsimp only at h
      rw [hk _ hA, hk _ hB] at h
      rw [← h]
      refine lsum_congr (fun r hr => ?_)
      rw [cR_of (hp r hr).1 (hc r hr), hk _ (hU r hr).1, hk _ (hU r hr).2]
theorem par_arith {n1 n2 d1 d2 n d D c1 c2 F : Int} (h1 : 1 ≤ n1) (h2 : 1 ≤ n2) (e1 : D = n1 * c1) (e2 : D = n2 * c2) (e : n * (n1 * d2 + n2 * d1) = d * (n1 * n2)) : d * F * D = n * (d1 * F * c1 + d2 * F * c2) := by
  have h0 : n1 * n2 ≠ 0 := by
    have := Int.mul_pos (show 0 < n1 by omega) (show 0 < n2 by omega)
    omega
  refine Int.eq_of_mul_eq_mul_left h0 ?_
  have a1 : n1 * n2 * (d * F * D) = (d * (n1 * n2)) * F * D := by grind
  have a2 : n * (n1 * d2 + n2 * d1) * F * D = n * F * (n1 * d2 * D + n2 * d1 * D) := by grind
  have a3 : n1 * d2 * D = n1 * n2 * (d2 * c2) := by rw [e2]; grind
  have a4 : n2 * d1 * D = n1 * n2 * (d1 * c1) := by rw [e1]; grind
  rw [a1, ← e, a2, a3, a4]
  grind
theorem ser_arith {n1 n2 d1 d2 n d e1 e2 I : Int} (h1 : 1 ≤ d1) (h2 : 1 ≤ d2) (a1 : d1 * e1 = I) (a2 : d2 * e2 = I) (e : n * (d1 * d2) = d * (n1 * d2 + n2 * d1)) : d * (n1 * e1 + n2 * e2) = n * I := by
  have h0 : d1 * d2 ≠ 0 := by
    have := Int.mul_pos (show 0 < d1 by omega) (show 0 < d2 by omega)
    omega
  refine Int.eq_of_mul_eq_mul_left h0 ?_
  have b1 : d1 * d2 * (d * (n1 * e1 + n2 * e2)) = d * (n1 * d2 * (d1 * e1) + n2 * d1 * (d2 * e2)) := by grind
  have b2 : d1 * d2 * (n * I) = n * (d1 * d2) * I := by grind
  rw [b1, b2, a1, a2, e]
  grind
theorem lsum_zero {g : Res → Int} {xs : List Res} (h : ∀ r ∈ xs, g r = 0) : lsum g xs = 0 := by
  induction xs with
  | nil => rfl
  | cons x xs ih => rw [lsum_cons, h x (by simp), ih (fun r hr => h r (List.mem_cons_of_mem _ hr))]; rfl
theorem sol_rest {S : Int → Int} {rs : List Res} (k : Int) (hp : PosR rs) (h1 : ∀ r ∈ rs, S r.a - S r.b = r.num * cR S r) :
    (∀ r ∈ rs, (fun z => k * S z) r.a - (fun z => k * S z) r.b = r.num * cR (fun z => k * S z) r) ∧ ∀ f : Int → Int, lsum (fun r => r.den * (f r.a - f r.b) * cR (fun z => k * S z) r) rs = k * lsum (fun r => r.den * (f r.a - f r.b) * cR S r) rs := by
  refine ⟨fun r hr => ?_, fun f => ?_⟩
  · rw [cR_mul k (hp r hr).1 (h1 r hr)]
    have := h1 r hr
    show k * S r.a - k * S r.b = _
    rw [← Int.mul_sub, this]; grind
  · rw [lsum_mul]
    exact lsum_congr (fun r hr => by rw [cR_mul k (hp r hr).1 (h1 r hr)]; grind)
theorem sol_par {r1 r2 : Res} {rs : List Res} {A B N T n d : Int} (hp : PosR (r1 :: r2 :: rs)) (hn : 1 ≤ n) (he : (r2.a = r1.a ∧ r2.b = r1.b) ∨ (r2.a = r1.b ∧ r2.b = r1.a))
    (hnd : n * (r1.num * r2.den + r2.num * r1.den) = d * (r1.num * r2.num)) (h : Sol (r1 :: r2 :: rs) A B N T) : Sol (⟨r1.a, r1.b, n, d⟩ :: rs) A B (n * N) (n * T) := by
  have hp1 := (hp r1 (by simp)).1
  have hp2 := (hp r2 (by simp)).1
  obtain ⟨h0, S, s1, s2, rfl⟩ := h
  have e1 := s1 r1 (by simp)
  have e2 := s1 r2 (by simp)
  obtain ⟨q1, q2⟩ := sol_rest (S := S) (rs := rs) n (fun r hr => hp r (List.mem_cons_of_mem _ (List.mem_cons_of_mem _ hr))) (fun r hr => s1 r (List.mem_cons_of_mem _ (List.mem_cons_of_mem _ hr)))
  obtain ⟨c2, e3, e4⟩ : ∃ c2, S r1.a - S r1.b = r2.num * c2 ∧ ∀ f : Int → Int, r2.den * (f r2.a - f r2.b) * cR S r2 = r2.den * (f r1.a - f r1.b) * c2 := by
    rcases he with ⟨x1, x2⟩ | ⟨x1, x2⟩
    · rw [x1, x2] at e2
      exact ⟨cR S r2, e2, fun f => by rw [x1, x2]⟩
    · rw [x1, x2] at e2
      exact ⟨-cR S r2, by grind, fun f => by rw [x1, x2]; grind⟩
  have hc : (fun z => n * S z) r1.a - (fun z => n * S z) r1.b = n * (S r1.a - S r1.b) := by
    show n * S r1.a - n * S r1.b = _
    rw [Int.mul_sub]
  refine ⟨Int.mul_pos (by omega) h0, fun z => n * S z, fun r hr => ?_, fun f => ?_, by show n * S A - n * S B = _; rw [Int.mul_sub]⟩
  · rcases List.mem_cons.1 hr with rfl | hr
    · rw [cR_of (c := S r1.a - S r1.b) hn hc]; exact hc
    · exact q1 r hr
  · have k := s2 f
    rw [lsum_cons, lsum_cons, e4 f] at k
    rw [lsum_cons, q2 f, cR_of (r := ⟨r1.a, r1.b, n, d⟩) (c := S r1.a - S r1.b) hn hc]
    have ha := par_arith (F := f r1.a - f r1.b) hp1 hp2 e1 e3 hnd
    show d * (f r1.a - f r1.b) * (S r1.a - S r1.b) + _ = _
    rw [ha]
    have e : n * T * (f A - f B) = n * (T * (f A - f B)) := by grind
    rw [e, ← k]
    grind
theorem sol_ser {r1 r2 : Res} {rs : List Res} {A B N T n d x o1 o2 : Int} (hp : PosR (r1 :: r2 :: rs)) (hn : 1 ≤ n) (hd : 1 ≤ d)
    (g1 : (r1.a = o1 ∧ r1.b = x) ∨ (r1.a = x ∧ r1.b = o1)) (g2 : (r2.a = o2 ∧ r2.b = x) ∨ (r2.a = x ∧ r2.b = o2)) (x1 : o1 ≠ x) (x2 : o2 ≠ x)
    (hx : ∀ r ∈ rs, r.a ≠ x ∧ r.b ≠ x) (hA : A ≠ x) (hB : B ≠ x)
    (hnd : n * (r1.den * r2.den) = d * (r1.num * r2.den + r2.num * r1.den)) (h : Sol (r1 :: r2 :: rs) A B N T) : Sol (⟨o1, o2, n, d⟩ :: rs) A B (d * N) (d * T) := by
  have hp1 := (hp r1 (by simp)).2
  have hp2 := (hp r2 (by simp)).2
  obtain ⟨h0, S, s1, s2, rfl⟩ := h
  have e1 := s1 r1 (by simp)
  have e2 := s1 r2 (by simp)
  obtain ⟨q1, q2⟩ := sol_rest (S := S) (rs := rs) d (fun r hr => hp r (List.mem_cons_of_mem _ (List.mem_cons_of_mem _ hr))) (fun r hr => s1 r (List.mem_cons_of_mem _ (List.mem_cons_of_mem _ hr)))
  obtain ⟨c1, e3, e4⟩ : ∃ c1, S o1 - S x = r1.num * c1 ∧ ∀ f : Int → Int, r1.den * (f r1.a - f r1.b) * cR S r1 = r1.den * (f o1 - f x) * c1 := by
    rcases g1 with ⟨y1, y2⟩ | ⟨y1, y2⟩
    · rw [y1, y2] at e1
      exact ⟨cR S r1, e1, fun f => by rw [y1, y2]⟩
    · rw [y1, y2] at e1
      exact ⟨-cR S r1, by grind, fun f => by rw [y1, y2]; grind⟩
  obtain ⟨c2, e5, e6⟩ : ∃ c2, S x - S o2 = r2.num * c2 ∧ ∀ f : Int → Int, r2.den * (f r2.a - f r2.b) * cR S r2 = r2.den * (f x - f o2) * c2 := by
    rcases g2 with ⟨y1, y2⟩ | ⟨y1, y2⟩
    · rw [y1, y2] at e2
      exact ⟨-cR S r2, by grind, fun f => by rw [y1, y2]; grind⟩
    · rw [y1, y2] at e2
      exact ⟨cR S r2, e2, fun f => by rw [y1, y2]⟩
  have hI : r2.den * c2 = r1.den * c1 := by
    have k := s2 (fun z => if z = x then 1 else 0)
    rw [lsum_cons, lsum_cons, e4 (fun z => if z = x then 1 else 0), e6 (fun z => if z = x then 1 else 0), lsum_zero (fun r hr => by rw [if_neg (hx r hr).1, if_neg (hx r hr).2]; simp)] at k
    rw [if_neg x1, if_neg x2, if_pos rfl, if_neg hA, if_neg hB] at k
    simp only [Int.sub_self, Int.mul_zero, Int.add_zero] at k
    have k1 : r1.den * (0 - 1) * c1 = -(r1.den * c1) := by grind
    have k2 : r2.den * (1 - 0) * c2 = r2.den * c2 := by grind
    rw [k1, k2] at k
    omega
  have hs := ser_arith (n1 := r1.num) (n2 := r2.num) hp1 hp2 rfl hI hnd
  have hc : (fun z => d * S z) o1 - (fun z => d * S z) o2 = n * (r1.den * c1) := by
    rw [← hs]
    show d * S o1 - d * S o2 = _
    grind
  refine ⟨Int.mul_pos (by omega) h0, fun z => d * S z, fun r hr => ?_, fun f => ?_, by show d * S A - d * S B = _; rw [Int.mul_sub]⟩
  · rcases List.mem_cons.1 hr with rfl | hr
    · rw [cR_of (c := r1.den * c1) hn hc]; exact hc
    · exact q1 r hr
  · have k := s2 f
    rw [lsum_cons, lsum_cons, e4 f, e6 f] at k
    rw [lsum_cons, q2 f, cR_of (r := ⟨o1, o2, n, d⟩) (c := r1.den * c1) hn hc]
    show d * (f o1 - f o2) * (r1.den * c1) + _ = _
    have e : d * T * (f A - f B) = d * (T * (f A - f B)) := by grind
    rw [e, ← k]
    have e7 : r2.den * (f x - f o2) * c2 = (f x - f o2) * (r1.den * c1) := by rw [← hI]; grind
    rw [e7]
    grind
theorem sol_con {rs : List Res} {A B N T : Int} (h : Sol rs A B N T) : allL rs A.toNat = allL rs B.toNat := by
  obtain ⟨h0, S, _, h2, _⟩ := h
  have k := h2 (fun z => if allL rs z.toNat = allL rs A.toNat then 1 else 0)
  rw [lsum_zero (fun r hr => by rw [all_edge hr]; simp)] at k
  rw [if_pos rfl] at k
  by_cases e : allL rs B.toNat = allL rs A.toNat
  · exact e.symm
  · rw [if_neg e] at k
    simp at k
    omega
theorem NetAB.sol (X : NetAB) : Sol X.rs X.a X.b X.N X.T := by
  refine ⟨X.T_pos, X.S, fun r hr => ?_, fun f => ?_, ?_⟩
  · exact (X.cur_eq hr).1
  · have k := X.law (fun n => f (n : Int))
    rw [← k]
    refine lsum_congr (fun r hr => ?_)
    obtain ⟨h1, h2, _⟩ := X.res_in hr
    have a1 : ((r.a.toNat : Nat) : Int) = r.a := by omega
    have a2 : ((r.b.toNat : Nat) : Int) = r.b := by omega
    rw [a1, a2]
    rfl
  · have := X.S_b
    rw [this]
    show X.S X.a - 0 = X.S X.a
    omega
set_option maxRecDepth 100000 in
set_option maxHeartbeats 8000000 in
theorem implRen_any (x : Nl) (names : List Int) (sn : Value) (nets2 : Int) (v : Value) (w : World) (h : NlV w v x) (hn : IntSl w sn names) (hl : x.ds.length ≤ 24) (hpl : x.ps.length ≤ 8)
    (hpn : ∀ d ∈ x.ds, d.pins.length ≤ 3 ∧ d.pins ≠ [] ∧ ∀ p ∈ d.pins, 0 ≤ p ∧ p < names.length) (hpp : ∀ p ∈ x.ps, 0 ≤ p.net ∧ p.net < names.length) :
    Calls Tryz.prog 60 #[v, sn, .int .i64 nets2] w fun e w' => ∃ v', e = .returned v' ∧ OwnNl w' w.heap.size w'.heap.size v' (renS x names nets2) ∧ Below w.heap.size w w' := by
  have HCP := Lib.hid (fun v w h => copyNetlist_any x v w h (by omega) (by omega) (fun d hd => ⟨by have := (hpn d hd).1; omega, (hpn d hd).2.1⟩))
  have HV := Lib.hid h
  obtain ⟨a, c, a', c', rfl⟩ := h.sized
  obtain ⟨nets, ds, ps⟩ := x
  dsimp only at HCP HV hl hpl hpn hpp ⊢
  have HN := Lib.hid hn
  have HPN := Lib.hid hpn
  have HPP := Lib.hid hpp
  have HST := Lib.hid (upTo_step (renD names) ds)
  have HGT := Lib.hid (upTo_get (renD names) ds)
  have HLU := Lib.hid (length_upTo (renD names) ds)
  have HST2 := Lib.hid (upTo_step (renP names) ps)
  have HGT2 := Lib.hid (upTo_get (renP names) ps)
  have HLU2 := Lib.hid (length_upTo (renP names) ps)
  obtain ⟨an, cn, rfl⟩ := hn.len
  clear h hn hpn hpp
  go_enter Tryz.func60, Tryz.ntmps60
  go_wp2_with fail
  refine (HCP.out _ _ (HV.out.by blwT)).mono ?_
  rintro e w2 ⟨v2, rfl, hO, hb2⟩
  obtain ⟨s1, s2, lo1, hi1, lo2, hi2, rfl, hOD, hOP, hi1', hi2', hap⟩ := hO
  have kR : Blk w2 (w.heap.size + 1) #[.int .i64 0, .slice none 0 0, .slice none 0 0] 27 := blkT
  have hB2 : Below w.heap.size w w2 := blwT
  have hsz2 := hb2.size
  have lR := kR.lt
  obtain ⟨a1, c1, rfl⟩ := hOD.sl.sized
  obtain ⟨a2, c2, rfl⟩ := hOP.sl.sized
  dsimp only at hOD hOP
  have HOD := Lib.hid hOD
  have HOP := Lib.hid hOP
  simp only [World.size_alloc] at hsz2 hi1' hi2'
  clear hb2 hOD hOP HV HCP
  obtain ⟨P, hP⟩ : ∃ P, w2.heap.size = P := ⟨_, rfl⟩
  have hPl : w.heap.size + 1 < P := by omega
  have HP := Lib.hid hP
  have hi1P : hi1 ≤ P := by omega
  have hi2P : hi2 ≤ P := by omega
  clear hP
  go_wp2
  rw [HP.out]
  go_loopw [21] (fun i wr => ∃ k : Nat, k ≤ ds.length ∧ i = .int .i64 k ∧ Blk wr P #[.int .i64 nets2, .slice a1 ds.length c1, .slice a2 ps.length c2] 27 ∧ Blk wr (w.heap.size + 1) #[.int .i64 0, .slice none 0 0, .slice none 0 0] 27 ∧
    Hid (OwnDs wr lo1 hi1 (.slice a1 ds.length c1) (upTo (renD names) ds k)) ∧ Hid (OwnPs wr lo2 hi2 (.slice a2 ps.length c2) ps) ∧ Below w.heap.size w wr) (fun i _ => ds.length - (intOf i).toNat)
  case atStart =>
    refine ⟨0, Nat.zero_le _, rfl, Blk.new _ HP.out.symm, blkT, Lib.hid ?_, Lib.hid (HOP.out.by ((Below.refl _ w2).alloc (Nat.le_refl _) _)), blwT⟩
    rw [upTo_zero]
    exact HOD.out.by ((Below.refl _ w2).alloc (Nat.le_refl _) _)
  case round =>
    obtain ⟨k, hk, rfl, kP, kR, HD, HPo, hb⟩ := hrel
    by_cases hlt : k < ds.length
    · obtain ⟨x, hx⟩ : ∃ x, ds[k]? = some x := ⟨ds[k], List.getElem?_eq_getElem hlt⟩
      obtain ⟨hxl, hxn, hxp⟩ := HPN.out x (List.mem_of_getElem? hx)
      obtain ⟨g, cap, cs, fb, pv, he, kG, ⟨d0, d1, d2, d3⟩, hOR, hfb, hg, hfg, _, hset⟩ := HD.out.setPins (HGT.out k x hx)
      rw [HLU.out] at he
      obtain ⟨rfl, rfl⟩ : a1 = some ⟨g, 0, none⟩ ∧ c1 = cap := by simpa using he
      obtain ⟨gb, capb, csb, rfl, hgb, hcb, hmb, kB, hIC0⟩ := hOR.cells hxn
      have hgf : gb = fb := by omega
      subst hgf
      have HX := Lib.hid hx
      have HXP := Lib.hid hxp
      have HSET := Lib.hid hset
      have HIC := Lib.hid (show ICs csb (renTo names x.pins 0) by rw [renTo_zero]; exact hIC0)
      have qG := kG.cell
      have lGb := kB.lt
      have lP := kP.lt
      have lRr := kR.lt
      have lG := kG.lt
      have i1 : (0 : Int) ≤ (k : Int) := by omega
      have i2 : (k : Int) < (ds.length : Int) := by omega
      obtain ⟨wo, hwo⟩ : ∃ x : World, x = wr := ⟨_, rfl⟩
      subst hwo
      clear hx hxp hset hIC0 he hOR
      go_wp2
      obtain ⟨D, hD⟩ : ∃ D, wo.heap.size = D := ⟨_, rfl⟩
      obtain ⟨wA, hwA⟩ : ∃ wA, wA = wo.alloc (.cells #[.int .i64 x.kind, .slice (some ⟨gb, 0, none⟩) x.pins.length capb, .int .i64 x.wd, .int .i64 x.len] 46) := ⟨_, rfl⟩
      have kD : Blk wA D #[.int .i64 x.kind, .slice (some ⟨gb, 0, none⟩) x.pins.length capb, .int .i64 x.wd, .int .i64 x.len] 46 := by rw [hwA]; exact Blk.new _ hD.symm
      have kBA : Blk wA gb csb 2 := by rw [hwA]; exact kB.past _
      have hbA : Below w.heap.size w wA := by rw [hwA]; exact below_al hb _
      have hWA : Within gb (gb + 1) wo wA := by rw [hwA]; exact (Within.refl _ _ _).alloc _
      have hgD : gb ≠ D := by omega
      rw [← hwA, hD]
      clear hwA hD
      go_loopw [28] (fun i wr2 => ∃ m : Nat, m ≤ x.pins.length ∧ i = .int .i64 m ∧ Blk wr2 D #[.int .i64 x.kind, .slice (some ⟨gb, 0, none⟩) x.pins.length capb, .int .i64 x.wd, .int .i64 x.len] 46 ∧ (∃ cs, Blk wr2 gb cs 2 ∧ Hid (ICs cs (renTo names x.pins m))) ∧ Within gb (gb + 1) wA wr2) (fun i _ => x.pins.length - (intOf i).toNat)
      case atStart => exact ⟨0, Nat.zero_le _, rfl, kD, ⟨csb, kBA, HIC⟩, Within.refl _ _ _⟩
      case round =>
        clear kD kBA HIC
        obtain ⟨m, hm, rfl, kD, ⟨cs2, kB2, HIC⟩, hW2⟩ := hrel
        have cD := kD.cell
        by_cases hlt2 : m < x.pins.length
        · obtain ⟨z, hz⟩ : ∃ z, x.pins[m]? = some z := ⟨x.pins[m], List.getElem?_eq_getElem hlt2⟩
          obtain ⟨hz0, hz1⟩ := HXP.out z (List.mem_of_getElem? hz)
          have cB := kB2.cell
          have fB := kB2.free
          have cz := HIC.out m z (renTo_get names x.pins m z hz)
          have hNw := HN.out.by (hW2.below hbA (by omega))
          obtain ⟨q, rfl⟩ : ∃ q : Nat, z = q := ⟨z.toNat, by omega⟩
          rcases hNw with ⟨_, _, _, h2⟩ | ⟨nb, noff, ncap, hen, _, _, hcn⟩
          · rw [h2] at hz1; simp at hz1; omega
          obtain ⟨rfl, rfl⟩ : an = some ⟨nb, noff, none⟩ ∧ cn = ncap := by simpa using hen
          have hq : q < names.length := by omega
          have cnm := hcn q names[q] (List.getElem?_eq_getElem hq)
          have hnm : nmOf names (q : Int) = names[q] := by simp [nmOf, hq]
          have HZ := Lib.hid hz
          have HNM := Lib.hid hnm
          generalize names[q] = y at *
          have j1 : (0 : Int) ≤ (m : Int) := by omega
          have j2 : (m : Int) < (x.pins.length : Int) := by omega
          clear hz hnm hen hcn hq
          go_wp2_with fail
          go_region
          all_goals go_wp2_with fail
          exact ⟨⟨m + 1, by omega, by go_num, (kD.apart gb m _ (by omega)).drew, ⟨cs2.setIfInBounds m (.int .i64 y), (kB2.set m _).drew, Lib.hid (by rw [← renTo_step names x.pins m q HZ.out, HNM.out]; exact HIC.out.set m y)⟩, (hW2.set gb m _ (Nat.le_refl _) (by omega)).drewN 1⟩, by simp [intOf]; omega⟩
        · obtain rfl : m = x.pins.length := by omega
          have hIC1 : ICs cs2 (x.pins.map (nmOf names)) := by have := HIC.out; rwa [renTo_all] at this
          have hW := hWA.on hW2
          have hR1 := hIC1.own kB2 (by rw [List.length_map]; exact hcb) hmb
          rw [List.length_map] at hR1
          have HD1 := Lib.hid (HSET.out wr (x.pins.map (nmOf names)) (List.length_map _) hW hR1)
          have HP1 := Lib.hid (HPo.out.past hW (by omega))
          have kP1 := hW.blk kP (by omega)
          have kR1 := hW.blk kR (by omega)
          have hb1 := hW.below hb (by omega)
          clear hIC1 hR1 hW
          go_wp2
          refine ⟨⟨k + 1, by omega, by go_num, kP1, kR1, Lib.hid ?_, HP1, hb1⟩, by simp [intOf]; omega⟩
          rw [← HST.out k x HX.out]
          exact HD1.out
    · obtain rfl : k = ds.length := by omega
      have hDa := HD.out
      rw [upTo_all] at hDa
      have HDA := Lib.hid hDa
      have qP := kP.cell
      obtain ⟨wo, hwo⟩ : ∃ x : World, x = wr := ⟨_, rfl⟩
      subst hwo
      clear hDa HD
      go_wp2
      clear qP
      go_loopw [46] (fun i wx => ∃ j : Nat, j ≤ ps.length ∧ i = .int .i64 j ∧ Blk wx P #[.int .i64 nets2, .slice a1 ds.length c1, .slice a2 ps.length c2] 27 ∧ Blk wx (w.heap.size + 1) #[.int .i64 0, .slice none 0 0, .slice none 0 0] 27 ∧
        Hid (OwnDs wx lo1 hi1 (.slice a1 ds.length c1) (ds.map (renD names))) ∧ Hid (OwnPs wx lo2 hi2 (.slice a2 ps.length c2) (upTo (renP names) ps j)) ∧ Below w.heap.size w wx) (fun i _ => ps.length - (intOf i).toNat)
      case atStart => exact ⟨0, Nat.zero_le _, rfl, kP, kR, HDA, Lib.hid (by rw [upTo_zero]; exact HPo.out), hb⟩
      case round =>
        clear kP kR HDA HPo hb
        obtain ⟨j, hj, rfl, kP, kR, HDA, HPo, hb⟩ := hrel
        by_cases hlt2 : j < ps.length
        · obtain ⟨x, hx⟩ : ∃ x, ps[j]? = some x := ⟨ps[j], List.getElem?_eq_getElem hlt2⟩
          obtain ⟨hx0, hx1⟩ := HPP.out x (List.mem_of_getElem? hx)
          obtain ⟨g2, cap2, cs2, he, kG, ⟨d0, d1⟩, hg, _, hset⟩ := HPo.out.setNet (HGT2.out j x hx)
          rw [HLU2.out] at he
          obtain ⟨rfl, rfl⟩ : a2 = some ⟨g2, 0, none⟩ ∧ c2 = cap2 := by simpa using he
          obtain ⟨q, hq⟩ : ∃ q : Nat, x.net = q := ⟨x.net.toNat, by omega⟩
          rcases HN.out.by hb with ⟨_, _, _, e2⟩ | ⟨nb, noff, ncap, hen, _, _, hcn⟩
          · rw [e2] at hx1; simp at hx1; omega
          obtain ⟨rfl, rfl⟩ : an = some ⟨nb, noff, none⟩ ∧ cn = ncap := by simpa using hen
          have hql : q < names.length := by omega
          have cnm := hcn q names[q] (List.getElem?_eq_getElem hql)
          have hren : renP names x = ⟨x.name, names[q]⟩ := by simp [renP, nmOf, hq, hql]
          rw [hq] at d1
          have lNm := lt_of_cell cnm
          dsimp only at lNm
          generalize names[q] = y at *
          have HX := Lib.hid hx
          have HRE := Lib.hid hren
          have HSET := Lib.hid (fun w' hB => hset w' y hB)
          have j1 : (0 : Int) ≤ (j : Int) := by omega
          have j2 : (j : Int) < (ps.length : Int) := by omega
          have k1 : (0 : Int) ≤ (q : Int) := by omega
          have k2 : (q : Int) < (names.length : Int) := by omega
          have qG := kG.cell
          have fG := kG.free
          have lG := kG.lt
          have qP := kP.cell
          have lP := kP.lt
          have lRr := kR.lt
          obtain ⟨nm, hnm⟩ : ∃ nm, x.name = nm := ⟨_, rfl⟩
          rw [hnm] at d0
          clear hx hq hen hcn hren hnm hset he hx0 hx1
          go_wp2_with fail
          go_region
          all_goals go_wp2_with fail
          have hW1 : Within g2 (g2 + 1) wr (wr.setCell ⟨g2, j * 2 + 1, none⟩ (.int .i64 y)) := Within.off _
          have hb' : Below (wr.setCell ⟨g2, j * 2 + 1, none⟩ (.int .i64 y)).heap.size (wr.setCell ⟨g2, j * 2 + 1, none⟩ (.int .i64 y)) ((wr.setCell ⟨g2, j * 2 + 1, none⟩ (.int .i64 y)).alloc (.cells #[.string nm, .int .i64 q] 70)).drew := ((Below.refl _ _).alloc (Nat.le_refl _) _).drew
          refine ⟨⟨j + 1, by omega, by go_num, Blk.by hb' (hW1.blk kP (by omega)), Blk.by hb' (hW1.blk kR (by omega)), Lib.hid ((HDA.out.past hW1 (by omega)).by hb'), Lib.hid ?_, (hW1.below hb (by omega)).trans (hb'.mono (by simp; omega))⟩, by simp [intOf]; omega⟩
          rw [← HST2.out j x HX.out, HRE.out]
          exact (HSET.out _ (kG.set _ _)).by hb'
        · obtain rfl : j = ps.length := by omega
          have hPa := HPo.out
          rw [upTo_all] at hPa
          have HPA := Lib.hid hPa
          have qP := kP.cell
          have qR := kR.cell
          have fR := kR.free
          have lRr := kR.lt
          have hbs := kP.lt
          clear hPa HPo
          go_wp2
          refine bodyPost_ret (v := .agg #[.int .i64 nets2, .slice a1 ds.length c1, .slice a2 ps.length c2]) (by simp [results, Tryz.results60, go_sem, *]) rfl ⟨_, rfl, ⟨_, _, lo1, hi1, lo2, hi2, rfl, ?_, ?_, ⟨by omega, by simp; omega⟩, ⟨by omega, by simp; omega⟩, hap⟩, ?_⟩
          · exact ((HDA.out.past (Within.off _) (by omega)).past (Within.off _) (by omega)).past (Within.off _) (by omega)
          · exact ((HPA.out.past (Within.off _) (by omega)).past (Within.off _) (by omega)).past (Within.off _) (by omega)
          · repeat (first | (with_reducible exact hb) | ((with_reducible refine Below.setCell ?_ ?_ _); rotate_left; focus (simp; try omega)))
/- The reference's l27Rename. -/
/- Renamed netlists: what both functions share. -/
theorem nl_nets {x : Nl} (h : nlB x = true) : ∀ p ∈ x.ps, 0 ≤ p.net ∧ p.net < x.nets := by
  intro p hp
  obtain ⟨i, hi, e⟩ := List.mem_iff_getElem.1 hp
  have := (nlB_facts h).2.2.2.2 i hi
  have hg : x.ps[i]? = some p := by rw [List.getElem?_eq_getElem hi, e]
  simp only [ptOk, hg, Bool.and_eq_true] at this
  have h2 := inB_iff.1 this.2.1
  omega
theorem implRenW_any (x : Nl) (names : List Int) (sn : Value) (nets2 : Int) (v : Value) (w : World) (h : NlV w v x) (hn : IntSl w sn names) (hl : x.ds.length ≤ 24) (hpl : x.ps.length ≤ 8)
    (hpn : ∀ d ∈ x.ds, d.pins.length ≤ 3 ∧ d.pins ≠ [] ∧ ∀ p ∈ d.pins, 0 ≤ p ∧ p < names.length) (hpp : ∀ p ∈ x.ps, 0 ≤ p.net ∧ p.net < names.length) :
    Calls Tryz.prog 60 #[v, sn, .int .i64 nets2] w fun e w' => ∃ v', e = .returned v' ∧ OwnNl w' w.heap.size w'.heap.size v' (renS x names nets2) ∧ Below w.heap.size w w' := implRen_any x names sn nets2 v w h hn hl hpl hpn hpp
/- Netlists without the nets that nothing refers to: the plain part. -/
def usedB (x : Nl) (net : Int) : Bool := decide (0 < degN x.ds net) || portB x.ps net
def cnt (x : Nl) : Nat → Nat
  | 0 => 0
  | k + 1 => cnt x k + if usedB x k = true then 1 else 0
theorem cnt_succ (x : Nl) (k : Nat) : cnt x (k + 1) = cnt x k + if usedB x k = true then 1 else 0 := rfl
theorem cnt_le (x : Nl) (k : Nat) : cnt x k ≤ k := by
  induction k with
  | zero => exact Nat.le_refl _
  | succ k ih => simp only [cnt]; split <;> omega
def nmC (x : Nl) (n : Nat) : List Int := (List.range n).map fun i => (cnt x i : Int)
theorem length_nmC (x : Nl) (n : Nat) : (nmC x n).length = n := by simp [nmC]
def nmTo (x : Nl) (n k : Nat) : List Int := (List.range n).map fun i => if i < k then (cnt x i : Int) else 0
theorem length_nmTo (x : Nl) (n k : Nat) : (nmTo x n k).length = n := by simp [nmTo]
theorem nmTo_all (x : Nl) (n : Nat) : nmTo x n n = nmC x n := by
  apply List.ext_getElem?
  intro i
  by_cases hi : i < n
  · simp [nmTo, nmC, hi]
  · rw [List.getElem?_eq_none (by rw [length_nmTo]; omega), List.getElem?_eq_none (by rw [length_nmC]; omega)]
theorem nmTo_step (x : Nl) (n k : Nat) (hk : k < n) : (nmTo x n k).set k (cnt x k : Int) = nmTo x n (k + 1) := by
  apply List.ext_getElem?
  intro i
  by_cases e : k = i
  · subst e
    rw [List.getElem?_set_self (by rw [length_nmTo]; exact hk)]
    simp [nmTo, hk]
  · rw [List.getElem?_set_ne e]
    by_cases hi : i < n
    · simp only [nmTo, List.getElem?_map, List.getElem?_range hi, Option.map_some]
      congr 1
      by_cases h : i < k
      · rw [if_pos h, if_pos (by omega)]
      · rw [if_neg h, if_neg (by omega)]
    · rw [List.getElem?_eq_none (by rw [length_nmTo]; omega), List.getElem?_eq_none (by rw [length_nmTo]; omega)]
def usN (x : Nl) (j i : Nat) : Nat := degN x.ds i + ((x.ps.take j).map Pt.net).count (i : Int)
def usT (x : Nl) (n j : Nat) : List Int := (List.range n).map fun i => (usN x j i : Int)
theorem length_usT (x : Nl) (n j : Nat) : (usT x n j).length = n := by simp [usT]
theorem usT_get (x : Nl) (n j i : Nat) (h : i < n) : (usT x n j)[i]? = some (usN x j i : Int) := by simp [usT, h]
theorem usN_step (x : Nl) (j i q : Nat) (p : Pt) (hp : x.ps[j]? = some p) (hq : p.net = (q : Int)) : usN x (j + 1) i = usN x j i + if q = i then 1 else 0 := by
  unfold usN
  rw [take_snoc_of x.ps j p hp, List.map_append, List.count_append]
  simp only [List.map_cons, List.map_nil, hq, List.count_cons, List.count_nil]
  by_cases e : q = i
  · subst e; simp; omega
  · rw [if_neg e]; simp; omega
theorem usT_step (x : Nl) (n j q : Nat) (p : Pt) (hp : x.ps[j]? = some p) (hq : p.net = (q : Int)) (hqn : q < n) : (usT x n j).set q ((usN x j q : Int) + 1) = usT x n (j + 1) := by
  apply List.ext_getElem?
  intro i
  by_cases e : q = i
  · subst e
    rw [List.getElem?_set_self (by rw [length_usT]; exact hqn), usT_get _ _ _ _ hqn, usN_step x j q q p hp hq, if_pos rfl]
    simp
  · rw [List.getElem?_set_ne e]
    by_cases hi : i < n
    · rw [usT_get _ _ _ _ hi, usT_get _ _ _ _ hi, usN_step x j i q p hp hq, if_neg e]; simp
    · rw [List.getElem?_eq_none (by rw [length_usT]; omega), List.getElem?_eq_none (by rw [length_usT]; omega)]
theorem usN_used (x : Nl) (i : Nat) : decide (0 < usN x x.ps.length i) = usedB x i := by
  unfold usN usedB
  rw [List.take_length]
  have h : portB x.ps (i : Int) = decide (0 < (x.ps.map Pt.net).count (i : Int)) := by
    rw [Bool.eq_iff_iff]
    simp [portB, List.count_pos_iff]
  rw [h, Bool.eq_iff_iff, Bool.or_eq_true, decide_eq_true_iff, decide_eq_true_iff, decide_eq_true_iff]
  omega
theorem usN_le (x : Nl) (j i : Nat) (h1 : x.ds.length ≤ 24) (h2 : ∀ d ∈ x.ds, d.pins.length ≤ 3) (h3 : x.ps.length ≤ 8) : usN x j i ≤ 80 := by
  have a := degN_le x.ds i h2
  have b := List.count_le_length (a := (i : Int)) (l := (x.ps.take j).map Pt.net)
  have c := List.length_take (i := j) (l := x.ps)
  rw [List.length_map] at b
  unfold usN
  omega
def cmS (x : Nl) : Nl := if nlB x = true then renS x (nmC x x.nets.toNat) (cnt x x.nets.toNat) else ⟨0, [], []⟩
theorem IBlk.set {w : World} {g : Nat} {zs : List Int} (h : IBlk w g zs) (k : Nat) (y : Int) : IBlk (w.setCell ⟨g, k, none⟩ (.int .i64 y)) g (zs.set k y) := by
  obtain ⟨cs, h1, h2, h3⟩ := h
  exact ⟨_, h1.set k _, by simp [h2], ICs.set (cs := cs) h3 k y⟩
/- CompactNets, the program's. -/
set_option maxRecDepth 100000 in
set_option maxHeartbeats 8000000 in
theorem compact_any (x : Nl) (v : Value) (w : World) (h : NlV w v x) (hb : nlB x = true) :
    Calls Tryz.prog 27 #[v] w fun e w' => ∃ v', e = .returned v' ∧ OwnNl w' w.heap.size w'.heap.size v' (cmS x) ∧ Below w.heap.size w w' := by
  have HN := Lib.hid h
  obtain ⟨rr, hrr⟩ : ∃ r, cmS x = r := ⟨_, rfl⟩
  rw [hrr]
  unfold cmS at hrr
  rw [if_pos hb] at hrr
  obtain ⟨⟨hn0, hn1⟩, hd24, hp8, hdv, _⟩ := nlB_facts hb
  have hnet := nl_nets hb
  obtain ⟨m, hm⟩ : ∃ m : Nat, x.nets = m := ⟨x.nets.toNat, by omega⟩
  have hm24 : m ≤ 24 := by omega
  have HDG := Lib.hid (fun v w h => degrees_any x m v w h hm hm24 hd24 (fun d hd => (dvB_pins (hdv d hd)).1) (fun d hd => (dvB_pins (hdv d hd)).2.2))
  rw [hm, Int.toNat_natCast] at hrr
  have HR := Lib.hid (fun v sn w h h' => implRenW_any x (nmC x m) sn (cnt x m : Int) v w h h' hd24 hp8 (fun d hd => by have q := dvB_pins (hdv d hd); exact ⟨q.1, fun e => by rw [e] at q; simp at q, fun z hz => by have := q.2.2 z hz; rw [length_nmC]; omega⟩) (fun p hp => by have := hnet p hp; rw [length_nmC]; omega))
  rw [hrr] at HR
  have HCL := Lib.hid (cnt_le x)
  have HCS := Lib.hid (cnt_succ x)
  have HUS := Lib.hid (usN_used x)
  have HUL := Lib.hid (fun j i => usN_le x j i hd24 (fun d hd => (dvB_pins (hdv d hd)).1) hp8)
  have HUT := Lib.hid (fun j q p => usT_step x m j q p)
  have HUG := Lib.hid (fun j q => usT_get x m j q)
  have HLU := Lib.hid (fun j => length_usT x m j)
  have HNS := Lib.hid (fun k => nmTo_step x m k)
  have HLT := Lib.hid (fun k => length_nmTo x m k)
  have HNA := Lib.hid (nmTo_all x m)
  have HLC := Lib.hid (length_nmC x m)
  have HD0 := Lib.hid (show usT x m 0 = degs m x.ds by simp [usT, degs, usN])
  have HNET := Lib.hid (fun p (hp : p ∈ x.ps) => (by have := hnet p hp; omega : 0 ≤ p.net ∧ p.net < (m : Int)))
  obtain ⟨s1, s2, rfl, hd, hp⟩ := h
  have HP := Lib.hid hp
  obtain ⟨a, c, rfl⟩ := hd.sized
  obtain ⟨a', c', rfl⟩ := hp.sized
  rw [hm] at HN ⊢
  generalize x.ds.length = l1 at *
  obtain ⟨l2, hl2⟩ : ∃ l2, x.ps.length = l2 := ⟨_, rfl⟩
  rw [hl2] at HN HP HUS hp8 ⊢
  have HL2 := Lib.hid hl2
  clear hb hnet hdv hm hrr hn0 hn1 hd hp hl2
  go_enter Tryz.func27, Tryz.ntmps27
  go_wp2_with fail
  refine (HDG.out _ _ (HN.out.by blwT)).mono ?_
  rintro e w1 ⟨g, rfl, hG, hge, hb1⟩
  have kA : Blk w1 w.heap.size #[.int .i64 (m : Int), .slice a l1 c, .slice a' l2 c'] 27 := blkT
  have kR : Blk w1 (w.heap.size + 1) #[.int .i64 0, .slice none 0 0, .slice none 0 0] 27 := blkT
  have hW : Below w.heap.size w w1 := blwT
  simp only [World.size_alloc] at hge
  have qA := kA.cell
  have HG := Lib.hid (show IBlk w1 g (usT x m 0) by rw [HD0.out]; exact hG)
  clear hb1 hG
  go_wp2
  clear qA
  go_loopw [15] (fun i wr => ∃ j : Nat, j ≤ l2 ∧ i = .int .i64 j ∧ Hid (IBlk wr g (usT x m j)) ∧ Blk wr w.heap.size #[.int .i64 (m : Int), .slice a l1 c, .slice a' l2 c'] 27 ∧ Blk wr (w.heap.size + 1) #[.int .i64 0, .slice none 0 0, .slice none 0 0] 27 ∧ Below w.heap.size w wr) (fun i _ => l2 - (intOf i).toNat)
  case atStart => exact ⟨0, Nat.zero_le _, rfl, HG, kA, kR, hW⟩
  case round =>
    clear HG kA kR hW
    obtain ⟨j, hj, rfl, HG, kA, kR, hW⟩ := hrel
    by_cases hlt : j < l2
    · have hl2 := HL2.out
      obtain ⟨p, hp⟩ : ∃ p, x.ps[j]? = some p := ⟨x.ps[j]'(by omega), List.getElem?_eq_getElem (by omega)⟩
      obtain ⟨hp0, hp1⟩ := HNET.out p (List.mem_of_getElem? hp)
      have hPw := HP.out.by hW
      rcases hPw with ⟨_, _, _, e2⟩ | ⟨pb, poff, pcap, pe, p2, p3, p4⟩
      · rw [e2] at hl2; simp at hl2; omega
      rw [hl2] at pe
      obtain ⟨rfl, rfl⟩ : a' = some ⟨pb, poff, none⟩ ∧ c' = pcap := by simpa using pe
      obtain ⟨d1, d2⟩ := p4 j p hp
      obtain ⟨q, hq⟩ : ∃ q : Nat, p.net = q := ⟨p.net.toNat, by omega⟩
      rw [hq] at d2 hp1
      have hqm : q < m := by omega
      obtain ⟨cs, kG, hcsz, hcs⟩ := HG.out
      have cg := hcs q _ (HUG.out j q hqm)
      have hul := HUL.out j q
      obtain ⟨u, hu⟩ : ∃ u, usN x j q = u := ⟨_, rfl⟩
      have HST := Lib.hid (HUT.out j q p hp hq hqm)
      rw [hu] at cg hul
      have HU := Lib.hid hu
      obtain ⟨nm, hnm⟩ : ∃ nm, p.name = nm := ⟨_, rfl⟩
      rw [hnm] at d1
      have qG := kG.cell
      have fG := kG.free
      have lG := kG.lt
      have lA := kA.lt
      have lR := kR.lt
      have i1 : (0 : Int) ≤ (j : Int) := by omega
      have i2 : (j : Int) < (l2 : Int) := by omega
      have i3 : (0 : Int) ≤ (q : Int) := by omega
      have i4 : (q : Int) < (m : Int) := by omega
      clear hl2 hp p4 pe hq hcs hcsz hu hnm p2 p3 hp0 hp1
      go_wp2
      refine ⟨⟨j + 1, by omega, by go_num, Lib.hid ?_, ?_, ?_, ?_⟩, by simp [intOf]; omega⟩
      · rw [← HST.out, HU.out]
        exact (HG.out.set q _).alloc _
      · exact (kA.apart g q _ (by omega)).past _
      · exact (kR.apart g q _ (by omega)).past _
      · exact blwT
    · obtain rfl : j = l2 := by omega
      obtain ⟨wo, hwo⟩ : ∃ x : World, x = wr := ⟨_, rfl⟩
      subst hwo
      obtain ⟨cs0, hcs0, hcz, hmk⟩ := make_ints m (by omega) wo
      have HI0 : ICs cs0 (nmTo x m 0) := by
        intro i z hz
        have hi : i < m := by have := (List.getElem?_eq_some_iff.1 hz).1; rw [HLT.out] at this; exact this
        simp [nmTo, hi] at hz
        subst hz
        exact hcz i hi
      have HI := Lib.hid HI0
      have hHG := HG.out
      have HGL := Lib.hid (show IntSl wo (.slice (some ⟨g, 0, none⟩) m m) (usT x m j) by have := hHG.sl (by rw [HLU.out]; omega); rwa [HLU.out] at this)
      have lG := hHG.lt
      have lA := kA.lt
      have lR := kR.lt
      have qA := kA.cell
      have hWs := hW.size
      clear HI0 hcz hHG HG
      go_wp2
      clear hmk qA
      go_loopw [7, 32] (fun nx i wr => ∃ k : Nat, k ≤ m ∧ i = .int .i64 k ∧ nx = .int .i64 (cnt x k : Int) ∧ (∃ cs : Array Value, Blk wr wo.heap.size cs 2 ∧ cs.size = m ∧ Hid (ICs cs (nmTo x m k))) ∧ Blk wr w.heap.size #[.int .i64 (m : Int), .slice a l1 c, .slice a' j c'] 27 ∧ Blk wr (w.heap.size + 1) #[.int .i64 0, .slice none 0 0, .slice none 0 0] 27 ∧ Below wo.heap.size wo wr) (fun _ i _ => m - (intOf i).toNat)
      case atStart => exact ⟨0, Nat.zero_le _, rfl, rfl, ⟨cs0, Blk.new _ rfl, hcs0, HI⟩, kA.past _, kR.past _, (Below.refl _ wo).alloc (Nat.le_refl _) _⟩
      case round =>
        clear kA kR HI hcs0
        obtain ⟨k, hk, rfl, rfl, ⟨cs, kB, hsz, HIC⟩, kA, kR, hWo⟩ := hrel
        have hW2 := below_on hWo hW
        by_cases hlt2 : k < m
        · have hcl := HCL.out k
          have hul := HUL.out j k
          have HCK := HCS.out k
          have hcell := (HGL.out.by hWo)
          rcases hcell with ⟨_, _, _, e2⟩ | ⟨gb, goff, gcap, ge, g2, g3, g4⟩
          · have := HLU.out j; rw [e2] at this; simp at this; omega
          obtain ⟨rfl, rfl, rfl⟩ : g = gb ∧ 0 = goff ∧ m = gcap := by
            have e := ge
            simp only [Value.slice.injEq, Option.some.injEq, Addr.mk.injEq] at e
            exact ⟨e.1.1, e.1.2.1, e.2.2⟩
          have cu := g4 k _ (HUG.out j k hlt2)
          rw [← HUS.out] at HCK
          obtain ⟨u, hu⟩ : ∃ u, usN x j k = u := ⟨_, rfl⟩
          obtain ⟨ck, hck⟩ : ∃ ck, cnt x k = ck := ⟨_, rfl⟩
          have HST := Lib.hid (HNS.out k hlt2)
          rw [hu] at cu hul HCK
          rw [hck] at hcl HCK
          have HCKh := Lib.hid HCK
          have HCE := Lib.hid hck
          rw [hck]
          have HSZ := Lib.hid hsz
          obtain ⟨u0_, d0⟩ : ∃ u, cs[k]? = some u := ⟨_, Array.getElem?_eq_getElem (by omega)⟩
          have cu' : wr.cell? ⟨g, k, none⟩ = some (.int .i64 u) := by simpa using cu
          have qB := kB.cell
          have fB := kB.free
          have lB := kB.lt
          have i1 : (0 : Int) ≤ (k : Int) := by omega
          have i2 : (k : Int) < (m : Int) := by omega
          clear cu g4 ge g2 g3 hu hck HCK hsz
          by_cases h0 : 0 < u
          · have dd : decide (0 < u) = true := decide_eq_true h0
            have HC := Lib.hid (show cnt x (k + 1) = ck + 1 by rw [HCKh.out]; simp [h0])
            go_wp2
            refine ⟨⟨k + 1, by omega, by go_num, by rw [HC.out]; go_num, ⟨cs.setIfInBounds k (.int .i64 (ck : Int)), kB.set _ _, by simp [HSZ.out], Lib.hid ?_⟩, kA.apart _ _ _ (by omega), kR.apart _ _ _ (by omega), hWo.setCell (by simp) _⟩, by simp [intOf]; omega⟩
            have e := HST.out
            rw [HCE.out] at e
            rw [← e]
            exact HIC.out.set k _
          · have dd : decide (0 < u) = false := decide_eq_false h0
            have HC := Lib.hid (show cnt x (k + 1) = ck by rw [HCKh.out]; simp [h0])
            go_wp2
            refine ⟨⟨k + 1, by omega, by go_num, by rw [HC.out], ⟨cs.setIfInBounds k (.int .i64 (ck : Int)), kB.set _ _, by simp [HSZ.out], Lib.hid ?_⟩, kA.apart _ _ _ (by omega), kR.apart _ _ _ (by omega), hWo.setCell (by simp) _⟩, by simp [intOf]; omega⟩
            have e := HST.out
            rw [HCE.out] at e
            rw [← e]
            exact HIC.out.set k _
        · obtain rfl : k = m := by omega
          have hIC : ICs cs (nmC x k) := by have := HIC.out; rwa [HNA.out] at this
          have HSL := Lib.hid (show IntSl wr (.slice (some ⟨wo.heap.size, 0, none⟩) k k) (nmC x k) from by
            refine .inr ⟨wo.heap.size, 0, k, by rw [HLC.out], by rw [HLC.out]; exact Nat.le_refl _, by unfold maxLen; omega, fun i z hz => ?_⟩
            rw [Nat.zero_add, kB.cell]; exact hIC i z hz)
          have qA := kA.cell
          have lR2 := kR.lt
          have hWs2 := hWo.size
          clear hIC
          go_wp2_with fail
          refine (HR.out _ _ _ (HN.out.by hW2) HSL.out).mono ?_
          rintro e w3 ⟨v3, rfl, hO, hb3⟩
          obtain ⟨s1, s2, lo1, hi1, lo2, hi2, rfl, hOD, hOP, hi1', hi2', hap⟩ := hO
          replace kR := Blk.by hb3 kR
          replace hW2 := below_on hb3 hW2
          obtain ⟨a1, c1, rfl⟩ := hOD.sl.sized
          obtain ⟨a2, c2, rfl⟩ := hOP.sl.sized
          have HOD := Lib.hid hOD
          have HOP := Lib.hid hOP
          have qR := kR.cell
          have fR := kR.free
          have lR3 := kR.lt
          have hb3s := hb3.size
          obtain ⟨n3, l1', l2', hn3, hl1, hl2⟩ : ∃ n3 l1 l2, rr.nets = n3 ∧ rr.ds.length = l1 ∧ rr.ps.length = l2 := ⟨_, _, _, rfl, rfl, rfl⟩
          have HE := Lib.hid (And.intro hn3 (And.intro hl1 hl2))
          rw [hn3, hl1, hl2]
          clear hb3 qA hOD hOP hn3 hl1 hl2
          go_wp2
          refine bodyPost_ret (v := .agg #[.int .i64 n3, .slice a1 l1' c1, .slice a2 l2' c2]) (by simp [results, Tryz.results27, go_sem, *]) rfl ⟨_, rfl, ⟨_, _, lo1, hi1, lo2, hi2, by rw [HE.out.1], ?_, ?_, ⟨by omega, by simp; omega⟩, ⟨by omega, by simp; omega⟩, hap⟩, blwT⟩
          · have := HOD.out
            rw [HE.out.2.1] at this
            exact ((this.past (Within.off _) (by omega)).past (Within.off _) (by omega)).past (Within.off _) (by omega)
          · have := HOP.out
            rw [HE.out.2.2] at this
            exact ((this.past (Within.off _) (by omega)).past (Within.off _) (by omega)).past (Within.off _) (by omega)
/- CompactNets, the reference's. -/
end Go.Proofs.YtacbdmngcdhgoaaGreat
