/- The reference's l30Ports. -/
import Derived.Test.YtaiadcfgmichpaaIsoM
import Derived.Test.YtaiadcfgmichpaaNls
import Derived.Test.YtaiadcfgmichpaaValid0
import Derived.BigRegion
import Derived.BigQuiet
namespace Go.Proofs.Ytaiadcfgmichpaa
open Go.RowKit
set_option linter.unusedVariables false
set_option linter.unusedSimpArgs false

theorem nlV_parts {w : World} {nets : Int} {s1 s2 : Value} {x : Nl} (h : NlV w (.agg #[.int .i64 nets, s1, s2]) x) : DvSl w s1 x.ds ∧ PtSl w s2 x.ps := by
  obtain ⟨t1, t2, e, h1, h2⟩ := h
  simp at e
  obtain ⟨_, rfl, rfl⟩ := e
  exact ⟨h1, h2⟩
theorem nl_netsI {x : Nl} (h : nlB x = true) : ∀ p ∈ x.ps, 0 ≤ p.net ∧ p.net < x.nets := by
  intro p hp
  obtain ⟨i, hi, e⟩ := List.mem_iff_getElem.1 hp
  have := (nlB_facts h).2.2.2.2 i hi
  have hg : x.ps[i]? = some p := by rw [List.getElem?_eq_getElem hi, e]
  simp only [ptOk, hg, Bool.and_eq_true] at this
  have h2 := inB_iff.1 this.2.1
  omega

set_option maxRecDepth 100000 in
set_option maxHeartbeats 2000000 in
theorem l30Ports_any (x y : Nl) (names : List Int) (v u sn : Value) (w : World) (h : NlV w v x) (h' : NlV w u y) (hn : IntSl w sn names) (hx : ∀ p ∈ x.ps, 0 ≤ p.net ∧ p.net < names.length) (hl : x.ps.length ≤ 1048576) (hl' : y.ps.length ≤ 1048576) :
    Calls Try.prog 84 #[v, u, sn] w fun e w' => e = .returned (.bool (decide (x.ps.length = y.ps.length) && allB (prtAt x.ps y.ps names) x.ps.length)) ∧ Below w.heap.size w w' := by
  obtain ⟨s1, s2, rfl, hd, hp⟩ := h
  obtain ⟨t1, t2, rfl, hd', hp'⟩ := h'
  obtain ⟨nets, ds, ps⟩ := x
  obtain ⟨nets', ds', qs⟩ := y
  dsimp only at *
  have HP := Lib.hid hp
  have HQ := Lib.hid hp'
  have HN := Lib.hid hn
  have HPN := Lib.hid hx
  obtain ⟨a1, c1, rfl⟩ := hd.sized
  obtain ⟨a2, c2, rfl⟩ := hp.sized
  obtain ⟨b1, d1, rfl⟩ := hd'.sized
  obtain ⟨b2, d2, rfl⟩ := hp'.sized
  obtain ⟨an, cn, rfl⟩ := hn.len
  clear hd hp hd' hp' hn hx
  by_cases hpq : ps.length = qs.length
  · rw [decide_eq_true hpq, Bool.true_and]
    rw [← hpq] at HQ ⊢
    have HL := Lib.hid hpq
    clear hpq
    have HAY := Lib.hid (@allB_yes (prtAt ps qs names) ps.length)
    have HAN := Lib.hid (fun i h h' => @allB_no (prtAt ps qs names) ps.length i h h')
    generalize allB (prtAt ps qs names) ps.length = r at *
    go_enter Try.func84, Try.ntmps84
    go_wp2
    go_loopw [7] (fun i wr => ∃ k : Nat, k ≤ ps.length ∧ i = .int .i64 k ∧ Hid (∀ j, j < k → prtAt ps qs names j = true) ∧ Blk wr w.heap.size #[.int .i64 nets, .slice a1 ds.length c1, .slice a2 ps.length c2] 35 ∧ Blk wr (w.heap.size + 1) #[.int .i64 nets', .slice b1 ds'.length d1, .slice b2 ps.length d2] 35 ∧ Below w.heap.size w wr) (fun i _ => ps.length - (intOf i).toNat)
    case atStart => exact ⟨0, Nat.zero_le _, rfl, Lib.hid (by intro j h; omega), (by ((repeat (first | (with_reducible assumption) | (with_reducible refine Blk.drewN ?_ _) | (with_reducible refine Blk.drew ?_) | ((with_reducible refine Blk.new _ ?_); focus (first | omega | (simp; done) | (simp; omega))) | (with_reducible refine Blk.past ?_ _) | ((with_reducible refine Blk.apart ?_ _ _ _ ?_); rotate_left; focus (first | omega | (simp; done) | (simp; omega))) | (with_reducible refine Blk.by (by assumption) ?_))); done)), (by ((repeat (first | (with_reducible assumption) | (with_reducible refine Blk.drewN ?_ _) | (with_reducible refine Blk.drew ?_) | ((with_reducible refine Blk.new _ ?_); focus (first | omega | (simp; done) | (simp; omega))) | (with_reducible refine Blk.past ?_ _) | ((with_reducible refine Blk.apart ?_ _ _ _ ?_); rotate_left; focus (first | omega | (simp; done) | (simp; omega))) | (with_reducible refine Blk.by (by assumption) ?_))); done)), (by ((repeat (first | (with_reducible exact Below.refl _ _) | (with_reducible refine below_drewN ?_ _) | (with_reducible refine Below.drew ?_) | (with_reducible refine below_al ?_ _) | (with_reducible refine below_on (by assumption) ?_) | ((with_reducible refine Below.setCell ?_ ?_ _); rotate_left; focus (first | omega | (simp; done) | (simp; omega))) | (with_reducible assumption))); done))⟩
    case round =>
      obtain ⟨k, hk, rfl, HI, kA, kB, hb⟩ := hrel
      have qA := kA.cell
      have qB := kB.cell
      by_cases hlt : k < ps.length
      · obtain ⟨p, hp⟩ : ∃ p, ps[k]? = some p := ⟨ps[k], List.getElem?_eq_getElem hlt⟩
        obtain ⟨q, hq⟩ : ∃ q, qs[k]? = some q := ⟨qs[k]'(by rw [← HL.out]; exact hlt), List.getElem?_eq_getElem _⟩
        obtain ⟨hp0, hp1⟩ := HPN.out p (List.mem_of_getElem? hp)
        have hat := prtAt_of (names := names) hp hq
        rcases HP.out with ⟨_, _, _, h2⟩ | ⟨pb, po, pc, he, _, _, h4⟩
        · rw [h2] at hlt; simp at hlt
        obtain ⟨rfl, rfl⟩ : a2 = some ⟨pb, po, none⟩ ∧ c2 = pc := by simpa using he
        rcases HQ.out with ⟨_, _, _, h2⟩ | ⟨qb, qo, qc, he', _, _, h4'⟩
        · rw [h2] at hq; simp at hq
        obtain ⟨rfl, rfl⟩ : b2 = some ⟨qb, qo, none⟩ ∧ d2 = qc := by simpa [HL.out] using he'
        obtain ⟨p1, p2⟩ := (h4 k p hp).by hb
        obtain ⟨q1, q2⟩ := (h4' k q hq).by hb
        obtain ⟨pn, hpn⟩ : ∃ n : Nat, p.net = n := ⟨p.net.toNat, by omega⟩
        rcases HN.out.by hb with ⟨_, _, _, h2⟩ | ⟨nb, no, nc, hen, _, _, hcn⟩
        · rw [h2] at hp1; simp at hp1; omega
        obtain ⟨rfl, rfl⟩ : an = some ⟨nb, no, none⟩ ∧ cn = nc := by simpa using hen
        have hpl : pn < names.length := by omega
        have c3 := hcn pn names[pn] (List.getElem?_eq_getElem hpl)
        have hnm : nmOf names p.net = names[pn] := by simp [nmOf, hpn, hpl]
        rw [hnm] at hat
        rw [hpn] at p2
        generalize names[pn] = z at *
        obtain ⟨name, net⟩ := p
        obtain ⟨name', net'⟩ := q
        dsimp only at *
        have HAT := Lib.hid hat
        have i1 : (0 : Int) ≤ (k : Int) := by omega
        have i2 : (k : Int) < (ps.length : Int) := by omega
        have i3 : (0 : Int) ≤ (pn : Int) := by omega
        have i4 : (pn : Int) < (names.length : Int) := by omega
        clear hp hq hat he he' hen hcn h4 h4' hnm hpn hp0 hp1
        cases hna : (name.toList == name'.toList) with
        | true =>
          rw [hna] at HAT
          by_cases hnz : z = net'
          · subst hnz
            have e3 : (z != z) = false := by simp
            have e4 : (z == z) = true := by simp
            go_wp2
            go_quiet (fail)
            go_wp2
            refine ⟨⟨k + 1, by omega, by go_num, Lib.hid (fun j hj => ?_), (by ((repeat (first | (with_reducible assumption) | (with_reducible refine Blk.drewN ?_ _) | (with_reducible refine Blk.drew ?_) | ((with_reducible refine Blk.new _ ?_); focus (first | omega | (simp; done) | (simp; omega))) | (with_reducible refine Blk.past ?_ _) | ((with_reducible refine Blk.apart ?_ _ _ _ ?_); rotate_left; focus (first | omega | (simp; done) | (simp; omega))) | (with_reducible refine Blk.by (by assumption) ?_))); done)), (by ((repeat (first | (with_reducible assumption) | (with_reducible refine Blk.drewN ?_ _) | (with_reducible refine Blk.drew ?_) | ((with_reducible refine Blk.new _ ?_); focus (first | omega | (simp; done) | (simp; omega))) | (with_reducible refine Blk.past ?_ _) | ((with_reducible refine Blk.apart ?_ _ _ _ ?_); rotate_left; focus (first | omega | (simp; done) | (simp; omega))) | (with_reducible refine Blk.by (by assumption) ?_))); done)), (by ((repeat (first | (with_reducible exact Below.refl _ _) | (with_reducible refine below_drewN ?_ _) | (with_reducible refine Below.drew ?_) | (with_reducible refine below_al ?_ _) | (with_reducible refine below_on (by assumption) ?_) | ((with_reducible refine Below.setCell ?_ ?_ _); rotate_left; focus (first | omega | (simp; done) | (simp; omega))) | (with_reducible assumption))); done))⟩, by simp [intOf]; omega⟩
            by_cases ej : j = k
            · subst ej; rw [HAT.out]; simp
            · exact HI.out j (by omega)
          · have HZ := Lib.hid hnz
            have e3 : (z != net') = true := by simpa using hnz
            have e4 : (z == net') = false := by simpa using hnz
            have hr := Lib.hid (HAN.out k hlt (by rw [HAT.out]; simp [hnz]))
            clear hnz
            go_wp2
            go_quiet (fail)
            go_wp2
            go_ret
            exact ⟨ret_bool hr.out.symm, (by ((repeat (first | (with_reducible exact Below.refl _ _) | (with_reducible refine below_drewN ?_ _) | (with_reducible refine Below.drew ?_) | (with_reducible refine below_al ?_ _) | (with_reducible refine below_on (by assumption) ?_) | ((with_reducible refine Below.setCell ?_ ?_ _); rotate_left; focus (first | omega | (simp; done) | (simp; omega))) | (with_reducible assumption))); done))⟩
        | false =>
          rw [hna] at HAT
          have hr := Lib.hid (HAN.out k hlt (by rw [HAT.out]; simp))
          go_wp2
          go_quiet (fail)
          go_wp2
          go_ret
          exact ⟨ret_bool hr.out.symm, (by ((repeat (first | (with_reducible exact Below.refl _ _) | (with_reducible refine below_drewN ?_ _) | (with_reducible refine Below.drew ?_) | (with_reducible refine below_al ?_ _) | (with_reducible refine below_on (by assumption) ?_) | ((with_reducible refine Below.setCell ?_ ?_ _); rotate_left; focus (first | omega | (simp; done) | (simp; omega))) | (with_reducible assumption))); done))⟩
      · obtain rfl : k = ps.length := by omega
        have hr := Lib.hid (HAY.out (fun j hj => HI.out j hj))
        go_wp2
        go_ret
        exact ⟨ret_bool hr.out.symm, (by ((repeat (first | (with_reducible exact Below.refl _ _) | (with_reducible refine below_drewN ?_ _) | (with_reducible refine Below.drew ?_) | (with_reducible refine below_al ?_ _) | (with_reducible refine below_on (by assumption) ?_) | ((with_reducible refine Below.setCell ?_ ?_ _); rotate_left; focus (first | omega | (simp; done) | (simp; omega))) | (with_reducible assumption))); done))⟩
  · rw [decide_eq_false hpq, Bool.false_and]
    have e1 : ((ps.length : Int) != (qs.length : Int)) = true := by simp; omega
    have e2 : ((ps.length : Int) == (qs.length : Int)) = false := by simp; omega
    clear hpq
    go_enter Try.func84, Try.ntmps84
    go_wp2
    go_ret
    exact ⟨rfl, (by ((repeat (first | (with_reducible exact Below.refl _ _) | (with_reducible refine below_drewN ?_ _) | (with_reducible refine Below.drew ?_) | (with_reducible refine below_al ?_ _) | (with_reducible refine below_on (by assumption) ?_) | ((with_reducible refine Below.setCell ?_ ?_ _); rotate_left; focus (first | omega | (simp; done) | (simp; omega))) | (with_reducible assumption))); done))⟩
end Go.Proofs.Ytaiadcfgmichpaa
