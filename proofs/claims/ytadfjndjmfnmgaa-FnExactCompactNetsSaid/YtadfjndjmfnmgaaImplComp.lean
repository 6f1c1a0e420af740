/- CompactNets, the program's. -/
import Derived.Test.YtadfjndjmfnmgaaCompM
import Derived.Test.YtadfjndjmfnmgaaImplNl
import Derived.Test.YtadfjndjmfnmgaaDegB
namespace Go.Proofs.Ytadfjndjmfnmgaa
open Go.RowKit
set_option linter.unusedVariables false
set_option linter.unusedSimpArgs false

set_option maxRecDepth 100000 in
set_option maxHeartbeats 8000000 in
/-- compact, of a valid netlist. -/
theorem compact_any (x : Nl) (v : Value) (w : World) (h : NlV w v x) (hb : nlB x = true) :
    Calls Try.prog 95 #[v] w fun e w' => ∃ v', e = .returned v' ∧ OwnNl w' w.heap.size w'.heap.size v' (cmS x) ∧ Below w.heap.size w w' := by
  have HN := Lib.hid h
  obtain ⟨rr, hrr⟩ : ∃ r, cmS x = r := ⟨_, rfl⟩
  rw [hrr]
  unfold cmS at hrr
  rw [if_pos hb] at hrr
  obtain ⟨⟨hn0, hn1⟩, hd24, hp8, hdv, _⟩ := nlB_facts hb
  have hnet := nl_nets hb
  obtain ⟨m, hm⟩ : ∃ m : Nat, x.nets = m := ⟨x.nets.toNat, by omega⟩
  have hm24 : m ≤ 24 := by omega
  have HDG := Lib.hid (fun v w h => degrees_any x m v w h hm hm24 hd24 (fun d hd => (dvB_pins (hdv d hd)).1) (fun d hd => (dvB_pins (hdv d hd)).2.2))
  rw [hm, Int.toNat_natCast] at hrr
  have HR := Lib.hid (fun v sn w h h' => implRenW_any x (nmC x m) sn (cnt x m : Int) v w h h' hd24 hp8 (fun d hd => by have q := dvB_pins (hdv d hd); exact ⟨q.1, fun e => by rw [e] at q; simp at q, fun z hz => by have := q.2.2 z hz; rw [length_nmC]; omega⟩) (fun p hp => by have := hnet p hp; rw [length_nmC]; omega))
  rw [hrr] at HR
  have HCL := Lib.hid (cnt_le x)
  have HCS := Lib.hid (cnt_succ x)
  have HUS := Lib.hid (usN_used x)
  have HUL := Lib.hid (fun j i => usN_le x j i hd24 (fun d hd => (dvB_pins (hdv d hd)).1) hp8)
  have HUT := Lib.hid (fun j q p => usT_step x m j q p)
  have HUG := Lib.hid (fun j q => usT_get x m j q)
  have HLU := Lib.hid (fun j => length_usT x m j)
  have HNS := Lib.hid (fun k => nmTo_step x m k)
  have HLT := Lib.hid (fun k => length_nmTo x m k)
  have HNA := Lib.hid (nmTo_all x m)
  have HLC := Lib.hid (length_nmC x m)
  have HD0 := Lib.hid (show usT x m 0 = degs m x.ds by simp [usT, degs, usN])
  have HNET := Lib.hid (fun p (hp : p ∈ x.ps) => (by have := hnet p hp; omega : 0 ≤ p.net ∧ p.net < (m : Int)))
  obtain ⟨s1, s2, rfl, hd, hp⟩ := h
  have HP := Lib.hid hp
  obtain ⟨a, c, rfl⟩ := hd.sized
  obtain ⟨a', c', rfl⟩ := hp.sized
  rw [hm] at HN ⊢
  generalize x.ds.length = l1 at *
  obtain ⟨l2, hl2⟩ : ∃ l2, x.ps.length = l2 := ⟨_, rfl⟩
  rw [hl2] at HN HP HUS hp8 ⊢
  have HL2 := Lib.hid hl2
  clear hb hnet hdv hm hrr hn0 hn1 hd hp hl2
  go_enter Try.func95, Try.ntmps95
  go_wp2_with fail
  refine (HDG.out _ _ (HN.out.by (by ((repeat (first | (with_reducible exact Below.refl _ _) | (with_reducible refine below_drewN ?_ _) | (with_reducible refine Below.drew ?_) | (with_reducible refine below_al ?_ _) | (with_reducible refine below_on (by assumption) ?_) | ((with_reducible refine Below.setCell ?_ ?_ _); rotate_left; focus (first | omega | (simp; done) | (simp; omega))) | (with_reducible assumption))); done)))).mono ?_
  rintro e w1 ⟨g, rfl, hG, hge, hb1⟩
  have kA : Blk w1 w.heap.size #[.int .i64 (m : Int), .slice a l1 c, .slice a' l2 c'] 35 := (by ((repeat (first | (with_reducible assumption) | (with_reducible refine Blk.drewN ?_ _) | (with_reducible refine Blk.drew ?_) | ((with_reducible refine Blk.new _ ?_); focus (first | omega | (simp; done) | (simp; omega))) | (with_reducible refine Blk.past ?_ _) | ((with_reducible refine Blk.apart ?_ _ _ _ ?_); rotate_left; focus (first | omega | (simp; done) | (simp; omega))) | (with_reducible refine Blk.by (by assumption) ?_))); done))
  have kR : Blk w1 (w.heap.size + 1) #[.int .i64 0, .slice none 0 0, .slice none 0 0] 35 := (by ((repeat (first | (with_reducible assumption) | (with_reducible refine Blk.drewN ?_ _) | (with_reducible refine Blk.drew ?_) | ((with_reducible refine Blk.new _ ?_); focus (first | omega | (simp; done) | (simp; omega))) | (with_reducible refine Blk.past ?_ _) | ((with_reducible refine Blk.apart ?_ _ _ _ ?_); rotate_left; focus (first | omega | (simp; done) | (simp; omega))) | (with_reducible refine Blk.by (by assumption) ?_))); done))
  have hW : Below w.heap.size w w1 := (by ((repeat (first | (with_reducible exact Below.refl _ _) | (with_reducible refine below_drewN ?_ _) | (with_reducible refine Below.drew ?_) | (with_reducible refine below_al ?_ _) | (with_reducible refine below_on (by assumption) ?_) | ((with_reducible refine Below.setCell ?_ ?_ _); rotate_left; focus (first | omega | (simp; done) | (simp; omega))) | (with_reducible assumption))); done))
  simp only [World.size_alloc] at hge
  have qA := kA.cell
  have HG := Lib.hid (show IBlk w1 g (usT x m 0) by rw [HD0.out]; exact hG)
  clear hb1 hG
  go_wp2
  clear qA
  go_loopw [15] (fun i wr => ∃ j : Nat, j ≤ l2 ∧ i = .int .i64 j ∧ Hid (IBlk wr g (usT x m j)) ∧ Blk wr w.heap.size #[.int .i64 (m : Int), .slice a l1 c, .slice a' l2 c'] 35 ∧ Blk wr (w.heap.size + 1) #[.int .i64 0, .slice none 0 0, .slice none 0 0] 35 ∧ Below w.heap.size w wr) (fun i _ => l2 - (intOf i).toNat)
  case atStart => exact ⟨0, Nat.zero_le _, rfl, HG, kA, kR, hW⟩
  case round =>
    clear HG kA kR hW
    obtain ⟨j, hj, rfl, HG, kA, kR, hW⟩ := hrel
    by_cases hlt : j < l2
    · have hl2 := HL2.out
      obtain ⟨p, hp⟩ : ∃ p, x.ps[j]? = some p := ⟨x.ps[j]'(by omega), List.getElem?_eq_getElem (by omega)⟩
      obtain ⟨hp0, hp1⟩ := HNET.out p (List.mem_of_getElem? hp)
      have hPw := HP.out.by hW
      rcases hPw with ⟨_, _, _, e2⟩ | ⟨pb, poff, pcap, pe, p2, p3, p4⟩
      · rw [e2] at hl2; simp at hl2; omega
      rw [hl2] at pe
      obtain ⟨rfl, rfl⟩ : a' = some ⟨pb, poff, none⟩ ∧ c' = pcap := by simpa using pe
      obtain ⟨d1, d2⟩ := p4 j p hp
      obtain ⟨q, hq⟩ : ∃ q : Nat, p.net = q := ⟨p.net.toNat, by omega⟩
      rw [hq] at d2 hp1
      have hqm : q < m := by omega
      obtain ⟨cs, kG, hcsz, hcs⟩ := HG.out
      have cg := hcs q _ (HUG.out j q hqm)
      have hul := HUL.out j q
      obtain ⟨u, hu⟩ : ∃ u, usN x j q = u := ⟨_, rfl⟩
      have HST := Lib.hid (HUT.out j q p hp hq hqm)
      rw [hu] at cg hul
      have HU := Lib.hid hu
      obtain ⟨nm, hnm⟩ : ∃ nm, p.name = nm := ⟨_, rfl⟩
      rw [hnm] at d1
      have qG := kG.cell
      have fG := kG.free
      have lG := kG.lt
      have lA := kA.lt
      have lR := kR.lt
      have i1 : (0 : Int) ≤ (j : Int) := by omega
      have i2 : (j : Int) < (l2 : Int) := by omega
      have i3 : (0 : Int) ≤ (q : Int) := by omega
      have i4 : (q : Int) < (m : Int) := by omega
      clear hl2 hp p4 pe hq hcs hcsz hu hnm p2 p3 hp0 hp1
      go_wp2
      refine ⟨⟨j + 1, by omega, by go_num, Lib.hid ?_, ?_, ?_, ?_⟩, by simp [intOf]; omega⟩
      · rw [← HST.out, HU.out]
        exact (HG.out.set q _).alloc _
      · exact (kA.apart g q _ (by omega)).past _
      · exact (kR.apart g q _ (by omega)).past _
      · exact (by ((repeat (first | (with_reducible exact Below.refl _ _) | (with_reducible refine below_drewN ?_ _) | (with_reducible refine Below.drew ?_) | (with_reducible refine below_al ?_ _) | (with_reducible refine below_on (by assumption) ?_) | ((with_reducible refine Below.setCell ?_ ?_ _); rotate_left; focus (first | omega | (simp; done) | (simp; omega))) | (with_reducible assumption))); done))
    · obtain rfl : j = l2 := by omega
      obtain ⟨wo, hwo⟩ : ∃ x : World, x = wr := ⟨_, rfl⟩
      subst hwo
      obtain ⟨cs0, hcs0, hcz, hmk⟩ := make_ints m (by omega) wo
      have HI0 : ICs cs0 (nmTo x m 0) := by
        intro i z hz
        have hi : i < m := by have := (List.getElem?_eq_some_iff.1 hz).1; rw [HLT.out] at this; exact this
        simp [nmTo, hi] at hz
        subst hz
        exact hcz i hi
      have HI := Lib.hid HI0
      have hHG := HG.out
      have HGL := Lib.hid (show IntSl wo (.slice (some ⟨g, 0, none⟩) m m) (usT x m j) by have := hHG.sl (by rw [HLU.out]; omega); rwa [HLU.out] at this)
      have lG := hHG.lt
      have lA := kA.lt
      have lR := kR.lt
      have qA := kA.cell
      have hWs := hW.size
      clear HI0 hcz hHG HG
      go_wp2
      clear hmk qA
      go_loopw [7, 32] (fun nx i wr => ∃ k : Nat, k ≤ m ∧ i = .int .i64 k ∧ nx = .int .i64 (cnt x k : Int) ∧ (∃ cs : Array Value, Blk wr wo.heap.size cs 2 ∧ cs.size = m ∧ Hid (ICs cs (nmTo x m k))) ∧ Blk wr w.heap.size #[.int .i64 (m : Int), .slice a l1 c, .slice a' j c'] 35 ∧ Blk wr (w.heap.size + 1) #[.int .i64 0, .slice none 0 0, .slice none 0 0] 35 ∧ Below wo.heap.size wo wr) (fun _ i _ => m - (intOf i).toNat)
      case atStart => exact ⟨0, Nat.zero_le _, rfl, rfl, ⟨cs0, Blk.new _ rfl, hcs0, HI⟩, kA.past _, kR.past _, (Below.refl _ wo).alloc (Nat.le_refl _) _⟩
      case round =>
        clear kA kR HI hcs0
        obtain ⟨k, hk, rfl, rfl, ⟨cs, kB, hsz, HIC⟩, kA, kR, hWo⟩ := hrel
        have hW2 := below_on hWo hW
        by_cases hlt2 : k < m
        · have hcl := HCL.out k
          have hul := HUL.out j k
          have HCK := HCS.out k
          have hcell := (HGL.out.by hWo)
          rcases hcell with ⟨_, _, _, e2⟩ | ⟨gb, goff, gcap, ge, g2, g3, g4⟩
          · have := HLU.out j; rw [e2] at this; simp at this; omega
          obtain ⟨rfl, rfl, rfl⟩ : g = gb ∧ 0 = goff ∧ m = gcap := by
            have e := ge
            simp only [Value.slice.injEq, Option.some.injEq, Addr.mk.injEq] at e
            exact ⟨e.1.1, e.1.2.1, e.2.2⟩
          have cu := g4 k _ (HUG.out j k hlt2)
          rw [← HUS.out] at HCK
          obtain ⟨u, hu⟩ : ∃ u, usN x j k = u := ⟨_, rfl⟩
          obtain ⟨ck, hck⟩ : ∃ ck, cnt x k = ck := ⟨_, rfl⟩
          have HST := Lib.hid (HNS.out k hlt2)
          rw [hu] at cu hul HCK
          rw [hck] at hcl HCK
          have HCKh := Lib.hid HCK
          have HCE := Lib.hid hck
          rw [hck]
          have HSZ := Lib.hid hsz
          obtain ⟨u0_, d0⟩ : ∃ u, cs[k]? = some u := ⟨_, Array.getElem?_eq_getElem (by omega)⟩
          have cu' : wr.cell? ⟨g, k, none⟩ = some (.int .i64 u) := by simpa using cu
          have qB := kB.cell
          have fB := kB.free
          have lB := kB.lt
          have i1 : (0 : Int) ≤ (k : Int) := by omega
          have i2 : (k : Int) < (m : Int) := by omega
          clear cu g4 ge g2 g3 hu hck HCK hsz
          by_cases h0 : 0 < u
          · have dd : decide (0 < u) = true := decide_eq_true h0
            have HC := Lib.hid (show cnt x (k + 1) = ck + 1 by rw [HCKh.out]; simp [h0])
            go_wp2
            refine ⟨⟨k + 1, by omega, by go_num, by rw [HC.out]; go_num, ⟨cs.setIfInBounds k (.int .i64 (ck : Int)), kB.set _ _, by simp [HSZ.out], Lib.hid ?_⟩, kA.apart _ _ _ (by omega), kR.apart _ _ _ (by omega), hWo.setCell (by simp) _⟩, by simp [intOf]; omega⟩
            have e := HST.out
            rw [HCE.out] at e
            rw [← e]
            exact HIC.out.set k _
          · have dd : decide (0 < u) = false := decide_eq_false h0
            have HC := Lib.hid (show cnt x (k + 1) = ck by rw [HCKh.out]; simp [h0])
            go_wp2
            refine ⟨⟨k + 1, by omega, by go_num, by rw [HC.out], ⟨cs.setIfInBounds k (.int .i64 (ck : Int)), kB.set _ _, by simp [HSZ.out], Lib.hid ?_⟩, kA.apart _ _ _ (by omega), kR.apart _ _ _ (by omega), hWo.setCell (by simp) _⟩, by simp [intOf]; omega⟩
            have e := HST.out
            rw [HCE.out] at e
            rw [← e]
            exact HIC.out.set k _
        · obtain rfl : k = m := by omega
          have hIC : ICs cs (nmC x k) := by have := HIC.out; rwa [HNA.out] at this
          have HSL := Lib.hid (show IntSl wr (.slice (some ⟨wo.heap.size, 0, none⟩) k k) (nmC x k) from by
            refine .inr ⟨wo.heap.size, 0, k, by rw [HLC.out], by rw [HLC.out]; exact Nat.le_refl _, by unfold maxLen; omega, fun i z hz => ?_⟩
            rw [Nat.zero_add, kB.cell]; exact hIC i z hz)
          have qA := kA.cell
          have lR2 := kR.lt
          have hWs2 := hWo.size
          clear hIC
          go_wp2_with fail
          refine (HR.out _ _ _ (HN.out.by hW2) HSL.out).mono ?_
          rintro e w3 ⟨v3, rfl, hO, hb3⟩
          obtain ⟨s1, s2, lo1, hi1, lo2, hi2, rfl, hOD, hOP, hi1', hi2', hap⟩ := hO
          replace kR := Blk.by hb3 kR
          replace hW2 := below_on hb3 hW2
          obtain ⟨a1, c1, rfl⟩ := hOD.sl.sized
          obtain ⟨a2, c2, rfl⟩ := hOP.sl.sized
          have HOD := Lib.hid hOD
          have HOP := Lib.hid hOP
          have qR := kR.cell
          have fR := kR.free
          have lR3 := kR.lt
          have hb3s := hb3.size
          obtain ⟨n3, l1', l2', hn3, hl1, hl2⟩ : ∃ n3 l1 l2, rr.nets = n3 ∧ rr.ds.length = l1 ∧ rr.ps.length = l2 := ⟨_, _, _, rfl, rfl, rfl⟩
          have HE := Lib.hid (And.intro hn3 (And.intro hl1 hl2))
          rw [hn3, hl1, hl2]
          clear hb3 qA hOD hOP hn3 hl1 hl2
          go_wp2
          refine bodyPost_ret (v := .agg #[.int .i64 n3, .slice a1 l1' c1, .slice a2 l2' c2]) (by simp [results, Try.results95, go_sem, *]) rfl ⟨_, rfl, ⟨_, _, lo1, hi1, lo2, hi2, by rw [HE.out.1], ?_, ?_, ⟨by omega, by simp; omega⟩, ⟨by omega, by simp; omega⟩, hap⟩, (by ((repeat (first | (with_reducible exact Below.refl _ _) | (with_reducible refine below_drewN ?_ _) | (with_reducible refine Below.drew ?_) | (with_reducible refine below_al ?_ _) | (with_reducible refine below_on (by assumption) ?_) | ((with_reducible refine Below.setCell ?_ ?_ _); rotate_left; focus (first | omega | (simp; done) | (simp; omega))) | (with_reducible assumption))); done))⟩
          · have := HOD.out
            rw [HE.out.2.1] at this
            exact ((this.past (Within.off _) (by omega)).past (Within.off _) (by omega)).past (Within.off _) (by omega)
          · have := HOP.out
            rw [HE.out.2.2] at this
            exact ((this.past (Within.off _) (by omega)).past (Within.off _) (by omega)).past (Within.off _) (by omega)

set_option maxRecDepth 100000 in
set_option maxHeartbeats 8000000 in
theorem implComp_any (x : Nl) (v : Value) (w : World) (h : NlV w v x) (hok : ∀ p ∈ x.ps, p.ok) (hnn : Fits x.nets) :
    Calls Try.prog 35 #[v] w fun e w' => ∃ v', e = .returned v' ∧ OwnNl w' w.heap.size w'.heap.size v' (cmS x) ∧ Below w.heap.size w w' := by
  have HV := Lib.hid (fun v w h => implNl_any x v w h hok hnn)
  have HN := Lib.hid h
  obtain ⟨a, c, a', c', rfl⟩ := h.sized
  by_cases hb : nlB x = true
  · have HC := Lib.hid (fun v w h => compact_any x v w h hb)
    rw [hb] at HV
    obtain ⟨rr, hrr⟩ : ∃ r, cmS x = r := ⟨_, rfl⟩
    rw [hrr] at HC ⊢
    clear h hok hnn hb hrr
    go_enter Try.func35, Try.ntmps35
    go_wp2_with fail
    refine (HV.out _ _ (HN.out.by (by ((repeat (first | (with_reducible exact Below.refl _ _) | (with_reducible refine below_drewN ?_ _) | (with_reducible refine Below.drew ?_) | (with_reducible refine below_al ?_ _) | (with_reducible refine below_on (by assumption) ?_) | ((with_reducible refine Below.setCell ?_ ?_ _); rotate_left; focus (first | omega | (simp; done) | (simp; omega))) | (with_reducible assumption))); done)))).mono ?_
    rintro e w1 ⟨rfl, hb1⟩
    have kA : Blk w1 w.heap.size #[.int .i64 x.nets, .slice a x.ds.length c, .slice a' x.ps.length c'] 35 := (by ((repeat (first | (with_reducible assumption) | (with_reducible refine Blk.drewN ?_ _) | (with_reducible refine Blk.drew ?_) | ((with_reducible refine Blk.new _ ?_); focus (first | omega | (simp; done) | (simp; omega))) | (with_reducible refine Blk.past ?_ _) | ((with_reducible refine Blk.apart ?_ _ _ _ ?_); rotate_left; focus (first | omega | (simp; done) | (simp; omega))) | (with_reducible refine Blk.by (by assumption) ?_))); done))
    have kR : Blk w1 (w.heap.size + 1) #[.int .i64 0, .slice none 0 0, .slice none 0 0] 35 := (by ((repeat (first | (with_reducible assumption) | (with_reducible refine Blk.drewN ?_ _) | (with_reducible refine Blk.drew ?_) | ((with_reducible refine Blk.new _ ?_); focus (first | omega | (simp; done) | (simp; omega))) | (with_reducible refine Blk.past ?_ _) | ((with_reducible refine Blk.apart ?_ _ _ _ ?_); rotate_left; focus (first | omega | (simp; done) | (simp; omega))) | (with_reducible refine Blk.by (by assumption) ?_))); done))
    have hW : Below w.heap.size w w1 := (by ((repeat (first | (with_reducible exact Below.refl _ _) | (with_reducible refine below_drewN ?_ _) | (with_reducible refine Below.drew ?_) | (with_reducible refine below_al ?_ _) | (with_reducible refine below_on (by assumption) ?_) | ((with_reducible refine Below.setCell ?_ ?_ _); rotate_left; focus (first | omega | (simp; done) | (simp; omega))) | (with_reducible assumption))); done))
    have qA := kA.cell
    have lR := kR.lt
    clear hb1
    go_wp2_with fail
    refine (HC.out _ _ (HN.out.by hW)).mono ?_
    rintro e w3 ⟨v3, rfl, hO, hb3⟩
    obtain ⟨s1, s2, lo1, hi1, lo2, hi2, rfl, hOD, hOP, hi1', hi2', hap⟩ := hO
    replace kR := Blk.by hb3 kR
    replace hW := below_on hb3 hW
    obtain ⟨a1, c1, rfl⟩ := hOD.sl.sized
    obtain ⟨a2, c2, rfl⟩ := hOP.sl.sized
    have HOD := Lib.hid hOD
    have HOP := Lib.hid hOP
    have qR := kR.cell
    have fR := kR.free
    have lR3 := kR.lt
    have hb3s := hb3.size
    obtain ⟨n3, l1', l2', hn3, hl1, hl2⟩ : ∃ n3 l1 l2, rr.nets = n3 ∧ rr.ds.length = l1 ∧ rr.ps.length = l2 := ⟨_, _, _, rfl, rfl, rfl⟩
    have HE := Lib.hid (And.intro hn3 (And.intro hl1 hl2))
    rw [hn3, hl1, hl2]
    clear hb3 qA hOD hOP hn3 hl1 hl2
    go_wp2
    refine bodyPost_ret (v := .agg #[.int .i64 n3, .slice a1 l1' c1, .slice a2 l2' c2]) (by simp [results, Try.results35, go_sem, *]) rfl ⟨_, rfl, ⟨_, _, lo1, hi1, lo2, hi2, by rw [HE.out.1], ?_, ?_, ⟨by omega, by simp; omega⟩, ⟨by omega, by simp; omega⟩, hap⟩, (by ((repeat (first | (with_reducible exact Below.refl _ _) | (with_reducible refine below_drewN ?_ _) | (with_reducible refine Below.drew ?_) | (with_reducible refine below_al ?_ _) | (with_reducible refine below_on (by assumption) ?_) | ((with_reducible refine Below.setCell ?_ ?_ _); rotate_left; focus (first | omega | (simp; done) | (simp; omega))) | (with_reducible assumption))); done))⟩
    · have := HOD.out
      rw [HE.out.2.1] at this
      exact ((this.past (Within.off _) (by omega)).past (Within.off _) (by omega)).past (Within.off _) (by omega)
    · have := HOP.out
      rw [HE.out.2.2] at this
      exact ((this.past (Within.off _) (by omega)).past (Within.off _) (by omega)).past (Within.off _) (by omega)
  · have hbf : nlB x = false := by simpa using hb
    rw [hbf] at HV
    have hrr : cmS x = ⟨0, [], []⟩ := by unfold cmS; rw [if_neg hb]
    rw [hrr]
    clear h hok hnn hb hbf hrr
    go_enter Try.func35, Try.ntmps35
    go_wp2_with fail
    refine (HV.out _ _ (HN.out.by (by ((repeat (first | (with_reducible exact Below.refl _ _) | (with_reducible refine below_drewN ?_ _) | (with_reducible refine Below.drew ?_) | (with_reducible refine below_al ?_ _) | (with_reducible refine below_on (by assumption) ?_) | ((with_reducible refine Below.setCell ?_ ?_ _); rotate_left; focus (first | omega | (simp; done) | (simp; omega))) | (with_reducible assumption))); done)))).mono ?_
    rintro e w1 ⟨rfl, hb1⟩
    have kR : Blk w1 (w.heap.size + 1) #[.int .i64 0, .slice none 0 0, .slice none 0 0] 35 := (by ((repeat (first | (with_reducible assumption) | (with_reducible refine Blk.drewN ?_ _) | (with_reducible refine Blk.drew ?_) | ((with_reducible refine Blk.new _ ?_); focus (first | omega | (simp; done) | (simp; omega))) | (with_reducible refine Blk.past ?_ _) | ((with_reducible refine Blk.apart ?_ _ _ _ ?_); rotate_left; focus (first | omega | (simp; done) | (simp; omega))) | (with_reducible refine Blk.by (by assumption) ?_))); done))
    have hW : Below w.heap.size w w1 := (by ((repeat (first | (with_reducible exact Below.refl _ _) | (with_reducible refine below_drewN ?_ _) | (with_reducible refine Below.drew ?_) | (with_reducible refine below_al ?_ _) | (with_reducible refine below_on (by assumption) ?_) | ((with_reducible refine Below.setCell ?_ ?_ _); rotate_left; focus (first | omega | (simp; done) | (simp; omega))) | (with_reducible assumption))); done))
    have qR := kR.cell
    have fR := kR.free
    have lR := kR.lt
    clear hb1
    go_wp2
    exact bodyPost_ret (v := .agg #[.int .i64 0, .slice none 0 0, .slice none 0 0]) (by simp [results, Try.results35, go_sem, *]) rfl ⟨_, rfl, nlZero _ _ _ (by simp; omega), (by ((repeat (first | (with_reducible exact Below.refl _ _) | (with_reducible refine below_drewN ?_ _) | (with_reducible refine Below.drew ?_) | (with_reducible refine below_al ?_ _) | (with_reducible refine below_on (by assumption) ?_) | ((with_reducible refine Below.setCell ?_ ?_ _); rotate_left; focus (first | omega | (simp; done) | (simp; omega))) | (with_reducible assumption))); done))⟩
end Go.Proofs.Ytadfjndjmfnmgaa
