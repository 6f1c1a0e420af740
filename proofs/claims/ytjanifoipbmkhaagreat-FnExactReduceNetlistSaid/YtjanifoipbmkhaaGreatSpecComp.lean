/- CompactNets, the reference's. -/
import Derived.Test.YtjanifoipbmkhaaGreatRens
import Derived.Test.YtjanifoipbmkhaaGreatOrdB
import Derived.Test.YtjanifoipbmkhaaGreatSpecNl
namespace Go.Proofs.YtjanifoipbmkhaaGreat
open Go.RowKit
set_option linter.unusedVariables false
set_option linter.unusedSimpArgs false

set_option maxRecDepth 100000 in
set_option maxHeartbeats 8000000 in
theorem specComp_any (x : Nl) (v : Value) (w : World) (h : NlV w v x) (hok : ∀ p ∈ x.ps, p.ok) (hnn : Fits x.nets) :
    Calls Tryz.prog 18 #[v] w fun e w' => ∃ v', e = .returned v' ∧ OwnNl w' w.heap.size w'.heap.size v' (cmS x) ∧ Below w.heap.size w w' := by
  have HV := Lib.hid (fun v w h => specNl_any x v w h hok hnn)
  have HN := Lib.hid h
  obtain ⟨rr, hrr⟩ : ∃ r, cmS x = r := ⟨_, rfl⟩
  rw [hrr]
  unfold cmS at hrr
  obtain ⟨a, c, a', c', rfl⟩ := h.sized
  by_cases hb : nlB x = true
  · obtain ⟨⟨hn0, hn1⟩, hd24, hp8, hdv, _⟩ := nlB_facts hb
    have hnet := nl_nets hb
    rw [hb] at HV
    rw [if_pos hb] at hrr
    have HDG := Lib.hid (fun v net w h => l27Degree_any x v net w h hd24 (fun d hd => (dvB_pins (hdv d hd)).1))
    have HPT := Lib.hid (fun v net w h => l27Port_any x v net w h (by omega))
    obtain ⟨m, hm⟩ : ∃ m : Nat, x.nets = m := ⟨x.nets.toNat, by omega⟩
    rw [hm, Int.toNat_natCast] at hrr
    have hm24 : m ≤ 24 := by omega
    have HR := Lib.hid (fun v sn w h h' => specRenW_any x (nmC x m) sn (cnt x m : Int) v w h h' hd24 hp8 (fun d hd => by have q := dvB_pins (hdv d hd); exact ⟨q.1, fun e => by rw [e] at q; simp at q, fun z hz => by have := q.2.2 z hz; rw [length_nmC]; omega⟩) (fun p hp => by have := hnet p hp; rw [length_nmC]; omega))
    rw [hrr] at HR
    have HSC := Lib.hid (nmC_succ x)
    have HLN := Lib.hid (length_nmC x)
    have HCL := Lib.hid (cnt_le x)
    have HCS := Lib.hid (cnt_succ x)
    have HUB := Lib.hid (usedB_def x)
    rw [hm] at HN ⊢
    generalize x.ds.length = l1 at *
    generalize x.ps.length = l2 at *
    clear h hok hnn hb hnet hdv hm hrr hn0 hn1
    go_enter Tryz.func18, Tryz.ntmps18
    go_wp2_with fail
    refine (HV.out _ _ (HN.out.by (by ((repeat (first | (with_reducible exact Below.refl _ _) | (with_reducible refine below_drewN ?_ _) | (with_reducible refine Below.drew ?_) | (with_reducible refine below_al ?_ _) | (with_reducible refine below_on (by assumption) ?_) | ((with_reducible refine Below.setCell ?_ ?_ _); rotate_left; focus (first | omega | (simp; done) | (simp; omega))) | (with_reducible assumption))); done)))).mono ?_
    rintro e w1 ⟨rfl, hb1⟩
    have kA : Blk w1 w.heap.size #[.int .i64 (m : Int), .slice a l1 c, .slice a' l2 c'] 30 := (by ((repeat (first | (with_reducible assumption) | (with_reducible refine Blk.drewN ?_ _) | (with_reducible refine Blk.drew ?_) | ((with_reducible refine Blk.new _ ?_); focus (first | omega | (simp; done) | (simp; omega))) | (with_reducible refine Blk.past ?_ _) | ((with_reducible refine Blk.apart ?_ _ _ _ ?_); rotate_left; focus (first | omega | (simp; done) | (simp; omega))) | (with_reducible refine Blk.by (by assumption) ?_))); done))
    have kR : Blk w1 (w.heap.size + 1) #[.int .i64 0, .slice none 0 0, .slice none 0 0] 30 := (by ((repeat (first | (with_reducible assumption) | (with_reducible refine Blk.drewN ?_ _) | (with_reducible refine Blk.drew ?_) | ((with_reducible refine Blk.new _ ?_); focus (first | omega | (simp; done) | (simp; omega))) | (with_reducible refine Blk.past ?_ _) | ((with_reducible refine Blk.apart ?_ _ _ _ ?_); rotate_left; focus (first | omega | (simp; done) | (simp; omega))) | (with_reducible refine Blk.by (by assumption) ?_))); done))
    have hW : Below w.heap.size w w1 := (by ((repeat (first | (with_reducible exact Below.refl _ _) | (with_reducible refine below_drewN ?_ _) | (with_reducible refine Below.drew ?_) | (with_reducible refine below_al ?_ _) | (with_reducible refine below_on (by assumption) ?_) | ((with_reducible refine Below.setCell ?_ ?_ _); rotate_left; focus (first | omega | (simp; done) | (simp; omega))) | (with_reducible assumption))); done))
    have qA := kA.cell
    have hB : Blk (w1.alloc (.cells #[] 2)) w1.heap.size #[] 2 := Blk.new _ rfl
    have lR := kR.lt
    clear hb1
    go_wp2
    clear qA
    go_loopw [3, 4, 5] (fun u kp i wr => ∃ (k hi : Nat), k ≤ m ∧ i = .int .i64 k ∧ kp = .int .i64 (cnt x k : Int) ∧ BldI wr w1.heap.size hi u (nmC x k) ∧ w1.heap.size ≤ hi ∧ Blk wr w.heap.size #[.int .i64 (m : Int), .slice a l1 c, .slice a' l2 c'] 30 ∧ Blk wr (w.heap.size + 1) #[.int .i64 0, .slice none 0 0, .slice none 0 0] 30 ∧ Below w.heap.size w wr) (fun _ _ i _ => m - (intOf i).toNat)
    case atStart => exact ⟨0, w1.heap.size + 1, Nat.zero_le _, rfl, rfl, BldI.lit (zs := []) hB rfl (by simp) (Nat.le_refl _) (by omega) (by simp), by omega, (by ((repeat (first | (with_reducible assumption) | (with_reducible refine Blk.drewN ?_ _) | (with_reducible refine Blk.drew ?_) | ((with_reducible refine Blk.new _ ?_); focus (first | omega | (simp; done) | (simp; omega))) | (with_reducible refine Blk.past ?_ _) | ((with_reducible refine Blk.apart ?_ _ _ _ ?_); rotate_left; focus (first | omega | (simp; done) | (simp; omega))) | (with_reducible refine Blk.by (by assumption) ?_))); done)), (by ((repeat (first | (with_reducible assumption) | (with_reducible refine Blk.drewN ?_ _) | (with_reducible refine Blk.drew ?_) | ((with_reducible refine Blk.new _ ?_); focus (first | omega | (simp; done) | (simp; omega))) | (with_reducible refine Blk.past ?_ _) | ((with_reducible refine Blk.apart ?_ _ _ _ ?_); rotate_left; focus (first | omega | (simp; done) | (simp; omega))) | (with_reducible refine Blk.by (by assumption) ?_))); done)), (by ((repeat (first | (with_reducible exact Below.refl _ _) | (with_reducible refine below_drewN ?_ _) | (with_reducible refine Below.drew ?_) | (with_reducible refine below_al ?_ _) | (with_reducible refine below_on (by assumption) ?_) | ((with_reducible refine Below.setCell ?_ ?_ _); rotate_left; focus (first | omega | (simp; done) | (simp; omega))) | (with_reducible assumption))); done))⟩
    case round =>
      clear kA kR hW hB
      obtain ⟨k, hi, hk, rfl, rfl, hBI, hhi, kA, kR, hW⟩ := hrel
      have qA := kA.cell
      have hbi1 := hBI.1
      obtain ⟨au, cu, rfl⟩ := hBI.sized
      have hLk := HLN.out k
      rw [hLk] at hBI ⊢
      have HBI := Lib.hid hBI
      have HLK := Lib.hid hLk
      clear hBI hLk
      by_cases hlt : k < m
      · have hcl := HCL.out k
        obtain ⟨ck, hck⟩ : ∃ ck, cnt x k = ck := ⟨_, rfl⟩
        have HSK := HSC.out k
        have HCK := HCS.out k
        have HUK := HUB.out k
        rw [hck] at HSK HCK hcl ⊢
        obtain ⟨dg, hdg⟩ : ∃ dg, degN x.ds (k : Int) = dg := ⟨_, rfl⟩
        obtain ⟨pb, hpb⟩ : ∃ pb, portB x.ps (k : Int) = pb := ⟨_, rfl⟩
        rw [hdg, hpb] at HUK
        have HDK := Lib.hid (fun v w h => HDG.out v (k : Int) w h)
        have HPK := Lib.hid (fun v w h => HPT.out v (k : Int) w h)
        rw [hdg] at HDK
        rw [hpb] at HPK
        rw [HUK] at HCK
        have HSK' := Lib.hid HSK
        have HCK' := Lib.hid HCK
        have i1 : (0 : Int) ≤ (k : Int) := by omega
        have i2 : (k : Int) < (m : Int) := by omega
        have lA := kA.lt
        have lR2 := kR.lt
        have hWs := hW.size
        clear HSK HCK HUK hck hdg hpb
        go_wp2_with (refine list_pushI (by rfl) _ _ (by rfl) w1.heap.size hi (.slice au k cu) (nmC x k) [(ck : Int)] (by rfl) (HBI.out.by (by ((repeat (first | (with_reducible exact Below.refl _ _) | (with_reducible refine below_drewN ?_ _) | (with_reducible refine Below.drew ?_) | (with_reducible refine below_al ?_ _) | (with_reducible refine below_on (by assumption) ?_) | ((with_reducible refine Below.setCell ?_ ?_ _); rotate_left; focus (first | omega | (simp; done) | (simp; omega))) | (with_reducible assumption))); done))) wr.heap.size 1 #[.int .i64 (ck : Int)] (by rfl) (by rfl) (by omega) (Blk.new _ rfl) (by rfl) hhi (by rw [HLK.out]; omega) ?_; intro a2 c2 w3 hB3 hw3; rw [HLK.out] at hB3 ⊢; have HB3 := Lib.hid hB3; have kA3 := hw3.blk (kA.past (.cells #[.int .i64 (ck : Int)] 2)) (by omega); have qA3 := kA3.cell; clear hB3)
        have kR3 := hw3.blk (kR.past (.cells #[.int .i64 (ck : Int)] 2)) (by omega)
        have hW3 := hw3.below (below_al hW (.cells #[.int .i64 (ck : Int)] 2)) (by omega)
        have hs3 := hw3.size
        simp only [World.size_alloc] at hs3
        refine (HDK.out _ _ (HN.out.by hW3)).mono ?_
        rintro e w4 ⟨rfl, hb4⟩
        have kA4 := Blk.by hb4 kA3
        have kR4 := Blk.by hb4 kR3
        have hW4 := below_on hb4 hW3
        have HB4 := Lib.hid (HB3.out.by hb4)
        have hs4 := hb4.size
        have qA4 := kA4.cell
        clear qA qA3 hb4
        by_cases h0 : 0 < dg
        · have d0 : decide (0 < dg) = true := decide_eq_true h0
          have HC := Lib.hid (show cnt x (k + 1) = ck + 1 by rw [HCK'.out]; simp [h0])
          go_wp2
          refine ⟨⟨k + 1, w3.heap.size, by omega, by go_num, by rw [HC.out]; go_num, ?_, by omega, kA4, kR4, hW4⟩, by simp [intOf]; omega⟩
          rw [HSK'.out]; exact HB4.out
        · have d0 : decide (0 < dg) = false := decide_eq_false h0
          go_wp2_with fail
          refine (HPK.out _ _ (HN.out.by hW4)).mono ?_
          rintro e w5 ⟨rfl, hb5⟩
          have kA5 := Blk.by hb5 kA4
          have kR5 := Blk.by hb5 kR4
          have hW5 := below_on hb5 hW4
          have HB5 := Lib.hid (HB4.out.by hb5)
          clear hb5 qA4
          cases pb with
          | true =>
            have HC := Lib.hid (show cnt x (k + 1) = ck + 1 by rw [HCK'.out]; simp)
            go_wp2
            refine ⟨⟨k + 1, w3.heap.size, by omega, by go_num, by rw [HC.out]; go_num, ?_, by omega, kA5, kR5, hW5⟩, by simp [intOf]; omega⟩
            rw [HSK'.out]; exact HB5.out
          | false =>
            have HC := Lib.hid (show cnt x (k + 1) = ck by rw [HCK'.out]; simp [h0])
            go_wp2
            refine ⟨⟨k + 1, w3.heap.size, by omega, by go_num, by rw [HC.out], ?_, by omega, kA5, kR5, hW5⟩, by simp [intOf]; omega⟩
            rw [HSK'.out]; exact HB5.out
      · obtain rfl : k = m := by omega
        have HI := Lib.hid (show IntSl wr (.slice au k cu) (nmC x k) from HBI.out.own.sl)
        have lR2 := kR.lt
        have hWs := hW.size
        clear HBI
        go_wp2_with fail
        refine (HR.out _ _ _ (HN.out.by hW) HI.out).mono ?_
        rintro e w3 ⟨v3, rfl, hO, hb3⟩
        obtain ⟨s1, s2, lo1, hi1, lo2, hi2, rfl, hOD, hOP, hi1', hi2', hap⟩ := hO
        replace kR := Blk.by hb3 kR
        replace hW := below_on hb3 hW
        obtain ⟨a1, c1, rfl⟩ := hOD.sl.sized
        obtain ⟨a2, c2, rfl⟩ := hOP.sl.sized
        have HOD := Lib.hid hOD
        have HOP := Lib.hid hOP
        have qR := kR.cell
        have fR := kR.free
        have lR3 := kR.lt
        have hb3s := hb3.size
        obtain ⟨n3, l1', l2', hn3, hl1, hl2⟩ : ∃ n3 l1 l2, rr.nets = n3 ∧ rr.ds.length = l1 ∧ rr.ps.length = l2 := ⟨_, _, _, rfl, rfl, rfl⟩
        have HE := Lib.hid (And.intro hn3 (And.intro hl1 hl2))
        rw [hn3, hl1, hl2]
        clear hb3 qA hOD hOP hn3 hl1 hl2
        go_wp2
        refine bodyPost_ret (v := .agg #[.int .i64 n3, .slice a1 l1' c1, .slice a2 l2' c2]) (by simp [results, Tryz.results18, go_sem, *]) rfl ⟨_, rfl, ⟨_, _, lo1, hi1, lo2, hi2, by rw [HE.out.1], ?_, ?_, ⟨by omega, by simp; omega⟩, ⟨by omega, by simp; omega⟩, hap⟩, (by ((repeat (first | (with_reducible exact Below.refl _ _) | (with_reducible refine below_drewN ?_ _) | (with_reducible refine Below.drew ?_) | (with_reducible refine below_al ?_ _) | (with_reducible refine below_on (by assumption) ?_) | ((with_reducible refine Below.setCell ?_ ?_ _); rotate_left; focus (first | omega | (simp; done) | (simp; omega))) | (with_reducible assumption))); done))⟩
        · have := HOD.out
          rw [HE.out.2.1] at this
          exact ((this.past (Within.off _) (by omega)).past (Within.off _) (by omega)).past (Within.off _) (by omega)
        · have := HOP.out
          rw [HE.out.2.2] at this
          exact ((this.past (Within.off _) (by omega)).past (Within.off _) (by omega)).past (Within.off _) (by omega)
  · rw [if_neg hb] at hrr
    have hbf : nlB x = false := by simpa using hb
    rw [hbf] at HV
    subst hrr
    clear h hok hnn hb hbf
    go_enter Tryz.func18, Tryz.ntmps18
    go_wp2_with fail
    refine (HV.out _ _ (HN.out.by (by ((repeat (first | (with_reducible exact Below.refl _ _) | (with_reducible refine below_drewN ?_ _) | (with_reducible refine Below.drew ?_) | (with_reducible refine below_al ?_ _) | (with_reducible refine below_on (by assumption) ?_) | ((with_reducible refine Below.setCell ?_ ?_ _); rotate_left; focus (first | omega | (simp; done) | (simp; omega))) | (with_reducible assumption))); done)))).mono ?_
    rintro e w1 ⟨rfl, hb1⟩
    have kR : Blk w1 (w.heap.size + 1) #[.int .i64 0, .slice none 0 0, .slice none 0 0] 30 := (by ((repeat (first | (with_reducible assumption) | (with_reducible refine Blk.drewN ?_ _) | (with_reducible refine Blk.drew ?_) | ((with_reducible refine Blk.new _ ?_); focus (first | omega | (simp; done) | (simp; omega))) | (with_reducible refine Blk.past ?_ _) | ((with_reducible refine Blk.apart ?_ _ _ _ ?_); rotate_left; focus (first | omega | (simp; done) | (simp; omega))) | (with_reducible refine Blk.by (by assumption) ?_))); done))
    have hW : Below w.heap.size w w1 := (by ((repeat (first | (with_reducible exact Below.refl _ _) | (with_reducible refine below_drewN ?_ _) | (with_reducible refine Below.drew ?_) | (with_reducible refine below_al ?_ _) | (with_reducible refine below_on (by assumption) ?_) | ((with_reducible refine Below.setCell ?_ ?_ _); rotate_left; focus (first | omega | (simp; done) | (simp; omega))) | (with_reducible assumption))); done))
    have qR := kR.cell
    have fR := kR.free
    have lR := kR.lt
    clear hb1
    go_wp2
    exact bodyPost_ret (v := .agg #[.int .i64 0, .slice none 0 0, .slice none 0 0]) (by simp [results, Tryz.results18, go_sem, *]) rfl ⟨_, rfl, nlZero _ _ _ (by simp; omega), (by ((repeat (first | (with_reducible exact Below.refl _ _) | (with_reducible refine below_drewN ?_ _) | (with_reducible refine Below.drew ?_) | (with_reducible refine below_al ?_ _) | (with_reducible refine below_on (by assumption) ?_) | ((with_reducible refine Below.setCell ?_ ?_ _); rotate_left; focus (first | omega | (simp; done) | (simp; omega))) | (with_reducible assumption))); done))⟩
end Go.Proofs.YtjanifoipbmkhaaGreat
