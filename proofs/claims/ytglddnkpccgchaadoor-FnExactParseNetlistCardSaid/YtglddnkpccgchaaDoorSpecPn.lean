/- The reference's ParseNetlist. -/
import Derived.Test.YtglddnkpccgchaaDoorPrsA
import Derived.Test.YtglddnkpccgchaaDoorNlOff
import Derived.Test.YtglddnkpccgchaaDoorSpecNl
import Derived.Test.YtglddnkpccgchaaDoorRens
import Derived.Test.YtglddnkpccgchaaDoorDrawMs
import Derived.Test.YtglddnkpccgchaaDoorSpecLj
import Derived.Test.YtglddnkpccgchaaDoorTakeL
namespace Go.Proofs.YtglddnkpccgchaaDoor
open Go.RowKit
set_option linter.unusedVariables false
set_option linter.unusedSimpArgs false

theorem rename_id (x : Nl) (hB : nlB x = true) (M : Nat) (hM : x.nets = (M : Int)) (v sn : Value) (w : World) (h : NlV w v x) (hn : IntSl w sn (iota M)) :
    Calls Tryd.prog 34 #[v, .int .i64 (M : Int), sn] w fun e w' => ∃ v', e = .returned v' ∧ OwnNl w' w.heap.size w'.heap.size v' x ∧ Below w.heap.size w w' := by
  obtain ⟨⟨n0, n1⟩, h2, h3, h4, h5⟩ := nlB_facts hB
  have hr := ren_iota hB
  rw [hM, Int.toNat_natCast] at hr
  have := specRen_any x (iota M) sn (M : Int) v w h hn h2 h3 (fun d hd => by
    obtain ⟨p1, p2, p3⟩ := dvB_pins (h4 d hd)
    refine ⟨p1, fun e => by rw [e] at p2; simp at p2, fun p hp => ?_⟩
    rw [length_iota, ← hM]
    exact p3 p hp) (fun p hp => by
    obtain ⟨i, hi, e⟩ := List.getElem_of_mem hp
    have h1 := h5 i hi
    unfold ptOk at h1
    rw [List.getElem?_eq_getElem hi, e] at h1
    simp only [Bool.and_eq_true] at h1
    have h6 := inB_iff.1 h1.2.1
    rw [length_iota, ← hM]
    omega)
  rw [hr] at this
  exact this

set_option maxRecDepth 100000 in
set_option maxHeartbeats 4000000 in
theorem specParse_any (s : ByteArray) (w : World) (hs : s.size ≤ 1048576) :
    Calls Tryd.prog 11 #[.string s] w fun e w' => ∃ v', e = .returned (.tuple #[v', .int .i64 (prsS s).2.1, .int .i64 (prsS s).2.2]) ∧ NlV w' v' (prsS s).1 ∧ Below w.heap.size w w' := by
  obtain ⟨ss, hss⟩ : ∃ q, wrdS 10 s = q := ⟨_, rfl⟩
  obtain ⟨hw1, hw2, hw3⟩ := wrd_size 10 s
  rw [hss] at hw1 hw2 hw3
  have HS10 := Lib.hid (fun w => show Calls Tryd.prog 31 #[.string s, .int .u8 10] w _ from l16Split_any s 10 w hs)
  rw [hss] at HS10
  have HNU := Lib.hid (fun v ss w h hs hl => l27Numbers_any v ss w h hs hl)
  have HLN := Lib.hid (fun x v wv ws w h hw h0 hs hl h1 h2 => l27Line_any x v wv ws w h hw h0 hs hl h1 h2)
  have HS32 := Lib.hid (fun (t : ByteArray) w (h : t.size ≤ 1048576) => show Calls Tryd.prog 31 #[.string t, .int .u8 32] w _ from l16Split_any t 32 w h)
  have HVA := Lib.hid (fun x v w h hok hnn => specNl_any x v w h hok hnn)
  have HID := Lib.hid (fun m hm w => l27Identity_any m hm w)
  have HRN := Lib.hid (fun x hB M hM v sn w h hn => rename_id x hB M hM v sn w h hn)
  have HIL := Lib.hid (fun m => length_iota m)
  have HSZ : Hid (∀ x ∈ ss, x.size ≤ 1048576) := Lib.hid (fun x hx => Nat.le_trans (hw1 x hx) hs)
  have HR0 : Hid (prsL 0 nl0 (lsts ss) = prsS s) := Lib.hid (by rw [← hss, lsts_wrd]; rfl)
  have HAT := Lib.hid (fun (i : Nat) (x : ByteArray) (h : ss[i]? = some x) => show (lsts ss)[i]? = some x.data.toList from by unfold lsts; rw [List.getElem?_map, h]; rfl)
  have HLE : Hid ((lsts ss).length = ss.length) := Lib.hid (by simp [lsts])
  generalize hRR : prsS s = R at *
  generalize hLL : lsts ss = L at *
  obtain ⟨n, hn⟩ : ∃ n, ss.length = n := ⟨_, rfl⟩
  have HN := Lib.hid hn
  rw [hn] at hw2 HLE
  have hn0 : 0 < n := by
    rcases Nat.eq_zero_or_pos n with h | h
    · exact absurd (List.eq_nil_of_length_eq_zero (by omega)) hw3
    · exact h
  clear hss hw1 hw3 hn hRR hLL
  go_enter Tryd.func11, Tryd.ntmps11
  go_wp2_with fail
  refine (HS10.out _).mono ?_
  rintro e w1 ⟨v1, rfl, hB1, hb1⟩
  have HST := Lib.hid hB1.sl
  obtain ⟨a, c, rfl⟩ := hB1.sized
  rw [HN.out] at HST ⊢
  have hz1 := hb1.size
  simp only [World.size_alloc] at hz1
  have kR0 : Blk w1 w.heap.size #[.int .i64 0, .slice none 0 0, .slice none 0 0] 31 := Blk.by hb1 (Blk.new _ rfl)
  have hbw : Below w.heap.size w w1 := (by ((repeat (first | (with_reducible exact Below.refl _ _) | (with_reducible refine below_drewN ?_ _) | (with_reducible refine Below.drew ?_) | (with_reducible refine below_al ?_ _) | (with_reducible refine below_on (by assumption) ?_) | ((with_reducible refine Below.setCell ?_ ?_ _); rotate_left; focus (first | omega | (simp; done) | (simp; omega))) | (with_reducible assumption))); done))
  have HRR := Lib.hid (And.intro kR0 (And.intro hbw hz1))
  clear hb1 kR0 hbw hB1
  go_wp2
  have kN0 : Blk (w1.alloc (.cells #[.int .i64 0, .slice none 0 0, .slice none 0 0] 31)) w1.heap.size #[.int .i64 0, .slice none 0 0, .slice none 0 0] 31 := Blk.new _ rfl
  have hb0 : Below w1.heap.size w1 (w1.alloc (.cells #[.int .i64 0, .slice none 0 0, .slice none 0 0] 31)) := (Below.refl _ w1).alloc (Nat.le_refl _) _
  generalize w1.alloc (.cells #[.int .i64 0, .slice none 0 0, .slice none 0 0] 31) = w2 at *
  go_loopw [7, 8, 9, 10, 11] (fun vi vw vok vx vg wr => ∃ (i : Nat) (x : Nl) (b1 b2 : Option Addr) (d1 d2 : Nat), vi = .int .i64 (i : Int) ∧ i < n ∧ Hid (prsL i x (L.drop i) = R) ∧ Hid (nlB x = true ∧ NlF x) ∧ Hid (NlV wr (.agg #[.int .i64 x.nets, .slice b1 x.ds.length d1, .slice b2 x.ps.length d2]) x) ∧ Hid (Blk wr w1.heap.size #[.int .i64 x.nets, .slice b1 x.ds.length d1, .slice b2 x.ps.length d2] 31) ∧ Below w1.heap.size w1 wr) (fun vi _ _ _ _ _ => n - (intOf vi).toNat)
  case atStart =>
    exact ⟨0, nl0, none, none, 0, 0, rfl, hn0, HR0, Lib.hid ⟨nlB_nl0, nl0_f⟩, Lib.hid (nlZ _), Lib.hid kN0, hb0⟩
  case round =>
    obtain ⟨i, x, b1, b2, d1, d2, rfl, hin, HI, HX, HV, HK, hb⟩ := hrel
    clear hb0 kN0
    obtain ⟨t, ht⟩ : ∃ t, ss[i]? = some t := ⟨_, List.getElem?_eq_getElem (by rw [HN.out]; exact hin)⟩
    rcases HST.out with ⟨_, _, e1, e2⟩ | ⟨g, o, cap, e1, e2, e3, e4⟩
    · exfalso
      have := HN.out
      rw [e2] at this
      simp at this
      omega
    rw [HN.out] at e1
    obtain ⟨rfl, rfl⟩ : a = some ⟨g, o, none⟩ ∧ c = cap := by simpa using e1
    have p1 := cell_by' hb (e4 i t ht)
    have HTS : Hid (t.size ≤ 1048576) := Lib.hid (HSZ.out t (List.mem_of_getElem? ht))
    have HLT := Lib.hid (HAT.out i t ht)
    have hlp := lt_of_cell p1
    dsimp only at hlp
    clear ht e1 e2 e3 e4
    have i1 : (0 : Int) ≤ (i : Int) := by omega
    have i2 : (i : Int) < (n : Int) := by omega
    have hn7 := hw2
    have i4 : IntKind.i64.wrap ((i : Int) + 1) = (i : Int) + 1 := by simp [IntKind.wrap, IntKind.bits, IntKind.signed]; omega
    have HK1 := Lib.hid (Blk.by hb HRR.out.1)
    have HBW := Lib.hid (below_on hb HRR.out.2.1)
    have hz2 := HRR.out.2.2
    have hzr := hb.size
    by_cases hlast : i + 1 = n
    · have HLS := Lib.hid (prs_last HLT.out (by rw [HLE.out]; exact hlast) x)
      rw [HI.out] at HLS
      by_cases hbr : 0 < i ∧ t.data.toList = []
      · have HRX : Hid (R = (x, 0, 0)) := Lib.hid (by rw [HLS.out, if_pos hbr])
        obtain ⟨hi0, htn⟩ := hbr
        have htE : t.toList.isEmpty = true := by rw [empty_is, decide_eq_true htn]
        clear HLS htn HI
        go_upto_region 20 with fail
        clear hlp p1
        obtain ⟨M, hM⟩ : ∃ M : Nat, x.nets = (M : Int) := ⟨x.nets.toNat, by have := (nlB_facts HX.out.1).1; omega⟩
        have hMb : M ≤ 24 := by have := (nlB_facts HX.out.1).1; omega
        have HMM := Lib.hid hM
        have kN := HK.out
        have kR := HK1.out
        have hbW := HBW.out
        rw [hM] at kN
        clear hM
        have hzz : w.heap.size + 1 ≤ w1.heap.size := HRR.out.2.2
        have hRr : w.heap.size < wr.heap.size := by omega
        obtain ⟨NB, hNB⟩ : ∃ q, w1.heap.size = q := ⟨_, rfl⟩
        obtain ⟨RB, hRB⟩ : ∃ q, w.heap.size = q := ⟨_, rfl⟩
        rw [hNB] at kN
        rw [hRB] at kR hRr
        rw [hNB, hRB]
        have hNR : NB ≠ RB := by omega
        have hRw : w.heap.size ≤ RB := by omega
        have hNl := kN.lt
        have hRl := kR.lt
        clear hNB hRB hzz
        have hS : (fun w' : World => Blk w' NB #[.int .i64 (M : Int), .slice b1 x.ds.length d1, .slice b2 x.ps.length d2] 31) { wr with drawn := wr.drawn + 1 } := kN.drew
        refine wp_region_any (by kernel_rfl) (wpAny_of_E (S := (fun w' : World => Blk w' NB #[.int .i64 (M : Int), .slice b1 x.ds.length d1, .slice b2 x.ps.length d2] 31)) (l := 9) _ _ _ _ ?_)
        change wpAnyE _ _ _ _ _ _ _ _ _ wr.drew
        refine wpAnyE_takeL (i := 0) (v := ?_) rfl (by kernel_rfl) (fun _ _ _ h => h) (Or.inl ⟨by rfl, ?_⟩) hS ?_
        rotate_left
        · intro w hSw; (try dsimp only at hSw); have qA := hSw.cell; have lA := hSw.lt; clear hSw; go_simp; (try with_reducible rfl)
        try simp only [Act.put, List.setIfInBounds_toArray, List.set_cons_zero, List.set_cons_succ]
        refine wpAnyE_takeL (i := 1) (v := ?_) rfl (by kernel_rfl) (fun _ _ _ h => h) (Or.inl ⟨by rfl, ?_⟩) hS ?_
        rotate_left
        · intro w hSw; (try dsimp only at hSw); have qA := hSw.cell; have lA := hSw.lt; clear hSw; go_simp; (try with_reducible rfl)
        try simp only [Act.put, List.setIfInBounds_toArray, List.set_cons_zero, List.set_cons_succ]
        refine wpAnyE_takeL (i := 2) (v := ?_) rfl (by kernel_rfl) (fun _ _ _ h => h) (Or.inl ⟨by rfl, ?_⟩) hS ?_
        rotate_left
        · intro w hSw; (try dsimp only at hSw); have qA := hSw.cell; have lA := hSw.lt; clear hSw; go_simp; (try with_reducible rfl)
        try simp only [Act.put, List.setIfInBounds_toArray, List.set_cons_zero, List.set_cons_succ]
        refine wpAnyE_takeL (i := 3) (v := ?_) rfl (by kernel_rfl) (fun _ _ _ h => h) (Or.inl ⟨by rfl, ?_⟩) hS ?_
        rotate_left
        · intro w hSw; (try dsimp only at hSw); have qA := hSw.cell; have lA := hSw.lt; clear hSw; go_simp; (try with_reducible rfl)
        try simp only [Act.put, List.setIfInBounds_toArray, List.set_cons_zero, List.set_cons_succ]
        refine wpAnyE_takeL (i := 4) (v := ?_) rfl (by kernel_rfl) (fun _ _ _ h => h) (Or.inl ⟨by rfl, ?_⟩) hS ?_
        rotate_left
        · intro w hSw; (try dsimp only at hSw); have qA := hSw.cell; have lA := hSw.lt; clear hSw; go_simp; (try with_reducible rfl)
        try simp only [Act.put, List.setIfInBounds_toArray, List.set_cons_zero, List.set_cons_succ]
        obtain ⟨y0, hy0⟩ : ∃ q, q = wr.drew := ⟨_, rfl⟩
        have kNc : Blk y0 NB #[.int .i64 (M : Int), .slice b1 x.ds.length d1, .slice b2 x.ps.length d2] 31 := by rw [hy0]; exact kN.drew
        have kRc : Blk y0 RB #[.int .i64 0, .slice none 0 0, .slice none 0 0] 31 := by rw [hy0]; exact kR.drew
        have hbc : Below wr.heap.size wr y0 := by rw [hy0]; exact (Below.refl _ wr).drew
        have HNc := Lib.hid (HV.out.by hbc)
        rw [← hy0]
        clear hy0 kN kR
        refine wpAnyE_oneL (k := 5) (by kernel_rfl) rfl (fun K hK => ?_)
        go_simp
        go_at_call 35
        refine (HID.out M (by omega) y0).mono ?_
        rintro e y1 ⟨vi, rfl, hBi, hbi⟩
        have HBi := Lib.hid hBi
        obtain ⟨ai, ci, rfl⟩ := hBi.sized
        replace kNc := Blk.by hbi kNc
        replace kRc := Blk.by hbi kRc
        replace HNc := Lib.hid (HNc.out.by hbi)
        replace hbc := below_on hbi hbc
        refine hK.out _ _ (fun _ => kNc) ?_
        try simp only [Act.put, List.setIfInBounds_toArray, List.set_cons_zero, List.set_cons_succ]
        clear hK hbi hBi
        rw [HIL.out] at HBi ⊢
        refine wpAnyE_oneL (k := 6) (by kernel_rfl) rfl (fun K hK => ?_)
        rw [HMM.out] at HNc
        go_simp
        go_at_call 34
        refine (HRN.out x HX.out.1 M HMM.out _ _ y1 HNc.out HBi.out.own.sl).mono ?_
        rintro e y2 ⟨v2, rfl, hO2, hb2⟩
        obtain ⟨p1, p2, p3, p4, rfl⟩ := hO2.nl.sized
        have hRy : RB < y1.heap.size := kRc.lt
        replace kNc := Blk.by hb2 kNc
        replace kRc := Blk.by hb2 kRc
        replace hbc := below_on hb2 hbc
        have HO2 := Lib.hid hO2
        clear hO2 hb2
        refine hK.out _ _ (fun _ => kNc) ?_
        try simp only [Act.put, List.setIfInBounds_toArray, List.set_cons_zero, List.set_cons_succ]
        clear hK
        have cR := kRc.cell
        have fR := kRc.free
        have lR := kRc.lt
        refine wpAnyE_oneL (k := 7) (by kernel_rfl) rfl (fun K hK => ?_)
        go_simp
        have HFV : Hid (NlV (((y2.setCell ⟨RB, 0, none⟩ (.int .i64 x.nets)).setCell ⟨RB, 1, none⟩ (.slice p1 x.ds.length p2)).setCell ⟨RB, 2, none⟩ (.slice p3 x.ps.length p4)) (.agg #[.int .i64 x.nets, .slice p1 x.ds.length p2, .slice p3 x.ps.length p4]) x) := Lib.hid (((HO2.out.past (Within.off (g := RB) (o := 0) (.int .i64 x.nets)) (by omega)).past (Within.off (g := RB) (o := 1) (.slice p1 x.ds.length p2)) (by omega)).past (Within.off (g := RB) (o := 2) (.slice p3 x.ps.length p4)) (by omega)).nl
        have hbf : Below w.heap.size w (((y2.setCell ⟨RB, 0, none⟩ (.int .i64 x.nets)).setCell ⟨RB, 1, none⟩ (.slice p1 x.ds.length p2)).setCell ⟨RB, 2, none⟩ (.slice p3 x.ps.length p4)) := (((below_on hbc hbW).setCell hRw _).setCell hRw _).setCell hRw _
        have kRz : Blk (((y2.setCell ⟨RB, 0, none⟩ (.int .i64 x.nets)).setCell ⟨RB, 1, none⟩ (.slice p1 x.ds.length p2)).setCell ⟨RB, 2, none⟩ (.slice p3 x.ps.length p4)) RB #[.int .i64 x.nets, .slice p1 x.ds.length p2, .slice p3 x.ps.length p4] 31 := ((kRc.set 0 _).set 1 _).set 2 _
        have kNz : Blk (((y2.setCell ⟨RB, 0, none⟩ (.int .i64 x.nets)).setCell ⟨RB, 1, none⟩ (.slice p1 x.ds.length p2)).setCell ⟨RB, 2, none⟩ (.slice p3 x.ps.length p4)) NB #[.int .i64 (M : Int), .slice b1 x.ds.length d1, .slice b2 x.ps.length d2] 31 := ((kNc.apart _ _ _ hNR).apart _ _ _ hNR).apart _ _ _ hNR
        refine hK.out _ _ (fun _ => kNz) ?_
        try simp only [Act.put, List.setIfInBounds_toArray, List.set_cons_zero, List.set_cons_succ]
        clear hK cR fR lR kNc kRc HO2
        generalize ((y2.setCell ⟨RB, 0, none⟩ (.int .i64 x.nets)).setCell ⟨RB, 1, none⟩ (.slice p1 x.ds.length p2)).setCell ⟨RB, 2, none⟩ (.slice p3 x.ps.length p4) = y3 at *
        refine wpAnyE_oneL (k := 8) (by kernel_rfl) rfl (fun K hK => ?_)
        go_simp
        refine hK.out _ _ (fun _ => kNz) ?_
        try simp only [Act.put, List.setIfInBounds_toArray, List.set_cons_zero, List.set_cons_succ]
        clear hK
        refine wpAnyE_oneL (k := 9) (by kernel_rfl) rfl (fun K hK => ?_)
        go_simp
        refine hK.out _ _ (fun h => absurd rfl h) ?_
        refine wpAnyE_done (by kernel_rfl) ?_ _
        clear hS kNz
        have cRz := kRz.cell
        have lRz := kRz.lt
        go_wp2
        refine bodyPost_ret (v := .tuple #[.agg #[.int .i64 x.nets, .slice p1 x.ds.length p2, .slice p3 x.ps.length p4], .int .i64 0, .int .i64 0]) (by simp [results, Tryd.results11, go_sem, *]) rfl ⟨_, by rw [HRX.out], by rw [HRX.out]; exact HFV.out, hbf⟩
      · have HRX : Hid (R = (nl0, 4, (i : Int) + 1)) := Lib.hid (by rw [HLS.out, if_neg hbr])
        have i3 : decide ((i : Int) + 1 < (n : Int)) = false := decide_eq_false (by omega)
        rcases Nat.eq_zero_or_pos i with hi0 | hi0
        · have hi1 : ¬ 0 < i := by omega
          clear HLS HI hbr hi0
          go_wp2_with fail
          refine (HS32.out t wr HTS.out).mono ?_
          rintro e w3 ⟨v3, rfl, hB3, hb3⟩
          obtain ⟨a3, c3, rfl⟩ := hB3.sized
          have kR := Blk.by hb3 HK1.out
          have hbn := below_on hb3 HBW.out
          have hbr := below_on hb3 hb
          have kN := Blk.by hb3 HK.out
          have HV3 := Lib.hid (HV.out.by hb3)
          clear hb3 hlp p1 hb
          have cR := kR.cell
          have fR := kR.free
          have lR := kR.lt
          clear hbr
          go_wp2
          refine bodyPost_ret (v := .tuple #[.agg #[.int .i64 0, .slice none 0 0, .slice none 0 0], .int .i64 4, .int .i64 ((i : Int) + 1)]) (by simp [results, Tryd.results11, go_sem, *]) rfl ⟨_, by rw [HRX.out], by rw [HRX.out]; exact nlZ _, (by ((repeat (first | (with_reducible exact Below.refl _ _) | (with_reducible refine below_drewN ?_ _) | (with_reducible refine Below.drew ?_) | (with_reducible refine below_al ?_ _) | (with_reducible refine below_on (by assumption) ?_) | ((with_reducible refine Below.setCell ?_ ?_ _); rotate_left; focus (first | omega | (simp; done) | (simp; omega))) | (with_reducible assumption))); done))⟩
        · have htE : t.toList.isEmpty = false := by
            rw [empty_is, decide_eq_false]
            exact fun e => hbr ⟨hi0, e⟩
          clear HLS HI hbr
          go_wp2_with fail
          refine (HS32.out t wr HTS.out).mono ?_
          rintro e w3 ⟨v3, rfl, hB3, hb3⟩
          obtain ⟨a3, c3, rfl⟩ := hB3.sized
          have kR := Blk.by hb3 HK1.out
          have hbn := below_on hb3 HBW.out
          have hbr := below_on hb3 hb
          have kN := Blk.by hb3 HK.out
          have HV3 := Lib.hid (HV.out.by hb3)
          clear hb3 hlp p1 hb
          have cR := kR.cell
          have fR := kR.free
          have lR := kR.lt
          clear hbr
          go_wp2
          refine bodyPost_ret (v := .tuple #[.agg #[.int .i64 0, .slice none 0 0, .slice none 0 0], .int .i64 4, .int .i64 ((i : Int) + 1)]) (by simp [results, Tryd.results11, go_sem, *]) rfl ⟨_, by rw [HRX.out], by rw [HRX.out]; exact nlZ _, (by ((repeat (first | (with_reducible exact Below.refl _ _) | (with_reducible refine below_drewN ?_ _) | (with_reducible refine Below.drew ?_) | (with_reducible refine below_al ?_ _) | (with_reducible refine below_on (by assumption) ?_) | ((with_reducible refine Below.setCell ?_ ?_ _); rotate_left; focus (first | omega | (simp; done) | (simp; omega))) | (with_reducible assumption))); done))⟩
    · have hnl : i + 1 < n := by omega
      have HNL := Lib.hid hnl
      have HLS := Lib.hid (prs_next HLT.out (by rw [HLE.out]; exact hnl) x)
      rw [HI.out] at HLS
      have i3 : decide ((i : Int) + 1 < (n : Int)) = true := decide_eq_true (by omega)
      have i5 : ((i : Int) + 1 == (n : Int)) = false := by simp; omega
      obtain ⟨W, hW⟩ : ∃ q, wrdS 32 t = q := ⟨_, rfl⟩
      obtain ⟨k1, k2, k3⟩ := wrd_size 32 t
      have hLW := lsts_wrd 32 t
      rw [hW] at k1 k2 k3 hLW
      rw [← hLW] at HLS
      obtain ⟨s0, r, rfl⟩ : ∃ s0 r, W = s0 :: r := by
        cases W with
        | nil => exact absurd rfl k3
        | cons s0 r => exact ⟨s0, r, rfl⟩
      have HW := Lib.hid hW
      have HT := HTS.out
      have HWR : Hid ((∀ y ∈ r, y.size ≤ 1048576) ∧ r.length ≤ 1048577) := Lib.hid ⟨fun y hy => by have := k1 y (List.mem_cons_of_mem _ hy); omega, by simp at k2; omega⟩
      have HWA : Hid ((∀ y ∈ s0 :: r, y.size ≤ 1048576) ∧ (s0 :: r).length ≤ 1048577 ∧ ∀ p ∈ lsts (s0 :: r), p.length ≤ 1048576) := Lib.hid ⟨fun y hy => by have := k1 y hy; omega, by omega, fun p hp => by
        obtain ⟨y, hy, rfl⟩ := List.mem_map.1 hp
        have := k1 y hy
        rw [size_data]
        omega⟩
      clear HI hlast hW k1 k2 k3 hLW HT
      rcases Nat.eq_zero_or_pos i with hi0 | hi0
      · have ieq : ((i : Int) == 0) = true := by simp; omega
        have hi1 : ¬ 0 < i := by omega
        rw [show decide (i = 0) = true from decide_eq_true hi0] at HLS
        clear hi0 hnl
        go_wp2_with fail
        refine (HS32.out t wr HTS.out).mono ?_
        rintro e w3 ⟨v3, rfl, hB3, hb3⟩
        have hst := HW.out ▸ hB3.sl
        obtain ⟨a3, c3, rfl⟩ := hB3.sized
        rw [HW.out, show (s0 :: r).length = r.length + 1 from rfl] at hst ⊢
        obtain ⟨g3, o3, rfl, -⟩ := str_at hst
        have q0 : w3.cell? ⟨g3, o3, none⟩ = some (.string s0) := str_cell hst 0 s0 rfl
        clear hB3
        have kR := Blk.by hb3 HK1.out
        have hbn := below_on hb3 HBW.out
        have hbr := below_on hb3 hb
        have kN := Blk.by hb3 HK.out
        have HV3 := Lib.hid (HV.out.by hb3)
        clear hb3 hlp p1 hb
        obtain ⟨-, hc1, hwt⟩ := hst.tail
        rw [show r.length + 1 - 1 = r.length by omega] at hwt
        have hcase : (c3 - 1 = 0 ∧ StrSl w3 (.slice (some ⟨g3, o3, none⟩) r.length 0) r) ∨ (¬ c3 - 1 = 0 ∧ StrSl w3 (.slice (some ⟨g3, o3 + 1, none⟩) r.length (c3 - 1)) r) := by
          by_cases h : c3 - 1 = 0
          · have hr0 : r.length = 0 := by
              rcases hwt with ⟨_, _, h1, h2⟩ | ⟨_, _, _, h1, h2, _⟩
              · simp only [Value.slice.injEq] at h1; omega
              · simp only [Value.slice.injEq] at h1; omega
            exact .inl ⟨h, .inl ⟨some ⟨g3, o3, none⟩, 0, by rw [hr0], List.eq_nil_of_length_eq_zero hr0⟩⟩
          · exact .inr ⟨h, hwt⟩
        obtain ⟨k, hk0⟩ : ∃ k, r.length = k := ⟨_, rfl⟩
        rw [hk0] at hcase hwt ⊢
        have HK0 := Lib.hid hk0
        have e9 : k + 1 ≤ c3 := by
          rcases hwt with ⟨_, _, h1, h2⟩ | ⟨_, _, _, h1, h2, _⟩
          · simp only [Value.slice.injEq] at h1; omega
          · simp only [Value.slice.injEq] at h1; omega
        have e8 : (0 : Int) < ((k + 1 : Nat) : Int) := by omega
        have lg := lt_of_cell q0
        dsimp only at lg
        have e0 := nets_word s0
        have HLU : Hid (lineL true x (lsts (s0 :: r)) = if s0.data.toList = wNetsL then (match numsL (lsts r) with | some [z] => some { x with nets := z } | _ => none) else none) := Lib.hid rfl
        rw [HLU.out] at HLS
        clear hwt hst hk0
        rcases hcase with ⟨hcz, hwt⟩ | ⟨hcz, hwt⟩
        all_goals
          have HWT := Lib.hid hwt
          clear hwt
          go_wp2_with fail
          refine (HNU.out _ r w3 HWT.out HWR.out.1 HWR.out.2).mono ?_
          rintro e w4 ⟨v4, rfl, hB4, hb4⟩
          have q1 := cell_by' hb4 q0
          have lg4 := lt_of_cell q1
          dsimp only at lg4
          replace HV3 := Lib.hid (HV3.out.by hb4)
          replace kR := Blk.by hb4 kR
          replace hbn := below_on hb4 hbn
          replace hbr := below_on hb4 hbr
          replace kN := Blk.by hb4 kN
          clear hb4 q0 lg
          by_cases hk : s0.data.toList = wNetsL
          · rw [decide_eq_true hk] at e0
            rw [if_pos hk] at HLS
            match hn : numsL (lsts r) with
            | none =>
              have HRX : Hid (R = (nl0, 4, (i : Int) + 1)) := Lib.hid (by rw [HLS.out, hn])
              rw [hn] at hB4
              obtain ⟨a5, c5, rfl⟩ := hB4.sized
              simp only [Option.isSome_none, Option.getD_none]
              clear hn HLS hB4 hk HLU
              have cR := kR.cell
              have fR := kR.free
              have lR := kR.lt
              clear hbr
              go_wp2
              refine bodyPost_ret (v := .tuple #[.agg #[.int .i64 0, .slice none 0 0, .slice none 0 0], .int .i64 4, .int .i64 ((i : Int) + 1)]) (by simp [results, Tryd.results11, go_sem, *]) rfl ⟨_, by rw [HRX.out], by rw [HRX.out]; exact nlZ _, (by ((repeat (first | (with_reducible exact Below.refl _ _) | (with_reducible refine below_drewN ?_ _) | (with_reducible refine Below.drew ?_) | (with_reducible refine below_al ?_ _) | (with_reducible refine below_on (by assumption) ?_) | ((with_reducible refine Below.setCell ?_ ?_ _); rotate_left; focus (first | omega | (simp; done) | (simp; omega))) | (with_reducible assumption))); done))⟩
            | some zs =>
              rw [hn] at hB4
              simp only [Option.isSome_some, Option.getD_some] at hB4 ⊢
              by_cases hz : zs.length = 1
              · obtain ⟨z, rfl⟩ : ∃ z, zs = [z] := by
                  match zs, hz with
                  | [z], _ => exact ⟨z, rfl⟩
                rcases hB4.own with ⟨_, _, _, h0⟩ | ⟨G, c5, cs, rfl, hG1, hG2, hl1, hl2, hBk, hcell⟩
                · simp at h0
                obtain ⟨y, hy⟩ : ∃ y : Nl, y = { x with nets := z } := ⟨_, rfl⟩
                have hl : lineL true x (lsts (s0 :: r)) = some y := by rw [HLU.out, if_pos hk, hn, hy]
                have HYF := Lib.hid (line_fits HX.out.2 HX.out.1 HWA.out.2.2 hl)
                have HRY : Hid (R = if nlB y = true then prsL (i + 1) y (L.drop (i + 1)) else (nl0, 2, (i : Int) + 1)) := Lib.hid (by rw [HLS.out, hn, hy])
                have qz : w4.cell? ⟨G, 0, none⟩ = some (.int .i64 z) := (hBk.cell 0).trans (hcell 0 z rfl)
                have lz := lt_of_cell qz
                dsimp only at lz
                have cN := kN.cell
                have fN := kN.free
                have lN := kN.lt
                have kN5 : Blk (w4.setCell ⟨w1.heap.size, 0, none⟩ (.int .i64 z)) w1.heap.size #[.int .i64 z, .slice b1 x.ds.length d1, .slice b2 x.ps.length d2] 31 := kN.set 0 _
                have hneR : w.heap.size ≠ w1.heap.size := by omega
                have hle1 : w.heap.size ≤ w1.heap.size := by omega
                have kR5 : Blk (w4.setCell ⟨w1.heap.size, 0, none⟩ (.int .i64 z)) w.heap.size #[.int .i64 0, .slice none 0 0, .slice none 0 0] 31 := kR.apart _ _ _ hneR
                have hbn5 : Below w.heap.size w (w4.setCell ⟨w1.heap.size, 0, none⟩ (.int .i64 z)) := hbn.setCell hle1 _
                have hbr5 : Below w1.heap.size w1 (w4.setCell ⟨w1.heap.size, 0, none⟩ (.int .i64 z)) := hbr.setCell (Nat.le_refl _) _
                have HV5 : Hid (NlV (w4.setCell ⟨w1.heap.size, 0, none⟩ (.int .i64 z)) (.agg #[.int .i64 z, .slice b1 x.ds.length d1, .slice b2 x.ps.length d2]) y) := Lib.hid (by rw [hy]; exact NlV.off1 kN HX.out.2.2.2.2.2 HV3.out)
                have hyn : y.nets = z := by rw [hy]
                have hyd : y.ds.length = x.ds.length := by rw [hy]
                have hyp : y.ps.length = x.ps.length := by rw [hy]
                have HYN := Lib.hid (And.intro hyn (And.intro hyd hyp))
                clear hneR hle1 hBk hcell hB4 hk HLU hn hy hz hl HLS hyn hyd hyp HV3 hG1 hG2 hl1
                go_wp2_with fail
                clear cN fN lN kN kR hbn hbr qz lz q1 lg4
                generalize (w4.setCell ⟨w1.heap.size, 0, none⟩ (.int .i64 z)) = w5 at *
                obtain ⟨u1, hu1⟩ : ∃ q, q = b1 := ⟨_, rfl⟩
                obtain ⟨u2, hu2⟩ : ∃ q, q = b2 := ⟨_, rfl⟩
                obtain ⟨e1, he1⟩ : ∃ q, q = d1 := ⟨_, rfl⟩
                obtain ⟨e2, he2⟩ : ∃ q, q = d2 := ⟨_, rfl⟩
                rw [← hu1, ← hu2, ← he1, ← he2, ← HYN.out.1, ← HYN.out.2.1, ← HYN.out.2.2] at kN5 HV5
                rw [← hu1, ← hu2, ← he1, ← he2, ← HYN.out.1, ← HYN.out.2.1, ← HYN.out.2.2]
                clear hu1 hu2 he1 he2 HYN HV HK
                refine (HVA.out y _ w5 HV5.out HYF.out.2.1 HYF.out.1).mono ?_
                rintro e w6 ⟨rfl, hb6⟩
                have kR := Blk.by hb6 kR5
                have hbn := below_on hb6 hbn5
                have hbr := below_on hb6 hbr5
                have HV6 := Lib.hid (HV5.out.by hb6)
                have HK6 := Lib.hid (Blk.by hb6 kN5)
                clear hb6 kN5 kR5 hbn5 hbr5 HV5
                cases hB : nlB y with
                | false =>
                  have HRX : Hid (R = (nl0, 2, (i : Int) + 1)) := Lib.hid (by rw [HRY.out, hB]; rfl)
                  have cR := kR.cell
                  have fR := kR.free
                  have lR := kR.lt
                  clear hB HRY
                  clear hbr
                  go_wp2
                  refine bodyPost_ret (v := .tuple #[.agg #[.int .i64 0, .slice none 0 0, .slice none 0 0], .int .i64 2, .int .i64 ((i : Int) + 1)]) (by simp [results, Tryd.results11, go_sem, *]) rfl ⟨_, by rw [HRX.out], by rw [HRX.out]; exact nlZ _, (by ((repeat (first | (with_reducible exact Below.refl _ _) | (with_reducible refine below_drewN ?_ _) | (with_reducible refine Below.drew ?_) | (with_reducible refine below_al ?_ _) | (with_reducible refine below_on (by assumption) ?_) | ((with_reducible refine Below.setCell ?_ ?_ _); rotate_left; focus (first | omega | (simp; done) | (simp; omega))) | (with_reducible assumption))); done))⟩
                | true =>
                  have HRX : Hid (prsL (i + 1) y (L.drop (i + 1)) = R) := Lib.hid (by rw [HRY.out, hB]; rfl)
                  have HXY : Hid (nlB y = true ∧ NlF y) := Lib.hid ⟨hB, HYF.out⟩
                  clear hB HRY
                  go_wp2
                  exact ⟨⟨i + 1, y, u1, u2, e1, e2, (by first | rfl | go_num | simp), HNL.out, HRX, HXY, HV6, HK6, hbr⟩, (by have := HNL.out; simp [intOf]; omega)⟩
              · have HRX : Hid (R = (nl0, 4, (i : Int) + 1)) := Lib.hid (by
                  rw [HLS.out, hn]
                  match zs, hz with
                  | [], _ => rfl
                  | [_], h => exact absurd rfl h
                  | _ :: _ :: _, _ => rfl)
                have ez : ((zs.length : Int) == 1) = false := by simp; omega
                obtain ⟨a5, c5, rfl⟩ := hB4.sized
                clear hn HLS hB4 hk HLU hz
                have cR := kR.cell
                have fR := kR.free
                have lR := kR.lt
                clear hbr
                go_wp2
                refine bodyPost_ret (v := .tuple #[.agg #[.int .i64 0, .slice none 0 0, .slice none 0 0], .int .i64 4, .int .i64 ((i : Int) + 1)]) (by simp [results, Tryd.results11, go_sem, *]) rfl ⟨_, by rw [HRX.out], by rw [HRX.out]; exact nlZ _, (by ((repeat (first | (with_reducible exact Below.refl _ _) | (with_reducible refine below_drewN ?_ _) | (with_reducible refine Below.drew ?_) | (with_reducible refine below_al ?_ _) | (with_reducible refine below_on (by assumption) ?_) | ((with_reducible refine Below.setCell ?_ ?_ _); rotate_left; focus (first | omega | (simp; done) | (simp; omega))) | (with_reducible assumption))); done))⟩
          · rw [decide_eq_false hk] at e0
            rw [if_neg hk] at HLS
            have HRX : Hid (R = (nl0, 4, (i : Int) + 1)) := Lib.hid (by rw [HLS.out])
            obtain ⟨a5, c5, rfl⟩ := hB4.sized
            clear hk HLS hB4 HLU
            have cR := kR.cell
            have fR := kR.free
            have lR := kR.lt
            clear hbr
            go_wp2
            refine bodyPost_ret (v := .tuple #[.agg #[.int .i64 0, .slice none 0 0, .slice none 0 0], .int .i64 4, .int .i64 ((i : Int) + 1)]) (by simp [results, Tryd.results11, go_sem, *]) rfl ⟨_, by rw [HRX.out], by rw [HRX.out]; exact nlZ _, (by ((repeat (first | (with_reducible exact Below.refl _ _) | (with_reducible refine below_drewN ?_ _) | (with_reducible refine Below.drew ?_) | (with_reducible refine below_al ?_ _) | (with_reducible refine below_on (by assumption) ?_) | ((with_reducible refine Below.setCell ?_ ?_ _); rotate_left; focus (first | omega | (simp; done) | (simp; omega))) | (with_reducible assumption))); done))⟩
      · have ieq : ((i : Int) == 0) = false := by simp; omega
        rw [show decide (i = 0) = false from decide_eq_false (by omega)] at HLS
        clear hnl
        go_wp2_with fail
        refine (HS32.out t wr HTS.out).mono ?_
        rintro e w3 ⟨v3, rfl, hB3, hb3⟩
        have hst := HW.out ▸ hB3.sl
        obtain ⟨a3, c3, rfl⟩ := hB3.sized
        rw [HW.out, show (s0 :: r).length = r.length + 1 from rfl] at hst ⊢
        obtain ⟨g3, o3, rfl, -⟩ := str_at hst
        have q0 : w3.cell? ⟨g3, o3, none⟩ = some (.string s0) := str_cell hst 0 s0 rfl
        clear hB3
        have kR := Blk.by hb3 HK1.out
        have hbn := below_on hb3 HBW.out
        have hbr := below_on hb3 hb
        have kN := Blk.by hb3 HK.out
        have HV3 := Lib.hid (HV.out.by hb3)
        clear hb3 hlp p1 hb
        have HST3 := Lib.hid hst
        have cN := kN.cell
        have lN := kN.lt
        clear hst
        go_wp2_with fail
        refine (HLN.out x _ _ (s0 :: r) w3 HV3.out HST3.out (by simp) HWA.out.1 HWA.out.2.1 (by have := nlB_cnt HX.out.1; omega) (by have := nlB_cnt HX.out.1; omega)).mono ?_
        rintro e w4 ⟨v4, rfl, hy4, hb4, hsh⟩
        clear cN lN HV3
        replace kR := Blk.by hb4 kR
        replace hbn := below_on hb4 hbn
        replace hbr := below_on hb4 hbr
        replace kN := Blk.by hb4 kN
        match hl : lineL false x (lsts (s0 :: r)) with
        | none =>
          have HRX : Hid (R = (nl0, 4, (i : Int) + 1)) := Lib.hid (by rw [HLS.out, hl])
          obtain ⟨z4, a4, n4, c4, a5, n5, c5, rfl⟩ := hsh
          simp only [Option.isSome_none]
          clear hl HLS hy4 hb4
          have cN := kN.cell
          have fN := kN.free
          have lN := kN.lt
          have cR := kR.cell
          have fR := kR.free
          have lR := kR.lt
          clear hbr
          go_wp2
          refine bodyPost_ret (v := .tuple #[.agg #[.int .i64 0, .slice none 0 0, .slice none 0 0], .int .i64 4, .int .i64 ((i : Int) + 1)]) (by simp [results, Tryd.results11, go_sem, *]) rfl ⟨_, by rw [HRX.out], by rw [HRX.out]; exact nlZ _, (by ((repeat (first | (with_reducible exact Below.refl _ _) | (with_reducible refine below_drewN ?_ _) | (with_reducible refine Below.drew ?_) | (with_reducible refine below_al ?_ _) | (with_reducible refine below_on (by assumption) ?_) | ((with_reducible refine Below.setCell ?_ ?_ _); rotate_left; focus (first | omega | (simp; done) | (simp; omega))) | (with_reducible assumption))); done))⟩
        | some y =>
          have HYF := Lib.hid (line_fits HX.out.2 HX.out.1 HWA.out.2.2 hl)
          have HRY : Hid (R = if nlB y = true then prsL (i + 1) y (L.drop (i + 1)) else (nl0, 2, (i : Int) + 1)) := Lib.hid (by rw [HLS.out, hl])
          have hy5 := hy4 y hl
          obtain ⟨u1, e1, u2, e2, rfl⟩ := hy5.sized
          simp only [Option.isSome_some]
          clear hl HLS hy4 hsh hb4
          have cN := kN.cell
          have fN := kN.free
          have lN := kN.lt
          have kN5 : Blk (((w4.setCell ⟨w1.heap.size, 0, none⟩ (.int .i64 y.nets)).setCell ⟨w1.heap.size, 1, none⟩ (.slice u1 y.ds.length e1)).setCell ⟨w1.heap.size, 2, none⟩ (.slice u2 y.ps.length e2)) w1.heap.size #[.int .i64 y.nets, .slice u1 y.ds.length e1, .slice u2 y.ps.length e2] 31 := ((kN.set 0 _).set 1 _).set 2 _
          have hneR : w.heap.size ≠ w1.heap.size := by omega
          have hle1 : w.heap.size ≤ w1.heap.size := by omega
          have kR5 : Blk (((w4.setCell ⟨w1.heap.size, 0, none⟩ (.int .i64 y.nets)).setCell ⟨w1.heap.size, 1, none⟩ (.slice u1 y.ds.length e1)).setCell ⟨w1.heap.size, 2, none⟩ (.slice u2 y.ps.length e2)) w.heap.size #[.int .i64 0, .slice none 0 0, .slice none 0 0] 31 := ((kR.apart _ _ _ hneR).apart _ _ _ hneR).apart _ _ _ hneR
          have hbn5 : Below w.heap.size w (((w4.setCell ⟨w1.heap.size, 0, none⟩ (.int .i64 y.nets)).setCell ⟨w1.heap.size, 1, none⟩ (.slice u1 y.ds.length e1)).setCell ⟨w1.heap.size, 2, none⟩ (.slice u2 y.ps.length e2)) := ((hbn.setCell hle1 _).setCell hle1 _).setCell hle1 _
          have hbr5 : Below w1.heap.size w1 (((w4.setCell ⟨w1.heap.size, 0, none⟩ (.int .i64 y.nets)).setCell ⟨w1.heap.size, 1, none⟩ (.slice u1 y.ds.length e1)).setCell ⟨w1.heap.size, 2, none⟩ (.slice u2 y.ps.length e2)) := ((hbr.setCell (Nat.le_refl _) _).setCell (Nat.le_refl _) _).setCell (Nat.le_refl _) _
          have HV5 : Hid (NlV (((w4.setCell ⟨w1.heap.size, 0, none⟩ (.int .i64 y.nets)).setCell ⟨w1.heap.size, 1, none⟩ (.slice u1 y.ds.length e1)).setCell ⟨w1.heap.size, 2, none⟩ (.slice u2 y.ps.length e2)) (.agg #[.int .i64 y.nets, .slice u1 y.ds.length e1, .slice u2 y.ps.length e2]) y) := Lib.hid (NlV.off3 kN HYF.out.2.2.2.2 hy5)
          clear hy5 hneR hle1
          go_wp2_with fail
          clear cN fN lN kN kR hbn hbr
          generalize (((w4.setCell ⟨w1.heap.size, 0, none⟩ (.int .i64 y.nets)).setCell ⟨w1.heap.size, 1, none⟩ (.slice u1 y.ds.length e1)).setCell ⟨w1.heap.size, 2, none⟩ (.slice u2 y.ps.length e2)) = w5 at *
          refine (HVA.out y _ w5 HV5.out HYF.out.2.1 HYF.out.1).mono ?_
          rintro e w6 ⟨rfl, hb6⟩
          have kR := Blk.by hb6 kR5
          have hbn := below_on hb6 hbn5
          have hbr := below_on hb6 hbr5
          have HV6 := Lib.hid (HV5.out.by hb6)
          have HK6 := Lib.hid (Blk.by hb6 kN5)
          clear hb6 kN5 kR5 hbn5 hbr5 HV5
          cases hB : nlB y with
          | false =>
            have HRX : Hid (R = (nl0, 2, (i : Int) + 1)) := Lib.hid (by rw [HRY.out, hB]; rfl)
            have cR := kR.cell
            have fR := kR.free
            have lR := kR.lt
            clear hB HRY
            clear hbr
            go_wp2
            refine bodyPost_ret (v := .tuple #[.agg #[.int .i64 0, .slice none 0 0, .slice none 0 0], .int .i64 2, .int .i64 ((i : Int) + 1)]) (by simp [results, Tryd.results11, go_sem, *]) rfl ⟨_, by rw [HRX.out], by rw [HRX.out]; exact nlZ _, (by ((repeat (first | (with_reducible exact Below.refl _ _) | (with_reducible refine below_drewN ?_ _) | (with_reducible refine Below.drew ?_) | (with_reducible refine below_al ?_ _) | (with_reducible refine below_on (by assumption) ?_) | ((with_reducible refine Below.setCell ?_ ?_ _); rotate_left; focus (first | omega | (simp; done) | (simp; omega))) | (with_reducible assumption))); done))⟩
          | true =>
            have HRX : Hid (prsL (i + 1) y (L.drop (i + 1)) = R) := Lib.hid (by rw [HRY.out, hB]; rfl)
            have HXY : Hid (nlB y = true ∧ NlF y) := Lib.hid ⟨hB, HYF.out⟩
            clear hB HRY
            go_wp2
            exact ⟨⟨i + 1, y, u1, u2, e1, e2, (by first | rfl | go_num | simp), HNL.out, HRX, HXY, HV6, HK6, hbr⟩, (by have := HNL.out; simp [intOf]; omega)⟩
end Go.Proofs.YtglddnkpccgchaaDoor
