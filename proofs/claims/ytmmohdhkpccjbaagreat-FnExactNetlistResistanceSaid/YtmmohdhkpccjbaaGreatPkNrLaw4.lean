/- Contracts and plain laws, part 4, for the statement's proof. -/
import Derived.Test.YtmmohdhkpccjbaaGreatPkNrLaw3
import Derived.Deep.RegionHeldLaw
import Derived.Shelf.Abstract
import Derived.Deep.RegionHeld3
import Derived.ProofKit
import Derived.OpenShut
import Derived.BigRegion
import Derived.Deep.QuietTactic
import Derived.BigQuiet
import Derived.StillTailTactics
import Derived.Deep.DeepCutAuto
namespace Go.Proofs.YtmmohdhkpccjbaaGreat
open Go.RowKit
set_option linter.unusedVariables false
set_option linter.unusedSimpArgs false
def okD (d : Dv) : Bool := !decide (curP d.pins = curQ d.pins)
def rmS (x : Nl) : Nl := if nlB x = true then ⟨x.nets, x.ds.filter okD, x.ps⟩ else ⟨0, [], []⟩
theorem rmS_no {x : Nl} (h : nlB x = false) : rmS x = ⟨0, [], []⟩ := by simp [rmS, h]
theorem rmS_yes {x : Nl} (h : nlB x = true) : rmS x = ⟨x.nets, x.ds.filter okD, x.ps⟩ := by simp [rmS, h]
theorem filter_yes (ds : List Dv) (k : Nat) (x : Dv) (h : ds[k]? = some x) (hx : okD x = true) : (ds.take (k + 1)).filter okD = (ds.take k).filter okD ++ [x] := by
  rw [take_snoc_of ds k x h, List.filter_append]; simp [hx]
theorem filter_no (ds : List Dv) (k : Nat) (x : Dv) (h : ds[k]? = some x) (hx : okD x = false) : (ds.take (k + 1)).filter okD = (ds.take k).filter okD := by
  rw [take_snoc_of ds k x h, List.filter_append]; simp [hx]
theorem ownNl_zero (w : World) (lo hi : Nat) (h : lo ≤ hi) : OwnNl w lo hi (.agg #[.int .i64 0, .slice none 0 0, .slice none 0 0]) ⟨0, [], []⟩ :=
  ⟨_, _, lo, hi, hi, hi, rfl, .inl ⟨_, _, rfl, rfl⟩, .inl ⟨_, _, rfl, rfl⟩, ⟨Nat.le_refl _, Nat.le_refl _⟩, ⟨h, Nat.le_refl _⟩, .inl (Nat.le_refl _)⟩
set_option maxRecDepth 100000 in
set_option maxHeartbeats 1000000 in
theorem specRm_no (x : Nl) (v : Value) (w : World) (h : NlV w v x) (hok : ∀ p ∈ x.ps, p.ok) (hnn : Fits x.nets) (hv : nlB x = false) :
    Calls Tryz.prog 18 #[v] w fun e w' => ∃ v', e = .returned v' ∧ OwnNl w' w.heap.size w'.heap.size v' (rmS x) ∧ Below w.heap.size w w' := by
  rw [rmS_no hv]
  have HV := Lib.hid (fun v w h => specNl_any x v w h hok hnn)
  rw [hv] at HV
  have HN := Lib.hid h
  obtain ⟨a, c, a', c', rfl⟩ := h.sized
  clear h hok hv
  go_enter Tryz.func18, Tryz.ntmps18
  go_wp2_with (go_at_call 16; refine (HV.out _ _ (HN.out.by blwT)).mono ?_; rintro e w1 ⟨rfl, hb1⟩; have k1 : Blk w1 (w.heap.size + 1) #[.int .i64 0, .slice none 0 0, .slice none 0 0] 34 := blkT; have f1 := k1.free; have c1 := k1.cell; have l1 := k1.lt)
  exact bodyPost_ret (v := .agg #[.int .i64 0, .slice none 0 0, .slice none 0 0]) (by simp [results, Tryz.results18, go_sem, *]) rfl ⟨_, rfl, ownNl_zero _ _ _ (by simp; omega), blwT⟩
set_option maxRecDepth 100000 in
set_option maxHeartbeats 8000000 in
theorem specRm_yes (x : Nl) (v : Value) (w : World) (h : NlV w v x) (hok : ∀ p ∈ x.ps, p.ok) (hnn : Fits x.nets) (hv : nlB x = true) :
    Calls Tryz.prog 18 #[v] w fun e w' => ∃ v', e = .returned v' ∧ OwnNl w' w.heap.size w'.heap.size v' (rmS x) ∧ Below w.heap.size w w' := by
  rw [rmS_yes hv]
  have HV := Lib.hid (fun v w h => specNl_any x v w h hok hnn)
  rw [hv] at HV
  have HN := Lib.hid h
  obtain ⟨_, hl24, hp8, hdv, _⟩ := nlB_facts hv
  have HSH := Lib.hid (fun d (hd : d ∈ x.ds) => shp_of (hdv d hd))
  have HPN := Lib.hid (fun d (hd : d ∈ x.ds) => dvB_pins (hdv d hd))
  obtain ⟨s1, s2, rfl, hd, hp⟩ := h
  obtain ⟨nets, ds, ps⟩ := x
  dsimp only at hd hp HN HV HSH HPN hl24 hp8 ⊢
  have HD := Lib.hid hd
  have HP := Lib.hid hp
  obtain ⟨a1, c1, rfl⟩ := hd.sized
  obtain ⟨a2, c2, rfl⟩ := hp.sized
  clear hd hp hok hv hdv
  go_enter Tryz.func18, Tryz.ntmps18
  go_wp2_with fail
  refine (HV.out _ _ (HN.out.by blwT)).mono ?_
  rintro e w1 ⟨rfl, hb1⟩
  have kN : Blk w1 w.heap.size #[.int .i64 nets, .slice a1 ds.length c1, .slice a2 ps.length c2] 34 := blkT
  have kZ : Blk w1 (w.heap.size + 1) #[.int .i64 0, .slice none 0 0, .slice none 0 0] 34 := blkT
  have hb : Below w.heap.size w w1 := blwT
  have c01 : w1.cell? ⟨w.heap.size, 0, none⟩ = some (.int .i64 nets) := kN.cell 0
  have c02 : w1.cell? ⟨w.heap.size, 2, none⟩ = some (.slice a2 ps.length c2) := kN.cell 2
  have lN := kN.lt
  have lZ := kZ.lt
  have HPW := Lib.hid (HP.out.by hb)
  clear hb1
  go_upto_region 3 with fail
  go_cut [3] (fun s3 wx => ∃ (p : Nat) (a3 : Option Addr) (c3 lo2 hi2 : Nat), s3 = .pointer (some ⟨p, 0, none⟩) ∧ Blk wx p #[.int .i64 nets, .slice none 0 0, .slice a3 ps.length c3] 34 ∧ Blk wx w.heap.size #[.int .i64 nets, .slice a1 ds.length c1, .slice a2 ps.length c2] 34 ∧ Blk wx (w.heap.size + 1) #[.int .i64 0, .slice none 0 0, .slice none 0 0] 34 ∧ OwnPs wx lo2 hi2 (.slice a3 ps.length c3) ps ∧ (w.heap.size + 1 < p ∧ w.heap.size + 1 < lo2 ∧ hi2 ≤ wx.heap.size ∧ (p < lo2 ∨ hi2 ≤ p)) ∧ Below w.heap.size w wx)
  case first =>
    go_region_held_law ((fun w' => (Blk w' (w.heap.size) #[.int .i64 nets, .slice a1 ds.length c1, .slice a2 ps.length c2] 34 ∧ ∀ o, w'.cell? ⟨w.heap.size, o, none⟩ = (#[.int .i64 nets, .slice a1 ds.length c1, .slice a2 ps.length c2] : Array Value)[o]?) ∧ Below w.heap.size w w')) (((try (obtain ⟨⟨hS0, _⟩, hSB⟩ := hHeld)); refine ⟨Blk.both ?_, ?_⟩ <;> first | ((repeat (first | (with_reducible assumption) | (with_reducible refine Blk.drewN ?_ _) | (with_reducible refine Blk.drew ?_) | ((with_reducible refine Blk.new _ ?_); focus (first | omega | (simp; done) | (simp; omega))) | (with_reducible refine Blk.past ?_ _) | ((with_reducible refine Blk.apart ?_ _ _ _ ?_); rotate_left; focus (first | omega | (simp; done) | (simp; omega))) | (with_reducible refine Blk.by (by assumption) ?_))); done) | ((repeat (first | (with_reducible exact Below.refl _ _) | (with_reducible refine below_drewN ?_ _) | (with_reducible refine Below.drew ?_) | (with_reducible refine below_al ?_ _) | (with_reducible refine below_on (by assumption) ?_) | ((with_reducible refine Below.setCell ?_ ?_ _); rotate_left; focus (first | omega | (simp; done) | (simp; omega))) | (with_reducible assumption))); done)))
      (first | (refine step_cloneP (by rfl) _ _ (by rfl) _ (by rfl) _ ps (by rfl) (HPW.out.by blwT) (by omega) _ (Nat.le_refl _) ?_; intro v3 w3 hO hb3; have HO := Lib.hid hO; obtain ⟨a3, c3, rfl⟩ := hO.sl.sized; clear hO; (refine with_fact (p := Blk w3 w.heap.size #[.int .i64 nets, .slice a1 ds.length c1, .slice a2 ps.length c2] 34) (Blk.by hb3 ?_) ?_; (focus ((repeat (first | (with_reducible assumption) | (with_reducible refine Blk.drewN ?_ _) | (with_reducible refine Blk.drew ?_) | ((with_reducible refine Blk.new _ ?_); focus (first | omega | (simp; done) | (simp; omega))) | (with_reducible refine Blk.past ?_ _) | ((with_reducible refine Blk.apart ?_ _ _ _ ?_); rotate_left; focus (first | omega | (simp; done) | (simp; omega))) | (with_reducible refine Blk.by (by assumption) ?_))); done)); intro kN3; have lN3 := kN3.lt; have q0 : w3.cell? ⟨w.heap.size, 0, none⟩ = some (.int .i64 nets) := kN3.cell 0; have q2 : w3.cell? ⟨w.heap.size, 2, none⟩ = some (.slice a2 ps.length c2) := kN3.cell 2); (try (refine with_fact (p := Blk w3 (w1.heap.size) #[.int .i64 0, .slice none 0 0, .slice none 0 0] 34) (Blk.by hb3 ?_) ?_; (focus ((repeat (first | (with_reducible assumption) | (with_reducible refine Blk.drewN ?_ _) | (with_reducible refine Blk.drew ?_) | ((with_reducible refine Blk.new _ ?_); focus (first | omega | (simp; done) | (simp; omega))) | (with_reducible refine Blk.past ?_ _) | ((with_reducible refine Blk.apart ?_ _ _ _ ?_); rotate_left; focus (first | omega | (simp; done) | (simp; omega))) | (with_reducible refine Blk.by (by assumption) ?_))); done)); intro k3; have q30 : w3.cell? ⟨w1.heap.size, 0, none⟩ = some (.int .i64 0) := k3.cell 0; have q31 : w3.cell? ⟨w1.heap.size, 1, none⟩ = some (.slice none 0 0) := k3.cell 1; have q32 : w3.cell? ⟨w1.heap.size, 2, none⟩ = some (.slice none 0 0) := k3.cell 2; have f30 : w3.frozen? ⟨w1.heap.size, 0, none⟩ = false := k3.free 0; have f31 : w3.frozen? ⟨w1.heap.size, 1, none⟩ = false := k3.free 1; have f32 : w3.frozen? ⟨w1.heap.size, 2, none⟩ = false := k3.free 2)); (try (refine with_fact (p := Blk w3 (w1.heap.size + 1) #[.int .i64 0, .slice none 0 0, .slice none 0 0] 34) (Blk.by hb3 ?_) ?_; (focus ((repeat (first | (with_reducible assumption) | (with_reducible refine Blk.drewN ?_ _) | (with_reducible refine Blk.drew ?_) | ((with_reducible refine Blk.new _ ?_); focus (first | omega | (simp; done) | (simp; omega))) | (with_reducible refine Blk.past ?_ _) | ((with_reducible refine Blk.apart ?_ _ _ _ ?_); rotate_left; focus (first | omega | (simp; done) | (simp; omega))) | (with_reducible refine Blk.by (by assumption) ?_))); done)); intro k3; have q30 : w3.cell? ⟨w1.heap.size + 1, 0, none⟩ = some (.int .i64 0) := k3.cell 0; have q31 : w3.cell? ⟨w1.heap.size + 1, 1, none⟩ = some (.slice none 0 0) := k3.cell 1; have q32 : w3.cell? ⟨w1.heap.size + 1, 2, none⟩ = some (.slice none 0 0) := k3.cell 2; have f30 : w3.frozen? ⟨w1.heap.size + 1, 0, none⟩ = false := k3.free 0; have f31 : w3.frozen? ⟨w1.heap.size + 1, 1, none⟩ = false := k3.free 1; have f32 : w3.frozen? ⟨w1.heap.size + 1, 2, none⟩ = false := k3.free 2))))
    all_goals (go_wp2_with fail; go_meet)
    all_goals have hlw := hb3.size
    all_goals simp only [World.size_alloc, World.size_drew] at hlw
    · refine ⟨w3.heap.size, a3, c3, w1.heap.size + 1, w3.heap.size, rfl, Blk.new _ rfl, blkT, blkT, ?_, ⟨by omega, by omega, by simp, by omega⟩, blwT⟩
      exact (HO.out.by ((Below.refl _ w3).alloc (Nat.le_refl _) _)).wide (by simp) (by simp)
    · refine ⟨w1.heap.size + 1, a3, c3, w1.heap.size + 1 + 1, w3.heap.size, rfl, (((k3.set 0 _).set 1 _).set 2 _), blkT, blkT, ?_, ⟨by omega, by omega, by simp, by omega⟩, blwT⟩
      exact (((HO.out.past (Within.off _) (by simp)).past (Within.off _) (by simp)).past (Within.off _) (by simp)).wide (by simp) (by simp)
    · refine ⟨w1.heap.size, a3, c3, w1.heap.size + 1 + 1, w3.heap.size, rfl, (((k3.set 0 _).set 1 _).set 2 _), blkT, blkT, ?_, ⟨by omega, by omega, by simp, by omega⟩, blwT⟩
      exact (((HO.out.past (Within.off _) (by simp)).past (Within.off _) (by simp)).past (Within.off _) (by simp)).wide (by simp) (by simp)
  case rest =>
    clear kN kZ hb c01 c02 lN lZ
    obtain ⟨p, a3, c3, lo2, hi2, rfl, kP, kN, kZ, hO, ⟨hp1, hp2, hp3, hp4⟩, hb⟩ := hcut
    have lP := kP.lt
    have hbl := hb.size
    obtain ⟨B, hB⟩ : ∃ B, wc.heap.size = B := ⟨_, rfl⟩
    rw [hB] at lP hbl
    have hBl := Bld.nil wc wc.heap.size
    rw [hB] at hBl hp3
    have HO1 := Lib.hid hO
    have lPB : p < B := lP
    have HB := Lib.hid hB
    clear hO hB
    go_wp2
    go_loopw [4] (fun i wr => ∃ (k : Nat) (v : Value) (hi : Nat), k ≤ ds.length ∧ B ≤ hi ∧ i = .int .i64 k ∧ Bld wr B hi v ((ds.take k).filter okD) ∧ Blk wr p #[.int .i64 nets, v, .slice a3 ps.length c3] 34 ∧ Blk wr w.heap.size #[.int .i64 nets, .slice a1 ds.length c1, .slice a2 ps.length c2] 34 ∧ Blk wr (w.heap.size + 1) #[.int .i64 0, .slice none 0 0, .slice none 0 0] 34 ∧ OwnPs wr lo2 hi2 (.slice a3 ps.length c3) ps ∧ Below w.heap.size w wr) (fun i _ => ds.length - (intOf i).toNat)
    case atStart => exact ⟨0, .slice none 0 0, B, Nat.zero_le _, Nat.le_refl _, rfl, hBl, kP, kN, kZ, HO1.out, hb⟩
    case round =>
      clear kP kZ kN hb hBl
      obtain ⟨k, v, hi, hk, hBhi, rfl, hBl, kP, kN, kZ, hO, hb⟩ := hrel
      have HO := Lib.hid hO
      have HBL := Lib.hid hBl
      have lP := kP.lt
      obtain ⟨av, cv, rfl⟩ := hBl.sized
      have hhi := hBl.1
      have hfl : ((ds.take k).filter okD).length ≤ 24 := by
        have h1 := List.length_filter_le okD (ds.take k)
        have h2 : (ds.take k).length ≤ ds.length := by rw [List.length_take]; omega
        omega
      have cN1 : wr.cell? ⟨w.heap.size, 1, none⟩ = some (.slice a1 ds.length c1) := kN.cell 1
      have lN := kN.lt
      clear hO hBl
      by_cases hlt : k < ds.length
      · obtain ⟨x, hx⟩ : ∃ x, ds[k]? = some x := ⟨ds[k], List.getElem?_eq_getElem hlt⟩
        have HDS := HD.out
        rcases HDS with ⟨_, _, _, h2⟩ | ⟨b, off, cap, he, h2, h3, h4⟩
        · rw [h2] at hlt; simp at hlt
        obtain ⟨rfl, rfl⟩ : a1 = some ⟨b, off, none⟩ ∧ c1 = cap := by simpa using he
        obtain ⟨hx3, hx2, _⟩ := HPN.out x (List.mem_of_getElem? hx)
        have hxl : x.pins.length ≤ 1048576 := by omega
        have hxn : x.pins ≠ [] := by intro e; rw [e] at hx2; simp at hx2
        obtain ⟨sx, e1, e2, e3, e4, hSx0⟩ := h4 k x hx
        have d1 := cell_by' hb e1
        have d2 := cell_by' hb e2
        have d3 := cell_by' hb e3
        have d4 := cell_by' hb e4
        have HSS := Lib.hid (fun w h => l28Shorted_any x sx w h (HSH.out x (List.mem_of_getElem? hx)))
        have HCD := Lib.hid (fun w h => own_any x.kind x.wd x.len sx x.pins w h hxl)
        have HSX := Lib.hid hSx0
        have HX := Lib.hid hx
        have HXN := Lib.hid hxn
        obtain ⟨ax, cx, rfl⟩ := hSx0.len
        have i1 : (0 : Int) ≤ (k : Int) := by omega
        have i2 : (k : Int) < (ds.length : Int) := by omega
        have HFY := Lib.hid (filter_yes ds k x hx)
        have HFN := Lib.hid (filter_no ds k x hx)
        have HOK := Lib.hid (show okD x = !decide (curP x.pins = curQ x.pins) from rfl)
        generalize decide (curP x.pins = curQ x.pins) = sh at *
        generalize okD x = okx at *
        generalize hfk : (ds.take k).filter okD = fk at *
        have HFK := Lib.hid hfk
        clear h4 hx hxn he hSx0 hfk
        cases sh with
        | true =>
          have hokx := HOK.out
          simp at hokx
          go_wp2_with fail
          refine (HSS.out _ (HSX.out.by hb)).mono ?_
          rintro e w2 ⟨rfl, hb2⟩
          go_wp2
          exact ⟨⟨k + 1, .slice av fk.length cv, hi, by omega, hBhi, by go_num, by rw [HFN.out hokx]; exact HBL.out.by hb2, Blk.by hb2 kP, Blk.by hb2 kN, Blk.by hb2 kZ, HO.out.by hb2, below_on hb2 hb⟩, by simp [intOf]; omega⟩
        | false =>
          have hokx := HOK.out
          simp at hokx
          have hFY := HFY.out hokx
          replace HFY := Lib.hid hFY
          clear hFY hokx
          go_wp2_with fail
          refine (HSS.out _ (HSX.out.by hb)).mono ?_
          rintro e w2 ⟨rfl, hb2⟩
          have HBL2 := Lib.hid (HBL.out.by hb2)
          replace HO := Lib.hid (HO.out.by hb2)
          replace kP := Blk.by hb2 kP
          replace kN := Blk.by hb2 kN
          replace kZ := Blk.by hb2 kZ
          replace hb := below_on hb2 hb
          replace lP := kP.lt
          have hhi2 : hi ≤ w2.heap.size := by have := hb2.size; omega
          clear d1 d2 d3 d4 cN1 lN hb2 HBL
          have d1 := cell_by' hb e1
          have d2 := cell_by' hb e2
          have d3 := cell_by' hb e3
          have d4 := cell_by' hb e4
          have lX := lt_of_cell d1
          dsimp only at lX
          have cN1 : w2.cell? ⟨w.heap.size, 1, none⟩ = some (.slice (some ⟨b, off, none⟩) ds.length c1) := kN.cell 1
          have cP1 : w2.cell? ⟨p, 1, none⟩ = some (.slice av fk.length cv) := kP.cell 1
          have lN := kN.lt
          go_wp2
          go_region_law
            (first | (go_simp; go_at_call 52; refine (HCD.out _ ((HSX.out.by hb).by (below_of_drewN w2 1))).mono ?_; rintro e w4 ⟨v1, rfl, hOI, hb4⟩; obtain ⟨fb, hf1, hf2, hOR⟩ := hOI.pin HXN.out; have HOR := Lib.hid hOR; obtain ⟨a1', c1', rfl⟩ := hOR.sl.len; clear hOR hOI; (try simp at hf1); have kP4 := Blk.by hb4 kP.drew; have cP4 : w4.cell? ⟨p, 1, none⟩ = some (.slice av fk.length cv) := kP4.cell 1; have lP4 := kP4.lt; dsimp only) | (refine step_push (by rfl) _ _ (by rfl) B hi _ fk (by rfl) (HBL2.out.by blwT) w4.heap.size x _ fb (by rfl) (Blk.new _ rfl) (HOR.out.by ((Below.refl _ w4).alloc (Nat.le_refl _) _)) (by omega) (by omega) (by simp; omega) (by omega) ?_; intro a' c' w3 hBl3 hw3; have HBL3 := Lib.hid hBl3; have kP3 := hw3.blk ((Blk.by hb4 kP.drew).past (.cells #[.int .i64 x.kind, .slice a1' x.pins.length c1', .int .i64 x.wd, .int .i64 x.len] 51)) (by omega); have cP3 : w3.cell? ⟨p, 1, none⟩ = some (.slice av fk.length cv) := kP3.cell 1; have fP3 : w3.frozen? ⟨p, 1, none⟩ = false := kP3.free 1; have lP3 := kP3.lt; clear hBl3))
          all_goals
            have hsz3 := hw3.size
            simp only [World.size_alloc] at hsz3
            have hb3 := hw3.below (below_al (below_on hb4 hb.drew) (.cells #[.int .i64 x.kind, .slice a1' x.pins.length c1', .int .i64 x.wd, .int .i64 x.len] 51)) (by omega)
            have kZ3 := hw3.blk ((Blk.by hb4 (kZ.drew)).past (.cells #[.int .i64 x.kind, .slice a1' x.pins.length c1', .int .i64 x.wd, .int .i64 x.len] 51)) (by omega)
            have kN3 := hw3.blk ((Blk.by hb4 (kN.drew)).past (.cells #[.int .i64 x.kind, .slice a1' x.pins.length c1', .int .i64 x.wd, .int .i64 x.len] 51)) (by omega)
            have hO3 := (((HO.out.by (below_of_drewN _ 1)).by hb4).by ((Below.refl _ w4).alloc (Nat.le_refl _) (.cells #[.int .i64 x.kind, .slice a1' x.pins.length c1', .int .i64 x.wd, .int .i64 x.len] 51))).past hw3 (by omega)
            have hl1 : w2.heap.size ≤ w4.heap.size := hb4.size
            go_wp2
            have hW4 : Within p (p + 1) w3 (w3.setCell ⟨p, 1, none⟩ (.slice a' (fk.length + 1) c')) := Within.off _
            have hO4 := OwnPs.past (lo := lo2) (hi := hi2) hW4 hO3 (by omega)
            refine ⟨⟨k + 1, .slice a' (fk.length + 1) c', w3.heap.size, by omega, by omega, by go_num, ?_, kP3.set 1 _, kN3.apart p 1 _ (by omega), kZ3.apart p 1 _ (by omega), hO4, hb3.setCell (by simp; omega) _⟩, by simp [intOf]; omega⟩
            rw [HFY.out]
            exact HBL3.out.past hW4 (by omega)
      · obtain rfl : k = ds.length := by omega
        have hBL2 := HBL.out
        rw [List.take_length] at hBL2 kP
        have HOD := Lib.hid hBL2.own
        have c1' := kP.cell
        have c2' := kZ.cell
        have f2' := kZ.free
        have l2' := kZ.lt
        clear HBL hBL2
        go_wp2
        refine bodyPost_ret (v := .agg #[.int .i64 nets, .slice av (ds.filter okD).length cv, .slice a3 ps.length c3]) (by simp [results, Tryz.results18, go_sem, *]) rfl ⟨_, rfl, ⟨_, _, B, hi, lo2, hi2, rfl, ?_, ?_, ⟨hbl, by simp; omega⟩, ⟨by omega, by simp; omega⟩, .inr hp3⟩, ?_⟩
        · exact (((HOD.out.past (Within.off _) (by omega)).past (Within.off _) (by omega)).past (Within.off _) (by omega))
        · exact (((HO.out.past (Within.off _) (by omega)).past (Within.off _) (by omega)).past (Within.off _) (by omega))
        · repeat (first | (with_reducible exact hb) | ((with_reducible refine Below.setCell ?_ ?_ _); rotate_left; focus (simp; try omega)))
/- slices.DeleteFunc on a slice of devices of the call's own. -/
set_option maxRecDepth 100000 in
set_option maxHeartbeats 4000000 in
theorem deleteFuncD_any (gf : Nat) (lb : Array Value) (eg : ∀ args w, (callFunc gf args).run Tryz.prog w = .ok (.enter gf args) w) (p : Dv → Bool) (lo hi : Nat) (sv : Value) (xs : List Dv) (w : World) (h : OwnDs w lo hi sv xs)
    (hp : ∀ (W : World) (x : Dv) (sv : Value), x ∈ xs → IntSl W sv x.pins → Calls Tryz.prog gf (#[.agg #[.int .i64 x.kind, sv, .int .i64 x.wd, .int .i64 x.len]] ++ lb) W fun e w' => e = .returned (.bool (p x)) ∧ Below W.heap.size W w') :
    Calls Tryz.prog 67 #[sv, .func (.func gf) #[] lb] w fun e w' => ∃ v', e = .returned v' ∧ OwnDs w' lo hi v' (xs.filter fun x => !p x) ∧ Within lo hi w w' := by
  have HI := Lib.hid (indexFuncD_any gf lb eg p sv xs w h.sl (fun W x sv _ hx hs => hp W x sv hx hs))
  rcases first_hit p xs with hno | ⟨k0, x0, hx0, hp0, hbf⟩
  · have hf : xs.filter (fun x => !p x) = xs := List.filter_eq_self.2 (fun x hx => by rw [hno x hx]; rfl)
    rw [hf]
    rw [fidx_miss (fun j y hy => hno y (List.mem_of_getElem? hy))] at HI
    have HO := Lib.hid h
    obtain ⟨a, c, rfl⟩ := h.sl.sized
    clear h hp hno hf
    go_enter Tryz.func67, Tryz.ntmps67
    go_wp2_with fail
    refine HI.out.mono ?_
    rintro e w1 ⟨rfl, hb1⟩
    go_wp2
    go_ret
    exact ⟨_, rfl, HO.out.by hb1, ⟨hb1.os, hb1.tape, hb1.output, hb1.size, fun k hk _ => hb1.block k hk⟩⟩
  · rw [fidx_hit hx0 hp0 hbf] at HI
    have hst := filter_first hx0 hp0 hbf
    have hk0 : k0 < xs.length := (List.getElem?_eq_some_iff.1 hx0).1
    rcases h with ⟨a, c, rfl, rfl⟩ | ⟨g, cap, cs0, f, rfl, hg, hcap, hmax, hB0, hel, hinj⟩
    · simp at hk0
    have HSZ := Lib.hid (show xs.length * 4 ≤ cs0.size by
      obtain ⟨m, hm⟩ : ∃ m, xs.length = m + 1 := ⟨xs.length - 1, by omega⟩
      obtain ⟨⟨_, q, _⟩, _⟩ := hel m xs[m] (List.getElem?_eq_getElem (by omega))
      have := (Array.getElem?_eq_some_iff.1 q.2.2.2).1
      omega)
    have HS := Lib.hid (DelSt.start (w := w) (lo := lo) (hi := hi) (g := g) (cs := cs0) (xs := xs) (f := f) (fun i x hx => hel i x hx) k0 hk0)
    rw [← hst] at HS
    have HST := Lib.hid (show ((xs.take (k0 + 1)).filter fun x => !p x).length = k0 by rw [hst, List.length_take]; omega)
    have HINJ := Lib.hid hinj
    have HP := Lib.hid hp
    have HFA := Lib.hid (fun k x (h : xs[k]? = some x) => @filter_at Dv p xs k x h)
    have HFL := Lib.hid (fun k => List.length_filter_le (fun x => !p x) (xs.take k))
    have HFD := Lib.hid (show (xs.take xs.length).filter (fun x => !p x) = xs.filter (fun x => !p x) by rw [List.take_length])
    have hmx := hmax
    unfold maxLen at hmax
    clear hp hel hinj hst hx0 hp0 hbf
    go_enter Tryz.func67, Tryz.ntmps67
    go_wp2_with fail
    refine HI.out.mono ?_
    rintro e w1 ⟨rfl, hb1⟩
    have hB1 := Blk.by hb1 hB0
    have W1 : Within g (g + 1) w w1 := ⟨hb1.os, hb1.tape, hb1.output, hb1.size, fun k hk _ => hb1.block k hk⟩
    have i0 : ((k0 : Int) == -1) = false := by simp
    clear hb1 HI
    go_wp2
    go_loopw [5, 6, 7] (fun j i _ wr => ∃ k n : Nat, k0 < k ∧ k ≤ xs.length ∧ i = .int .i64 k ∧ j = .int .i64 n ∧ Hid (n = ((xs.take k).filter fun x => !p x).length) ∧ n < k ∧ (∃ cs : Array Value, Blk wr g cs 51 ∧ Hid (xs.length * 4 ≤ cs.size) ∧ Hid (DelSt w lo hi g f xs ((xs.take k).filter fun x => !p x) k cs)) ∧ Within g (g + 1) w wr) (fun _ i _ _ => xs.length - (intOf i).toNat)
    case atStart => exact ⟨k0 + 1, k0, by omega, by omega, by go_num, rfl, Lib.hid HST.out.symm, by omega, ⟨cs0, hB1, HSZ, HS⟩, W1⟩
    case round =>
      obtain ⟨k, n, hk0k, hkl, rfl, rfl, HN, hnk, ⟨cs, hB, HZ, HD⟩, hW⟩ := hrel
      clear HS HST W1
      by_cases hlt : k < xs.length
      · obtain ⟨x, hx⟩ : ∃ x, xs[k]? = some x := ⟨xs[k], List.getElem?_eq_getElem hlt⟩
        obtain ⟨⟨pv, hC, hO⟩, _⟩ := HD.out.2 k x (Nat.le_refl _) hx
        have hfk := (HD.out.2 k x (Nat.le_refl _) hx).2
        have HC := Lib.hid hC
        have HO := Lib.hid hO
        have HX := Lib.hid hx
        obtain ⟨c0, c1, c2, c3⟩ := hC
        have hsz := (Array.getElem?_eq_some_iff.1 c3).1
        obtain ⟨d0, u0⟩ : ∃ d, cs[n * 4]? = some d := ⟨_, Array.getElem?_eq_getElem (by omega)⟩
        obtain ⟨d1, u1⟩ : ∃ d, cs[n * 4 + 1]? = some d := ⟨_, Array.getElem?_eq_getElem (by omega)⟩
        obtain ⟨d2, u2⟩ : ∃ d, cs[n * 4 + 2]? = some d := ⟨_, Array.getElem?_eq_getElem (by omega)⟩
        obtain ⟨d3, u3⟩ : ∃ d, cs[n * 4 + 3]? = some d := ⟨_, Array.getElem?_eq_getElem (by omega)⟩
        have HSZ := Lib.hid hsz
        clear hsz
        have hcall := HP.out
        have HCL := Lib.hid (fun W h => HP.out W x pv (List.mem_of_getElem? hx) h)
        have hBc := hB.cell
        have hBl := hB.lt
        obtain ⟨a1, c1', rfl⟩ := hO.sl.len
        have i1 : (0 : Int) ≤ (k : Int) := by omega
        have i2 : (k : Int) < (xs.length : Int) := by omega
        have i3 : (0 : Int) ≤ (n : Int) := by omega
        have i4 : (n : Int) < (xs.length : Int) := by omega
        have HFX := Lib.hid (HFA.out k x hx)
        have hS := Lib.hid (show IntSl wr (.slice a1 x.pins.length c1') x.pins from (HO.out.past hW (by omega)).sl)
        clear hx hO hcall
        cases hq : p x with
        | true =>
          rw [hq] at HCL HFX
          simp only [if_true, List.append_nil] at HFX
          clear hq
          go_wp2_with (go_at_fn gf; refine (HCL.out _ (hS.out.by blwT)).mono ?_; rintro e w2 ⟨rfl, hb2⟩; have hb3 : Below wr.heap.size wr w2 := blwT)
          exact ⟨⟨k + 1, n, by omega, by omega, by go_num, rfl, Lib.hid (by rw [HFX.out]; exact HN.out), by omega, ⟨cs, Blk.by hb3 hB, HZ, Lib.hid (by rw [HFX.out]; exact HD.out.skip)⟩, hW.on ⟨hb3.os, hb3.tape, hb3.output, hb3.size, fun k hk _ => hb3.block k hk⟩⟩, by simp [intOf]; omega⟩
        | false =>
          rw [hq] at HCL HFX
          simp only [Bool.false_eq_true, if_false] at HFX
          have HQ := Lib.hid hq
          clear hq
          go_wp2_with (go_at_fn gf; refine (HCL.out _ (hS.out.by blwT)).mono ?_; rintro e w2 ⟨rfl, hb2⟩; have hb3 : Below wr.heap.size wr w2 := blwT; have kB : Blk w2 wr.heap.size #[.int .i64 x.kind, .slice a1 x.pins.length c1', .int .i64 x.wd, .int .i64 x.len] 51 := Blk.by hb2 (Blk.new _ rfl); have kBc := kB.cell; have kG := Blk.by hb3 hB; have kGc := kG.cell; have kGf := kG.free)
          have hW2 : Within g (g + 1) w w2 := hW.on ⟨hb3.os, hb3.tape, hb3.output, hb3.size, fun k hk _ => hb3.block k hk⟩
          exact ⟨⟨k + 1, n + 1, by omega, by omega, by go_num, by go_num, Lib.hid (by rw [HFX.out, List.length_append]; have := HN.out; simp; omega), by omega, ⟨set4 cs n (.int .i64 x.kind) (.slice a1 x.pins.length c1') (.int .i64 x.wd) (.int .i64 x.len), (((kG.set _ _).set _ _).set _ _).set _ _, Lib.hid (by have := HZ.out; simp [set4]; omega), Lib.hid (by
            rw [HFX.out]
            have hh := HD.out.push (by have := HN.out; omega) HX.out HC.out HO.out
            rw [← HN.out] at hh
            exact hh)⟩, (((hW2.on (Within.off _)).on (Within.off _)).on (Within.off _)).on (Within.off _)⟩, by simp [intOf]; omega⟩
      · obtain rfl : k = xs.length := by omega
        rw [HFD.out] at HN HD
        have hBl := hB.lt
        have hBc := hB.cell
        have hBf := hB.free
        have i3 : (0 : Int) ≤ (n : Int) := by omega
        have i4 : (n : Int) ≤ (xs.length : Int) := by omega
        have i5 : (n : Int) ≤ (cap : Int) := by omega
        obtain ⟨vs, hvl, hcl⟩ : ∃ vs : List Value, vs.length = (xs.length - n) * 4 ∧ ∀ ty, (Builtin.clear_ #[31] ty #[.slice (some ⟨g, n * 4, none⟩) (xs.length - n) (cap - n)]).run Tryz.prog wr = .ok (.tuple #[]) (wr.setCells g (n * 4) vs) := by
          obtain ⟨vs, h1, h2⟩ := run_clear_dev wr 0 g (n * 4) (xs.length - n) (cap - n) (by omega) (fun j hj => by rw [hBc]; rw [Array.getElem?_eq_getElem (by have := HZ.out; omega)]; rfl) (fun j => hBf j)
          exact ⟨vs, h1, fun ty => h2⟩
        obtain ⟨cs', hB', he', hW'⟩ := Blk.setCells g vs (n * 4) wr cs hB
        generalize wr.setCells g (n * 4) vs = w9 at *
        clear hBc hBf hvl
        go_wp2
        go_ret
        have hN := HN.out
        have hres := HD.out.done HINJ.out (hW.on hW') hB' (by rw [← hN]; exact he') hg (cap := cap) (by omega) hmx
        rw [← hN] at hres
        exact ⟨.slice (some ⟨g, 0, none⟩) n cap, by rfl, hres, (hW.on hW').sub hg.1 (by omega)⟩
/- The program's RemoveShorted. -/
set_option maxRecDepth 100000 in
set_option maxHeartbeats 1000000 in
theorem implRm_no (x : Nl) (v : Value) (w : World) (h : NlV w v x) (hok : ∀ p ∈ x.ps, p.ok) (hnn : Fits x.nets) (hv : nlB x = false) :
    Calls Tryz.prog 28 #[v] w fun e w' => ∃ v', e = .returned v' ∧ OwnNl w' w.heap.size w'.heap.size v' (rmS x) ∧ Below w.heap.size w w' := by
  rw [rmS_no hv]
  have HV := Lib.hid (fun v w h => implNl_any x v w h hok hnn)
  rw [hv] at HV
  have HN := Lib.hid h
  obtain ⟨a, c, a', c', rfl⟩ := h.sized
  clear h hok hv
  go_enter Tryz.func28, Tryz.ntmps28
  go_wp2_with (go_at_call 24; refine (HV.out _ _ (HN.out.by blwT)).mono ?_; rintro e w1 ⟨rfl, hb1⟩; have k1 : Blk w1 (w.heap.size + 1) #[.int .i64 0, .slice none 0 0, .slice none 0 0] 34 := blkT; have f1 := k1.free; have c1 := k1.cell; have l1 := k1.lt)
  exact bodyPost_ret (v := .agg #[.int .i64 0, .slice none 0 0, .slice none 0 0]) (by simp [results, Tryz.results28, go_sem, *]) rfl ⟨_, rfl, ownNl_zero _ _ _ (by simp; omega), blwT⟩
set_option maxRecDepth 100000 in
set_option maxHeartbeats 4000000 in
theorem implRm_yes (x : Nl) (v : Value) (w : World) (h : NlV w v x) (hok : ∀ p ∈ x.ps, p.ok) (hnn : Fits x.nets) (hv : nlB x = true) :
    Calls Tryz.prog 28 #[v] w fun e w' => ∃ v', e = .returned v' ∧ OwnNl w' w.heap.size w'.heap.size v' (rmS x) ∧ Below w.heap.size w w' := by
  rw [rmS_yes hv]
  have HV := Lib.hid (fun v w h => implNl_any x v w h hok hnn)
  rw [hv] at HV
  have HN := Lib.hid h
  obtain ⟨_, hl24, hp8, hdv, _⟩ := nlB_facts hv
  have HCP := Lib.hid (fun v w h => copyNetlist_any x v w h (by omega) (by omega) (fun d hd => by have h1 := (dvB_pins (hdv d hd)).1; have h2 := (dvB_pins (hdv d hd)).2.1; exact ⟨by omega, fun e => by rw [e] at h2; simp at h2⟩))
  have HSH := Lib.hid (fun d (hd : d ∈ x.ds) => shp_of (hdv d hd))
  have HDL := Lib.hid (fun lo hi sv w (h : OwnDs w lo hi sv x.ds) => deleteFuncD_any 68 #[] (fun _ _ => rfl) shB lo hi sv x.ds w h (fun W y sv hy hs => shorted_any y sv W hs (HSH.out y hy)))
  obtain ⟨a, c, a', c', rfl⟩ := h.sized
  obtain ⟨nets, ds, ps⟩ := x
  dsimp only at HN HV HCP HDL hl24 hp8 ⊢
  have hfo : ds.filter (fun x => !shB x) = ds.filter okD := rfl
  rw [hfo] at HDL
  clear h hok hv hdv hfo
  go_enter Tryz.func28, Tryz.ntmps28
  go_wp2_with fail
  refine (HV.out _ _ (HN.out.by blwT)).mono ?_
  rintro e w1 ⟨rfl, hb1⟩
  have k0 : Blk w1 w.heap.size #[.int .i64 nets, .slice a ds.length c, .slice a' ps.length c'] 34 := blkT
  have k1 : Blk w1 (w.heap.size + 1) #[.int .i64 0, .slice none 0 0, .slice none 0 0] 34 := blkT
  have hB1 : Below w.heap.size w w1 := blwT
  have l1 := k1.lt
  have c0 := k0.cell
  clear hb1
  go_wp2_with fail
  refine (HCP.out _ _ (HN.out.by hB1)).mono ?_
  rintro e w2 ⟨v2, rfl, hO, hb2⟩
  obtain ⟨s1, s2, lo1, hi1, lo2, hi2, rfl, hOD, hOP, hi1', hi2', hap⟩ := hO
  replace k1 := Blk.by hb2 k1
  have hB2 := below_on hb2 hB1
  have hsz2 := hb2.size
  obtain ⟨a1, c1, rfl⟩ := hOD.sl.sized
  obtain ⟨a2, c2, rfl⟩ := hOP.sl.sized
  dsimp only at hOD hOP
  have HOD := Lib.hid hOD
  have HOP := Lib.hid hOP
  clear c0 k0 hb2 hOD hOP HN HV HCP
  have c1' := k1.cell
  go_wp2_with (go_at_call 67; refine (HDL.out lo1 hi1 _ _ (HOD.out.by blwT)).mono ?_; rintro e w3 ⟨v3, rfl, hO3, hw3⟩; obtain ⟨a3, c3, rfl⟩ := hO3.sl.sized; have k3 : Blk w3 w2.heap.size #[.int .i64 nets, .slice a1 ds.length c1, .slice a2 ps.length c2] 34 := hw3.blk (Blk.new _ rfl) (by omega); have k1' := hw3.blk (k1.past _) (by omega); have c3' := k3.cell; have f3' := k3.free; have c1'' := k1'.cell; have f1'' := k1'.free; have hne : ¬ w2.heap.size = w.heap.size + 1 := (by omega))
  have hsz3 := hw3.size
  simp only [World.size_alloc] at hsz3
  have hB3 : Below w.heap.size w w3 := hw3.below (below_al hB2 (.cells #[.int .i64 nets, .slice a1 ds.length c1, .slice a2 ps.length c2] 34)) (by omega)
  have hOP3 := (HOP.out.by ((Below.refl _ w2).alloc (Nat.le_refl _) (.cells #[.int .i64 nets, .slice a1 ds.length c1, .slice a2 ps.length c2] 34))).past hw3 (by omega)
  refine bodyPost_ret (v := .agg #[.int .i64 nets, .slice a3 (ds.filter okD).length c3, .slice a2 ps.length c2]) (by simp [results, Tryz.results28, go_sem, *]) rfl ⟨_, rfl, ⟨_, _, lo1, hi1, lo2, hi2, rfl, ?_, ?_, ⟨by omega, by simp; omega⟩, ⟨by omega, by simp; omega⟩, hap⟩, ?_⟩
  · exact ((((hO3.past (Within.off _) (by omega)).past (Within.off _) (by omega)).past (Within.off _) (by omega)).past (Within.off _) (by omega))
  · exact ((((hOP3.past (Within.off _) (by omega)).past (Within.off _) (by omega)).past (Within.off _) (by omega)).past (Within.off _) (by omega))
  · repeat (first | (with_reducible exact hB3) | ((with_reducible refine Below.setCell ?_ ?_ _); rotate_left; focus (simp; try omega)))
/- Bounds of what RemoveShorted answers; both contracts. -/
theorem implRm_any (x : Nl) (v : Value) (w : World) (h : NlV w v x) (hok : ∀ p ∈ x.ps, p.ok) (hnn : Fits x.nets) :
    Calls Tryz.prog 28 #[v] w fun e w' => ∃ v', e = .returned v' ∧ OwnNl w' w.heap.size w'.heap.size v' (rmS x) ∧ Below w.heap.size w w' := by
  cases hv : nlB x with
  | false => exact implRm_no x v w h hok hnn hv
  | true => exact implRm_yes x v w h hok hnn hv
theorem specRmS_any (x : Nl) (v : Value) (w : World) (h : NlV w v x) (hok : ∀ p ∈ x.ps, p.ok) (hnn : Fits x.nets) :
    Calls Tryz.prog 18 #[v] w fun e w' => ∃ v', e = .returned v' ∧ OwnNl w' w.heap.size w'.heap.size v' (rmS x) ∧ Below w.heap.size w w' := by
  cases hv : nlB x with
  | false => exact specRm_no x v w h hok hnn hv
  | true => exact specRm_yes x v w h hok hnn hv
structure Res where
  a : Int
  b : Int
  num : Int
  den : Int
def Res.ok (x : Res) : Prop := (-9223372036854775808 ≤ x.a ∧ x.a ≤ 9223372036854775807) ∧ (-9223372036854775808 ≤ x.b ∧ x.b ≤ 9223372036854775807) ∧ (-9223372036854775808 ≤ x.num ∧ x.num ≤ 9223372036854775807) ∧ (-9223372036854775808 ≤ x.den ∧ x.den ≤ 9223372036854775807)
def rsB (nodes : Int) (x : Res) : Bool := inB x.a 0 (nodes - 1) && (inB x.b 0 (nodes - 1) && (!(x.a == x.b) && (vrB x.num x.den && (inB x.num 1 1000000 && decide (x.den ≤ 1000000)))))
def leftOf (xs : List Res) : Int := xs.foldl (fun l x => l / max x.num x.den) 10000000000000000
def nwB (nodes : Int) (xs : List Res) : Bool := inB nodes 1 6 && (decide (xs.length ≤ 8) && (xs.all (rsB nodes) && decide (0 < leftOf xs)))
theorem leftOf_snoc (xs : List Res) (x : Res) : leftOf (xs ++ [x]) = leftOf xs / max x.num x.den := by simp [leftOf, List.foldl_append]
theorem take_succ_of {α : Type} (xs : List α) (k : Nat) (x : α) (h : xs[k]? = some x) : xs.take (k + 1) = xs.take k ++ [x] := by
  rw [List.take_add_one, h]; rfl
theorem nw_no1 {nodes : Int} (xs : List Res) (h : inB nodes 1 6 = false) : nwB nodes xs = false := by simp [nwB, h]
theorem nw_no2 (nodes : Int) {xs : List Res} (h : ¬ xs.length ≤ 8) : nwB nodes xs = false := by simp [nwB]; omega
theorem nw_no3 {nodes : Int} {xs : List Res} {k : Nat} {x : Res} (hx : xs[k]? = some x) (h : rsB nodes x = false) : nwB nodes xs = false := by
  have hm : x ∈ xs := List.mem_of_getElem? hx
  have : xs.all (rsB nodes) = false := by
    rw [List.all_eq_false]; exact ⟨x, hm, by simp [h]⟩
  simp [nwB, this]
theorem nw_yes {nodes : Int} {xs : List Res} (h1 : inB nodes 1 6 = true) (h2 : xs.length ≤ 8) (h3 : ∀ x ∈ xs, rsB nodes x = true) : nwB nodes xs = decide (0 < leftOf xs) := by
  have : xs.all (rsB nodes) = true := by rw [List.all_eq_true]; exact h3
  simp [nwB, h1, h2, this]
theorem left_bd (l n d : Int) (h0 : 0 ≤ l) (h1 : l ≤ 10000000000000000) (hn : 1 ≤ n) : 0 ≤ l / max n d ∧ l / max n d ≤ 10000000000000000 := by
  have a := Int.ediv_nonneg h0 (show 0 ≤ max n d by omega)
  have b := Int.ediv_le_self (max n d) h0
  omega
def ResAt (w : World) (g o : Nat) (x : Res) : Prop :=
  w.cell? ⟨g, o, none⟩ = some (.int .i64 x.a) ∧ w.cell? ⟨g, o + 1, none⟩ = some (.int .i64 x.b) ∧ w.cell? ⟨g, o + 2, none⟩ = some (.int .i64 x.num) ∧ w.cell? ⟨g, o + 3, none⟩ = some (.int .i64 x.den)
def ResSl (w : World) (sv : Value) (xs : List Res) : Prop :=
  (∃ a c, sv = .slice a 0 c ∧ xs = []) ∨ ∃ b off cap, sv = .slice (some ⟨b, off, none⟩) xs.length cap ∧ xs.length ≤ cap ∧ cap ≤ maxLen ∧ ∀ i x, xs[i]? = some x → ResAt w b (off + i * 4) x
theorem ResAt.by {w w1 : World} {g o : Nat} {x : Res} (hb : Below w.heap.size w w1) (h : ResAt w g o x) : ResAt w1 g o x :=
  ⟨cell_by' hb h.1, cell_by' hb h.2.1, cell_by' hb h.2.2.1, cell_by' hb h.2.2.2⟩
theorem ResSl.by {w w1 : World} {sv : Value} {xs : List Res} (hb : Below w.heap.size w w1) (h : ResSl w sv xs) : ResSl w1 sv xs := by
  rcases h with h | ⟨b, off, cap, h1, h2, h3, h4⟩
  · exact .inl h
  · exact .inr ⟨b, off, cap, h1, h2, h3, fun i x hx => (h4 i x hx).by hb⟩
theorem ResSl.len {w : World} {sv : Value} {xs : List Res} (h : ResSl w sv xs) : ∃ a c, sv = .slice a xs.length c := by
  rcases h with ⟨a, c, h1, h2⟩ | ⟨b, off, cap, h1, _⟩
  · subst h2; exact ⟨a, c, h1⟩
  · exact ⟨_, _, h1⟩
def CsAt (cs : Array Value) (i : Nat) (x : Res) : Prop := cs[i * 4]? = some (.int .i64 x.a) ∧ cs[i * 4 + 1]? = some (.int .i64 x.b) ∧ cs[i * 4 + 2]? = some (.int .i64 x.num) ∧ cs[i * 4 + 3]? = some (.int .i64 x.den)
def ResBlk (w : World) (g : Nat) (xs : List Res) : Prop := ∃ cs : Array Value, Blk w g cs 58 ∧ cs.size = xs.length * 4 ∧ ∀ i x, xs[i]? = some x → CsAt cs i x
theorem ResBlk.by {w w1 : World} {g : Nat} {xs : List Res} (hb : Below w.heap.size w w1) (h : ResBlk w g xs) : ResBlk w1 g xs := by
  obtain ⟨cs, h1, h2⟩ := h; exact ⟨cs, Blk.by hb h1, h2⟩
theorem ResBlk.sl {w : World} {g : Nat} {xs : List Res} (h : ResBlk w g xs) (hm : xs.length ≤ maxLen) : ResSl w (.slice (some ⟨g, 0, none⟩) xs.length xs.length) xs := by
  obtain ⟨cs, h1, h2, h3⟩ := h
  refine .inr ⟨g, 0, xs.length, rfl, Nat.le_refl _, hm, fun i x hx => ?_⟩
  obtain ⟨e1, e2, e3, e4⟩ := h3 i x hx
  have hc := h1.cell
  simp only [Nat.zero_add]
  exact ⟨by rw [hc]; exact e1, by rw [hc]; exact e2, by rw [hc]; exact e3, by rw [hc]; exact e4⟩
theorem ResBlk.alloc {w : World} {g : Nat} {xs : List Res} (h : ResBlk w g xs) (o : Obj) : ResBlk (w.alloc o) g xs := by
  obtain ⟨cs, h1, h2⟩ := h; exact ⟨cs, h1.past o, h2⟩
theorem ResBlk.apart {w : World} {g : Nat} {xs : List Res} (h : ResBlk w g xs) (b o : Nat) (v : Value) (hne : g ≠ b) : ResBlk (w.setCell ⟨b, o, none⟩ v) g xs := by
  obtain ⟨cs, h1, h2⟩ := h; exact ⟨cs, h1.apart b o v hne, h2⟩
theorem ResBlk.lt {w : World} {g : Nat} {xs : List Res} (h : ResBlk w g xs) : g < w.heap.size := by
  obtain ⟨cs, h1, h2⟩ := h; exact h1.lt
open Go.ChangeShapes Go.WideShapes Go.ChangeAt Go.RowKit Go.Joins Go.Deep
section
variable {H : Type} {enc : TypeId × Value → H} {W : World} {base : Nat} {spare : Nat → Bool} {held : Bool}
end
theorem size_drewN (w : World) (n : Nat) : (w.drewN n).heap.size = w.heap.size := rfl
section
variable {w w' : World} {lo hi lo' hi' : Nat} {v : Value} {zs : List Int}
end
def OwnPr (w : World) (lo hi : Nat) (v : Value) (x : List Int × List Int) : Prop := ∃ s1 s2 l1 h1 l2 h2, v = .agg #[s1, s2] ∧ OwnR w l1 h1 s1 x.1 ∧ OwnR w l2 h2 s2 x.2 ∧ (lo ≤ l1 ∧ h1 ≤ hi) ∧ (lo ≤ l2 ∧ h2 ≤ hi) ∧ (h1 ≤ l2 ∨ h2 ≤ l1)
section
variable {w w' : World} {lo hi lo' hi' : Nat} {v : Value} {x : List Int × List Int}
theorem OwnPr.by (hb : Below w.heap.size w w') (h : OwnPr w lo hi v x) : OwnPr w' lo hi v x := by
  obtain ⟨s1, s2, l1, h1, l2, h2, e, a, b, c⟩ := h; exact ⟨s1, s2, l1, h1, l2, h2, e, OwnR.by hb a, OwnR.by hb b, c⟩
theorem OwnPr.past (hb : Within lo' hi' w w') (h : OwnPr w lo hi v x) (hd : hi ≤ lo' ∨ hi' ≤ lo) : OwnPr w' lo hi v x := by
  obtain ⟨s1, s2, l1, h1, l2, h2, e, a, b, c, d, f⟩ := h; exact ⟨s1, s2, l1, h1, l2, h2, e, OwnR.past hb a (by omega), OwnR.past hb b (by omega), c, d, f⟩
theorem OwnPr.wide (h : OwnPr w lo hi v x) (h1 : lo' ≤ lo) (h2 : hi ≤ hi') : OwnPr w lo' hi' v x := by
  obtain ⟨s1, s2, l1, h1, l2, h2, e, a, b, c, d, f⟩ := h; exact ⟨s1, s2, l1, h1, l2, h2, e, a, b, by omega, by omega, f⟩
end
/- A slice of int64 that came in as an argument. -/
open Go.ChangeShapes Go.WideShapes Go.ChangeAt Go.RowKit Go.Joins
structure Rt where
  n : Int
  d : Int
def RatAt (w : World) (g o : Nat) (x : Rt) : Prop := w.cell? ⟨g, o, none⟩ = some (.int .i64 x.n) ∧ w.cell? ⟨g, o + 1, none⟩ = some (.int .i64 x.d)
def RatSl (w : World) (sv : Value) (xs : List Rt) : Prop :=
  (∃ a c, sv = .slice a 0 c ∧ xs = []) ∨ ∃ b off cap, sv = .slice (some ⟨b, off, none⟩) xs.length cap ∧ xs.length ≤ cap ∧ cap ≤ maxLen ∧ ∀ (i : Nat) (x : Rt), xs[i]? = some x → RatAt w b (off + i * 2) x
theorem RatAt.by {w w1 : World} {g o : Nat} {x : Rt} (hb : Below w.heap.size w w1) (h : RatAt w g o x) : RatAt w1 g o x := ⟨cell_by' hb h.1, cell_by' hb h.2⟩
theorem RatSl.by {w w1 : World} {sv : Value} {xs : List Rt} (hb : Below w.heap.size w w1) (h : RatSl w sv xs) : RatSl w1 sv xs := by
  rcases h with h | ⟨b, off, cap, h1, h2, h3, h4⟩
  · exact .inl h
  · exact .inr ⟨b, off, cap, h1, h2, h3, fun i x hx => (h4 i x hx).by hb⟩
theorem RatSl.len {w : World} {sv : Value} {xs : List Rt} (h : RatSl w sv xs) : ∃ a c, sv = .slice a xs.length c := by
  rcases h with ⟨a, c, h1, h2⟩ | ⟨b, off, cap, h1, _⟩
  · subst h2; exact ⟨a, c, h1⟩
  · exact ⟨_, _, h1⟩
theorem RatSl.le {w : World} {sv : Value} {xs : List Rt} (h : RatSl w sv xs) : xs.length ≤ 9223372036854775807 := by
  rcases h with ⟨a, c, h1, h2⟩ | ⟨b, off, cap, h1, h2, h3, _⟩
  · rw [h2]; simp
  · unfold maxLen at h3; omega
def RatCs (cs : Array Value) (i : Nat) (x : Rt) : Prop := cs[i * 2]? = some (Value.int .i64 x.n) ∧ cs[i * 2 + 1]? = some (Value.int .i64 x.d)
def OwnRat (w : World) (lo hi : Nat) (sv : Value) (xs : List Rt) : Prop :=
  (∃ a c, sv = .slice a 0 c ∧ xs = []) ∨ ∃ (g cap : Nat) (cs : Array Value), sv = .slice (some ⟨g, 0, none⟩) xs.length cap ∧ (lo ≤ g ∧ g < hi) ∧ xs.length ≤ cap ∧ cap ≤ maxLen ∧ Blk w g cs 28 ∧ (∀ (i : Nat) (x : Rt), xs[i]? = some x → RatCs cs i x)
section
variable {w w' : World} {lo hi lo' hi' : Nat} {sv : Value} {xs : List Rt}
theorem OwnRat.by (hb : Below w.heap.size w w') (h : OwnRat w lo hi sv xs) : OwnRat w' lo hi sv xs := by
  rcases h with h | ⟨g, cap, cs, h1, h2, h3, h4, h5, h6⟩
  · exact .inl h
  · exact .inr ⟨g, cap, cs, h1, h2, h3, h4, Blk.by hb h5, h6⟩
theorem OwnRat.past (hb : Within lo' hi' w w') (h : OwnRat w lo hi sv xs) (hd : hi ≤ lo' ∨ hi' ≤ lo) : OwnRat w' lo hi sv xs := by
  rcases h with h | ⟨g, cap, cs, h1, h2, h3, h4, h5, h6⟩
  · exact .inl h
  · exact .inr ⟨g, cap, cs, h1, h2, h3, h4, hb.blk h5 (by omega), h6⟩
theorem OwnRat.wide (h : OwnRat w lo hi sv xs) (h1 : lo' ≤ lo) (h2 : hi ≤ hi') : OwnRat w lo' hi' sv xs := by
  rcases h with h | ⟨g, cap, cs, e1, e2, e3, e4, e5, e6⟩
  · exact .inl h
  · exact .inr ⟨g, cap, cs, e1, by omega, e3, e4, e5, e6⟩
theorem OwnRat.sl (h : OwnRat w lo hi sv xs) : RatSl w sv xs := by
  rcases h with h | ⟨g, cap, cs, h1, h2, h3, h4, h5, h6⟩
  · exact .inl h
  · refine .inr ⟨g, 0, cap, h1, h3, h4, fun i x hx => ?_⟩
    obtain ⟨e0, e1⟩ := h6 i x hx
    have hc := h5.cell
    simp only [Nat.zero_add]
    exact ⟨by rw [hc]; exact e0, by rw [hc]; exact e1⟩
end
def cellsRat : List Rt → List Value
  | p :: ps => .int .i64 p.n :: .int .i64 p.d :: cellsRat ps
  | [] => []
theorem cellsRat_push (ps : List Rt) (p : Rt) : cellsRat (ps ++ [p]) = cellsRat ps ++ [.int .i64 p.n, .int .i64 p.d] := by
  induction ps with
  | nil => rfl
  | cons q qs ih => simp [cellsRat, ih]
theorem cellsRat_get (ps : List Rt) (i : Nat) (p : Rt) (h : ps[i]? = some p) : (cellsRat ps)[i * 2]? = some (Value.int .i64 p.n) ∧ (cellsRat ps)[i * 2 + 1]? = some (Value.int .i64 p.d) := by
  induction ps generalizing i with
  | nil => simp at h
  | cons q qs ih => cases i with
    | zero => simp at h; subst h; simp [cellsRat]
    | succ i =>
      simp at h
      have e : ∀ r, (cellsRat (q :: qs))[(i + 1) * 2 + r]? = (cellsRat qs)[i * 2 + r]? := by
        intro r
        show (Value.int .i64 q.n :: Value.int .i64 q.d :: cellsRat qs)[(i + 1) * 2 + r]? = _
        rw [show (i + 1) * 2 + r = (i * 2 + r) + 1 + 1 by omega]
        simp only [List.getElem?_cons_succ]
      have e0 := e 0
      simp only [Nat.add_zero] at e0
      rw [e0, e 1]
      exact ih i h
def BldRat (w : World) (lo hi : Nat) (v : Value) (ps : List Rt) : Prop := hi ≤ w.heap.size ∧ w.ownsRow lo 28 2 v ps.length (cellsRat ps) ∧ (∀ g, v.ownBlock = some g → lo ≤ g ∧ g < hi)
section
variable {w w' : World} {lo hi : Nat} {v : Value} {ps : List Rt}
theorem BldRat.nil (w : World) (lo : Nat) : BldRat w lo w.heap.size (.slice none 0 0) [] :=
  ⟨Nat.le_refl _, World.ownsRow_nil w lo _ 2, by intro g h; cases h⟩
theorem BldRat.none {g : Nat} {cs : Array Value} (h : Blk w g cs 28) (hcs : cs.size = 0) (hlo : lo ≤ g) (hhi : g < hi) (hs : hi ≤ w.heap.size) : BldRat w lo hi (.slice (some ⟨g, 0, Option.none⟩) 0 0) [] := by
  refine ⟨hs, ⟨rfl, .inr ⟨g, 0, cs, rfl, hlo, h, Nat.le_refl _, by unfold maxLen; omega, by omega, by simp [cellsRat]⟩⟩, ?_⟩
  intro g' hg'
  have : g = g' := by injection hg'
  omega
theorem BldRat.by (hb : Below w.heap.size w w') (h : BldRat w lo hi v ps) : BldRat w' lo hi v ps := by
  obtain ⟨hs, h1, h3⟩ := h
  exact ⟨Nat.le_trans hs hb.size, row_same h1 (fun g hg => hb.block g (by have := h3 g hg; omega)), h3⟩
theorem BldRat.past {lo' hi' : Nat} (hb : Within lo' hi' w w') (h : BldRat w lo hi v ps) (hd : hi' ≤ lo ∨ hi ≤ lo') : BldRat w' lo hi v ps := by
  obtain ⟨hs, h1, h3⟩ := h
  exact ⟨Nat.le_trans hs hb.size, row_same h1 (fun g hg => hb.block g (by have := h3 g hg; omega) (by have := h3 g hg; omega)), h3⟩
theorem BldRat.sized (h : BldRat w lo hi v ps) : ∃ a c, v = .slice a ps.length c := by
  obtain ⟨_, ⟨_, h1⟩, _⟩ := h
  rcases h1 with ⟨h1, h2⟩ | ⟨g, cap, cur, e1, _⟩
  · exact ⟨Option.none, 0, by rw [h1, h2]⟩
  · exact ⟨_, _, e1⟩
theorem BldRat.own (h : BldRat w lo hi v ps) : OwnRat w lo hi v ps := by
  obtain ⟨hs, ⟨hlen, h1⟩, h3⟩ := h
  rcases h1 with ⟨h1, hn⟩ | ⟨g, cap, cur, e1, e2, e3, e4, e5, e6, e7⟩
  · exact .inl ⟨_, _, h1, List.eq_nil_of_length_eq_zero hn⟩
  · have hcur : ∀ (j : Nat) u, (cellsRat ps)[j]? = some u → cur[j]? = some u := by
      intro j u hu
      rw [← e7] at hu
      have hj : j < ps.length * 2 := by
        have := (List.getElem?_eq_some_iff.1 hu).1
        rw [List.length_take] at this; omega
      rw [List.getElem?_take_of_lt hj] at hu
      simpa using hu
    refine .inr ⟨g, cap, cur, e1, h3 g (by rw [e1]; rfl), e4, e5, e3, fun i x hx => ?_⟩
    obtain ⟨q0, q1⟩ := cellsRat_get ps i x hx
    exact ⟨hcur _ _ q0, hcur _ _ q1⟩
end
theorem infoRat : (Tryz.prog.info? 28).map (fun i => (i.zero, i.size, i.bytes)) = some (some (.agg #[.int .i64 0, .int .i64 0]), 2, 16) := by kernel_rfl
theorem step_pushRat {ops : Array Oper} {o : Oper} {a : Act} {w : World} {K : Act → World → Prop} {Q : Exit → Act → World → Prop} {E : Prop} (hgd : o.guard = none) (s x : Operand)
    (ho : o.op = .call { callee := .builtin .append, args := #[s, x], argTypes := #[105, 105] })
    (lo hi : Nat) (v : Value) (ps : List Rt) (hs : a.eval s = v) (hB : BldRat w lo hi v ps) (nb : Nat) (p : Rt) (hx : a.eval x = .slice (some ⟨nb, 0, none⟩) 1 1)
    (hnb : Blk w nb #[.int .i64 p.n, .int .i64 p.d] 28) (hlo : lo ≤ hi) (hn : ps.length ≤ 1000)
    (hK : ∀ a' c' w', BldRat w' lo w'.heap.size (.slice a' (ps.length + 1) c') (ps ++ [p]) → Within lo hi w w' → K (a.put o.dst (.slice a' (ps.length + 1) c')) w') :
    if Region.wanted o (yielded ops a.tmps) = true then Oper.wp Tryz.prog o a w K Q else E := by
  obtain ⟨i0, hi0, hz0, hz1, hz2⟩ := info_parts infoRat
  obtain ⟨hsz, h1, h3⟩ := hB
  refine step_append_lies w hgd s x 105 ho lo 28 i0 _ 2 16 Tryz.underlying105 hi0 hz0 hz1 hz2 rfl (by decide) v ps.length _ hs h1 ⟨nb, 0, none⟩ 1 1 [.int .i64 p.n, .int .i64 p.d] hx rfl (World.news_of_block (cs := #[.int .i64 p.n, .int .i64 p.d]) hnb) ?_ (by decide) (by unfold maxLen; omega) (by omega) (by omega) w.heap.size rfl ?_
  · intro u hu
    simp at hu
    rcases hu with rfl | rfl
    · rfl
    · rfl
  · intro g cap w' hrow hgrow hg hgl
    have hW : Within lo hi w w' := grown_within hgrow h3
    refine hK (some ⟨g, 0, none⟩) cap w' ⟨Nat.le_refl _, ?_, ?_⟩ hW
    · rw [List.length_append, List.length_singleton, cellsRat_push]; exact hrow
    · intro g' hg'
      have : g = g' := by injection hg'
      subst this
      rcases hg with h | h
      · have := h3 g h; omega
      · omega
theorem list_pushRat {ops : Array Oper} {rest : List Oper} {o : Oper} {a : Act} {w : World} {Q : Exit → Act → World → Prop} (hgd : o.guard = none) (s x : Operand)
    (ho : o.op = .call { callee := .builtin .append, args := #[s, x], argTypes := #[105, 105] })
    (lo hi : Nat) (v : Value) (ps : List Rt) (hs : a.eval s = v) (hB : BldRat w lo hi v ps) (nb : Nat) (p : Rt) (hx : a.eval x = .slice (some ⟨nb, 0, none⟩) 1 1)
    (hnb : Blk w nb #[.int .i64 p.n, .int .i64 p.d] 28) (hlo : lo ≤ hi) (hn : ps.length ≤ 1000)
    (hK : ∀ a' c' w', BldRat w' lo w'.heap.size (.slice a' (ps.length + 1) c') (ps ++ [p]) → Within lo hi w w' → wpList Tryz.prog ops Q rest (a.put o.dst (.slice a' (ps.length + 1) c')) w') : wpList Tryz.prog ops Q (o :: rest) a w :=
  wpList_plain hgd fun K hk => by
    have h := step_pushRat (ops := ops) (K := K) (Q := Q) (E := False) hgd s x ho lo hi v ps hs hB nb p hx hnb hlo hn (fun a' c' w' h1 h2 => hk _ _ (hK a' c' w' h1 h2))
    rwa [if_pos (by simp [Region.wanted, hgd])] at h
theorem ResSl.le {w : World} {sv : Value} {xs : List Res} (h : ResSl w sv xs) : xs.length ≤ 9223372036854775807 := by
  rcases h with ⟨a, c, h1, h2⟩ | ⟨b, off, cap, h1, h2, h3, _⟩
  · rw [h2]; simp
  · unfold maxLen at h3; omega
def ResCs (cs : Array Value) (i : Nat) (x : Res) : Prop := cs[i * 4]? = some (Value.int .i64 x.a) ∧ cs[i * 4 + 1]? = some (Value.int .i64 x.b) ∧ cs[i * 4 + 2]? = some (Value.int .i64 x.num) ∧ cs[i * 4 + 3]? = some (Value.int .i64 x.den)
def OwnRes (w : World) (lo hi : Nat) (sv : Value) (xs : List Res) : Prop :=
  (∃ a c, sv = .slice a 0 c ∧ xs = []) ∨ ∃ (g cap : Nat) (cs : Array Value), sv = .slice (some ⟨g, 0, none⟩) xs.length cap ∧ (lo ≤ g ∧ g < hi) ∧ xs.length ≤ cap ∧ cap ≤ maxLen ∧ Blk w g cs 58 ∧ (∀ (i : Nat) (x : Res), xs[i]? = some x → ResCs cs i x)
section
variable {w w' : World} {lo hi lo' hi' : Nat} {sv : Value} {xs : List Res}
theorem OwnRes.by (hb : Below w.heap.size w w') (h : OwnRes w lo hi sv xs) : OwnRes w' lo hi sv xs := by
  rcases h with h | ⟨g, cap, cs, h1, h2, h3, h4, h5, h6⟩
  · exact .inl h
  · exact .inr ⟨g, cap, cs, h1, h2, h3, h4, Blk.by hb h5, h6⟩
theorem OwnRes.past (hb : Within lo' hi' w w') (h : OwnRes w lo hi sv xs) (hd : hi ≤ lo' ∨ hi' ≤ lo) : OwnRes w' lo hi sv xs := by
  rcases h with h | ⟨g, cap, cs, h1, h2, h3, h4, h5, h6⟩
  · exact .inl h
  · exact .inr ⟨g, cap, cs, h1, h2, h3, h4, hb.blk h5 (by omega), h6⟩
theorem OwnRes.wide (h : OwnRes w lo hi sv xs) (h1 : lo' ≤ lo) (h2 : hi ≤ hi') : OwnRes w lo' hi' sv xs := by
  rcases h with h | ⟨g, cap, cs, e1, e2, e3, e4, e5, e6⟩
  · exact .inl h
  · exact .inr ⟨g, cap, cs, e1, by omega, e3, e4, e5, e6⟩
theorem OwnRes.sl (h : OwnRes w lo hi sv xs) : ResSl w sv xs := by
  rcases h with h | ⟨g, cap, cs, h1, h2, h3, h4, h5, h6⟩
  · exact .inl h
  · refine .inr ⟨g, 0, cap, h1, h3, h4, fun i x hx => ?_⟩
    obtain ⟨e0, e1, e2, e3⟩ := h6 i x hx
    have hc := h5.cell
    simp only [Nat.zero_add]
    exact ⟨by rw [hc]; exact e0, by rw [hc]; exact e1, by rw [hc]; exact e2, by rw [hc]; exact e3⟩
end
def cellsRes : List Res → List Value
  | p :: ps => .int .i64 p.a :: .int .i64 p.b :: .int .i64 p.num :: .int .i64 p.den :: cellsRes ps
  | [] => []
theorem cellsRes_push (ps : List Res) (p : Res) : cellsRes (ps ++ [p]) = cellsRes ps ++ [.int .i64 p.a, .int .i64 p.b, .int .i64 p.num, .int .i64 p.den] := by
  induction ps with
  | nil => rfl
  | cons q qs ih => simp [cellsRes, ih]
theorem cellsRes_get (ps : List Res) (i : Nat) (p : Res) (h : ps[i]? = some p) : (cellsRes ps)[i * 4]? = some (Value.int .i64 p.a) ∧ (cellsRes ps)[i * 4 + 1]? = some (Value.int .i64 p.b) ∧ (cellsRes ps)[i * 4 + 2]? = some (Value.int .i64 p.num) ∧ (cellsRes ps)[i * 4 + 3]? = some (Value.int .i64 p.den) := by
  induction ps generalizing i with
  | nil => simp at h
  | cons q qs ih => cases i with
    | zero => simp at h; subst h; simp [cellsRes]
    | succ i =>
      simp at h
      have e : ∀ r, (cellsRes (q :: qs))[(i + 1) * 4 + r]? = (cellsRes qs)[i * 4 + r]? := by
        intro r
        show (Value.int .i64 q.a :: Value.int .i64 q.b :: Value.int .i64 q.num :: Value.int .i64 q.den :: cellsRes qs)[(i + 1) * 4 + r]? = _
        rw [show (i + 1) * 4 + r = (i * 4 + r) + 1 + 1 + 1 + 1 by omega]
        simp only [List.getElem?_cons_succ]
      have e0 := e 0
      simp only [Nat.add_zero] at e0
      rw [e0, e 1, e 2, e 3]
      exact ih i h
def BldRes (w : World) (lo hi : Nat) (v : Value) (ps : List Res) : Prop := hi ≤ w.heap.size ∧ w.ownsRow lo 58 4 v ps.length (cellsRes ps) ∧ (∀ g, v.ownBlock = some g → lo ≤ g ∧ g < hi)
section
variable {w w' : World} {lo hi : Nat} {v : Value} {ps : List Res}
theorem BldRes.nil (w : World) (lo : Nat) : BldRes w lo w.heap.size (.slice none 0 0) [] :=
  ⟨Nat.le_refl _, World.ownsRow_nil w lo _ 4, by intro g h; cases h⟩
theorem BldRes.none {g : Nat} {cs : Array Value} (h : Blk w g cs 58) (hcs : cs.size = 0) (hlo : lo ≤ g) (hhi : g < hi) (hs : hi ≤ w.heap.size) : BldRes w lo hi (.slice (some ⟨g, 0, Option.none⟩) 0 0) [] := by
  refine ⟨hs, ⟨rfl, .inr ⟨g, 0, cs, rfl, hlo, h, Nat.le_refl _, by unfold maxLen; omega, by omega, by simp [cellsRes]⟩⟩, ?_⟩
  intro g' hg'
  have : g = g' := by injection hg'
  omega
theorem BldRes.by (hb : Below w.heap.size w w') (h : BldRes w lo hi v ps) : BldRes w' lo hi v ps := by
  obtain ⟨hs, h1, h3⟩ := h
  exact ⟨Nat.le_trans hs hb.size, row_same h1 (fun g hg => hb.block g (by have := h3 g hg; omega)), h3⟩
theorem BldRes.past {lo' hi' : Nat} (hb : Within lo' hi' w w') (h : BldRes w lo hi v ps) (hd : hi' ≤ lo ∨ hi ≤ lo') : BldRes w' lo hi v ps := by
  obtain ⟨hs, h1, h3⟩ := h
  exact ⟨Nat.le_trans hs hb.size, row_same h1 (fun g hg => hb.block g (by have := h3 g hg; omega) (by have := h3 g hg; omega)), h3⟩
theorem BldRes.sized (h : BldRes w lo hi v ps) : ∃ a c, v = .slice a ps.length c := by
  obtain ⟨_, ⟨_, h1⟩, _⟩ := h
  rcases h1 with ⟨h1, h2⟩ | ⟨g, cap, cur, e1, _⟩
  · exact ⟨Option.none, 0, by rw [h1, h2]⟩
  · exact ⟨_, _, e1⟩
theorem BldRes.own (h : BldRes w lo hi v ps) : OwnRes w lo hi v ps := by
  obtain ⟨hs, ⟨hlen, h1⟩, h3⟩ := h
  rcases h1 with ⟨h1, hn⟩ | ⟨g, cap, cur, e1, e2, e3, e4, e5, e6, e7⟩
  · exact .inl ⟨_, _, h1, List.eq_nil_of_length_eq_zero hn⟩
  · have hcur : ∀ (j : Nat) u, (cellsRes ps)[j]? = some u → cur[j]? = some u := by
      intro j u hu
      rw [← e7] at hu
      have hj : j < ps.length * 4 := by
        have := (List.getElem?_eq_some_iff.1 hu).1
        rw [List.length_take] at this; omega
      rw [List.getElem?_take_of_lt hj] at hu
      simpa using hu
    refine .inr ⟨g, cap, cur, e1, h3 g (by rw [e1]; rfl), e4, e5, e3, fun i x hx => ?_⟩
    obtain ⟨q0, q1, q2, q3⟩ := cellsRes_get ps i x hx
    exact ⟨hcur _ _ q0, hcur _ _ q1, hcur _ _ q2, hcur _ _ q3⟩
end
theorem infoRes2 : (Tryz.prog.info? 58).map (fun i => (i.zero, i.size, i.bytes)) = some (some (.agg #[.int .i64 0, .int .i64 0, .int .i64 0, .int .i64 0]), 4, 32) := by kernel_rfl
theorem step_pushRes {ops : Array Oper} {o : Oper} {a : Act} {w : World} {K : Act → World → Prop} {Q : Exit → Act → World → Prop} {E : Prop} (hgd : o.guard = none) (s x : Operand)
    (ho : o.op = .call { callee := .builtin .append, args := #[s, x], argTypes := #[53, 53] })
    (lo hi : Nat) (v : Value) (ps : List Res) (hs : a.eval s = v) (hB : BldRes w lo hi v ps) (nb : Nat) (p : Res) (hx : a.eval x = .slice (some ⟨nb, 0, none⟩) 1 1)
    (hnb : Blk w nb #[.int .i64 p.a, .int .i64 p.b, .int .i64 p.num, .int .i64 p.den] 58) (hlo : lo ≤ hi) (hn : ps.length ≤ 1000)
    (hK : ∀ a' c' w', BldRes w' lo w'.heap.size (.slice a' (ps.length + 1) c') (ps ++ [p]) → Within lo hi w w' → K (a.put o.dst (.slice a' (ps.length + 1) c')) w') :
    if Region.wanted o (yielded ops a.tmps) = true then Oper.wp Tryz.prog o a w K Q else E := by
  obtain ⟨i0, hi0, hz0, hz1, hz2⟩ := info_parts infoRes2
  obtain ⟨hsz, h1, h3⟩ := hB
  refine step_append_lies w hgd s x 53 ho lo 58 i0 _ 4 32 Tryz.underlying53 hi0 hz0 hz1 hz2 rfl (by decide) v ps.length _ hs h1 ⟨nb, 0, none⟩ 1 1 [.int .i64 p.a, .int .i64 p.b, .int .i64 p.num, .int .i64 p.den] hx rfl (World.news_of_block (cs := #[.int .i64 p.a, .int .i64 p.b, .int .i64 p.num, .int .i64 p.den]) hnb) ?_ (by decide) (by unfold maxLen; omega) (by omega) (by omega) w.heap.size rfl ?_
  · intro u hu
    simp at hu
    rcases hu with rfl | rfl | rfl | rfl
    · rfl
    · rfl
    · rfl
    · rfl
  · intro g cap w' hrow hgrow hg hgl
    have hW : Within lo hi w w' := grown_within hgrow h3
    refine hK (some ⟨g, 0, none⟩) cap w' ⟨Nat.le_refl _, ?_, ?_⟩ hW
    · rw [List.length_append, List.length_singleton, cellsRes_push]; exact hrow
    · intro g' hg'
      have : g = g' := by injection hg'
      subst this
      rcases hg with h | h
      · have := h3 g h; omega
      · omega
theorem list_pushRes {ops : Array Oper} {rest : List Oper} {o : Oper} {a : Act} {w : World} {Q : Exit → Act → World → Prop} (hgd : o.guard = none) (s x : Operand)
    (ho : o.op = .call { callee := .builtin .append, args := #[s, x], argTypes := #[53, 53] })
    (lo hi : Nat) (v : Value) (ps : List Res) (hs : a.eval s = v) (hB : BldRes w lo hi v ps) (nb : Nat) (p : Res) (hx : a.eval x = .slice (some ⟨nb, 0, none⟩) 1 1)
    (hnb : Blk w nb #[.int .i64 p.a, .int .i64 p.b, .int .i64 p.num, .int .i64 p.den] 58) (hlo : lo ≤ hi) (hn : ps.length ≤ 1000)
    (hK : ∀ a' c' w', BldRes w' lo w'.heap.size (.slice a' (ps.length + 1) c') (ps ++ [p]) → Within lo hi w w' → wpList Tryz.prog ops Q rest (a.put o.dst (.slice a' (ps.length + 1) c')) w') : wpList Tryz.prog ops Q (o :: rest) a w :=
  wpList_plain hgd fun K hk => by
    have h := step_pushRes (ops := ops) (K := K) (Q := Q) (E := False) hgd s x ho lo hi v ps hs hB nb p hx hnb hlo hn (fun a' c' w' h1 h2 => hk _ _ (hK a' c' w' h1 h2))
    rwa [if_pos (by simp [Region.wanted, hgd])] at h
theorem ResBlk.own {w : World} {g : Nat} {xs : List Res} (h : ResBlk w g xs) (hm : xs.length ≤ 1048576) : OwnRes w g (g + 1) (.slice (some ⟨g, 0, none⟩) xs.length xs.length) xs := by
  obtain ⟨cs, h1, h2, h3⟩ := h
  exact .inr ⟨g, _, cs, rfl, ⟨Nat.le_refl _, Nat.lt_succ_self _⟩, Nat.le_refl _, by unfold maxLen; omega, h1, h3⟩
structure Nw where
  nodes : Int
  rs : List Res
def NwV (w : World) (v : Value) (x : Nw) : Prop := ∃ sv, v = .agg #[.int .i64 x.nodes, sv] ∧ ResSl w sv x.rs
def OwnNw (w : World) (lo hi : Nat) (v : Value) (x : Nw) : Prop := ∃ sv, v = .agg #[.int .i64 x.nodes, sv] ∧ OwnRes w lo hi sv x.rs
section
variable {w w' : World} {lo hi lo' hi' : Nat} {v : Value} {x : Nw}
theorem NwV.by (hb : Below w.heap.size w w') (h : NwV w v x) : NwV w' v x := by obtain ⟨s, e, a⟩ := h; exact ⟨s, e, a.by hb⟩
theorem NwV.sized (h : NwV w v x) : ∃ a c, v = .agg #[.int .i64 x.nodes, .slice a x.rs.length c] := by
  obtain ⟨s, e, a⟩ := h
  obtain ⟨b, c, rfl⟩ := a.len
  exact ⟨b, c, e⟩
theorem OwnNw.by (hb : Below w.heap.size w w') (h : OwnNw w lo hi v x) : OwnNw w' lo hi v x := by obtain ⟨s, e, a⟩ := h; exact ⟨s, e, a.by hb⟩
theorem OwnNw.past (hb : Within lo' hi' w w') (h : OwnNw w lo hi v x) (hd : hi ≤ lo' ∨ hi' ≤ lo) : OwnNw w' lo hi v x := by obtain ⟨s, e, a⟩ := h; exact ⟨s, e, a.past hb hd⟩
theorem OwnNw.wide (h : OwnNw w lo hi v x) (h1 : lo' ≤ lo) (h2 : hi ≤ hi') : OwnNw w lo' hi' v x := by obtain ⟨s, e, a⟩ := h; exact ⟨s, e, a.wide h1 h2⟩
theorem OwnNw.nw (h : OwnNw w lo hi v x) : NwV w v x := by obtain ⟨s, e, a⟩ := h; exact ⟨s, e, a.sl⟩
end
theorem RatSl.sized {w : World} {sv : Value} {xs : List Rt} (h : RatSl w sv xs) : ∃ a c, sv = .slice a xs.length c := h.len
def mrgF (L : Nat → Nat) (p q : Nat) : Nat → Nat := fun v => if L v = max (L p) (L q) then min (L p) (L q) else L v
def selF (E : Nat → Nat × Nat) (on : Nat → Bool) : Nat → Nat → Nat
  | 0 => fun v => v
  | k + 1 => if on k = true then mrgF (selF E on k) (E k).1 (E k).2 else selF E on k
theorem selF_on {E : Nat → Nat × Nat} {on : Nat → Bool} {k : Nat} (h : on k = true) : selF E on (k + 1) = mrgF (selF E on k) (E k).1 (E k).2 := by simp only [selF, if_pos h]
theorem selF_off {E : Nat → Nat × Nat} {on : Nat → Bool} {k : Nat} (h : ¬ on k = true) : selF E on (k + 1) = selF E on k := by simp only [selF, if_neg h]
theorem mrgF_same {L : Nat → Nat} {p q : Nat} (h : L p = L q) : mrgF L p q = L := by
  funext v; unfold mrgF; split <;> omega
theorem mrgF_keep {L : Nat → Nat} {p q u v : Nat} (h : L u = L v) : mrgF L p q u = mrgF L p q v := by unfold mrgF; rw [h]
theorem mrgF_ends (L : Nat → Nat) (p q : Nat) : mrgF L p q p = mrgF L p q q := by
  unfold mrgF
  by_cases h1 : L p = max (L p) (L q) <;> by_cases h2 : L q = max (L p) (L q)
  · rw [if_pos h1, if_pos h2]
  · rw [if_pos h1, if_neg h2]; omega
  · rw [if_neg h1, if_pos h2]; omega
  · omega
theorem selF_edge {E : Nat → Nat × Nat} {on : Nat → Bool} {m i : Nat} (hi : i < m) (h : on i = true) : selF E on m (E i).1 = selF E on m (E i).2 := by
  induction m with
  | zero => omega
  | succ k ih =>
    by_cases hk : on k = true
    · rw [selF_on hk]
      by_cases e : i = k
      · subst e; exact mrgF_ends _ _ _
      · exact mrgF_keep (ih (by omega))
    · rw [selF_off hk]
      exact ih (by
        rcases Nat.lt_or_ge i k with h' | h'
        · exact h'
        · have : i = k := by omega
          subst this; exact absurd h hk)
theorem selF_min {α : Type} {E : Nat → Nat × Nat} {on : Nat → Bool} (f : Nat → α) {m : Nat} (h : ∀ i, i < m → on i = true → f (E i).1 = f (E i).2) : ∀ u v, selF E on m u = selF E on m v → f u = f v := by
  induction m with
  | zero => intro u v e; simp only [selF] at e; rw [e]
  | succ k ih =>
    have ih' := ih (fun i hi => h i (by omega))
    intro u v e
    by_cases hk : on k = true
    · rw [selF_on hk] at e
      have he := h k (by omega) hk
      unfold mrgF at e
      by_cases h1 : selF E on k u = max (selF E on k (E k).1) (selF E on k (E k).2) <;> by_cases h2 : selF E on k v = max (selF E on k (E k).1) (selF E on k (E k).2)
      · exact ih' u v (h1.trans h2.symm)
      · rw [if_pos h1, if_neg h2] at e
        rcases Nat.le_total (selF E on k (E k).1) (selF E on k (E k).2) with hl | hl
        · rw [ih' u (E k).2 (by omega), ← ih' (E k).1 v (by omega), he]
        · rw [ih' u (E k).1 (by omega), ← ih' (E k).2 v (by omega), he]
      · rw [if_neg h1, if_pos h2] at e
        rcases Nat.le_total (selF E on k (E k).1) (selF E on k (E k).2) with hl | hl
        · rw [ih' v (E k).2 (by omega), ← ih' (E k).1 u (by omega), he]
        · rw [ih' v (E k).1 (by omega), ← ih' (E k).2 u (by omega), he]
      · rw [if_neg h1, if_neg h2] at e
        exact ih' u v e
    · rw [selF_off hk] at e
      exact ih' u v e
theorem selF_facts (E : Nat → Nat × Nat) (on : Nat → Bool) (m : Nat) : ∀ v, selF E on m (selF E on m v) = selF E on m v ∧ selF E on m v ≤ v := by
  induction m with
  | zero => intro v; exact ⟨rfl, Nat.le_refl _⟩
  | succ k ih =>
    by_cases hk : on k = true
    · rw [selF_on hk]
      intro v
      have i1 := ih v
      have i2 := (ih (E k).1).1
      have i3 := (ih (E k).2).1
      unfold mrgF
      by_cases h1 : selF E on k v = max (selF E on k (E k).1) (selF E on k (E k).2)
      · simp only [if_pos h1]
        have e : selF E on k (min (selF E on k (E k).1) (selF E on k (E k).2)) = min (selF E on k (E k).1) (selF E on k (E k).2) := by
          rcases Nat.le_total (selF E on k (E k).1) (selF E on k (E k).2) with hl | hl
          · rw [Nat.min_eq_left hl]; exact i2
          · rw [Nat.min_eq_right hl]; exact i3
        rw [e]
        refine ⟨?_, by omega⟩
        split <;> omega
      · simp only [if_neg h1, i1.1]
        exact ⟨trivial, i1.2⟩
    · rw [selF_off hk]; exact ih
theorem selF_idem (E : Nat → Nat × Nat) (on : Nat → Bool) (m v : Nat) : selF E on m (selF E on m v) = selF E on m v := (selF_facts E on m v).1
theorem selF_le (E : Nat → Nat × Nat) (on : Nat → Bool) (m v : Nat) : selF E on m v ≤ v := (selF_facts E on m v).2
def rootsF (L : Nat → Nat) : Nat → Nat
  | 0 => 0
  | n + 1 => rootsF L n + if L n = n then 1 else 0
def cntF (on : Nat → Bool) : Nat → Nat
  | 0 => 0
  | k + 1 => cntF on k + if on k = true then 1 else 0
theorem cntF_le (on : Nat → Bool) (m : Nat) : cntF on m ≤ m := by
  induction m with
  | zero => exact Nat.le_refl _
  | succ k ih => simp only [cntF]; split <;> omega
theorem rootsF_le (L : Nat → Nat) (n : Nat) : rootsF L n ≤ n := by
  induction n with
  | zero => exact Nat.le_refl _
  | succ k ih => simp only [rootsF]; split <;> omega
theorem rootsF_congr {L L' : Nat → Nat} {n : Nat} (h : ∀ v, v < n → (L' v = v ↔ L v = v)) : rootsF L' n = rootsF L n := by
  induction n with
  | zero => rfl
  | succ k ih =>
    simp only [rootsF]
    rw [ih (fun v hv => h v (by omega))]
    have := h k (by omega)
    by_cases e : L k = k
    · rw [if_pos e, if_pos (this.2 e)]
    · rw [if_neg e, if_neg (fun q => e (this.1 q))]
theorem rootsF_less {L L' : Nat → Nat} {M n : Nat} (hM : L M = M) (hn : M < n) (h : ∀ v, (L' v = v ↔ L v = v ∧ v ≠ M)) : rootsF L' n + 1 = rootsF L n := by
  induction n with
  | zero => omega
  | succ k ih =>
    simp only [rootsF]
    have hk := h k
    by_cases e : M = k
    · subst e
      rw [rootsF_congr (L := L) (L' := L') (fun v hv => by rw [h v]; exact ⟨fun q => q.1, fun q => ⟨q, by omega⟩⟩), if_pos hM, if_neg (fun q => (hk.1 q).2 rfl)]
    · have := ih (by omega)
      by_cases e2 : L k = k
      · rw [if_pos e2, if_pos (hk.2 ⟨e2, fun q => e q.symm⟩)]; omega
      · rw [if_neg e2, if_neg (fun q => e2 (hk.1 q).1)]; omega
theorem roots_id (n : Nat) : rootsF (fun v => v) n = n := by
  induction n with
  | zero => rfl
  | succ k ih => simp only [rootsF, ih, if_true]
theorem mrgF_roots {L : Nat → Nat} {p q n : Nat} (hL : ∀ v, L (L v) = L v ∧ L v ≤ v) (hp : p < n) (hq : q < n) (h : L p ≠ L q) : rootsF (mrgF L p q) n + 1 = rootsF L n := by
  have ip := hL p
  have iq := hL q
  have hM : L (max (L p) (L q)) = max (L p) (L q) := by
    rcases Nat.le_total (L p) (L q) with hl | hl
    · rw [Nat.max_eq_right hl]; exact iq.1
    · rw [Nat.max_eq_left hl]; exact ip.1
  have hm : L (min (L p) (L q)) = min (L p) (L q) := by
    rcases Nat.le_total (L p) (L q) with hl | hl
    · rw [Nat.min_eq_left hl]; exact ip.1
    · rw [Nat.min_eq_right hl]; exact iq.1
  refine rootsF_less hM (by omega) (fun v => ?_)
  unfold mrgF
  by_cases e : L v = max (L p) (L q)
  · rw [if_pos e]
    constructor
    · intro e2; rw [← e2, hm] at e; omega
    · rintro ⟨e2, e3⟩; omega
  · rw [if_neg e]
    constructor
    · intro e2; exact ⟨e2, fun e3 => e (by rw [e3]; exact hM)⟩
    · intro e2; exact e2.1
def treeOn (E : Nat → Nat × Nat) (on : Nat → Bool) : Nat → Bool := fun i => on i && !(selF E on i (E i).1 == selF E on i (E i).2)
theorem tree_sel (E : Nat → Nat × Nat) (on : Nat → Bool) (m : Nat) : selF E (treeOn E on) m = selF E on m := by
  induction m with
  | zero => rfl
  | succ k ih =>
    by_cases hk : on k = true
    · rw [selF_on hk]
      by_cases e : selF E on k (E k).1 = selF E on k (E k).2
      · rw [mrgF_same e, selF_off (by simp [treeOn, hk, e]), ih]
      · rw [selF_on (by simp [treeOn, hk, e]), ih]
    · rw [selF_off hk, selF_off (by simp [treeOn, hk]), ih]
theorem tree_cnt {E : Nat → Nat × Nat} {on : Nat → Bool} {m n : Nat} (hE : ∀ i, i < m → (E i).1 < n ∧ (E i).2 < n) : rootsF (selF E on m) n + cntF (treeOn E on) m = n := by
  induction m with
  | zero => simp only [cntF, selF, roots_id]; omega
  | succ k ih =>
    have ih' := ih (fun i hi => hE i (by omega))
    simp only [cntF]
    by_cases hk : on k = true
    · rw [selF_on hk]
      by_cases e : selF E on k (E k).1 = selF E on k (E k).2
      · rw [mrgF_same e, if_neg (by simp [treeOn, hk, e])]; omega
      · rw [if_pos (by simp [treeOn, hk, e])]
        have := mrgF_roots (selF_facts E on k) (hE k (by omega)).1 (hE k (by omega)).2 e
        omega
    · rw [selF_off hk, if_neg (by simp [treeOn, hk])]; omega
def numOf (on : Nat → Bool) : Nat → Nat
  | 0 => 0
  | k + 1 => numOf on k + if on k = true then 2 ^ k else 0
theorem numOf_lt (on : Nat → Bool) (m : Nat) : numOf on m < 2 ^ m := by
  induction m with
  | zero => simp [numOf]
  | succ k ih => simp only [numOf, Nat.pow_succ]; split <;> omega
theorem numOf_bit (on : Nat → Bool) {m i : Nat} (hi : i < m) : (numOf on m).testBit i = on i := by
  induction m with
  | zero => omega
  | succ k ih =>
    simp only [numOf]
    have hl := numOf_lt on k
    by_cases hk : on k = true
    · rw [if_pos hk, Nat.add_comm]
      by_cases e : i = k
      · subst e
        rw [Nat.testBit_two_pow_add_eq, hk, Nat.testBit_lt_two_pow hl]; rfl
      · rw [Nat.testBit_two_pow_add_gt (by omega)]
        exact ih (by omega)
    · rw [if_neg hk, Nat.add_zero]
      by_cases e : i = k
      · subst e
        rw [Nat.testBit_lt_two_pow hl]; simp at hk; exact hk.symm
      · exact ih (by omega)
theorem selF_congr {E : Nat → Nat × Nat} {on on' : Nat → Bool} {m : Nat} (h : ∀ i, i < m → on i = on' i) : selF E on m = selF E on' m := by
  induction m with
  | zero => rfl
  | succ k ih =>
    have hk := h k (by omega)
    have ik := ih (fun i hi => h i (by omega))
    by_cases e : on k = true
    · rw [selF_on e, selF_on (hk ▸ e), ik]
    · rw [selF_off e, selF_off (hk ▸ e), ik]
theorem cntF_congr {on on' : Nat → Bool} {m : Nat} (h : ∀ i, i < m → on i = on' i) : cntF on m = cntF on' m := by
  induction m with
  | zero => rfl
  | succ k ih => simp only [cntF, ih (fun i hi => h i (by omega)), h k (by omega)]
/- Weights of forests and their sums: plain. -/
def sumF (f : Nat → Int) : Nat → Int
  | 0 => 0
  | k + 1 => sumF f k + f k
theorem sumF_nn {f : Nat → Int} {k : Nat} (h : ∀ i, i < k → 0 ≤ f i) : 0 ≤ sumF f k := by
  induction k with
  | zero => simp [sumF]
  | succ k ih =>
    have := ih (fun i hi => h i (by omega))
    have := h k (by omega)
    simp only [sumF]; omega
theorem sumF_le {f : Nat → Int} {B : Int} {k : Nat} (h : ∀ i, i < k → f i ≤ B) : sumF f k ≤ k * B := by
  induction k with
  | zero => simp [sumF]
  | succ k ih =>
    have := ih (fun i hi => h i (by omega))
    have := h k (by omega)
    simp only [sumF]
    have e : ((k + 1 : Nat) : Int) * B = k * B + B := by rw [Int.natCast_succ, Int.add_mul, Int.one_mul]
    rw [e]; omega
theorem sumF_pos {f : Nat → Int} {k j : Nat} (h : ∀ i, i < k → 0 ≤ f i) (hj : j < k) (hp : 0 < f j) : 0 < sumF f k := by
  induction k with
  | zero => omega
  | succ k ih =>
    simp only [sumF]
    have h0 := h k (by omega)
    by_cases e : j = k
    · subst e
      have := sumF_nn (f := f) (k := j) (fun i hi => h i (by omega))
      omega
    · have := ih (fun i hi => h i (by omega)) (by omega); omega
def wtF (nm dn : Nat → Int) (on : Nat → Bool) : Nat → Int
  | 0 => 1
  | k + 1 => wtF nm dn on k * (if on k = true then dn k else nm k)
def mxF (nm dn : Nat → Int) : Nat → Int
  | 0 => 1
  | k + 1 => mxF nm dn k * max (nm k) (dn k)
theorem mul_mono {a b c d : Int} (h0 : 0 ≤ a) (h1 : a ≤ b) (h2 : 0 ≤ c) (h3 : c ≤ d) : a * c ≤ b * d :=
  Int.le_trans (Int.mul_le_mul_of_nonneg_left h3 h0) (Int.mul_le_mul_of_nonneg_right h1 (by omega))
theorem wtF_bd {nm dn : Nat → Int} (on : Nat → Bool) {k : Nat} (h : ∀ i, i < k → 1 ≤ nm i ∧ 1 ≤ dn i) : 1 ≤ wtF nm dn on k ∧ wtF nm dn on k ≤ mxF nm dn k := by
  induction k with
  | zero => simp [wtF, mxF]
  | succ k ih =>
    have ⟨a, b⟩ := ih (fun i hi => h i (by omega))
    have ⟨c, d⟩ := h k (by omega)
    simp only [wtF, mxF]
    obtain ⟨z, hz⟩ : ∃ z, (if on k = true then dn k else nm k) = z := ⟨_, rfl⟩
    rw [hz]
    have h1 : 1 ≤ z ∧ z ≤ max (nm k) (dn k) := by rw [← hz]; split <;> omega
    have p := mul_mono (a := 1) (b := wtF nm dn on k) (c := 1) (d := z) (by omega) a (by omega) h1.1
    exact ⟨by omega, mul_mono (by omega) b (by omega) h1.2⟩
theorem mxF_mono {nm dn : Nat → Int} {k m : Nat} (h : ∀ i, i < m → 1 ≤ nm i ∧ 1 ≤ dn i) (hk : k ≤ m) : mxF nm dn k ≤ mxF nm dn m ∧ 1 ≤ mxF nm dn k := by
  induction m with
  | zero => have : k = 0 := by omega
            subst this; simp [mxF]
  | succ m ih =>
    by_cases e : k = m + 1
    · subst e
      have q := wtF_bd (nm := nm) (dn := dn) (fun _ => true) h
      exact ⟨Int.le_refl _, by omega⟩
    · have ⟨a, b⟩ := ih (fun i hi => h i (by omega)) (by omega)
      refine ⟨?_, b⟩
      simp only [mxF]
      have ⟨c, d⟩ := h m (by omega)
      have p := mul_mono (a := mxF nm dn m) (b := mxF nm dn m) (c := 1) (d := max (nm m) (dn m)) (by omega) (Int.le_refl _) (by omega) (by omega)
      omega
structure Pn where
  n : Nat
  m : Nat
  E : Nat → Nat × Nat
  nm : Nat → Int
  dn : Nat → Int
def bit (s : Nat) : Nat → Bool := fun i => s.testBit i
namespace Pn
variable (P : Pn)
def L (s : Nat) : Nat → Nat := selF P.E (bit s) P.m
def all : Nat → Nat := selF P.E (fun _ => true) P.m
def wt (s : Nat) : Int := wtF P.nm P.dn (bit s) P.m
def cnt (s : Nat) : Nat := cntF (bit s) P.m
def roots (s : Nat) : Nat := rootsF (P.L s) P.n
def least : Nat := rootsF P.all P.n
def treeB (s : Nat) : Bool := decide (P.roots s + P.cnt s = P.n) && decide (P.roots s = P.least)
def twoB (a b v : Nat) (s : Nat) : Bool := decide (P.roots s + P.cnt s = P.n) && (decide (P.roots s = P.least + 1) && (!(P.L s a == P.L s b) && P.L s v == P.L s a))
def tF (s : Nat) : Int := if P.treeB s = true then P.wt s else 0
def gF (a b v : Nat) (s : Nat) : Int := if P.twoB a b v s = true then P.wt s else 0
def tot : Int := sumF P.tF (2 ^ P.m)
def top (a b v : Nat) : Int := sumF (P.gF a b v) (2 ^ P.m)
structure Ok : Prop where
  ends : ∀ i, i < P.m → (P.E i).1 < P.n ∧ (P.E i).2 < P.n
  pos : ∀ i, i < P.m → 1 ≤ P.nm i ∧ 1 ≤ P.dn i
variable {P : Pn} (h : P.Ok)
include h
theorem wt_bd (s : Nat) : 1 ≤ P.wt s ∧ P.wt s ≤ mxF P.nm P.dn P.m := wtF_bd _ h.pos
theorem tF_bd (s : Nat) : 0 ≤ P.tF s ∧ P.tF s ≤ mxF P.nm P.dn P.m := by
  have := wt_bd h s
  unfold tF; split <;> omega
theorem gF_bd (a b v s : Nat) : 0 ≤ P.gF a b v s ∧ P.gF a b v s ≤ mxF P.nm P.dn P.m := by
  have := wt_bd h s
  unfold gF; split <;> omega
theorem tot_pos : 0 < P.tot := by
  have hl := numOf_lt (treeOn P.E (fun _ => true)) P.m
  refine sumF_pos (j := numOf (treeOn P.E (fun _ => true)) P.m) (fun i _ => (tF_bd h i).1) hl ?_
  have hb : ∀ i, i < P.m → bit (numOf (treeOn P.E (fun _ => true)) P.m) i = treeOn P.E (fun _ => true) i := fun i hi => numOf_bit _ hi
  have e1 : P.L (numOf (treeOn P.E (fun _ => true)) P.m) = P.all := by
    unfold L all; rw [selF_congr hb, tree_sel]
  have e2 := tree_cnt (E := P.E) (on := fun _ => true) h.ends
  have e3 : P.cnt (numOf (treeOn P.E (fun _ => true)) P.m) = cntF (treeOn P.E (fun _ => true)) P.m := cntF_congr hb
  have e4 : P.roots (numOf (treeOn P.E (fun _ => true)) P.m) = P.least := by unfold roots least; rw [e1]
  have := (wt_bd h (numOf (treeOn P.E (fun _ => true)) P.m)).1
  unfold tF treeB
  rw [e3, e4]
  have e5 : P.least + cntF (treeOn P.E (fun _ => true)) P.m = P.n := e2
  rw [e5]
  simp
  omega
theorem tot_le : P.tot ≤ (2 ^ P.m : Nat) * mxF P.nm P.dn P.m := sumF_le (fun s _ => (tF_bd h s).2)
theorem top_bd (a b v : Nat) : 0 ≤ P.top a b v ∧ P.top a b v ≤ (2 ^ P.m : Nat) * mxF P.nm P.dn P.m := ⟨sumF_nn (fun s _ => (gF_bd h a b v s).1), sumF_le (fun s _ => (gF_bd h a b v s).2)⟩
omit h
include h
end Pn
/- A network's part, and what the program counts of it: plain. -/
def cnB (p : Nat → Bool) : Nat → Nat
  | 0 => 0
  | n + 1 => cnB p n + if p n = true then 1 else 0
theorem cnB_congr {p q : Nat → Bool} {n : Nat} (h : ∀ v, v < n → p v = q v) : cnB p n = cnB q n := by
  induction n with
  | zero => rfl
  | succ k ih => simp only [cnB, ih (fun v hv => h v (by omega)), h k (by omega)]
theorem cnB_split (p q : Nat → Bool) (n : Nat) : cnB p n = cnB (fun v => p v && q v) n + cnB (fun v => p v && !q v) n := by
  induction n with
  | zero => rfl
  | succ k ih =>
    simp only [cnB, ih]
    by_cases hp : p k = true <;> by_cases hq : q k = true <;> simp [hp, hq] <;> omega
theorem cnB_true (n : Nat) : cnB (fun _ => true) n = n := by
  induction n with
  | zero => rfl
  | succ k ih => simp only [cnB, ih]; simp
theorem cnB_none {p : Nat → Bool} {n : Nat} (h : ∀ v, v < n → p v = false) : cnB p n = 0 := by
  induction n with
  | zero => rfl
  | succ k ih => simp only [cnB, ih (fun v hv => h v (by omega)), h k (by omega)]; simp
theorem cnB_one {p : Nat → Bool} {n r : Nat} (hr : r < n) (h : ∀ v, v < n → (p v = true ↔ v = r)) : cnB p n = 1 := by
  induction n with
  | zero => omega
  | succ k ih =>
    simp only [cnB]
    by_cases e : r = k
    · subst e
      rw [cnB_none (fun v hv => by
        have := h v (by omega)
        cases hp : p v with
        | false => rfl
        | true => have := this.1 hp; omega), if_pos ((h r (by omega)).2 rfl)]
    · rw [ih (by omega) (fun v hv => h v (by omega)), if_neg (fun q => e ((h k (by omega)).1 q).symm)]
theorem cnB_roots (L : Nat → Nat) (n : Nat) : rootsF L n = cnB (fun v => decide (L v = v)) n := by
  induction n with
  | zero => rfl
  | succ k ih => simp only [rootsF, cnB, ih, decide_eq_true_eq]
def edg (rs : List Res) (i : Nat) : Nat × Nat := match rs[i]? with | some r => (r.a.toNat, r.b.toNat) | none => (0, 0)
def rnm (rs : List Res) (i : Nat) : Int := match rs[i]? with | some r => r.num | none => 1
def rdn (rs : List Res) (i : Nat) : Int := match rs[i]? with | some r => r.den | none => 1
theorem edg_at {rs : List Res} {i : Nat} {r : Res} (h : rs[i]? = some r) : edg rs i = (r.a.toNat, r.b.toNat) := by simp [edg, h]
theorem rnm_at {rs : List Res} {i : Nat} {r : Res} (h : rs[i]? = some r) : rnm rs i = r.num := by simp [rnm, h]
theorem rdn_at {rs : List Res} {i : Nat} {r : Res} (h : rs[i]? = some r) : rdn rs i = r.den := by simp [rdn, h]
def netP (n : Nat) (rs : List Res) : Pn := ⟨n, rs.length, edg rs, rnm rs, rdn rs⟩
def allL (rs : List Res) : Nat → Nat := selF (edg rs) (fun _ => true) rs.length
def partR (rs : List Res) (a : Nat) : List Res := rs.filter (fun r => decide (allL rs r.a.toNat = allL rs a))
def parP (n : Nat) (rs : List Res) (a : Nat) : Pn := netP n (partR rs a)
theorem mem_part {rs : List Res} {a : Nat} {r : Res} : r ∈ partR rs a ↔ r ∈ rs ∧ allL rs r.a.toNat = allL rs a := by simp [partR]
theorem part_len (rs : List Res) (a : Nat) : (partR rs a).length ≤ rs.length := List.length_filter_le _ _
theorem all_edge {rs : List Res} {r : Res} (h : r ∈ rs) : allL rs r.a.toNat = allL rs r.b.toNat := by
  obtain ⟨i, hi, e⟩ := List.getElem_of_mem h
  have := selF_edge (E := edg rs) (on := fun _ => true) (m := rs.length) (i := i) hi rfl
  rw [edg_at (by rw [List.getElem?_eq_getElem hi, e])] at this
  exact this
def mprod (rs : List Res) : Int := rs.foldl (fun p r => p * max r.num r.den) 1
theorem mprod_snoc (rs : List Res) (r : Res) : mprod (rs ++ [r]) = mprod rs * max r.num r.den := by simp [mprod, List.foldl_append]
theorem mxF_take (rs : List Res) {k : Nat} (h : k ≤ rs.length) : mxF (rnm rs) (rdn rs) k = mprod (rs.take k) := by
  induction k with
  | zero => rfl
  | succ k ih =>
    have hk : rs[k]? = some rs[k] := List.getElem?_eq_getElem (by omega)
    rw [List.take_add_one, hk]
    show mxF (rnm rs) (rdn rs) k * max (rnm rs k) (rdn rs k) = mprod (rs.take k ++ [rs[k]])
    rw [mprod_snoc, ih (by omega), rnm_at hk, rdn_at hk]
theorem mxF_all (rs : List Res) : mxF (rnm rs) (rdn rs) rs.length = mprod rs := by rw [mxF_take rs (Nat.le_refl _), List.take_length]
theorem ediv2 (a b c : Int) (hb : 0 ≤ b) : a / b / c = a / (b * c) := by
  rw [Int.ediv_ediv, if_neg (by omega), Int.sub_zero]
theorem left_prod (rs : List Res) (h : ∀ r ∈ rs, 1 ≤ r.num) (l p : Int) (hp : 1 ≤ p) : rs.foldl (fun l x => l / max x.num x.den) (l / p) = l / rs.foldl (fun p r => p * max r.num r.den) p ∧ 1 ≤ rs.foldl (fun p r => p * max r.num r.den) p := by
  induction rs generalizing p with
  | nil => exact ⟨rfl, hp⟩
  | cons r rs ih =>
    have hr := h r (by simp)
    simp only [List.foldl_cons]
    rw [ediv2 l p (max r.num r.den) (by omega)]
    have q := mul_mono (a := 1) (b := p) (c := 1) (d := max r.num r.den) (by omega) hp (by omega) (by omega)
    exact ih (fun x hx => h x (by simp [hx])) _ (by omega)
theorem mprod_le {rs : List Res} (h : ∀ r ∈ rs, 1 ≤ r.num) (hl : 0 < leftOf rs) : mprod rs ≤ 10000000000000000 ∧ 1 ≤ mprod rs := by
  have ⟨a, b⟩ := left_prod rs h 10000000000000000 1 (by omega)
  unfold leftOf at hl
  rw [Int.ediv_one] at a
  rw [a] at hl
  refine ⟨?_, b⟩
  have e : mprod rs = rs.foldl (fun p r => p * max r.num r.den) 1 := rfl
  rw [← e] at hl b
  rcases Int.lt_or_le 10000000000000000 (mprod rs) with hc | hc
  · rw [Int.ediv_eq_zero_of_lt (by omega) hc] at hl; omega
  · exact hc
theorem mprod_filter (rs : List Res) (h : ∀ r ∈ rs, 1 ≤ r.num) (f : Res → Bool) (p q : Int) (hp : 1 ≤ p) (hpq : p ≤ q) : (rs.filter f).foldl (fun p r => p * max r.num r.den) p ≤ rs.foldl (fun p r => p * max r.num r.den) q := by
  induction rs generalizing p q with
  | nil => exact hpq
  | cons r rs ih =>
    have hr := h r (by simp)
    have ih' := ih (fun x hx => h x (by simp [hx]))
    simp only [List.filter_cons, List.foldl_cons]
    have q1 := mul_mono (a := 1) (b := p) (c := 1) (d := max r.num r.den) (by omega) hp (by omega) (by omega)
    have q2 := mul_mono (a := p) (b := q) (c := max r.num r.den) (d := max r.num r.den) (by omega) hpq (by omega) (Int.le_refl _)
    split
    · simp only [List.foldl_cons]
      exact ih' _ _ (by omega) q2
    · refine ih' _ _ hp ?_
      have q3 := mul_mono (a := p) (b := q) (c := 1) (d := max r.num r.den) (by omega) hpq (by omega) (by omega)
      omega
theorem nw_facts {nodes : Int} {rs : List Res} (h : nwB nodes rs = true) : (1 ≤ nodes ∧ nodes ≤ 6) ∧ rs.length ≤ 8 ∧ (∀ r ∈ rs, (0 ≤ r.a ∧ r.a < nodes) ∧ (0 ≤ r.b ∧ r.b < nodes) ∧ r.a ≠ r.b ∧ vrB r.num r.den = true ∧ (1 ≤ r.num ∧ r.num ≤ 1000000) ∧ (1 ≤ r.den ∧ r.den ≤ 1000000)) ∧ mprod rs ≤ 10000000000000000 := by
  simp only [nwB, Bool.and_eq_true, decide_eq_true_eq, List.all_eq_true] at h
  obtain ⟨h1, h2, h3, h4⟩ := h
  have each : ∀ r ∈ rs, (0 ≤ r.a ∧ r.a < nodes) ∧ (0 ≤ r.b ∧ r.b < nodes) ∧ r.a ≠ r.b ∧ vrB r.num r.den = true ∧ (1 ≤ r.num ∧ r.num ≤ 1000000) ∧ (1 ≤ r.den ∧ r.den ≤ 1000000) := by
    intro r hr
    have q := h3 r hr
    simp only [rsB, Bool.and_eq_true, decide_eq_true_eq, Bool.not_eq_true', beq_eq_false_iff_ne] at q
    obtain ⟨q1, q2, q3, q4, q5, q6⟩ := q
    have a1 := inB_iff.1 q1
    have a2 := inB_iff.1 q2
    have a5 := inB_iff.1 q5
    have a6 := vrB_pos q4
    exact ⟨by omega, by omega, q3, q4, a5, by omega⟩
  exact ⟨inB_iff.1 h1, h2, each, (mprod_le (fun r hr => (each r hr).2.2.2.2.1.1) h4).1⟩
theorem par_ok {nodes : Int} {rs : List Res} {n : Nat} (h : nwB nodes rs = true) (hn : nodes = n) (a : Nat) : (parP n rs a).Ok := by
  obtain ⟨_, _, each, _⟩ := nw_facts h
  have at' : ∀ i, i < (partR rs a).length → ∃ r, (partR rs a)[i]? = some r ∧ r ∈ rs := fun i hi => ⟨_, List.getElem?_eq_getElem hi, (mem_part.1 (List.getElem_mem hi)).1⟩
  refine ⟨fun i hi => ?_, fun i hi => ?_⟩
  · obtain ⟨r, e, m⟩ := at' i hi
    have q := each _ m
    show (edg (partR rs a) i).1 < n ∧ (edg (partR rs a) i).2 < n
    rw [edg_at e]
    omega
  · obtain ⟨r, e, m⟩ := at' i hi
    have q := each _ m
    show 1 ≤ rnm (partR rs a) i ∧ 1 ≤ rdn (partR rs a) i
    rw [rnm_at e, rdn_at e]
    omega
theorem par_mx {nodes : Int} {rs : List Res} (n : Nat) (h : nwB nodes rs = true) (a : Nat) : mxF (parP n rs a).nm (parP n rs a).dn (parP n rs a).m ≤ 10000000000000000 := by
  obtain ⟨_, _, each, hm⟩ := nw_facts h
  show mxF (rnm (partR rs a)) (rdn (partR rs a)) (partR rs a).length ≤ _
  rw [mxF_all]
  have := mprod_filter rs (fun r hr => (each r hr).2.2.2.2.1.1) (fun r => decide (allL rs r.a.toNat = allL rs a)) 1 1 (by omega) (by omega)
  exact Int.le_trans this hm
theorem par_pow {nodes : Int} {rs : List Res} (n : Nat) (h : nwB nodes rs = true) (a : Nat) : (2 ^ (parP n rs a).m : Nat) ≤ 256 := by
  obtain ⟨_, hl, _, _⟩ := nw_facts h
  have := part_len rs a
  have := Nat.pow_le_pow_right (show 0 < 2 by omega) (show (partR rs a).length ≤ 8 by omega)
  exact this
theorem par_bd {nodes : Int} {rs : List Res} {n : Nat} (h : nwB nodes rs = true) (hn : nodes = n) {z : Int} (a : Nat) (hz : z ≤ (2 ^ (parP n rs a).m : Nat) * mxF (parP n rs a).nm (parP n rs a).dn (parP n rs a).m) : z ≤ 2560000000000000000 := by
  have p := par_pow n h a
  have q := par_mx n h a
  have r := (mxF_mono (k := (parP n rs a).m) (par_ok h hn a).pos (Nat.le_refl _)).2
  obtain ⟨K, hK⟩ : ∃ K : Nat, 2 ^ (parP n rs a).m = K := ⟨_, rfl⟩
  rw [hK] at p hz
  have s := mul_mono (a := (K : Int)) (b := 256) (by omega) (by omega) (show 0 ≤ mxF (parP n rs a).nm (parP n rs a).dn (parP n rs a).m by omega) q
  omega
def comNL (rs : List Res) (a n : Nat) : Nat := cnB (fun v => decide (allL rs v = allL rs a)) n
def treN (rs : List Res) (a n s : Nat) : Nat := cnB (fun v => decide (allL rs v = allL rs a) && decide ((parP n rs a).L s v = v)) n
section
variable {rs : List Res} {n a : Nat}
theorem par_edge {i : Nat} (hi : i < (partR rs a).length) : allL rs (edg (partR rs a) i).1 = allL rs a ∧ allL rs (edg (partR rs a) i).2 = allL rs a := by
  have e : (partR rs a)[i]? = some (partR rs a)[i] := List.getElem?_eq_getElem hi
  rw [edg_at e]
  have ⟨m1, m2⟩ := mem_part.1 (List.getElem_mem hi)
  exact ⟨m2, by rw [← all_edge m1]; exact m2⟩
theorem par_out (on : Nat → Bool) {v : Nat} (hv : allL rs v ≠ allL rs a) : selF (edg (partR rs a)) on (partR rs a).length v = v := by
  have q := selF_min (E := edg (partR rs a)) (on := on) (m := (partR rs a).length) (fun u => if allL rs u = allL rs a then none else some u) (fun i hi _ => by
    have ⟨e1, e2⟩ := par_edge hi
    simp only [if_pos e1, if_pos e2]) _ _ (selF_idem (edg (partR rs a)) on (partR rs a).length v)
  simp only [if_neg hv] at q
  split at q
  · cases q
  · exact Option.some.inj q
theorem par_in (on : Nat → Bool) (v : Nat) : allL rs (selF (edg (partR rs a)) on (partR rs a).length v) = allL rs v :=
  selF_min (E := edg (partR rs a)) (on := on) (m := (partR rs a).length) (allL rs) (fun i hi _ => by
    have ⟨e1, e2⟩ := par_edge hi
    rw [e1, e2]) _ _ (selF_idem (edg (partR rs a)) on (partR rs a).length v)
theorem par_all {u v : Nat} (hu : allL rs u = allL rs a) (hv : allL rs v = allL rs a) : (parP n rs a).all u = (parP n rs a).all v := by
  have q := selF_min (E := edg rs) (on := fun _ => true) (m := rs.length) (fun u => if allL rs u = allL rs a then some ((parP n rs a).all u) else none) (fun i hi _ => by
    have e : rs[i]? = some rs[i] := List.getElem?_eq_getElem hi
    have hm := List.getElem_mem hi
    have ea := all_edge hm
    rw [edg_at e]
    show (if allL rs rs[i].a.toNat = allL rs a then _ else _) = (if allL rs rs[i].b.toNat = allL rs a then _ else _)
    rw [← ea]
    by_cases hc : allL rs rs[i].a.toNat = allL rs a
    · rw [if_pos hc, if_pos hc]
      obtain ⟨j, hj, ej⟩ := List.getElem_of_mem (mem_part.2 ⟨hm, hc⟩)
      have := selF_edge (E := edg (partR rs a)) (on := fun _ => true) (m := (partR rs a).length) (i := j) hj rfl
      rw [edg_at (by rw [List.getElem?_eq_getElem hj, ej])] at this
      exact congrArg some this
    · rw [if_neg hc, if_neg hc]) u v (hu.trans hv.symm)
  simp only [if_pos hu, if_pos hv] at q
  exact Option.some.inj q
theorem rootsF_split (on : Nat → Bool) : rootsF (selF (edg (partR rs a)) on (partR rs a).length) n + comNL rs a n = cnB (fun v => decide (allL rs v = allL rs a) && decide (selF (edg (partR rs a)) on (partR rs a).length v = v)) n + n := by
  have s1 := cnB_split (fun v => decide (selF (edg (partR rs a)) on (partR rs a).length v = v)) (fun v => decide (allL rs v = allL rs a)) n
  have s2 := cnB_split (fun _ => true) (fun v => decide (allL rs v = allL rs a)) n
  have e1 : cnB (fun v => decide (selF (edg (partR rs a)) on (partR rs a).length v = v) && decide (allL rs v = allL rs a)) n = cnB (fun v => decide (allL rs v = allL rs a) && decide (selF (edg (partR rs a)) on (partR rs a).length v = v)) n := cnB_congr (fun v _ => Bool.and_comm _ _)
  have e2 : cnB (fun v => decide (selF (edg (partR rs a)) on (partR rs a).length v = v) && !decide (allL rs v = allL rs a)) n = cnB (fun v => true && !decide (allL rs v = allL rs a)) n := cnB_congr (fun v _ => by
    by_cases hc : allL rs v = allL rs a
    · simp [hc]
    · rw [decide_eq_true (par_out on hc)])
  have e3 : cnB (fun v => true && decide (allL rs v = allL rs a)) n = comNL rs a n := cnB_congr (fun v _ => Bool.true_and _)
  rw [cnB_roots]
  rw [cnB_true] at s2
  omega
theorem tre_roots (s : Nat) : (parP n rs a).roots s + comNL rs a n = treN rs a n s + n := rootsF_split (bit s)
theorem least_com (ha : a < n) : (parP n rs a).least + comNL rs a n = 1 + n := by
  have q := rootsF_split (rs := rs) (n := n) (a := a) (fun _ => true)
  have e : cnB (fun v => decide (allL rs v = allL rs a) && decide (selF (edg (partR rs a)) (fun _ => true) (partR rs a).length v = v)) n = 1 := by
    have hl := selF_le (edg (partR rs a)) (fun _ => true) (partR rs a).length a
    refine cnB_one (r := selF (edg (partR rs a)) (fun _ => true) (partR rs a).length a) (by omega) (fun v hv => ?_)
    simp only [Bool.and_eq_true, decide_eq_true_eq]
    constructor
    · rintro ⟨e1, e2⟩
      have := par_all (n := n) (rs := rs) (a := a) e1 rfl
      exact e2.symm.trans this
    · intro e1
      have e2 := par_in (rs := rs) (a := a) (fun _ => true) a
      rw [← e1] at e2
      refine ⟨e2, ?_⟩
      have e3 := par_all (n := n) (rs := rs) (a := a) e2 rfl
      rw [e1]
      exact selF_idem _ _ _ _
  rw [e] at q
  exact q
theorem com_pos (ha : a < n) : 1 ≤ comNL rs a n := by
  have := least_com (rs := rs) ha
  have : (parP n rs a).least ≤ n := rootsF_le _ _
  omega
theorem treeB_iff (ha : a < n) (s : Nat) : (parP n rs a).treeB s = true ↔ treN rs a n s + (parP n rs a).cnt s = comNL rs a n ∧ treN rs a n s = 1 := by
  have h1 := tre_roots (n := n) (rs := rs) (a := a) s
  have h2 := least_com (rs := rs) ha
  have h3 : comNL rs a n ≤ n := by
    have s2 := cnB_split (fun _ => true) (fun v => decide (allL rs v = allL rs a)) n
    have e3 : cnB (fun v => true && decide (allL rs v = allL rs a)) n = comNL rs a n := cnB_congr (fun v _ => Bool.true_and _)
    rw [cnB_true] at s2; omega
  unfold Pn.treeB
  rw [Bool.and_eq_true, decide_eq_true_eq, decide_eq_true_eq]
  show _ + _ = n ∧ _ ↔ _
  omega
theorem twoB_iff (ha : a < n) (b v s : Nat) : (parP n rs a).twoB a b v s = true ↔ (treN rs a n s + (parP n rs a).cnt s = comNL rs a n ∧ treN rs a n s = 2) ∧ ((parP n rs a).L s a ≠ (parP n rs a).L s b ∧ (parP n rs a).L s v = (parP n rs a).L s a) := by
  have h1 := tre_roots (n := n) (rs := rs) (a := a) s
  have h2 := least_com (rs := rs) ha
  unfold Pn.twoB
  rw [Bool.and_eq_true, Bool.and_eq_true, Bool.and_eq_true, decide_eq_true_eq, decide_eq_true_eq, Bool.not_eq_true', beq_eq_false_iff_ne, beq_iff_eq]
  show _ + _ = n ∧ _ ↔ _
  constructor
  · rintro ⟨e1, e2, e3⟩; exact ⟨by omega, e3⟩
  · rintro ⟨e1, e3⟩; exact ⟨by omega, by omega, e3⟩
theorem tF_no {P : Pn} {s : Nat} (h : ¬ P.treeB s = true) : P.tF s = 0 := by unfold Pn.tF; rw [if_neg h]
theorem gF_no {P : Pn} {a b v s : Nat} (h : ¬ P.twoB a b v s = true) : P.gF a b v s = 0 := by unfold Pn.gF; rw [if_neg h]
theorem tF_yes {P : Pn} {s : Nat} (h : P.treeB s = true) : P.tF s = P.wt s := by unfold Pn.tF; rw [if_pos h]
theorem gF_yes {P : Pn} {a b v s : Nat} (h : P.twoB a b v s = true) : P.gF a b v s = P.wt s := by unfold Pn.gF; rw [if_pos h]
end
/- Kirchhoff's laws of the sums over forests: plain. -/
namespace Pn
end Pn
/- Potentials, currents and resistances of a network: plain. -/
structure NetAB where
  n : Nat
  rs : List Res
  a : Nat
  b : Nat
  ok : nwB (n : Int) rs = true
  ha : a < n
  hb : b < n
  hab : allL rs a = allL rs b
namespace NetAB
variable (X : NetAB)
def P : Pn := parP X.n X.rs X.a
def T : Int := X.P.tot
def S (v : Int) : Int := X.P.top X.a X.b v.toNat
def cur (r : Res) : Int := (X.S r.a - X.S r.b) / r.num
theorem T_pos : 0 < X.T := Pn.tot_pos (par_ok X.ok rfl X.a)
theorem T_le : X.T ≤ 2560000000000000000 := par_bd X.ok rfl X.a (Pn.tot_le (par_ok X.ok rfl X.a))
theorem S_bd (v : Int) : 0 ≤ X.S v ∧ X.S v ≤ 2560000000000000000 := by
  have q := Pn.top_bd (par_ok X.ok rfl X.a) X.a X.b v.toNat
  exact ⟨q.1, par_bd X.ok rfl X.a q.2⟩
def N : Int := X.S X.a
end NetAB
def Bytes (w : World) (v : Value) (n : Nat) : Prop :=
  (∃ a c, v = .slice a 0 c ∧ n = 0) ∨ ∃ b off cap, v = .slice (some ⟨b, off, none⟩) n cap ∧ n ≤ cap ∧ cap ≤ maxLen ∧ ∀ i, i < n → ∃ x : Int, w.cell? ⟨b, off + i, none⟩ = some (.int .u8 x) ∧ 0 ≤ x ∧ x ≤ 255
theorem Bytes.by {w w1 : World} {v : Value} {n : Nat} (hb : Below w.heap.size w w1) (h : Bytes w v n) : Bytes w1 v n := by
  rcases h with h | ⟨b, off, cap, h1, h2, h3, h4⟩
  · exact .inl h
  · refine .inr ⟨b, off, cap, h1, h2, h3, fun i hi => ?_⟩
    obtain ⟨x, hx, h5⟩ := h4 i hi
    exact ⟨x, cell_by' hb hx, h5⟩
/- The reference's source of numbers: l01From makes a block of its own; l01Next turns that block alone and hands back a number in range. -/
def Src1 (W0 : World) (g : Nat) (sv : Value) (n : Nat) (w : World) : Prop :=
  W0.heap.size ≤ g ∧ Below W0.heap.size W0 w ∧ Bytes W0 sv n ∧ n ≤ 4096 ∧ ∃ i x : Int, 0 ≤ i ∧ i ≤ n ∧ (0 ≤ x ∧ x ≤ 2147483646) ∧ Blk w g #[sv, .int .i64 i, .int .i64 x] 111
theorem Src1.lt {W0 w : World} {g n : Nat} {sv : Value} (h : Src1 W0 g sv n w) : g < w.heap.size := by
  obtain ⟨_, _, _, _, _, _, _, _, _, h⟩ := h; exact h.lt
theorem Src1.by {W0 w w1 : World} {g n : Nat} {sv : Value} (hb : Below w.heap.size w w1) (h : Src1 W0 g sv n w) : Src1 W0 g sv n w1 := by
  obtain ⟨h1, h2, h3, h4, i, x, h5, h6, h7, h8⟩ := h
  exact ⟨h1, h2.trans (hb.mono h2.size), h3, h4, i, x, h5, h6, h7, Blk.by hb h8⟩
theorem Src1.apart {W0 w : World} {g n b o : Nat} {sv v : Value} (h : Src1 W0 g sv n w) (hne : g ≠ b) (hb : W0.heap.size ≤ b) : Src1 W0 g sv n (w.setCell ⟨b, o, none⟩ v) := by
  obtain ⟨h1, h2, h3, h4, i, x, h5, h6, h7, h8⟩ := h
  exact ⟨h1, h2.setCell hb v, h3, h4, i, x, h5, h6, h7, h8.apart b o v hne⟩
/- The opener of an argument that is a slice of bytes. -/
section
variable {P : Program} {ops : Array Oper} {Q : Exit → Act → World → Prop} {md : Region.Mode} {S : World → Prop} {l : Nat}
theorem opsL {i : Nat} {oi : Oper} (hi : ops.toList[i]? = some oi) : ops[i]? = some oi := by rw [← Array.getElem?_toList]; exact hi
theorem wpAnyE_takeL {i : Nat} {oi : Oper} {v : Value} {fuel : Nat} {listed : Array Bool} {a : Act} {w : World} (hi : ops.toList[i]? = some oi)
    (hk : (Region.noSelect ops && Region.free md ops listed i && (Region.ready md ops listed).contains i && headB md ops l listed && Region.sinkB md ops l && Region.chainB md ops l && decide (l < ops.size) && decide (i < l)) = true)
    (hQ : ∀ c a w, Q (.panic c) (a.put oi.dst v) w → Q (.panic c) a w) (hy : YieldsIf P ops S oi v a) (hS : S w)
    (h : wpAnyE P md ops Q S l fuel (listed.setIfInBounds i true) (a.put oi.dst v) w) : wpAnyE P md ops Q S l (fuel + 1) listed a w :=
  wpAnyE_take (opsL hi) hk hQ hy hS h
theorem wpAnyE_oneL {k : Nat} {o : Oper} {fuel : Nat} {listed : Array Bool} {a : Act} {w : World} (hr : Region.ready md ops listed = [k]) (ho : ops.toList[k]? = some o)
    (h : ∀ K' : Act → World → Prop, Shut (∀ a w, (k ≠ l → S w) → wpAnyE P md ops Q S l fuel (listed.setIfInBounds k true) a w → K' a w) → if Region.wanted o (yielded ops a.tmps) = true then Oper.wp P o a w K' Q else K' (a.put o.dst undef) w) :
    wpAnyE P md ops Q S l (fuel + 1) listed a w := wpAnyE_one hr (opsL ho) h
end
theorem icells_set (zs : List Int) (i : Nat) (y : Int) : icells (zs.set i y) = (icells zs).set i (.int .i64 y) := by simp [icells, List.map_set]
theorem BldI.setAt {w : World} {lo hi G n cap : Nat} {zs : List Int} (h : BldI w lo hi (.slice (some ⟨G, 0, none⟩) n cap) zs) (i : Nat) (y : Int) : BldI (w.setCell ⟨G, i, none⟩ (.int .i64 y)) lo hi (.slice (some ⟨G, 0, none⟩) n cap) (zs.set i y) := by
  obtain ⟨hs, ⟨hlen, r⟩, h3⟩ := h
  refine ⟨by simpa using hs, ⟨by simp [icells], ?_⟩, h3⟩
  rcases r with ⟨r1, _⟩ | ⟨g, cap', cur, e1, e2, e3, e4, e5, e6, e7⟩
  · cases r1
  · have hg : G = g := by have := congrArg Value.ownBlock e1; simpa [Value.ownBlock] using this
    subst hg
    refine .inr ⟨G, cap', cur.setIfInBounds i (.int .i64 y), by rw [List.length_set]; exact e1, e2, Blk.set e3 i _, by rw [List.length_set]; exact e4, e5, by simpa using e6, ?_⟩
    rw [icells_set, ← e7, List.length_set, Array.toList_setIfInBounds, List.take_set]
theorem BldI.blk {w : World} {lo hi : Nat} {v : Value} {zs : List Int} (h : BldI w lo hi v zs) (h0 : 0 < zs.length) :
    ∃ G cap cs, v = .slice (some ⟨G, 0, none⟩) zs.length cap ∧ (lo ≤ G ∧ G < hi) ∧ Blk w G cs 2 ∧ ∀ (i : Nat) z, zs[i]? = some z → w.cell? ⟨G, i, none⟩ = some (.int .i64 z) := by
  obtain ⟨hs, ⟨hlen, r⟩, h3⟩ := h
  rcases r with ⟨_, r1⟩ | ⟨g, cap', cur, rfl, e2, e3, e4, e5, e6, e7⟩
  · omega
  · refine ⟨g, cap', cur, rfl, h3 g rfl, e3, fun i z hz => ?_⟩
    have hi : i < zs.length := (List.getElem?_eq_some_iff.1 hz).1
    have : (icells zs)[i]? = some (.int .i64 z) := by simp [icells, hz]
    rw [← e7, List.getElem?_take_of_lt (by omega)] at this
    rw [Blk.cell e3]
    simpa using this
theorem Only.within {g : Nat} {w w' : World} (h : Only g w w') : Within g (g + 1) w w' := ⟨h.os, h.tape, h.output, Nat.le_of_eq h.size.symm, fun k _ hne => h.block k (by omega)⟩
/- The draw of two orders, and of a matching. -/
def MaO (m : Nat) (w : World) (v : Value) (z : List Int × List Int) : Prop := ∃ s1 s2, v = .agg #[s1, s2] ∧ (∃ lo hi, m ≤ lo ∧ OwnR w lo hi s1 z.1) ∧ ∃ lo hi, m ≤ lo ∧ OwnR w lo hi s2 z.2
theorem MaO.by {m : Nat} {w w' : World} {v : Value} {z : List Int × List Int} (hb : Below w.heap.size w w') (h : MaO m w v z) : MaO m w' v z := by
  obtain ⟨s1, s2, e, ⟨_, _, a1, h1⟩, _, _, a2, h2⟩ := h
  exact ⟨s1, s2, e, ⟨_, _, a1, h1.by hb⟩, _, _, a2, h2.by hb⟩
theorem MaO.past {m lo hi : Nat} {w w' : World} {v : Value} {z : List Int × List Int} (hb : Within lo hi w w') (h : MaO m w v z) (hm : hi ≤ m) : MaO m w' v z := by
  obtain ⟨s1, s2, e, ⟨_, _, a1, h1⟩, _, _, a2, h2⟩ := h
  exact ⟨s1, s2, e, ⟨_, _, a1, h1.past hb (.inr (by omega))⟩, _, _, a2, h2.past hb (.inr (by omega))⟩
theorem MaO.low {m m' : Nat} {w : World} {v : Value} {z : List Int × List Int} (h : MaO m w v z) (hm : m' ≤ m) : MaO m' w v z := by
  obtain ⟨s1, s2, e, ⟨_, _, a1, h1⟩, _, _, a2, h2⟩ := h
  exact ⟨s1, s2, e, ⟨_, _, by omega, h1⟩, _, _, by omega, h2⟩
/- The draw of a matching for a netlist. -/
end Go.Proofs.YtmmohdhkpccjbaaGreat
