/- The draw of MergePair's arguments: some small netlist and two numbers. -/
import Derived.Test.YtnchhdhlhlcejaaDrawLad
import Derived.Test.YtnchhdhlhlcejaaPair5
namespace Go.Proofs.Ytnchhdhlhlcejaa
open Go.RowKit
set_option linter.unusedVariables false
set_option linter.unusedSimpArgs false

theorem NlO.s1 {m : Nat} {w : World} {s : Value} {ds : List Dv} (h : ∃ lo hi, m ≤ lo ∧ OwnDs w lo hi s ds) : ∃ a c, s = .slice a ds.length c := by
  obtain ⟨l, h, r, o⟩ := h
  exact o.sl.sized
theorem NlO.s2 {m : Nat} {w : World} {s : Value} {ps : List Pt} (h : ∃ lo hi, m ≤ lo ∧ OwnPs w lo hi s ps) : ∃ a c, s = .slice a ps.length c := by
  obtain ⟨l, h, r, o⟩ := h
  exact o.sl.sized

set_option maxRecDepth 100000 in
set_option maxHeartbeats 2000000 in
theorem l28DrawNetlist_any (W0 : World) (g : Nat) (sv : Value) (n : Nat) (w : World) (hD : Src1 W0 g sv n w) :
    Calls Try.prog 52 #[.pointer (some ⟨g, 0, none⟩)] w fun e w' => ∃ (v : Value) (x : Nl), e = .returned v ∧ Hid (NlO w.heap.size w' v x) ∧ Hid (Small x) ∧ Hid (Src1 W0 g sv n w') ∧ Hid (Within g (g + 1) w w') := by
  have HN := Lib.hid (fun q w h hq => l01Next_any W0 g sv n q w h hq)
  have HA := Lib.hid (fun w h => l27DrawNetlist_any W0 g sv n w h)
  have HL := Lib.hid (fun w h => l28DrawLadder_any W0 g sv n w h)
  have hgl := hD.lt
  have hW0 : W0.heap.size ≤ g := hD.1
  have HD := Lib.hid hD
  clear hD
  go_enter Try.func52, Try.ntmps52
  go_wp2_with fail
  refine (HN.out _ _ (HD.out.by (by ((repeat (first | (with_reducible exact Below.refl _ _) | (with_reducible refine below_drewN ?_ _) | (with_reducible refine Below.drew ?_) | (with_reducible refine below_al ?_ _) | (with_reducible refine below_on (by assumption) ?_) | ((with_reducible refine Below.setCell ?_ ?_ _); rotate_left; focus (first | omega | (simp; done) | (simp; omega))) | (with_reducible assumption))); done))) (by omega)).mono ?_
  rintro e w1 ⟨y, rfl, hy0, hy1, hD1, ho1⟩
  have kZ0 : Blk (w.alloc (.cells #[.int .i64 0, .slice none 0 0, .slice none 0 0] 30)) w.heap.size #[.int .i64 0, .slice none 0 0, .slice none 0 0] 30 := Blk.new _ rfl
  have kZ := ho1.within.blk kZ0 (by omega)
  have HW1 := Lib.hid (((Within.refl g (g + 1) w).alloc (.cells #[.int .i64 0, .slice none 0 0, .slice none 0 0] 30)).on ho1.within)
  have HD1 := Lib.hid hD1
  have lZ := kZ.lt
  clear kZ0 hD1 ho1
  by_cases hy : y = 0
  · subst hy
    go_wp2_with (go_at_call 59; refine (HA.out _ HD1.out).mono ?_; rintro e w2 ⟨v, x, rfl, HO, HS, HD2, HW2⟩; (obtain ⟨s1, s2, rfl, r1, r2⟩ := HO.out); have kZ2 := HW2.out.blk kZ (by omega); have cZ := kZ2.cell; have fZ := kZ2.free; have lZ2 := kZ2.lt; (obtain ⟨a1, c1, rfl⟩ := NlO.s1 r1); (obtain ⟨a2, c2, rfl⟩ := NlO.s2 r2))
    refine bodyPost_ret (v := .agg #[.int .i64 x.nets, .slice a1 x.ds.length c1, .slice a2 x.ps.length c2]) (by simp [results, Try.results52, go_sem, *]) rfl ?_
    exact ⟨_, x, rfl, Lib.hid (((((HO.out.low (show w.heap.size + 1 ≤ w1.heap.size by omega)).past (Within.off _) (by omega)).past (Within.off _) (by omega)).past (Within.off _) (by omega)).low (by omega)), HS, Lib.hid (((HD2.out.apart (by omega) (by omega)).apart (by omega) (by omega)).apart (by omega) (by omega)), Lib.hid ((((HW1.out.on HW2.out).new _ _ _ (by omega)).new _ _ _ (by omega)).new _ _ _ (by omega))⟩
  · go_wp2_with (go_at_call 102; refine (HL.out _ HD1.out).mono ?_; rintro e w2 ⟨v, x, rfl, HO, HS, HD2, HW2⟩; (obtain ⟨s1, s2, rfl, r1, r2⟩ := HO.out); have kZ2 := HW2.out.blk kZ (by omega); have cZ := kZ2.cell; have fZ := kZ2.free; have lZ2 := kZ2.lt; (obtain ⟨a1, c1, rfl⟩ := NlO.s1 r1); (obtain ⟨a2, c2, rfl⟩ := NlO.s2 r2))
    refine bodyPost_ret (v := .agg #[.int .i64 x.nets, .slice a1 x.ds.length c1, .slice a2 x.ps.length c2]) (by simp [results, Try.results52, go_sem, *]) rfl ?_
    exact ⟨_, x, rfl, Lib.hid (((((HO.out.low (show w.heap.size + 1 ≤ w1.heap.size by omega)).past (Within.off _) (by omega)).past (Within.off _) (by omega)).past (Within.off _) (by omega)).low (by omega)), HS, Lib.hid (((HD2.out.apart (by omega) (by omega)).apart (by omega) (by omega)).apart (by omega) (by omega)), Lib.hid ((((HW1.out.on HW2.out).new _ _ _ (by omega)).new _ _ _ (by omega)).new _ _ _ (by omega))⟩

/-- What the draw holds while the numbers are drawn. -/
def Dms (W0 : World) (g : Nat) (sv : Value) (n : Nat) (w : World) (T : Nat) (v : Value) (cs : Array Value) (x : Nl) (wx : World) : Prop :=
  Blk wx T cs 30 ∧ Blk wx w.heap.size #[.int .i64 0, .slice none 0 0, .slice none 0 0] 30 ∧ NlO (g + 1) wx v x ∧ Src1 W0 g sv n wx ∧ Below w.heap.size w wx
section
variable {W0 : World} {g : Nat} {sv : Value} {n : Nat} {w : World} {T : Nat} {v : Value} {cs : Array Value} {x : Nl} {wx wy : World}
theorem Dms.by (hb : Below wx.heap.size wx wy) (h : Dms W0 g sv n w T v cs x wx) : Dms W0 g sv n w T v cs x wy :=
  ⟨Blk.by hb h.1, Blk.by hb h.2.1, h.2.2.1.by hb, h.2.2.2.1.by hb, below_on hb h.2.2.2.2⟩
theorem Dms.only (h : Dms W0 g sv n w T v cs x wx) (ho : Only g wx wy) (hD : Src1 W0 g sv n wy) (h1 : w.heap.size < g) (h2 : g < T) : Dms W0 g sv n w T v cs x wy := by
  exact ⟨ho.within.blk h.1 (by omega), ho.within.blk h.2.1 (by omega), h.2.2.1.past ho.within (by omega), hD, ho.within.below h.2.2.2.2 (by omega)⟩
end

set_option maxRecDepth 100000 in
set_option maxHeartbeats 8000000 in
theorem drawMp_any (v0 : Value) (n : Nat) (w : World) (h : Bytes w v0 n) (hn : n ≤ 4096) :
    Calls Try.prog 18 #[v0] w fun e w' => ∃ (v : Value) (x : Nl) (i j : Int), e = .returned (.tuple #[v, .int .i64 i, .int .i64 j]) ∧ Hid (NlV w' v x) ∧ Hid (Small x) ∧ Below w.heap.size w w' := by
  have HB := Lib.hid h
  obtain ⟨w0, hw0⟩ : ∃ z, z = w.alloc (.cells #[.int .i64 0, .slice none 0 0, .slice none 0 0] 30) := ⟨_, rfl⟩
  have kR0 : Blk w0 w.heap.size #[.int .i64 0, .slice none 0 0, .slice none 0 0] 30 := by rw [hw0]; exact Blk.new _ rfl
  have hb0 : Below w.heap.size w w0 := by rw [hw0]; exact (Below.refl _ w).alloc (Nat.le_refl _) _
  have hs0 : w0.heap.size = w.heap.size + 1 := by rw [hw0]; simp
  have hf := l01From_any v0 n w0 (HB.out.by hb0) hn
  obtain ⟨G, hG⟩ : ∃ G, w0.heap.size = G := ⟨_, rfl⟩
  rw [hG] at hf hs0
  have HF := Lib.hid hf
  have HN := Lib.hid (fun m w h hm => l01Next_any w0 G v0 n m w h hm)
  have HD28 := Lib.hid (fun w h => l28DrawNetlist_any w0 G v0 n w h)
  have hGw : w.heap.size < G := by omega
  have HG := Lib.hid hG
  clear h hf hs0 hG
  go_enter Try.func18, Try.ntmps18
  go_wp2_with fail
  (try rw [← hw0])
  clear hw0
  refine HF.out.mono ?_
  rintro e w1 ⟨rfl, hD1, hb1⟩
  have kR1 : Blk w1 w.heap.size _ 30 := Blk.by (by rw [HG.out]; exact hb1) kR0
  have HD1 := Lib.hid hD1
  have hG1 := hD1.lt
  clear hD1 hb1
  go_wp2_with fail
  refine (HD28.out _ HD1.out).mono ?_
  rintro e w2 ⟨v, x, rfl, HO, HS, HD2, HW2⟩
  obtain ⟨s1, s2, rfl, r1, r2⟩ := HO.out
  obtain ⟨a1, c1, rfl⟩ := NlO.s1 r1
  obtain ⟨a2, c2, rfl⟩ := NlO.s2 r2
  have kR2 := HW2.out.blk kR1 (by omega)
  have hb2 : Below w.heap.size w w2 := below_on HD2.out.2.1 hb0
  have hsz2 := HW2.out.size
  have HP := Lib.hid (fun v w h => specParallelPair_any x v w h HS.out.2.2.2.2 HS.out.fits)
  have HQ := Lib.hid (fun v w h => specSeriesPair_any x v w h HS.out.2.2.2.2 HS.out.fits)
  have hM0 : Dms w0 G v0 n w w2.heap.size (.agg #[.int .i64 x.nets, .slice a1 x.ds.length c1, .slice a2 x.ps.length c2]) #[.int .i64 x.nets, .slice a1 x.ds.length c1, .slice a2 x.ps.length c2] x (w2.alloc (.cells #[.int .i64 x.nets, .slice a1 x.ds.length c1, .slice a2 x.ps.length c2] 30)) :=
    ⟨Blk.new _ rfl, kR2.past _, (HO.out.low (by omega)).by ((Below.refl _ w2).alloc (Nat.le_refl _) _), HD2.out.by ((Below.refl _ w2).alloc (Nat.le_refl _) _), below_al hb2 _⟩
  have HM0 := Lib.hid hM0
  have hsT : w2.heap.size + 1 ≤ (w2.alloc (.cells #[.int .i64 x.nets, .slice a1 x.ds.length c1, .slice a2 x.ps.length c2] 30)).heap.size := by simp
  clear hM0 HO HD2 HW2 kR1 kR2 hb2 r1 r2 kR0 hb0 HD1
  go_upto_region 3 with fail
  generalize w2.alloc (.cells #[.int .i64 x.nets, .slice a1 x.ds.length c1, .slice a2 x.ps.length c2] 30) = w3 at *
  obtain ⟨T, hT⟩ : ∃ T, w2.heap.size = T := ⟨_, rfl⟩
  (try rw [hT])
  rw [hT] at HM0 hsT hsz2
  clear hT
  have hGT : G < T := by omega
  have cT := HM0.out.1.cell
  have lT := HM0.out.1.lt
  go_wp2_with fail
  refine (HP.out _ _ HM0.out.2.2.1.nl).mono ?_
  rintro e w4 ⟨rfl, hb4⟩
  have HM4 := Lib.hid (HM0.out.by hb4)
  clear hb4 HM0 cT lT HP
  generalize (parPair x).1 = p1
  generalize (parPair x).2.1 = p2
  generalize (parPair x).2.2 = p3
  have cT := HM4.out.1.cell
  have lT := HM4.out.1.lt
  go_upto_region 4 with fail
  go_cut [9, 26] (fun s9 s wx => ∃ c9 c : Bool, s9 = .bool c9 ∧ s = .bool c ∧ Hid (Dms w0 G v0 n w T (.agg #[.int .i64 x.nets, .slice a1 x.ds.length c1, .slice a2 x.ps.length c2]) #[.int .i64 x.nets, .slice a1 x.ds.length c1, .slice a2 x.ps.length c2] x wx))
  case first =>
    cases p3 with
    | false =>
      go_wp2_with fail
      go_meet
      exact ⟨false, true, rfl, rfl, HM4⟩
    | true =>
      go_wp2_with fail
      refine (HN.out _ _ HM4.out.2.2.2.1 (by omega)).mono ?_
      rintro e w5 ⟨y, rfl, hy0, hy1, hD5, ho5⟩
      go_wp2_with fail
      go_meet
      exact ⟨true, _, rfl, rfl, Lib.hid (HM4.out.only ho5 hD5 hGw hGT)⟩
  case rest =>
    obtain ⟨c9, c26, rfl, rfl, HM5⟩ := hcut
    clear HM4 cT lT
    have cT := HM5.out.1.cell
    have lT := HM5.out.1.lt
    go_upto_if 26 with fail
    go_cut [7, 8, 9] (fun s7 s8 s9 wx => ∃ (i j : Int) (b : Bool), s7 = .int .i64 i ∧ s8 = .int .i64 j ∧ s9 = .bool b ∧ Hid (Dms w0 G v0 n w T (.agg #[.int .i64 x.nets, .slice a1 x.ds.length c1, .slice a2 x.ps.length c2]) #[.int .i64 x.nets, .slice a1 x.ds.length c1, .slice a2 x.ps.length c2] x wx))
    case first =>
      cases c26 with
      | true =>
        go_wp2_with fail
        refine (HQ.out _ _ HM5.out.2.2.1.nl).mono ?_
        rintro e w6 ⟨rfl, hb6⟩
        go_wp2_with fail
        go_meet
        exact ⟨_, _, _, rfl, rfl, rfl, Lib.hid (HM5.out.by hb6)⟩
      | false =>
        go_wp2_with fail
        go_meet
        exact ⟨p1, p2, c9, rfl, rfl, rfl, HM5⟩
    case rest =>
      obtain ⟨i, j, b, rfl, rfl, rfl, HM6⟩ := hcut
      clear HM5 cT lT HQ
      have cT := HM6.out.1.cell
      have lT := HM6.out.1.lt
      go_upto_region 6 with fail
      go_cut [9, 39] (fun s9 s wx => ∃ c9 c : Bool, s9 = .bool c9 ∧ s = .bool c ∧ Hid (Dms w0 G v0 n w T (.agg #[.int .i64 x.nets, .slice a1 x.ds.length c1, .slice a2 x.ps.length c2]) #[.int .i64 x.nets, .slice a1 x.ds.length c1, .slice a2 x.ps.length c2] x wx))
      case first =>
        cases b with
        | false =>
          go_wp2_with fail
          go_meet
          exact ⟨false, true, rfl, rfl, HM6⟩
        | true =>
          go_wp2_with fail
          refine (HN.out _ _ HM6.out.2.2.2.1 (by omega)).mono ?_
          rintro e w5 ⟨y, rfl, hy0, hy1, hD5, ho5⟩
          go_wp2_with fail
          go_meet
          exact ⟨true, _, rfl, rfl, Lib.hid (HM6.out.only ho5 hD5 hGw hGT)⟩
      case rest =>
        obtain ⟨c9', c39, rfl, rfl, HM7⟩ := hcut
        clear HM6 cT lT
        have cT := HM7.out.1.cell
        have lT := HM7.out.1.lt
        go_upto_if 39 with fail
        go_cut [7, 8] (fun s7 s8 wx => ∃ (i j : Int), s7 = .int .i64 i ∧ s8 = .int .i64 j ∧ Hid (Dms w0 G v0 n w T (.agg #[.int .i64 x.nets, .slice a1 x.ds.length c1, .slice a2 x.ps.length c2]) #[.int .i64 x.nets, .slice a1 x.ds.length c1, .slice a2 x.ps.length c2] x wx))
        case first =>
          cases c39 with
          | true =>
            go_wp2_with fail
            refine (HN.out _ _ HM7.out.2.2.2.1 (by omega)).mono ?_
            rintro e w5 ⟨y, rfl, hy0, hy1, hD5, ho5⟩
            have HM8 := Lib.hid (HM7.out.only ho5 hD5 hGw hGT)
            clear hD5 ho5
            go_wp2_with fail
            refine (HN.out _ _ HM8.out.2.2.2.1 (by omega)).mono ?_
            rintro e w6 ⟨y2, rfl, hq0, hq1, hD6, ho6⟩
            go_wp2_with fail
            go_meet
            exact ⟨_, _, rfl, rfl, Lib.hid (HM8.out.only ho6 hD6 hGw hGT)⟩
          | false =>
            go_wp2_with fail
            go_meet
            exact ⟨i, j, rfl, rfl, HM7⟩
        case rest =>
          obtain ⟨i', j', rfl, rfl, HM9⟩ := hcut
          clear HM7 cT lT
          have kT := HM9.out.1
          have cT := kT.cell
          have lT := kT.lt
          have kR := HM9.out.2.1
          have cR := kR.cell
          have fR := kR.free
          have lR := kR.lt
          have hbF := HM9.out.2.2.2.2
          have HNO := Lib.hid HM9.out.2.2.1
          clear HM9 kT kR
          go_wp2_with fail
          refine bodyPost_ret (v := .tuple #[.agg #[.int .i64 x.nets, .slice a1 x.ds.length c1, .slice a2 x.ps.length c2], .int .i64 i', .int .i64 j']) (by simp [results, Try.results18, go_sem, *]) rfl ?_
          refine ⟨_, x, i', j', rfl, Lib.hid ((((HNO.out.past (Within.off _) (by omega)).past (Within.off _) (by omega)).past (Within.off _) (by omega)).nl), HS, ?_⟩
          repeat (first | (with_reducible exact hbF) | ((with_reducible refine Below.setCell ?_ ?_ _); rotate_left; focus (simp; try omega)))
end Go.Proofs.Ytnchhdhlhlcejaa
