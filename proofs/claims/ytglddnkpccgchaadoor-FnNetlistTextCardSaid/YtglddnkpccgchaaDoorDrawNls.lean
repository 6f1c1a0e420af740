/- The draw of a netlist: some netlist. -/
import Derived.Test.YtglddnkpccgchaaDoorTakeL
import Derived.Test.YtglddnkpccgchaaDoorCopies
import Derived.Test.YtglddnkpccgchaaDoorOrdB
import Derived.Deep.DeepCutAuto
import Derived.Test.YtglddnkpccgchaaDoorDrawVs
namespace Go.Proofs.YtglddnkpccgchaaDoor
open Go.RowKit
set_option linter.unusedVariables false
set_option linter.unusedSimpArgs false

/-- What a drawn netlist is held to: it is small. -/
def Small (x : Nl) : Prop := (-1 ≤ x.nets ∧ x.nets ≤ 25) ∧ x.ds.length ≤ 10 ∧ (∀ d ∈ x.ds, 1 ≤ d.pins.length ∧ d.pins.length ≤ 100) ∧ x.ps.length ≤ 100 ∧ ∀ p ∈ x.ps, p.ok
theorem Small.fits {x : Nl} (h : Small x) : Fits x.nets := by
  obtain ⟨⟨h1, h2⟩, _⟩ := h
  exact ⟨by omega, by omega⟩

/-- A netlist all of whose memory lies in blocks from m on. -/
def NlO (m : Nat) (w : World) (v : Value) (x : Nl) : Prop := ∃ s1 s2, v = .agg #[.int .i64 x.nets, s1, s2] ∧ (∃ lo hi, m ≤ lo ∧ OwnDs w lo hi s1 x.ds) ∧ ∃ lo hi, m ≤ lo ∧ OwnPs w lo hi s2 x.ps
section
variable {m : Nat} {w w' : World} {v : Value} {x : Nl}
theorem NlO.nl (h : NlO m w v x) : NlV w v x := by
  obtain ⟨s1, s2, e, ⟨l1, h1, r1, o1⟩, l2, h2, r2, o2⟩ := h
  exact ⟨s1, s2, e, o1.sl, o2.sl⟩
theorem NlO.by (hb : Below w.heap.size w w') (h : NlO m w v x) : NlO m w' v x := by
  obtain ⟨s1, s2, e, ⟨l1, h1, r1, o1⟩, l2, h2, r2, o2⟩ := h
  exact ⟨s1, s2, e, ⟨l1, h1, r1, o1.by hb⟩, l2, h2, r2, o2.by hb⟩
theorem NlO.past {lo hi : Nat} (hw : Within lo hi w w') (h : NlO m w v x) (hh : hi ≤ m) : NlO m w' v x := by
  obtain ⟨s1, s2, e, ⟨l1, h1, r1, o1⟩, l2, h2, r2, o2⟩ := h
  exact ⟨s1, s2, e, ⟨l1, h1, r1, o1.past hw (.inr (by omega))⟩, l2, h2, r2, o2.past hw (.inr (by omega))⟩
theorem NlO.low {m' : Nat} (h : NlO m w v x) (hm : m' ≤ m) : NlO m' w v x := by
  obtain ⟨s1, s2, e, ⟨l1, h1, r1, o1⟩, l2, h2, r2, o2⟩ := h
  exact ⟨s1, s2, e, ⟨l1, h1, by omega, o1⟩, l2, h2, by omega, o2⟩
end
theorem nlv_set3 {w : World} {r : Nat} {X : Int} {D P : Value} {ds : List Dv} {ps : List Pt} (v1 v2 v3 : Value) (h1 : ∃ lo hi, r < lo ∧ OwnDs w lo hi D ds) (h2 : ∃ lo hi, r < lo ∧ OwnPs w lo hi P ps) :
    NlO r (((w.setCell ⟨r, 0, none⟩ v1).setCell ⟨r, 1, none⟩ v2).setCell ⟨r, 2, none⟩ v3) (.agg #[.int .i64 X, D, P]) ⟨X, ds, ps⟩ := by
  obtain ⟨l1, h1', r1, o1⟩ := h1
  obtain ⟨l2, h2', r2, o2⟩ := h2
  exact ⟨D, P, rfl, ⟨l1, h1', by omega, (((o1.past (Within.off _) (by omega)).past (Within.off _) (by omega)).past (Within.off _) (by omega))⟩, l2, h2', by omega, (((o2.past (Within.off _) (by omega)).past (Within.off _) (by omega)).past (Within.off _) (by omega))⟩

set_option maxRecDepth 100000 in
set_option maxHeartbeats 16000000 in
theorem l27DrawNetlist_any (W0 : World) (g : Nat) (sv : Value) (n : Nat) (w : World) (hD : Src1 W0 g sv n w) :
    Calls Tryd.prog 42 #[.pointer (some ⟨g, 0, none⟩)] w fun e w' => ∃ (v : Value) (x : Nl), e = .returned v ∧ Hid (NlO w.heap.size w' v x) ∧ Hid (Small x) ∧ Hid (Src1 W0 g sv n w') ∧ Hid (Within g (g + 1) w w') := by
  have HN := Lib.hid (fun q w h hq => l01Next_any W0 g sv n q w h hq)
  have HDV := Lib.hid (fun w h => l27DrawValid_any W0 g sv n w h)
  have hgl := hD.lt
  have hW0 : W0.heap.size ≤ g := hD.1
  have HD := Lib.hid hD
  clear hD
  go_enter Tryd.func42, Tryd.ntmps42
  go_wp2_with fail
  refine (HDV.out _ (HD.out.by (by ((repeat (first | (with_reducible exact Below.refl _ _) | (with_reducible refine below_drewN ?_ _) | (with_reducible refine Below.drew ?_) | (with_reducible refine below_al ?_ _) | (with_reducible refine below_on (by assumption) ?_) | ((with_reducible refine Below.setCell ?_ ?_ _); rotate_left; focus (first | omega | (simp; done) | (simp; omega))) | (with_reducible assumption))); done)))).mono ?_
  rintro e w1 ⟨⟨N, ds, ps⟩, dv, pv, lo, mid, hi, rfl, HBL1, HPL1, hb, hN, hdl, hdp, hpl, hpo, HD1, HW1⟩
  dsimp only at HBL1 HPL1 hN hdl hdp hpl hpo
  simp only [World.size_alloc] at hb
  obtain ⟨av, cv, rfl⟩ := HBL1.out.sized
  obtain ⟨pa, pc, rfl⟩ := HPL1.out.sized
  have kZ0 : Blk (w.alloc (.cells #[.int .i64 0, .slice none 0 0, .slice none 0 0] 31)) w.heap.size #[.int .i64 0, .slice none 0 0, .slice none 0 0] 31 := Blk.new _ rfl
  have hZ1 := HW1.out.blk kZ0 (by omega)
  have lZ1 := hZ1.lt
  have HWs := Lib.hid (((Within.refl g (g + 1) w).alloc (.cells #[.int .i64 0, .slice none 0 0, .slice none 0 0] 31)).on HW1.out)
  have hbA : Below w1.heap.size w1 (w1.alloc (.cells #[.int .i64 N, .slice av ds.length cv, .slice pa ps.length pc] 31)) := (Below.refl _ w1).alloc (Nat.le_refl _) _
  have k3 : Blk (w1.alloc (.cells #[.int .i64 N, .slice av ds.length cv, .slice pa ps.length pc] 31)) w1.heap.size #[.int .i64 N, .slice av ds.length cv, .slice pa ps.length pc] 31 := Blk.new _ rfl
  have HBL := Lib.hid (HBL1.out.by hbA)
  have HPL := Lib.hid (HPL1.out.by hbA)
  have HDs := Lib.hid (HD1.out.by hbA)
  have HZ := Lib.hid (Blk.by hbA hZ1)
  have HW := Lib.hid (HWs.out.alloc (.cells #[.int .i64 N, .slice av ds.length cv, .slice pa ps.length pc] 31))
  have hsA : w1.heap.size + 1 ≤ (w1.alloc (.cells #[.int .i64 N, .slice av ds.length cv, .slice pa ps.length pc] 31)).heap.size := by simp
  have HDP := Lib.hid hdp
  have HPO := Lib.hid hpo
  clear HBL1 HPL1 HD1 HW1 kZ0 hZ1 HWs hbA hdp hpo
  go_upto_region 2 with fail
  generalize w1.alloc (.cells #[.int .i64 N, .slice av ds.length cv, .slice pa ps.length pc] 31) = w2 at *
  obtain ⟨T, hT⟩ : ∃ T, w1.heap.size = T := ⟨_, rfl⟩
  rw [hT] at k3 hsA lZ1 hb
  (try rw [hT])
  clear hT
  go_wp2_with fail
  refine (HN.out _ _ HDs.out (by omega)).mono ?_
  rintro e w3 ⟨a, rfl, ha0, ha1, hD3, ho3⟩
  have HBL3 := Lib.hid (HBL.out.only ho3 (by omega))
  have HPL3 := Lib.hid (HPL.out.only ho3 (by omega))
  have HD3 := Lib.hid hD3
  have HW3 := Lib.hid (HW.out.on ho3.within)
  have HZ3 := Lib.hid (ho3.within.blk HZ.out (by omega))
  have k33 := ho3.within.blk k3 (by omega)
  have hs3 : w2.heap.size ≤ w3.heap.size := ho3.within.size
  have HSM : Hid (Small ⟨N, ds, ps⟩) := Lib.hid ⟨⟨by show -1 ≤ N; omega, by show N ≤ 25; omega⟩, by show ds.length ≤ 10; omega, fun d hd => by have := HDP.out d hd; omega, by show ps.length ≤ 100; omega, HPO.out⟩
  clear HBL HPL HDs HW HZ k3 hD3 ho3
  by_cases ha : 0 < a
  · have HDO : Hid (∃ lo hi, w.heap.size < lo ∧ OwnDs w3 lo hi (.slice av ds.length cv) ds) := Lib.hid ⟨lo, mid, by omega, HBL3.out.own⟩
    have HPO2 : Hid (∃ lo hi, w.heap.size < lo ∧ OwnPs w3 lo hi (.slice pa ps.length pc) ps) := Lib.hid ⟨mid, hi, by omega, HPL3.out.own⟩
    have kE := k33
    have HZE := HZ3
    have HDE := HD3
    have HWE := HW3
    have cT := kE.cell
    have lT := kE.lt
    have kZE := HZE.out
    have cZ := kZE.cell
    have fZ := kZE.free
    have lZ := kZE.lt
    go_wp2
    refine bodyPost_ret (v := .agg #[.int .i64 N, .slice av ds.length cv, .slice pa ps.length pc]) (by simp [results, Tryd.results42, go_sem, *]) rfl ?_
    exact ⟨_, ⟨N, ds, ps⟩, rfl, Lib.hid (nlv_set3 _ _ _ HDO.out HPO2.out), HSM, Lib.hid (((HDE.out.apart (by omega) (by omega)).apart (by omega) (by omega)).apart (by omega) (by omega)), Lib.hid (((HWE.out.new _ _ _ (by omega)).new _ _ _ (by omega)).new _ _ _ (by omega))⟩
  have c3 := k33.cell
  have l3 := k33.lt
  go_upto_region 4 with fail
  go_cut [4] (fun s wx => ∃ q : Nat, s = .int .i64 (q : Int) ∧ (0 < ds.length → q < ds.length) ∧ Hid (Src1 W0 g sv n wx) ∧ Hid (Only g w3 wx))
  case first =>
    go_wp2_with fail
    all_goals
      refine (HN.out _ _ HD3.out (by omega)).mono ?_
      rintro e w4 ⟨q, rfl, hq0, hq1, hD4, ho4⟩
      obtain ⟨Q, rfl⟩ : ∃ Q : Nat, q = Q := ⟨q.toNat, by omega⟩
      go_wp2
      go_meet
      exact ⟨Q, rfl, by omega, Lib.hid hD4, Lib.hid ho4⟩
  case rest =>
    obtain ⟨q, rfl, hq, HD4, HO4⟩ := hcut
    have HBL4 := Lib.hid (HBL3.out.only HO4.out (by omega))
    have HPL4 := Lib.hid (HPL3.out.only HO4.out (by omega))
    have HW4 := Lib.hid (HW3.out.on HO4.out.within)
    have HZ4 := Lib.hid (HO4.out.within.blk HZ3.out (by omega))
    have k34 := HO4.out.within.blk k33 (by omega)
    have hs4 : w3.heap.size ≤ wc.heap.size := HO4.out.within.size
    clear HBL3 HPL3 HW3 HZ3 k33 HD3 c3 l3 HO4
    have c3 := k34.cell
    have l3 := k34.lt
    go_wp2_with fail
    refine (HN.out _ _ HD4.out (by omega)).mono ?_
    rintro e w5 ⟨y, rfl, hy0, hy1, hD5, ho5⟩
    have HBL := Lib.hid (HBL4.out.only ho5 (by omega))
    have HPL := Lib.hid (HPL4.out.only ho5 (by omega))
    have HD5 := Lib.hid hD5
    have HW := Lib.hid (HW4.out.on ho5.within)
    have HZ := Lib.hid (ho5.within.blk HZ4.out (by omega))
    have k35 := ho5.within.blk k34 (by omega)
    have hs5 : wc.heap.size ≤ w5.heap.size := ho5.within.size
    clear HBL4 HPL4 HD4 HW4 HZ4 k34 hD5 ho5 c3 l3
    have c3 := k35.cell
    have l3 := k35.lt
    rcases (by omega : y = 0 ∨ y = 1 ∨ y = 2 ∨ y = 3 ∨ y = 4 ∨ y = 5 ∨ y = 6) with rfl | rfl | rfl | rfl | rfl | rfl | rfl
    · go_upto_region 23 with (go_at_call 52; refine (HN.out _ _ (HD5.out.by (by ((repeat (first | (with_reducible exact Below.refl _ _) | (with_reducible refine below_drewN ?_ _) | (with_reducible refine Below.drew ?_) | (with_reducible refine below_al ?_ _) | (with_reducible refine below_on (by assumption) ?_) | ((with_reducible refine Below.setCell ?_ ?_ _); rotate_left; focus (first | omega | (simp; done) | (simp; omega))) | (with_reducible assumption))); done))) (by omega)).mono ?_; rintro e w6 ⟨z, rfl, hz0, hz1, hD6, ho6⟩; have HD6 := Lib.hid hD6; have hW6 := ho6.within; have kL0 : Blk (w5.alloc (.cells #[.int .i64 (-1), .int .i64 0, .int .i64 24, .int .i64 25] 2)) w5.heap.size #[.int .i64 (-1), .int .i64 0, .int .i64 24, .int .i64 25] 2 := Blk.new _ rfl; have kL6 := hW6.blk kL0 (by omega); have k36 := hW6.blk (k35.past _) (by omega); have f36 := k36.free; have c36 := k36.cell; have l36 := k36.lt; (obtain ⟨Z, rfl⟩ : ∃ Z : Nat, z = Z := ⟨z.toNat, by omega⟩); have hZi : (Z : Int) < 4 := (by omega); have hZj : (0 : Int) ≤ (Z : Int) := (by omega); (obtain ⟨u, hu, hu1, hu2⟩ : ∃ u : Int, (#[.int .i64 (-1), .int .i64 0, .int .i64 24, .int .i64 25] : Array Value)[Z]? = some (.int .i64 u) ∧ -1 ≤ u ∧ u ≤ 25 := (by rcases (by omega : Z = 0 ∨ Z = 1 ∨ Z = 2 ∨ Z = 3) with rfl | rfl | rfl | rfl <;> exact ⟨_, rfl, by omega, by omega⟩)); rw [← kL6.cell] at hu; have lu := kL6.lt)
      have hbA : Below w5.heap.size w5 (w5.alloc (.cells #[.int .i64 (-1), .int .i64 0, .int .i64 24, .int .i64 25] 2)) := (Below.refl _ w5).alloc (Nat.le_refl _) _
      have hsA := hbA.size
      have hs6 := hW6.size
      have kE : Blk (w6.setCell ⟨T, 0, none⟩ (.int .i64 u)) T #[.int .i64 u, .slice av ds.length cv, .slice pa ps.length pc] 31 := k36.set 0 _
      have HZE := Lib.hid ((hW6.blk (Blk.by hbA HZ.out) (by omega)).apart T 0 (.int .i64 u) (by omega))
      have HDE := Lib.hid (HD6.out.apart (b := T) (o := 0) (v := .int .i64 u) (by omega) (by omega))
      have HWE := Lib.hid (((HW.out.alloc (.cells #[.int .i64 (-1), .int .i64 0, .int .i64 24, .int .i64 25] 2)).on hW6).new T 0 (.int .i64 u) (by omega))
      have HDO : Hid (∃ lo hi, w.heap.size < lo ∧ OwnDs (w6.setCell ⟨T, 0, none⟩ (.int .i64 u)) lo hi (.slice av ds.length cv) ds) := Lib.hid ⟨lo, mid, by omega, (((HBL.out.by hbA).past hW6 (.inl (by omega))).own.past (Within.off _) (.inl (by omega)))⟩
      have HPO2 : Hid (∃ lo hi, w.heap.size < lo ∧ OwnPs (w6.setCell ⟨T, 0, none⟩ (.int .i64 u)) lo hi (.slice pa ps.length pc) ps) := Lib.hid ⟨mid, hi, by omega, (((HPL.out.by hbA).past hW6 (.inl (by omega))).own.past (Within.off _) (.inl (by omega)))⟩
      have HSM2 : Hid (Small ⟨u, ds, ps⟩) := Lib.hid ⟨⟨hu1, hu2⟩, HSM.out.2⟩
      replace HSM := HSM2
      clear HSM2 k36 f36 c36 l36 hu lu kL0 kL6 c3 l3
      generalize w6.setCell ⟨T, 0, none⟩ (.int .i64 u) = wE at *
      have cT := kE.cell
      have lT := kE.lt
      have kZE := HZE.out
      have cZ := kZE.cell
      have fZ := kZE.free
      have lZ := kZE.lt
      go_wp2
      refine bodyPost_ret (v := .agg #[.int .i64 u, .slice av ds.length cv, .slice pa ps.length pc]) (by simp [results, Tryd.results42, go_sem, *]) rfl ?_
      exact ⟨_, ⟨u, ds, ps⟩, rfl, Lib.hid (nlv_set3 _ _ _ HDO.out HPO2.out), HSM, Lib.hid (((HDE.out.apart (by omega) (by omega)).apart (by omega) (by omega)).apart (by omega) (by omega)), Lib.hid (((HWE.out.new _ _ _ (by omega)).new _ _ _ (by omega)).new _ _ _ (by omega))⟩
    · go_upto_region 23 with (refine list_pushP (by rfl) _ _ (by rfl) mid hi (.slice pa ps.length pc) ps (by rfl) (HPL.out.by (by ((repeat (first | (with_reducible exact Below.refl _ _) | (with_reducible refine below_drewN ?_ _) | (with_reducible refine Below.drew ?_) | (with_reducible refine below_al ?_ _) | (with_reducible refine below_on (by assumption) ?_) | ((with_reducible refine Below.setCell ?_ ?_ _); rotate_left; focus (first | omega | (simp; done) | (simp; omega))) | (with_reducible assumption))); done))) w5.heap.size ⟨⟨#[97]⟩, 0⟩ (by rfl) (Blk.new _ rfl) (by omega) (by omega) ?_; intro a6 c6 w6 hB6 hw6; have HB6 := Lib.hid hB6; have k36 := hw6.blk (k35.past (.cells #[.string ⟨#[97]⟩, .int .i64 0] 49)) (by omega); have f36 := k36.free; have c36 := k36.cell; have l36 := k36.lt; clear hB6)
      have hbA : Below w5.heap.size w5 (w5.alloc (.cells #[.string ⟨#[97]⟩, .int .i64 0] 49)) := (Below.refl _ w5).alloc (Nat.le_refl _) _
      have hsA := hbA.size
      have hs6 := hw6.size
      have kE : Blk (w6.setCell ⟨T, 2, none⟩ (.slice a6 (ps.length + 1) c6)) T #[.int .i64 N, .slice av ds.length cv, .slice a6 (ps.length + 1) c6] 31 := k36.set 2 _
      have HZE := Lib.hid ((hw6.blk (Blk.by hbA HZ.out) (by omega)).apart T 2 (.slice a6 (ps.length + 1) c6) (by omega))
      have HDE := Lib.hid ((Src1.within hw6 (HD5.out.by hbA) (by omega) (by omega)).apart (b := T) (o := 2) (v := .slice a6 (ps.length + 1) c6) (by omega) (by omega))
      have HWE := Lib.hid (((HW.out.alloc (.cells #[.string ⟨#[97]⟩, .int .i64 0] 49)).newerM hw6 (by omega)).new T 2 (.slice a6 (ps.length + 1) c6) (by omega))
      have HDO : Hid (∃ lo hi, w.heap.size < lo ∧ OwnDs (w6.setCell ⟨T, 2, none⟩ (.slice a6 (ps.length + 1) c6)) lo hi (.slice av ds.length cv) ds) := Lib.hid ⟨lo, mid, by omega, (((HBL.out.by hbA).past hw6 (.inr (by omega))).own.past (Within.off _) (.inl (by omega)))⟩
      have HPO2 : Hid (∃ lo hi, w.heap.size < lo ∧ OwnPs (w6.setCell ⟨T, 2, none⟩ (.slice a6 (ps.length + 1) c6)) lo hi (.slice a6 (ps.length + 1) c6) (ps ++ [⟨⟨#[97]⟩, 0⟩])) := Lib.hid ⟨mid, w6.heap.size, by omega, by simpa using HB6.out.own.offN (o := 2) (v := .slice a6 (ps.length + 1) c6) k36⟩
      have HSM2 : Hid (Small ⟨N, ds, ps ++ [⟨⟨#[97]⟩, 0⟩]⟩) := Lib.hid ⟨HSM.out.1, HSM.out.2.1, HSM.out.2.2.1, by have := hpl; simp; omega, by
        intro e he
        rcases List.mem_append.1 he with h | h
        · exact HPO.out e h
        · obtain rfl := List.mem_singleton.1 h
          exact ⟨by show (⟨#[97]⟩ : ByteArray).size ≤ _; decide, by show Fits 0; exact ⟨by omega, by omega⟩⟩⟩
      replace HSM := HSM2
      clear HSM2 k36 f36 c36 l36 c3 l3
      generalize w6.setCell ⟨T, 2, none⟩ (.slice a6 (ps.length + 1) c6) = wE at *
      have cT := kE.cell
      have lT := kE.lt
      have kZE := HZE.out
      have cZ := kZE.cell
      have fZ := kZE.free
      have lZ := kZE.lt
      go_wp2
      refine bodyPost_ret (v := .agg #[.int .i64 N, .slice av ds.length cv, .slice a6 (ps.length + 1) c6]) (by simp [results, Tryd.results42, go_sem, *]) rfl ?_
      exact ⟨_, ⟨N, ds, ps ++ [⟨⟨#[97]⟩, 0⟩]⟩, rfl, Lib.hid (nlv_set3 _ _ _ HDO.out HPO2.out), HSM, Lib.hid (((HDE.out.apart (by omega) (by omega)).apart (by omega) (by omega)).apart (by omega) (by omega)), Lib.hid (((HWE.out.new _ _ _ (by omega)).new _ _ _ (by omega)).new _ _ _ (by omega))⟩
    · go_upto_region 23 with (refine list_pushP (by rfl) _ _ (by rfl) mid hi (.slice pa ps.length pc) ps (by rfl) (HPL.out.by (by ((repeat (first | (with_reducible exact Below.refl _ _) | (with_reducible refine below_drewN ?_ _) | (with_reducible refine Below.drew ?_) | (with_reducible refine below_al ?_ _) | (with_reducible refine below_on (by assumption) ?_) | ((with_reducible refine Below.setCell ?_ ?_ _); rotate_left; focus (first | omega | (simp; done) | (simp; omega))) | (with_reducible assumption))); done))) w5.heap.size ⟨⟨#[122, 122]⟩, N⟩ (by rfl) (Blk.new _ rfl) (by omega) (by omega) ?_; intro a6 c6 w6 hB6 hw6; have HB6 := Lib.hid hB6; have k36 := hw6.blk (k35.past (.cells #[.string ⟨#[122, 122]⟩, .int .i64 N] 49)) (by omega); have f36 := k36.free; have c36 := k36.cell; have l36 := k36.lt; clear hB6)
      have hbA : Below w5.heap.size w5 (w5.alloc (.cells #[.string ⟨#[122, 122]⟩, .int .i64 N] 49)) := (Below.refl _ w5).alloc (Nat.le_refl _) _
      have hsA := hbA.size
      have hs6 := hw6.size
      have kE : Blk (w6.setCell ⟨T, 2, none⟩ (.slice a6 (ps.length + 1) c6)) T #[.int .i64 N, .slice av ds.length cv, .slice a6 (ps.length + 1) c6] 31 := k36.set 2 _
      have HZE := Lib.hid ((hw6.blk (Blk.by hbA HZ.out) (by omega)).apart T 2 (.slice a6 (ps.length + 1) c6) (by omega))
      have HDE := Lib.hid ((Src1.within hw6 (HD5.out.by hbA) (by omega) (by omega)).apart (b := T) (o := 2) (v := .slice a6 (ps.length + 1) c6) (by omega) (by omega))
      have HWE := Lib.hid (((HW.out.alloc (.cells #[.string ⟨#[122, 122]⟩, .int .i64 N] 49)).newerM hw6 (by omega)).new T 2 (.slice a6 (ps.length + 1) c6) (by omega))
      have HDO : Hid (∃ lo hi, w.heap.size < lo ∧ OwnDs (w6.setCell ⟨T, 2, none⟩ (.slice a6 (ps.length + 1) c6)) lo hi (.slice av ds.length cv) ds) := Lib.hid ⟨lo, mid, by omega, (((HBL.out.by hbA).past hw6 (.inr (by omega))).own.past (Within.off _) (.inl (by omega)))⟩
      have HPO2 : Hid (∃ lo hi, w.heap.size < lo ∧ OwnPs (w6.setCell ⟨T, 2, none⟩ (.slice a6 (ps.length + 1) c6)) lo hi (.slice a6 (ps.length + 1) c6) (ps ++ [⟨⟨#[122, 122]⟩, N⟩])) := Lib.hid ⟨mid, w6.heap.size, by omega, by simpa using HB6.out.own.offN (o := 2) (v := .slice a6 (ps.length + 1) c6) k36⟩
      have HSM2 : Hid (Small ⟨N, ds, ps ++ [⟨⟨#[122, 122]⟩, N⟩]⟩) := Lib.hid ⟨HSM.out.1, HSM.out.2.1, HSM.out.2.2.1, by have := hpl; simp; omega, by
        intro e he
        rcases List.mem_append.1 he with h | h
        · exact HPO.out e h
        · obtain rfl := List.mem_singleton.1 h
          exact ⟨by show (⟨#[122, 122]⟩ : ByteArray).size ≤ _; decide, by show Fits N; exact ⟨by omega, by omega⟩⟩⟩
      replace HSM := HSM2
      clear HSM2 k36 f36 c36 l36 c3 l3
      generalize w6.setCell ⟨T, 2, none⟩ (.slice a6 (ps.length + 1) c6) = wE at *
      have cT := kE.cell
      have lT := kE.lt
      have kZE := HZE.out
      have cZ := kZE.cell
      have fZ := kZE.free
      have lZ := kZE.lt
      go_wp2
      refine bodyPost_ret (v := .agg #[.int .i64 N, .slice av ds.length cv, .slice a6 (ps.length + 1) c6]) (by simp [results, Tryd.results42, go_sem, *]) rfl ?_
      exact ⟨_, ⟨N, ds, ps ++ [⟨⟨#[122, 122]⟩, N⟩]⟩, rfl, Lib.hid (nlv_set3 _ _ _ HDO.out HPO2.out), HSM, Lib.hid (((HDE.out.apart (by omega) (by omega)).apart (by omega) (by omega)).apart (by omega) (by omega)), Lib.hid (((HWE.out.new _ _ _ (by omega)).new _ _ _ (by omega)).new _ _ _ (by omega))⟩
    · go_upto_region 23 with (refine list_pushD (by rfl) _ _ (by rfl) lo mid (.slice av ds.length cv) ds (by rfl) (HBL.out.by (by ((repeat (first | (with_reducible exact Below.refl _ _) | (with_reducible refine below_drewN ?_ _) | (with_reducible refine Below.drew ?_) | (with_reducible refine below_al ?_ _) | (with_reducible refine below_on (by assumption) ?_) | ((with_reducible refine Below.setCell ?_ ?_ _); rotate_left; focus (first | omega | (simp; done) | (simp; omega))) | (with_reducible assumption))); done))) (w5.heap.size + 1) ⟨2, [0, 0], 2, 2⟩ _ w5.heap.size (by first | rfl | (simp; done)) (Blk.new _ (by simp)) (BldI.lit (zs := [0, 0]) ((Blk.new _ rfl).past _) rfl (by simp) (Nat.le_refl _) (Nat.lt_succ_self _) (by simp)) (by omega) (by omega) (by simp; omega) (by omega) ?_; intro a6 c6 w6 hB6 hw6; have HB6 := Lib.hid hB6; have k36 := hw6.blk ((k35.past (.cells #[.int .i64 0, .int .i64 0] 2)).past (.cells #[.int .i64 2, .slice (some ⟨w5.heap.size, 0, none⟩) 2 2, .int .i64 2, .int .i64 2] 52)) (by omega); have f36 := k36.free; have c36 := k36.cell; have l36 := k36.lt; clear hB6)
      have hbA : Below w5.heap.size w5 ((w5.alloc (.cells #[.int .i64 0, .int .i64 0] 2)).alloc (.cells #[.int .i64 2, .slice (some ⟨w5.heap.size, 0, none⟩) 2 2, .int .i64 2, .int .i64 2] 52)) := ((Below.refl _ w5).alloc (Nat.le_refl _) _).alloc (by simp) _
      have hsA := hbA.size
      have hs6 := hw6.size
      have kE : Blk (w6.setCell ⟨T, 1, none⟩ (.slice a6 (ds.length + 1) c6)) T #[.int .i64 N, .slice a6 (ds.length + 1) c6, .slice pa ps.length pc] 31 := k36.set 1 _
      have HZE := Lib.hid ((hw6.blk (Blk.by hbA HZ.out) (by omega)).apart T 1 (.slice a6 (ds.length + 1) c6) (by omega))
      have HDE := Lib.hid ((Src1.within hw6 (HD5.out.by hbA) (by omega) (by omega)).apart (b := T) (o := 1) (v := .slice a6 (ds.length + 1) c6) (by omega) (by omega))
      have HWE := Lib.hid ((((HW.out.alloc (.cells #[.int .i64 0, .int .i64 0] 2)).alloc (.cells #[.int .i64 2, .slice (some ⟨w5.heap.size, 0, none⟩) 2 2, .int .i64 2, .int .i64 2] 52)).newerM hw6 (by omega)).new T 1 (.slice a6 (ds.length + 1) c6) (by omega))
      have HDO : Hid (∃ lo hi, w.heap.size < lo ∧ OwnDs (w6.setCell ⟨T, 1, none⟩ (.slice a6 (ds.length + 1) c6)) lo hi (.slice a6 (ds.length + 1) c6) (ds ++ [⟨2, [0, 0], 2, 2⟩])) := Lib.hid ⟨lo, w6.heap.size, by omega, by simpa using HB6.out.own.offN (o := 1) (v := .slice a6 (ds.length + 1) c6) k36⟩
      have HPO2 : Hid (∃ lo hi, w.heap.size < lo ∧ OwnPs (w6.setCell ⟨T, 1, none⟩ (.slice a6 (ds.length + 1) c6)) lo hi (.slice pa ps.length pc) ps) := Lib.hid ⟨mid, hi, by omega, (((HPL.out.by hbA).past hw6 (.inl (by omega))).own.past (Within.off _) (.inl (by omega)))⟩
      have HSM2 : Hid (Small ⟨N, ds ++ [⟨2, [0, 0], 2, 2⟩], ps⟩) := Lib.hid ⟨HSM.out.1, by simp; omega, by
        intro e he
        rcases List.mem_append.1 he with h | h
        · have := HDP.out e h; omega
        · obtain rfl := List.mem_singleton.1 h
          simp, HSM.out.2.2.2⟩
      replace HSM := HSM2
      clear HSM2 k36 f36 c36 l36 c3 l3
      generalize w6.setCell ⟨T, 1, none⟩ (.slice a6 (ds.length + 1) c6) = wE at *
      have cT := kE.cell
      have lT := kE.lt
      have kZE := HZE.out
      have cZ := kZE.cell
      have fZ := kZE.free
      have lZ := kZE.lt
      go_wp2
      refine bodyPost_ret (v := .agg #[.int .i64 N, .slice a6 (ds.length + 1) c6, .slice pa ps.length pc]) (by simp [results, Tryd.results42, go_sem, *]) rfl ?_
      exact ⟨_, ⟨N, ds ++ [⟨2, [0, 0], 2, 2⟩], ps⟩, rfl, Lib.hid (nlv_set3 _ _ _ HDO.out HPO2.out), HSM, Lib.hid (((HDE.out.apart (by omega) (by omega)).apart (by omega) (by omega)).apart (by omega) (by omega)), Lib.hid (((HWE.out.new _ _ _ (by omega)).new _ _ _ (by omega)).new _ _ _ (by omega))⟩
    · by_cases hdl : 0 < ds.length
      · have hdi : (0 : Int) < (ds.length : Int) := by omega
        have hql := hq hdl
        have hqi : (q : Int) < (ds.length : Int) := by omega
        have hqj : (0 : Int) ≤ (q : Int) := by omega
        obtain ⟨b, rfl, hb1, hb2⟩ := HBL.out.ad hdl
        obtain ⟨x, hx⟩ : ∃ x, ds[q]? = some x := ⟨ds[q]'(by omega), List.getElem?_eq_getElem _⟩
        go_upto_region 16 with fail
        go_region_law
          (go_simp; go_at_call 52; refine (HN.out _ _ (HD5.out.by (by ((repeat (first | (with_reducible exact Below.refl _ _) | (with_reducible refine below_drewN ?_ _) | (with_reducible refine Below.drew ?_) | (with_reducible refine below_al ?_ _) | (with_reducible refine below_on (by assumption) ?_) | ((with_reducible refine Below.setCell ?_ ?_ _); rotate_left; focus (first | omega | (simp; done) | (simp; omega))) | (with_reducible assumption))); done))) (by omega)).mono ?_; rintro e w6 ⟨z, rfl, hz0, hz1, hD6, ho6⟩; have HD6 := Lib.hid hD6; have hW6 := ho6.within; have hs6 := hW6.size; have hs6' : w5.heap.size ≤ w6.heap.size := (by simp at hs6 <;> omega); have k36 := hW6.blk (Blk.by (w := w5) (by ((repeat (first | (with_reducible exact Below.refl _ _) | (with_reducible refine below_drewN ?_ _) | (with_reducible refine Below.drew ?_) | (with_reducible refine below_al ?_ _) | (with_reducible refine below_on (by assumption) ?_) | ((with_reducible refine Below.setCell ?_ ?_ _); rotate_left; focus (first | omega | (simp; done) | (simp; omega))) | (with_reducible assumption))); done)) k35) (by omega); have c36 := k36.cell; have l36 := k36.lt; have HZ6 := Lib.hid (hW6.blk (Blk.by (w := w5) (by ((repeat (first | (with_reducible exact Below.refl _ _) | (with_reducible refine below_drewN ?_ _) | (with_reducible refine Below.drew ?_) | (with_reducible refine below_al ?_ _) | (with_reducible refine below_on (by assumption) ?_) | ((with_reducible refine Below.setCell ?_ ?_ _); rotate_left; focus (first | omega | (simp; done) | (simp; omega))) | (with_reducible assumption))); done)) HZ.out) (by omega)); have HBL6 := Lib.hid ((HBL.out.by (w := w5) (by ((repeat (first | (with_reducible exact Below.refl _ _) | (with_reducible refine below_drewN ?_ _) | (with_reducible refine Below.drew ?_) | (with_reducible refine below_al ?_ _) | (with_reducible refine below_on (by assumption) ?_) | ((with_reducible refine Below.setCell ?_ ?_ _); rotate_left; focus (first | omega | (simp; done) | (simp; omega))) | (with_reducible assumption))); done))).only ho6 (by omega)); have HPL6 := Lib.hid ((HPL.out.by (w := w5) (by ((repeat (first | (with_reducible exact Below.refl _ _) | (with_reducible refine below_drewN ?_ _) | (with_reducible refine Below.drew ?_) | (with_reducible refine below_al ?_ _) | (with_reducible refine below_on (by assumption) ?_) | ((with_reducible refine Below.setCell ?_ ?_ _); rotate_left; focus (first | omega | (simp; done) | (simp; omega))) | (with_reducible assumption))); done))).only ho6 (by omega)); (obtain ⟨sx, e1, e2, e3, e4, hSx⟩ := HBL6.out.at q x hx); have fr := HBL6.out.fr hdl; have lX := lt_of_cell e1; (obtain ⟨Z, rfl⟩ : ∃ Z : Nat, z = Z := ⟨z.toNat, by omega⟩); have hZi : (Z : Int) < 3 := (by omega); have hZj : (0 : Int) ≤ (Z : Int) := (by omega); (obtain ⟨u, hu⟩ : ∃ u : Int, (#[.int .i64 0, .int .i64 1000000, .int .i64 1000001] : Array Value)[Z]? = some (.int .i64 u) := (by rcases (by omega : Z = 0 ∨ Z = 1 ∨ Z = 2) with rfl | rfl | rfl <;> exact ⟨_, rfl⟩)); (try (refine with_fact (p := Blk w6 w5.heap.size #[.int .i64 0, .int .i64 1000000, .int .i64 1000001] 2) (hW6.blk ?_ (by omega)) ?_; (focus ((repeat (first | (with_reducible assumption) | (with_reducible refine Blk.drewN ?_ _) | (with_reducible refine Blk.drew ?_) | ((with_reducible refine Blk.new _ ?_); focus (first | omega | (simp; done) | (simp; omega))) | (with_reducible refine Blk.past ?_ _) | ((with_reducible refine Blk.apart ?_ _ _ _ ?_); rotate_left; focus (first | omega | (simp; done) | (simp; omega))) | (with_reducible refine Blk.by (by assumption) ?_))); done)); intro kL6; have hu' : w6.cell? ⟨w5.heap.size, Z, none⟩ = some (.int .i64 u) := (by rw [kL6.cell]; exact hu); have lu := kL6.lt)); have HW6 := Lib.hid (HW.out.on (Within.onB g (g + 1) (by ((repeat (first | (with_reducible exact Below.refl _ _) | (with_reducible refine below_drewN ?_ _) | (with_reducible refine Below.drew ?_) | (with_reducible refine below_al ?_ _) | (with_reducible refine below_on (by assumption) ?_) | ((with_reducible refine Below.setCell ?_ ?_ _); rotate_left; focus (first | omega | (simp; done) | (simp; omega))) | (with_reducible assumption))); done)) hW6)); clear hW6 ho6 hD6; dsimp only at lX ⊢)
        all_goals
          go_upto_region 23 with fail
          first
            | (
               with_reducible refine atWorld (w6.setCell ⟨b, q * 4 + 2, none⟩ (.int .i64 u)) ?_
               have kE : Blk (w6.setCell ⟨b, q * 4 + 2, none⟩ (.int .i64 u)) T #[.int .i64 N, .slice (some ⟨b, 0, none⟩) ds.length cv, .slice pa ps.length pc] 31 := k36.apart b _ _ (by omega)
               have HZE : Hid (Blk (w6.setCell ⟨b, q * 4 + 2, none⟩ (.int .i64 u)) w.heap.size #[.int .i64 0, .slice none 0 0, .slice none 0 0] 31) := Lib.hid (HZ6.out.apart b _ _ (by omega))
               have HDE : Hid (Src1 W0 g sv n (w6.setCell ⟨b, q * 4 + 2, none⟩ (.int .i64 u))) := Lib.hid (HD6.out.apart (b := b) (by omega) (by omega))
               have HWE : Hid (Within g (g + 1) w (w6.setCell ⟨b, q * 4 + 2, none⟩ (.int .i64 u))) := Lib.hid (HW6.out.new b _ _ (by omega))
               have HDO : Hid (∃ lo hi, w.heap.size < lo ∧ OwnDs (w6.setCell ⟨b, q * 4 + 2, none⟩ (.int .i64 u)) lo hi (.slice (some ⟨b, 0, none⟩) ds.length cv) (ds.set q ⟨x.kind, x.pins, u, x.len⟩)) := Lib.hid ⟨lo, mid, by omega, by simpa using (HBL6.out.own.setNum q x hx 2 (u) ⟨x.kind, x.pins, u, x.len⟩ (by simp))⟩
               have HPO2 : Hid (∃ lo hi, w.heap.size < lo ∧ OwnPs (w6.setCell ⟨b, q * 4 + 2, none⟩ (.int .i64 u)) lo hi (.slice pa ps.length pc) ps) := Lib.hid ⟨mid, hi, by omega, HPL6.out.own.past (Within.off _) (.inr (by omega))⟩
               have HSM2 : Hid (Small ⟨N, ds.set q ⟨x.kind, x.pins, u, x.len⟩, ps⟩) := Lib.hid ⟨HSM.out.1, by simp; omega, by
                 intro e he
                 rcases List.mem_or_eq_of_mem_set he with h | rfl
                 · have := HDP.out e h; omega
                 · have := HDP.out x (List.mem_of_getElem? hx); show 1 ≤ x.pins.length ∧ x.pins.length ≤ 100; omega, HSM.out.2.2.2⟩
               replace HSM := HSM2
               clear HSM2 k36 c36 l36 c3 l3 e1 e2 e3 e4 hSx fr hx
               generalize (w6.setCell ⟨b, q * 4 + 2, none⟩ (.int .i64 u)) = wE at *
               have cT := kE.cell
               have lT := kE.lt
               have kZE := HZE.out
               have cZ := kZE.cell
               have fZ := kZE.free
               have lZ := kZE.lt
               go_wp2
               refine bodyPost_ret (v := .agg #[.int .i64 N, .slice (some ⟨b, 0, none⟩) ds.length cv, .slice pa ps.length pc]) (by simp [results, Tryd.results42, go_sem, *]) rfl ?_
               exact ⟨_, ⟨N, ds.set q ⟨x.kind, x.pins, u, x.len⟩, ps⟩, rfl, Lib.hid (nlv_set3 _ _ _ HDO.out HPO2.out), HSM, Lib.hid (((HDE.out.apart (by omega) (by omega)).apart (by omega) (by omega)).apart (by omega) (by omega)), Lib.hid (((HWE.out.new _ _ _ (by omega)).new _ _ _ (by omega)).new _ _ _ (by omega))⟩
              )
            | (
               with_reducible refine atWorld ((w6.setCell ⟨b, q * 4 + 2, none⟩ (.int .i64 u)).alloc (.cells #[.int .i64 0, .int .i64 1000000, .int .i64 1000001] 2)) ?_
               have kE : Blk ((w6.setCell ⟨b, q * 4 + 2, none⟩ (.int .i64 u)).alloc (.cells #[.int .i64 0, .int .i64 1000000, .int .i64 1000001] 2)) T #[.int .i64 N, .slice (some ⟨b, 0, none⟩) ds.length cv, .slice pa ps.length pc] 31 := (k36.apart b _ _ (by omega)).past _
               have HZE : Hid (Blk ((w6.setCell ⟨b, q * 4 + 2, none⟩ (.int .i64 u)).alloc (.cells #[.int .i64 0, .int .i64 1000000, .int .i64 1000001] 2)) w.heap.size #[.int .i64 0, .slice none 0 0, .slice none 0 0] 31) := Lib.hid ((HZ6.out.apart b _ _ (by omega)).past _)
               have HDE : Hid (Src1 W0 g sv n ((w6.setCell ⟨b, q * 4 + 2, none⟩ (.int .i64 u)).alloc (.cells #[.int .i64 0, .int .i64 1000000, .int .i64 1000001] 2))) := Lib.hid ((HD6.out.apart (b := b) (by omega) (by omega)).by ((Below.refl _ _).alloc (Nat.le_refl _) _))
               have HWE : Hid (Within g (g + 1) w ((w6.setCell ⟨b, q * 4 + 2, none⟩ (.int .i64 u)).alloc (.cells #[.int .i64 0, .int .i64 1000000, .int .i64 1000001] 2))) := Lib.hid ((HW6.out.new b _ _ (by omega)).alloc _)
               have HDO : Hid (∃ lo hi, w.heap.size < lo ∧ OwnDs ((w6.setCell ⟨b, q * 4 + 2, none⟩ (.int .i64 u)).alloc (.cells #[.int .i64 0, .int .i64 1000000, .int .i64 1000001] 2)) lo hi (.slice (some ⟨b, 0, none⟩) ds.length cv) (ds.set q ⟨x.kind, x.pins, u, x.len⟩)) := Lib.hid ⟨lo, mid, by omega, OwnDs.by ((Below.refl _ _).alloc (Nat.le_refl _) _) (by simpa using (HBL6.out.own.setNum q x hx 2 (u) ⟨x.kind, x.pins, u, x.len⟩ (by simp)))⟩
               have HPO2 : Hid (∃ lo hi, w.heap.size < lo ∧ OwnPs ((w6.setCell ⟨b, q * 4 + 2, none⟩ (.int .i64 u)).alloc (.cells #[.int .i64 0, .int .i64 1000000, .int .i64 1000001] 2)) lo hi (.slice pa ps.length pc) ps) := Lib.hid ⟨mid, hi, by omega, OwnPs.by ((Below.refl _ _).alloc (Nat.le_refl _) _) (HPL6.out.own.past (Within.off _) (.inr (by omega)))⟩
               have HSM2 : Hid (Small ⟨N, ds.set q ⟨x.kind, x.pins, u, x.len⟩, ps⟩) := Lib.hid ⟨HSM.out.1, by simp; omega, by
                 intro e he
                 rcases List.mem_or_eq_of_mem_set he with h | rfl
                 · have := HDP.out e h; omega
                 · have := HDP.out x (List.mem_of_getElem? hx); show 1 ≤ x.pins.length ∧ x.pins.length ≤ 100; omega, HSM.out.2.2.2⟩
               replace HSM := HSM2
               clear HSM2 k36 c36 l36 c3 l3 e1 e2 e3 e4 hSx fr hx
               generalize ((w6.setCell ⟨b, q * 4 + 2, none⟩ (.int .i64 u)).alloc (.cells #[.int .i64 0, .int .i64 1000000, .int .i64 1000001] 2)) = wE at *
               have cT := kE.cell
               have lT := kE.lt
               have kZE := HZE.out
               have cZ := kZE.cell
               have fZ := kZE.free
               have lZ := kZE.lt
               go_wp2
               refine bodyPost_ret (v := .agg #[.int .i64 N, .slice (some ⟨b, 0, none⟩) ds.length cv, .slice pa ps.length pc]) (by simp [results, Tryd.results42, go_sem, *]) rfl ?_
               exact ⟨_, ⟨N, ds.set q ⟨x.kind, x.pins, u, x.len⟩, ps⟩, rfl, Lib.hid (nlv_set3 _ _ _ HDO.out HPO2.out), HSM, Lib.hid (((HDE.out.apart (by omega) (by omega)).apart (by omega) (by omega)).apart (by omega) (by omega)), Lib.hid (((HWE.out.new _ _ _ (by omega)).new _ _ _ (by omega)).new _ _ _ (by omega))⟩
              )
      · have HDO : Hid (∃ lo hi, w.heap.size < lo ∧ OwnDs w5 lo hi (.slice av ds.length cv) ds) := Lib.hid ⟨lo, mid, by omega, HBL.out.own⟩
        have HPO2 : Hid (∃ lo hi, w.heap.size < lo ∧ OwnPs w5 lo hi (.slice pa ps.length pc) ps) := Lib.hid ⟨mid, hi, by omega, HPL.out.own⟩
        have kE := k35
        have HZE := HZ
        have HDE := HD5
        have HWE := HW
        have hdi : ¬ (0 : Int) < (ds.length : Int) := by omega
        have cT := kE.cell
        have lT := kE.lt
        have kZE := HZE.out
        have cZ := kZE.cell
        have fZ := kZE.free
        have lZ := kZE.lt
        go_wp2
        refine bodyPost_ret (v := .agg #[.int .i64 N, .slice av ds.length cv, .slice pa ps.length pc]) (by simp [results, Tryd.results42, go_sem, *]) rfl ?_
        exact ⟨_, ⟨N, ds, ps⟩, rfl, Lib.hid (nlv_set3 _ _ _ HDO.out HPO2.out), HSM, Lib.hid (((HDE.out.apart (by omega) (by omega)).apart (by omega) (by omega)).apart (by omega) (by omega)), Lib.hid (((HWE.out.new _ _ _ (by omega)).new _ _ _ (by omega)).new _ _ _ (by omega))⟩
    · by_cases hdl : 0 < ds.length
      · have hdi : (0 : Int) < (ds.length : Int) := by omega
        have hql := hq hdl
        have hqi : (q : Int) < (ds.length : Int) := by omega
        have hqj : (0 : Int) ≤ (q : Int) := by omega
        obtain ⟨b, rfl, hb1, hb2⟩ := HBL.out.ad hdl
        obtain ⟨x, hx⟩ : ∃ x, ds[q]? = some x := ⟨ds[q]'(by omega), List.getElem?_eq_getElem _⟩
        obtain ⟨f, pv, hBf, ep, hf12, hfb, HK⟩ := HBL.out.pinsAt q x hx
        obtain ⟨ap, cp, rfl⟩ := hBf.sized
        obtain ⟨cs, hBb⟩ := HBL.out.blkB hdl
        have HBF := Lib.hid hBf
        have HKK := Lib.hid HK
        have HBB := Lib.hid hBb
        have lb := lt_of_cell ep
        dsimp only at lb
        have hxp := HDP.out x (List.mem_of_getElem? hx)
        clear hBf HK hBb
        go_upto_region 19 with fail
        go_region_law
          (refine step_pushOne (by rfl) _ _ (by rfl) f _ x.pins [0] (by rfl) (HBF.out.by (w := w5) (by ((repeat (first | (with_reducible exact Below.refl _ _) | (with_reducible refine below_drewN ?_ _) | (with_reducible refine Below.drew ?_) | (with_reducible refine below_al ?_ _) | (with_reducible refine below_on (by assumption) ?_) | ((with_reducible refine Below.setCell ?_ ?_ _); rotate_left; focus (first | omega | (simp; done) | (simp; omega))) | (with_reducible assumption))); done))) w5.heap.size 1 #[.int .i64 0] (by rfl) (by rfl) (by omega) (by ((repeat (first | (with_reducible assumption) | (with_reducible refine Blk.drewN ?_ _) | (with_reducible refine Blk.drew ?_) | ((with_reducible refine Blk.new _ ?_); focus (first | omega | (simp; done) | (simp; omega))) | (with_reducible refine Blk.past ?_ _) | ((with_reducible refine Blk.apart ?_ _ _ _ ?_); rotate_left; focus (first | omega | (simp; done) | (simp; omega))) | (with_reducible refine Blk.by (by assumption) ?_))); done)) (by rfl) (by omega) ?_; intro a6 c6 w6 f2 hB6 hf6 hw6; have hB6' := Lib.hid hB6; have hs6 := hw6.size; have hs6' : w5.heap.size ≤ w6.heap.size := (by simp at hs6 <;> omega); have hf6' : f2 = f ∨ w5.heap.size ≤ f2 := (by simp at hf6 <;> omega); have k36 := hw6.blk (Blk.by (w := w5) (by ((repeat (first | (with_reducible exact Below.refl _ _) | (with_reducible refine below_drewN ?_ _) | (with_reducible refine Below.drew ?_) | (with_reducible refine below_al ?_ _) | (with_reducible refine below_on (by assumption) ?_) | ((with_reducible refine Below.setCell ?_ ?_ _); rotate_left; focus (first | omega | (simp; done) | (simp; omega))) | (with_reducible assumption))); done)) k35) (by omega); have c36 := k36.cell; have l36 := k36.lt; have kb6 := hw6.blk (Blk.by (w := w5) (by ((repeat (first | (with_reducible exact Below.refl _ _) | (with_reducible refine below_drewN ?_ _) | (with_reducible refine Below.drew ?_) | (with_reducible refine below_al ?_ _) | (with_reducible refine below_on (by assumption) ?_) | ((with_reducible refine Below.setCell ?_ ?_ _); rotate_left; focus (first | omega | (simp; done) | (simp; omega))) | (with_reducible assumption))); done)) HBB.out) (by omega); have fb6 := kb6.free; have eb6 : w6.cell? ⟨b, q * 4 + 1, none⟩ = some (.slice ap x.pins.length cp) := (by rw [kb6.cell]; rw [HBB.out.cell] at ep; exact ep); have lb6 := kb6.lt; have HZ6 := Lib.hid (hw6.blk (Blk.by (w := w5) (by ((repeat (first | (with_reducible exact Below.refl _ _) | (with_reducible refine below_drewN ?_ _) | (with_reducible refine Below.drew ?_) | (with_reducible refine below_al ?_ _) | (with_reducible refine below_on (by assumption) ?_) | ((with_reducible refine Below.setCell ?_ ?_ _); rotate_left; focus (first | omega | (simp; done) | (simp; omega))) | (with_reducible assumption))); done)) HZ.out) (by omega)); have HPL6 := Lib.hid (BldP.past hw6 (HPL.out.by (w := w5) (by ((repeat (first | (with_reducible exact Below.refl _ _) | (with_reducible refine below_drewN ?_ _) | (with_reducible refine Below.drew ?_) | (with_reducible refine below_al ?_ _) | (with_reducible refine below_on (by assumption) ?_) | ((with_reducible refine Below.setCell ?_ ?_ _); rotate_left; focus (first | omega | (simp; done) | (simp; omega))) | (with_reducible assumption))); done))) (.inl (by omega))); have HD6 := Lib.hid (Src1.within hw6 (HD5.out.by (w := w5) (by ((repeat (first | (with_reducible exact Below.refl _ _) | (with_reducible refine below_drewN ?_ _) | (with_reducible refine Below.drew ?_) | (with_reducible refine below_al ?_ _) | (with_reducible refine below_on (by assumption) ?_) | ((with_reducible refine Below.setCell ?_ ?_ _); rotate_left; focus (first | omega | (simp; done) | (simp; omega))) | (with_reducible assumption))); done))) (by omega) (by omega)); have HWo := Lib.hid (Within.onB f (f + 1) (a := w5) (by ((repeat (first | (with_reducible exact Below.refl _ _) | (with_reducible refine below_drewN ?_ _) | (with_reducible refine Below.drew ?_) | (with_reducible refine below_al ?_ _) | (with_reducible refine below_on (by assumption) ?_) | ((with_reducible refine Below.setCell ?_ ?_ _); rotate_left; focus (first | omega | (simp; done) | (simp; omega))) | (with_reducible assumption))); done)) hw6); clear hB6 hw6)
        all_goals
          go_upto_region 23 with fail
          have kE : Blk (w6.setCell ⟨b, q * 4 + 1, none⟩ (.slice a6 (x.pins.length + 1) c6)) T #[.int .i64 N, .slice (some ⟨b, 0, none⟩) ds.length cv, .slice pa ps.length pc] 31 := k36.apart b _ _ (by omega)
          have HZE : Hid (Blk (w6.setCell ⟨b, q * 4 + 1, none⟩ (.slice a6 (x.pins.length + 1) c6)) w.heap.size #[.int .i64 0, .slice none 0 0, .slice none 0 0] 31) := Lib.hid (HZ6.out.apart b _ _ (by omega))
          have HDE : Hid (Src1 W0 g sv n (w6.setCell ⟨b, q * 4 + 1, none⟩ (.slice a6 (x.pins.length + 1) c6))) := Lib.hid (HD6.out.apart (b := b) (by omega) (by omega))
          have HWE : Hid (Within g (g + 1) w (w6.setCell ⟨b, q * 4 + 1, none⟩ (.slice a6 (x.pins.length + 1) c6))) := Lib.hid ((HW.out.newerM HWo.out (by omega)).new b _ _ (by omega))
          have hl2 := hB6'.out.1
          have HDO : Hid (∃ lo hi, w.heap.size < lo ∧ OwnDs (w6.setCell ⟨b, q * 4 + 1, none⟩ (.slice a6 (x.pins.length + 1) c6)) lo hi (.slice (some ⟨b, 0, none⟩) ds.length cv) (ds.set q ⟨x.kind, x.pins ++ [0], x.wd, x.len⟩)) := Lib.hid ⟨lo, w6.heap.size, by omega, HKK.out w6 _ (x.pins ++ [0]) f2 w6.heap.size HWo.out (by omega) (by omega) (by omega) (by simpa using hB6'.out.own)⟩
          have HPO2 : Hid (∃ lo hi, w.heap.size < lo ∧ OwnPs (w6.setCell ⟨b, q * 4 + 1, none⟩ (.slice a6 (x.pins.length + 1) c6)) lo hi (.slice pa ps.length pc) ps) := Lib.hid ⟨mid, hi, by omega, HPL6.out.own.past (Within.off _) (.inr (by omega))⟩
          have HSM2 : Hid (Small ⟨N, ds.set q ⟨x.kind, x.pins ++ [0], x.wd, x.len⟩, ps⟩) := Lib.hid ⟨HSM.out.1, by simp; omega, by
            intro e he
            rcases List.mem_or_eq_of_mem_set he with h | rfl
            · have := HDP.out e h; omega
            · simp; omega, HSM.out.2.2.2⟩
          replace HSM := HSM2
          clear HSM2 k36 c36 l36 c3 l3 ep hx eb6 fb6 kb6
          generalize (w6.setCell ⟨b, q * 4 + 1, none⟩ (.slice a6 (x.pins.length + 1) c6)) = wE at *
          have cT := kE.cell
          have lT := kE.lt
          have kZE := HZE.out
          have cZ := kZE.cell
          have fZ := kZE.free
          have lZ := kZE.lt
          go_wp2
          refine bodyPost_ret (v := .agg #[.int .i64 N, .slice (some ⟨b, 0, none⟩) ds.length cv, .slice pa ps.length pc]) (by simp [results, Tryd.results42, go_sem, *]) rfl ?_
          exact ⟨_, ⟨N, ds.set q ⟨x.kind, x.pins ++ [0], x.wd, x.len⟩, ps⟩, rfl, Lib.hid (nlv_set3 _ _ _ HDO.out HPO2.out), HSM, Lib.hid (((HDE.out.apart (by omega) (by omega)).apart (by omega) (by omega)).apart (by omega) (by omega)), Lib.hid (((HWE.out.new _ _ _ (by omega)).new _ _ _ (by omega)).new _ _ _ (by omega))⟩
      · have HDO : Hid (∃ lo hi, w.heap.size < lo ∧ OwnDs w5 lo hi (.slice av ds.length cv) ds) := Lib.hid ⟨lo, mid, by omega, HBL.out.own⟩
        have HPO2 : Hid (∃ lo hi, w.heap.size < lo ∧ OwnPs w5 lo hi (.slice pa ps.length pc) ps) := Lib.hid ⟨mid, hi, by omega, HPL.out.own⟩
        have kE := k35
        have HZE := HZ
        have HDE := HD5
        have HWE := HW
        have hdi : ¬ (0 : Int) < (ds.length : Int) := by omega
        have cT := kE.cell
        have lT := kE.lt
        have kZE := HZE.out
        have cZ := kZE.cell
        have fZ := kZE.free
        have lZ := kZE.lt
        go_wp2
        refine bodyPost_ret (v := .agg #[.int .i64 N, .slice av ds.length cv, .slice pa ps.length pc]) (by simp [results, Tryd.results42, go_sem, *]) rfl ?_
        exact ⟨_, ⟨N, ds, ps⟩, rfl, Lib.hid (nlv_set3 _ _ _ HDO.out HPO2.out), HSM, Lib.hid (((HDE.out.apart (by omega) (by omega)).apart (by omega) (by omega)).apart (by omega) (by omega)), Lib.hid (((HWE.out.new _ _ _ (by omega)).new _ _ _ (by omega)).new _ _ _ (by omega))⟩
    · by_cases hdl : 0 < ds.length
      · have hdi : (0 : Int) < (ds.length : Int) := by omega
        have hql := hq hdl
        have hqi : (q : Int) < (ds.length : Int) := by omega
        have hqj : (0 : Int) ≤ (q : Int) := by omega
        obtain ⟨b, rfl, hb1, hb2⟩ := HBL.out.ad hdl
        obtain ⟨x, hx⟩ : ∃ x, ds[q]? = some x := ⟨ds[q]'(by omega), List.getElem?_eq_getElem _⟩
        go_upto_region 22 with fail
        go_region_law
          (go_simp; go_at_call 52; refine (HN.out _ _ (HD5.out.by (by ((repeat (first | (with_reducible exact Below.refl _ _) | (with_reducible refine below_drewN ?_ _) | (with_reducible refine Below.drew ?_) | (with_reducible refine below_al ?_ _) | (with_reducible refine below_on (by assumption) ?_) | ((with_reducible refine Below.setCell ?_ ?_ _); rotate_left; focus (first | omega | (simp; done) | (simp; omega))) | (with_reducible assumption))); done))) (by omega)).mono ?_; rintro e w6 ⟨z, rfl, hz0, hz1, hD6, ho6⟩; have HD6 := Lib.hid hD6; have hW6 := ho6.within; have hs6 := hW6.size; have hs6' : w5.heap.size ≤ w6.heap.size := (by simp at hs6 <;> omega); have k36 := hW6.blk (Blk.by (w := w5) (by ((repeat (first | (with_reducible exact Below.refl _ _) | (with_reducible refine below_drewN ?_ _) | (with_reducible refine Below.drew ?_) | (with_reducible refine below_al ?_ _) | (with_reducible refine below_on (by assumption) ?_) | ((with_reducible refine Below.setCell ?_ ?_ _); rotate_left; focus (first | omega | (simp; done) | (simp; omega))) | (with_reducible assumption))); done)) k35) (by omega); have c36 := k36.cell; have l36 := k36.lt; have HZ6 := Lib.hid (hW6.blk (Blk.by (w := w5) (by ((repeat (first | (with_reducible exact Below.refl _ _) | (with_reducible refine below_drewN ?_ _) | (with_reducible refine Below.drew ?_) | (with_reducible refine below_al ?_ _) | (with_reducible refine below_on (by assumption) ?_) | ((with_reducible refine Below.setCell ?_ ?_ _); rotate_left; focus (first | omega | (simp; done) | (simp; omega))) | (with_reducible assumption))); done)) HZ.out) (by omega)); have HBL6 := Lib.hid ((HBL.out.by (w := w5) (by ((repeat (first | (with_reducible exact Below.refl _ _) | (with_reducible refine below_drewN ?_ _) | (with_reducible refine Below.drew ?_) | (with_reducible refine below_al ?_ _) | (with_reducible refine below_on (by assumption) ?_) | ((with_reducible refine Below.setCell ?_ ?_ _); rotate_left; focus (first | omega | (simp; done) | (simp; omega))) | (with_reducible assumption))); done))).only ho6 (by omega)); have HPL6 := Lib.hid ((HPL.out.by (w := w5) (by ((repeat (first | (with_reducible exact Below.refl _ _) | (with_reducible refine below_drewN ?_ _) | (with_reducible refine Below.drew ?_) | (with_reducible refine below_al ?_ _) | (with_reducible refine below_on (by assumption) ?_) | ((with_reducible refine Below.setCell ?_ ?_ _); rotate_left; focus (first | omega | (simp; done) | (simp; omega))) | (with_reducible assumption))); done))).only ho6 (by omega)); (obtain ⟨sx, e1, e2, e3, e4, hSx⟩ := HBL6.out.at q x hx); have fr := HBL6.out.fr hdl; have lX := lt_of_cell e1; have wz : IntKind.i64.wrap (4 * z) = 4 * z := (by simp [IntKind.wrap, IntKind.bits, IntKind.signed]; omega); have wz2 : IntKind.i64.wrap (3 - 4 * z) = 3 - 4 * z := (by simp [IntKind.wrap, IntKind.bits, IntKind.signed]; omega); have HW6 := Lib.hid (HW.out.on (Within.onB g (g + 1) (by ((repeat (first | (with_reducible exact Below.refl _ _) | (with_reducible refine below_drewN ?_ _) | (with_reducible refine Below.drew ?_) | (with_reducible refine below_al ?_ _) | (with_reducible refine below_on (by assumption) ?_) | ((with_reducible refine Below.setCell ?_ ?_ _); rotate_left; focus (first | omega | (simp; done) | (simp; omega))) | (with_reducible assumption))); done)) hW6)); clear hW6 ho6 hD6; dsimp only at lX ⊢)
        all_goals
          go_upto_region 23 with fail
          with_reducible refine atWorld (w6.setCell ⟨b, q * 4, none⟩ (.int .i64 (3 - 4 * z))) ?_
          have kE : Blk (w6.setCell ⟨b, q * 4, none⟩ (.int .i64 (3 - 4 * z))) T #[.int .i64 N, .slice (some ⟨b, 0, none⟩) ds.length cv, .slice pa ps.length pc] 31 := k36.apart b _ _ (by omega)
          have HZE : Hid (Blk (w6.setCell ⟨b, q * 4, none⟩ (.int .i64 (3 - 4 * z))) w.heap.size #[.int .i64 0, .slice none 0 0, .slice none 0 0] 31) := Lib.hid (HZ6.out.apart b _ _ (by omega))
          have HDE : Hid (Src1 W0 g sv n (w6.setCell ⟨b, q * 4, none⟩ (.int .i64 (3 - 4 * z)))) := Lib.hid (HD6.out.apart (b := b) (by omega) (by omega))
          have HWE : Hid (Within g (g + 1) w (w6.setCell ⟨b, q * 4, none⟩ (.int .i64 (3 - 4 * z)))) := Lib.hid (HW6.out.new b _ _ (by omega))
          have HDO : Hid (∃ lo hi, w.heap.size < lo ∧ OwnDs (w6.setCell ⟨b, q * 4, none⟩ (.int .i64 (3 - 4 * z))) lo hi (.slice (some ⟨b, 0, none⟩) ds.length cv) (ds.set q ⟨3 - 4 * z, x.pins, x.wd, x.len⟩)) := Lib.hid ⟨lo, mid, by omega, by simpa using (HBL6.out.own.setNum q x hx 0 ((3 - 4 * z)) ⟨3 - 4 * z, x.pins, x.wd, x.len⟩ (by simp))⟩
          have HPO2 : Hid (∃ lo hi, w.heap.size < lo ∧ OwnPs (w6.setCell ⟨b, q * 4, none⟩ (.int .i64 (3 - 4 * z))) lo hi (.slice pa ps.length pc) ps) := Lib.hid ⟨mid, hi, by omega, HPL6.out.own.past (Within.off _) (.inr (by omega))⟩
          have HSM2 : Hid (Small ⟨N, ds.set q ⟨3 - 4 * z, x.pins, x.wd, x.len⟩, ps⟩) := Lib.hid ⟨HSM.out.1, by simp; omega, by
            intro e he
            rcases List.mem_or_eq_of_mem_set he with h | rfl
            · have := HDP.out e h; omega
            · have := HDP.out x (List.mem_of_getElem? hx); show 1 ≤ x.pins.length ∧ x.pins.length ≤ 100; omega, HSM.out.2.2.2⟩
          replace HSM := HSM2
          clear HSM2 k36 c36 l36 c3 l3 e1 e2 e3 e4 hSx fr hx
          generalize (w6.setCell ⟨b, q * 4, none⟩ (.int .i64 (3 - 4 * z))) = wE at *
          have cT := kE.cell
          have lT := kE.lt
          have kZE := HZE.out
          have cZ := kZE.cell
          have fZ := kZE.free
          have lZ := kZE.lt
          go_wp2
          refine bodyPost_ret (v := .agg #[.int .i64 N, .slice (some ⟨b, 0, none⟩) ds.length cv, .slice pa ps.length pc]) (by simp [results, Tryd.results42, go_sem, *]) rfl ?_
          exact ⟨_, ⟨N, ds.set q ⟨3 - 4 * z, x.pins, x.wd, x.len⟩, ps⟩, rfl, Lib.hid (nlv_set3 _ _ _ HDO.out HPO2.out), HSM, Lib.hid (((HDE.out.apart (by omega) (by omega)).apart (by omega) (by omega)).apart (by omega) (by omega)), Lib.hid (((HWE.out.new _ _ _ (by omega)).new _ _ _ (by omega)).new _ _ _ (by omega))⟩
      · have HDO : Hid (∃ lo hi, w.heap.size < lo ∧ OwnDs w5 lo hi (.slice av ds.length cv) ds) := Lib.hid ⟨lo, mid, by omega, HBL.out.own⟩
        have HPO2 : Hid (∃ lo hi, w.heap.size < lo ∧ OwnPs w5 lo hi (.slice pa ps.length pc) ps) := Lib.hid ⟨mid, hi, by omega, HPL.out.own⟩
        have kE := k35
        have HZE := HZ
        have HDE := HD5
        have HWE := HW
        have hdi : ¬ (0 : Int) < (ds.length : Int) := by omega
        have cT := kE.cell
        have lT := kE.lt
        have kZE := HZE.out
        have cZ := kZE.cell
        have fZ := kZE.free
        have lZ := kZE.lt
        go_wp2
        refine bodyPost_ret (v := .agg #[.int .i64 N, .slice av ds.length cv, .slice pa ps.length pc]) (by simp [results, Tryd.results42, go_sem, *]) rfl ?_
        exact ⟨_, ⟨N, ds, ps⟩, rfl, Lib.hid (nlv_set3 _ _ _ HDO.out HPO2.out), HSM, Lib.hid (((HDE.out.apart (by omega) (by omega)).apart (by omega) (by omega)).apart (by omega) (by omega)), Lib.hid (((HWE.out.new _ _ _ (by omega)).new _ _ _ (by omega)).new _ _ _ (by omega))⟩
end Go.Proofs.YtglddnkpccgchaaDoor
