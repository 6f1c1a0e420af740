/- The draw of a netlist: some netlist. -/
import Derived.Test.YtpaiiaajbojmnaaGreatDrawVs
import Derived.Test.YtpaiiaajbojmnaaGreatDrawMs
import Derived.Test.YtpaiiaajbojmnaaGreatCopies
import Derived.Test.YtpaiiaajbojmnaaGreatOrdB
import Derived.Deep.DeepCutAuto
namespace Go.Proofs.YtpaiiaajbojmnaaGreat
open Go.RowKit
set_option linter.unusedVariables false
set_option linter.unusedSimpArgs false

/-- What a drawn netlist is held to: it is small. -/
def Small (x : Nl) : Prop := (-1 ≤ x.nets ∧ x.nets ≤ 25) ∧ x.ds.length ≤ 100 ∧ (∀ d ∈ x.ds, 1 ≤ d.pins.length ∧ d.pins.length ≤ 100) ∧ x.ps.length ≤ 100 ∧ ∀ p ∈ x.ps, p.ok
theorem Small.fits {x : Nl} (h : Small x) : Fits x.nets := by
  obtain ⟨⟨h1, h2⟩, _⟩ := h
  exact ⟨by omega, by omega⟩

/-- A netlist all of whose memory lies in blocks from m on. -/
def NlO (m : Nat) (w : World) (v : Value) (x : Nl) : Prop := ∃ s1 s2, v = .agg #[.int .i64 x.nets, s1, s2] ∧ (∃ lo hi, m ≤ lo ∧ OwnDs w lo hi s1 x.ds) ∧ ∃ lo hi, m ≤ lo ∧ OwnPs w lo hi s2 x.ps
section
variable {m : Nat} {w w' : World} {v : Value} {x : Nl}
theorem NlO.nl (h : NlO m w v x) : NlV w v x := by
  obtain ⟨s1, s2, e, ⟨l1, h1, r1, o1⟩, l2, h2, r2, o2⟩ := h
  exact ⟨s1, s2, e, o1.sl, o2.sl⟩
theorem NlO.by (hb : Below w.heap.size w w') (h : NlO m w v x) : NlO m w' v x := by
  obtain ⟨s1, s2, e, ⟨l1, h1, r1, o1⟩, l2, h2, r2, o2⟩ := h
  exact ⟨s1, s2, e, ⟨l1, h1, r1, o1.by hb⟩, l2, h2, r2, o2.by hb⟩
theorem NlO.past {lo hi : Nat} (hw : Within lo hi w w') (h : NlO m w v x) (hh : hi ≤ m) : NlO m w' v x := by
  obtain ⟨s1, s2, e, ⟨l1, h1, r1, o1⟩, l2, h2, r2, o2⟩ := h
  exact ⟨s1, s2, e, ⟨l1, h1, r1, o1.past hw (.inr (by omega))⟩, l2, h2, r2, o2.past hw (.inr (by omega))⟩
theorem NlO.low {m' : Nat} (h : NlO m w v x) (hm : m' ≤ m) : NlO m' w v x := by
  obtain ⟨s1, s2, e, ⟨l1, h1, r1, o1⟩, l2, h2, r2, o2⟩ := h
  exact ⟨s1, s2, e, ⟨l1, h1, by omega, o1⟩, l2, h2, by omega, o2⟩
end
theorem nlv_set3 {w : World} {r : Nat} {X : Int} {D P : Value} {ds : List Dv} {ps : List Pt} (v1 v2 v3 : Value) (h1 : ∃ lo hi, r < lo ∧ OwnDs w lo hi D ds) (h2 : ∃ lo hi, r < lo ∧ OwnPs w lo hi P ps) :
    NlO r (((w.setCell ⟨r, 0, none⟩ v1).setCell ⟨r, 1, none⟩ v2).setCell ⟨r, 2, none⟩ v3) (.agg #[.int .i64 X, D, P]) ⟨X, ds, ps⟩ := by
  obtain ⟨l1, h1', r1, o1⟩ := h1
  obtain ⟨l2, h2', r2, o2⟩ := h2
  exact ⟨D, P, rfl, ⟨l1, h1', by omega, (((o1.past (Within.off _) (by omega)).past (Within.off _) (by omega)).past (Within.off _) (by omega))⟩, l2, h2', by omega, (((o2.past (Within.off _) (by omega)).past (Within.off _) (by omega)).past (Within.off _) (by omega))⟩

set_option maxRecDepth 100000 in
set_option maxHeartbeats 16000000 in
theorem l27DrawNetlist_any (W0 : World) (g : Nat) (sv : Value) (n : Nat) (w : World) (hD : Src1 W0 g sv n w) :
    Calls Tryz.prog 45 #[.pointer (some ⟨g, 0, none⟩)] w fun e w' => ∃ (v : Value) (x : Nl), e = .returned v ∧ Hid (NlO w.heap.size w' v x) ∧ Hid (Small x) ∧ Hid (Src1 W0 g sv n w') ∧ Hid (Within g (g + 1) w w') := by
  have HN := Lib.hid (fun q w h hq => l01Next_any W0 g sv n q w h hq)
  have HDV := Lib.hid (fun w h => l27DrawValid_any W0 g sv n w h)
  have hgl := hD.lt
  have hW0 : W0.heap.size ≤ g := hD.1
  have HD := Lib.hid hD
  clear hD
  go_enter Tryz.func45, Tryz.ntmps45
  go_wp2_with fail
  refine (HDV.out _ (HD.out.by (by ((repeat (first | (with_reducible exact Below.refl _ _) | (with_reducible refine below_drewN ?_ _) | (with_reducible refine Below.drew ?_) | (with_reducible refine below_al ?_ _) | (with_reducible refine below_on (by assumption) ?_) | ((with_reducible refine Below.setCell ?_ ?_ _); rotate_left; focus (first | omega | (simp; done) | (simp; omega))) | (with_reducible assumption))); done)))).mono ?_
  rintro e w1 ⟨⟨N, ds, ps⟩, dv, pv, lo, mid, hi, rfl, HBL1, HPL1, hb, hN, hdl, hdp, hpl, hpo, HD1, HW1⟩
  dsimp only at HBL1 HPL1 hN hdl hdp hpl hpo
  simp only [World.size_alloc] at hb
  obtain ⟨av, cv, rfl⟩ := HBL1.out.sized
  obtain ⟨pa, pc, rfl⟩ := HPL1.out.sized
  have kZ0 : Blk (w.alloc (.cells #[.int .i64 0, .slice none 0 0, .slice none 0 0] 27)) w.heap.size #[.int .i64 0, .slice none 0 0, .slice none 0 0] 27 := Blk.new _ rfl
  have hZ1 := HW1.out.blk kZ0 (by omega)
  have lZ1 := hZ1.lt
  have HWs := Lib.hid (((Within.refl g (g + 1) w).alloc (.cells #[.int .i64 0, .slice none 0 0, .slice none 0 0] 27)).on HW1.out)
  have hbA : Below w1.heap.size w1 (w1.alloc (.cells #[.int .i64 N, .slice av ds.length cv, .slice pa ps.length pc] 27)) := (Below.refl _ w1).alloc (Nat.le_refl _) _
  have k3 : Blk (w1.alloc (.cells #[.int .i64 N, .slice av ds.length cv, .slice pa ps.length pc] 27)) w1.heap.size #[.int .i64 N, .slice av ds.length cv, .slice pa ps.length pc] 27 := Blk.new _ rfl
  have HBL := Lib.hid (HBL1.out.by hbA)
  have HPL := Lib.hid (HPL1.out.by hbA)
  have HDs := Lib.hid (HD1.out.by hbA)
  have HZ := Lib.hid (Blk.by hbA hZ1)
  have HW := Lib.hid (HWs.out.alloc (.cells #[.int .i64 N, .slice av ds.length cv, .slice pa ps.length pc] 27))
  have hsA : w1.heap.size + 1 ≤ (w1.alloc (.cells #[.int .i64 N, .slice av ds.length cv, .slice pa ps.length pc] 27)).heap.size := by simp
  have HDP := Lib.hid hdp
  have HPO := Lib.hid hpo
  clear HBL1 HPL1 HD1 HW1 kZ0 hZ1 HWs hbA hdp hpo
  go_upto_region 2 with fail
  generalize w1.alloc (.cells #[.int .i64 N, .slice av ds.length cv, .slice pa ps.length pc] 27) = w2 at *
  obtain ⟨T, hT⟩ : ∃ T, w1.heap.size = T := ⟨_, rfl⟩
  rw [hT] at k3 hsA lZ1 hb
  (try rw [hT])
  clear hT
  go_wp2_with fail
  refine (HN.out _ _ HDs.out (by omega)).mono ?_
  rintro e w3 ⟨a, rfl, ha0, ha1, hD3, ho3⟩
  have HBL3 := Lib.hid (HBL.out.only ho3 (by omega))
  have HPL3 := Lib.hid (HPL.out.only ho3 (by omega))
  have HD3 := Lib.hid hD3
  have HW3 := Lib.hid (HW.out.on ho3.within)
  have HZ3 := Lib.hid (ho3.within.blk HZ.out (by omega))
  have k33 := ho3.within.blk k3 (by omega)
  have hs3 : w2.heap.size ≤ w3.heap.size := ho3.within.size
  have HSM : Hid (Small ⟨N, ds, ps⟩) := Lib.hid ⟨⟨by show -1 ≤ N; omega, by show N ≤ 25; omega⟩, by show ds.length ≤ 100; omega, fun d hd => by have := HDP.out d hd; omega, by show ps.length ≤ 100; omega, HPO.out⟩
  clear HBL HPL HDs HW HZ k3 hD3 ho3
  by_cases ha : 0 < a
  · have HDO : Hid (∃ lo hi, w.heap.size < lo ∧ OwnDs w3 lo hi (.slice av ds.length cv) ds) := Lib.hid ⟨lo, mid, by omega, HBL3.out.own⟩
    have HPO2 : Hid (∃ lo hi, w.heap.size < lo ∧ OwnPs w3 lo hi (.slice pa ps.length pc) ps) := Lib.hid ⟨mid, hi, by omega, HPL3.out.own⟩
    have kE := k33
    have HZE := HZ3
    have HDE := HD3
    have HWE := HW3
    have cT := kE.cell
    have lT := kE.lt
    have kZE := HZE.out
    have cZ := kZE.cell
    have fZ := kZE.free
    have lZ := kZE.lt
    go_wp2
    refine bodyPost_ret (v := .agg #[.int .i64 N, .slice av ds.length cv, .slice pa ps.length pc]) (by simp [results, Tryz.results45, go_sem, *]) rfl ?_
    exact ⟨_, ⟨N, ds, ps⟩, rfl, Lib.hid (nlv_set3 _ _ _ HDO.out HPO2.out), HSM, Lib.hid (((HDE.out.apart (by omega) (by omega)).apart (by omega) (by omega)).apart (by omega) (by omega)), Lib.hid (((HWE.out.new _ _ _ (by omega)).new _ _ _ (by omega)).new _ _ _ (by omega))⟩
  have c3 := k33.cell
  have l3 := k33.lt
  go_upto_region 4 with fail
  go_cut [4] (fun s wx => ∃ q : Nat, s = .int .i64 (q : Int) ∧ (0 < ds.length → q < ds.length) ∧ Hid (Src1 W0 g sv n wx) ∧ Hid (Only g w3 wx))
  case first =>
    go_wp2_with fail
    all_goals
      refine (HN.out _ _ HD3.out (by omega)).mono ?_
      rintro e w4 ⟨q, rfl, hq0, hq1, hD4, ho4⟩
      obtain ⟨Q, rfl⟩ : ∃ Q : Nat, q = Q := ⟨q.toNat, by omega⟩
      go_wp2
      go_meet
      exact ⟨Q, rfl, by omega, Lib.hid hD4, Lib.hid ho4⟩
  case rest =>
    obtain ⟨q, rfl, hq, HD4, HO4⟩ := hcut
    have HBL4 := Lib.hid (HBL3.out.only HO4.out (by omega))
    have HPL4 := Lib.hid (HPL3.out.only HO4.out (by omega))
    have HW4 := Lib.hid (HW3.out.on HO4.out.within)
    have HZ4 := Lib.hid (HO4.out.within.blk HZ3.out (by omega))
    have k34 := HO4.out.within.blk k33 (by omega)
    have hs4 : w3.heap.size ≤ wc.heap.size := HO4.out.within.size
    clear HBL3 HPL3 HW3 HZ3 k33 HD3 c3 l3 HO4
    have c3 := k34.cell
    have l3 := k34.lt
    go_wp2_with fail
    refine (HN.out _ _ HD4.out (by omega)).mono ?_
    rintro e w5 ⟨y, rfl, hy0, hy1, hD5, ho5⟩
    have HBL := Lib.hid (HBL4.out.only ho5 (by omega))
    have HPL := Lib.hid (HPL4.out.only ho5 (by omega))
    have HD5 := Lib.hid hD5
    have HW := Lib.hid (HW4.out.on ho5.within)
    have HZ := Lib.hid (ho5.within.blk HZ4.out (by omega))
    have k35 := ho5.within.blk k34 (by omega)
    have hs5 : wc.heap.size ≤ w5.heap.size := ho5.within.size
    clear HBL4 HPL4 HD4 HW4 HZ4 k34 hD5 ho5 c3 l3
    have c3 := k35.cell
    have l3 := k35.lt
    rcases (by omega : y = 0 ∨ y = 1 ∨ y = 2 ∨ y = 3 ∨ y = 4 ∨ y = 5 ∨ y = 6) with rfl | rfl | rfl | rfl | rfl | rfl | rfl
    · go_upto_region 23 with (go_at_call 46; refine (HN.out _ _ (HD5.out.by (by ((repeat (first | (with_reducible exact Below.refl _ _) | (with_reducible refine below_drewN ?_ _) | (with_reducible refine Below.drew ?_) | (with_reducible refine below_al ?_ _) | (with_reducible refine below_on (by assumption) ?_) | ((with_reducible refine Below.setCell ?_ ?_ _); rotate_left; focus (first | omega | (simp; done) | (simp; omega))) | (with_reducible assumption))); done))) (by omega)).mono ?_; rintro e w6 ⟨z, rfl, hz0, hz1, hD6, ho6⟩; have HD6 := Lib.hid hD6; have hW6 := ho6.within; have kL0 : Blk (w5.alloc (.cells #[.int .i64 (-1), .int .i64 0, .int .i64 24, .int .i64 25] 2)) w5.heap.size #[.int .i64 (-1), .int .i64 0, .int .i64 24, .int .i64 25] 2 := Blk.new _ rfl; have kL6 := hW6.blk kL0 (by omega); have k36 := hW6.blk (k35.past _) (by omega); have f36 := k36.free; have c36 := k36.cell; have l36 := k36.lt; (obtain ⟨Z, rfl⟩ : ∃ Z : Nat, z = Z := ⟨z.toNat, by omega⟩); have hZi : (Z : Int) < 4 := (by omega); have hZj : (0 : Int) ≤ (Z : Int) := (by omega); (obtain ⟨u, hu, hu1, hu2⟩ : ∃ u : Int, (#[.int .i64 (-1), .int .i64 0, .int .i64 24, .int .i64 25] : Array Value)[Z]? = some (.int .i64 u) ∧ -1 ≤ u ∧ u ≤ 25 := (by rcases (by omega : Z = 0 ∨ Z = 1 ∨ Z = 2 ∨ Z = 3) with rfl | rfl | rfl | rfl <;> exact ⟨_, rfl, by omega, by omega⟩)); rw [← kL6.cell] at hu; have lu := kL6.lt)
      have hbA : Below w5.heap.size w5 (w5.alloc (.cells #[.int .i64 (-1), .int .i64 0, .int .i64 24, .int .i64 25] 2)) := (Below.refl _ w5).alloc (Nat.le_refl _) _
      have hsA := hbA.size
      have hs6 := hW6.size
      have kE : Blk (w6.setCell ⟨T, 0, none⟩ (.int .i64 u)) T #[.int .i64 u, .slice av ds.length cv, .slice pa ps.length pc] 27 := k36.set 0 _
      have HZE := Lib.hid ((hW6.blk (Blk.by hbA HZ.out) (by omega)).apart T 0 (.int .i64 u) (by omega))
      have HDE := Lib.hid (HD6.out.apart (b := T) (o := 0) (v := .int .i64 u) (by omega) (by omega))
      have HWE := Lib.hid (((HW.out.alloc (.cells #[.int .i64 (-1), .int .i64 0, .int .i64 24, .int .i64 25] 2)).on hW6).new T 0 (.int .i64 u) (by omega))
      have HDO : Hid (∃ lo hi, w.heap.size < lo ∧ OwnDs (w6.setCell ⟨T, 0, none⟩ (.int .i64 u)) lo hi (.slice av ds.length cv) ds) := Lib.hid ⟨lo, mid, by omega, (((HBL.out.by hbA).past hW6 (.inl (by omega))).own.past (Within.off _) (.inl (by omega)))⟩
      have HPO2 : Hid (∃ lo hi, w.heap.size < lo ∧ OwnPs (w6.setCell ⟨T, 0, none⟩ (.int .i64 u)) lo hi (.slice pa ps.length pc) ps) := Lib.hid ⟨mid, hi, by omega, (((HPL.out.by hbA).past hW6 (.inl (by omega))).own.past (Within.off _) (.inl (by omega)))⟩
      have HSM2 : Hid (Small ⟨u, ds, ps⟩) := Lib.hid ⟨⟨hu1, hu2⟩, HSM.out.2⟩
      replace HSM := HSM2
      clear HSM2 k36 f36 c36 l36 hu lu kL0 kL6 c3 l3
      generalize w6.setCell ⟨T, 0, none⟩ (.int .i64 u) = wE at *
      have cT := kE.cell
      have lT := kE.lt
      have kZE := HZE.out
      have cZ := kZE.cell
      have fZ := kZE.free
      have lZ := kZE.lt
      go_wp2
      refine bodyPost_ret (v := .agg #[.int .i64 u, .slice av ds.length cv, .slice pa ps.length pc]) (by simp [results, Tryz.results45, go_sem, *]) rfl ?_
      exact ⟨_, ⟨u, ds, ps⟩, rfl, Lib.hid (nlv_set3 _ _ _ HDO.out HPO2.out), HSM, Lib.hid (((HDE.out.apart (by omega) (by omega)).apart (by omega) (by omega)).apart (by omega) (by omega)), Lib.hid (((HWE.out.new _ _ _ (by omega)).new _ _ _ (by omega)).new _ _ _ (by omega))⟩
    · go_upto_region 23 with (refine list_pushP (by rfl) _ _ (by rfl) mid hi (.slice pa ps.length pc) ps (by rfl) (HPL.out.by (by ((repeat (first | (with_reducible exact Below.refl _ _) | (with_reducible refine below_drewN ?_ _) | (with_reducible refine Below.drew ?_) | (with_reducible refine below_al ?_ _) | (with_reducible refine below_on (by assumption) ?_) | ((with_reducible refine Below.setCell ?_ ?_ _); rotate_left; focus (first | omega | (simp; done) | (simp; omega))) | (with_reducible assumption))); done))) w5.heap.size ⟨⟨#[97]⟩, 0⟩ (by rfl) (Blk.new _ rfl) (by omega) (by omega) ?_; intro a6 c6 w6 hB6 hw6; have HB6 := Lib.hid hB6; have k36 := hw6.blk (k35.past (.cells #[.string ⟨#[97]⟩, .int .i64 0] 65)) (by omega); have f36 := k36.free; have c36 := k36.cell; have l36 := k36.lt; clear hB6)
      have hbA : Below w5.heap.size w5 (w5.alloc (.cells #[.string ⟨#[97]⟩, .int .i64 0] 65)) := (Below.refl _ w5).alloc (Nat.le_refl _) _
      have hsA := hbA.size
      have hs6 := hw6.size
      have kE : Blk (w6.setCell ⟨T, 2, none⟩ (.slice a6 (ps.length + 1) c6)) T #[.int .i64 N, .slice av ds.length cv, .slice a6 (ps.length + 1) c6] 27 := k36.set 2 _
      have HZE := Lib.hid ((hw6.blk (Blk.by hbA HZ.out) (by omega)).apart T 2 (.slice a6 (ps.length + 1) c6) (by omega))
      have HDE := Lib.hid ((Src1.within hw6 (HD5.out.by hbA) (by omega) (by omega)).apart (b := T) (o := 2) (v := .slice a6 (ps.length + 1) c6) (by omega) (by omega))
      have HWE := Lib.hid (((HW.out.alloc (.cells #[.string ⟨#[97]⟩, .int .i64 0] 65)).newerM hw6 (by omega)).new T 2 (.slice a6 (ps.length + 1) c6) (by omega))
      have HDO : Hid (∃ lo hi, w.heap.size < lo ∧ OwnDs (w6.setCell ⟨T, 2, none⟩ (.slice a6 (ps.length + 1) c6)) lo hi (.slice av ds.length cv) ds) := Lib.hid ⟨lo, mid, by omega, (((HBL.out.by hbA).past hw6 (.inr (by omega))).own.past (Within.off _) (.inl (by omega)))⟩
      have HPO2 : Hid (∃ lo hi, w.heap.size < lo ∧ OwnPs (w6.setCell ⟨T, 2, none⟩ (.slice a6 (ps.length + 1) c6)) lo hi (.slice a6 (ps.length + 1) c6) (ps ++ [⟨⟨#[97]⟩, 0⟩])) := Lib.hid ⟨mid, w6.heap.size, by omega, by simpa using HB6.out.own.offN (o := 2) (v := .slice a6 (ps.length + 1) c6) k36⟩
      have HSM2 : Hid (Small ⟨N, ds, ps ++ [⟨⟨#[97]⟩, 0⟩]⟩) := Lib.hid ⟨HSM.out.1, HSM.out.2.1, HSM.out.2.2.1, by have := hpl; simp; omega, by
        intro e he
        rcases List.mem_append.1 he with h | h
        · exact HPO.out e h
        · obtain rfl := List.mem_singleton.1 h
          exact ⟨by show (⟨#[97]⟩ : ByteArray).size ≤ _; decide, by show Fits 0; exact ⟨by omega, by omega⟩⟩⟩
      replace HSM := HSM2
      clear HSM2 k36 f36 c36 l36 c3 l3
      generalize w6.setCell ⟨T, 2, none⟩ (.slice a6 (ps.length + 1) c6) = wE at *
      have cT := kE.cell
      have lT := kE.lt
      have kZE := HZE.out
      have cZ := kZE.cell
      have fZ := kZE.free
      have lZ := kZE.lt
      go_wp2
      refine bodyPost_ret (v := .agg #[.int .i64 N, .slice av ds.length cv, .slice a6 (ps.length + 1) c6]) (by simp [results, Tryz.results45, go_sem, *]) rfl ?_
      exact ⟨_, ⟨N, ds, ps ++ [⟨⟨#[97]⟩, 0⟩]⟩, rfl, Lib.hid (nlv_set3 _ _ _ HDO.out HPO2.out), HSM, Lib.hid (((HDE.out.apart (by omega) (by omega)).apart (by omega) (by omega)).apart (by omega) (by omega)), Lib.hid (((HWE.out.new _ _ _ (by omega)).new _ _ _ (by omega)).new _ _ _ (by omega))⟩
    · go_upto_region 23 with (refine list_pushP (by rfl) _ _ (by rfl) mid hi (.slice pa ps.length pc) ps (by rfl) (HPL.out.by (by ((repeat (first | (with_reducible exact Below.refl _ _) | (with_reducible refine below_drewN ?_ _) | (with_reducible refine Below.drew ?_) | (with_reducible refine below_al ?_ _) | (with_reducible refine below_on (by assumption) ?_) | ((with_reducible refine Below.setCell ?_ ?_ _); rotate_left; focus (first | omega | (simp; done) | (simp; omega))) | (with_reducible assumption))); done))) w5.heap.size ⟨⟨#[122, 122]⟩, N⟩ (by rfl) (Blk.new _ rfl) (by omega) (by omega) ?_; intro a6 c6 w6 hB6 hw6; have HB6 := Lib.hid hB6; have k36 := hw6.blk (k35.past (.cells #[.string ⟨#[122, 122]⟩, .int .i64 N] 65)) (by omega); have f36 := k36.free; have c36 := k36.cell; have l36 := k36.lt; clear hB6)
      have hbA : Below w5.heap.size w5 (w5.alloc (.cells #[.string ⟨#[122, 122]⟩, .int .i64 N] 65)) := (Below.refl _ w5).alloc (Nat.le_refl _) _
      have hsA := hbA.size
      have hs6 := hw6.size
      have kE : Blk (w6.setCell ⟨T, 2, none⟩ (.slice a6 (ps.length + 1) c6)) T #[.int .i64 N, .slice av ds.length cv, .slice a6 (ps.length + 1) c6] 27 := k36.set 2 _
      have HZE := Lib.hid ((hw6.blk (Blk.by hbA HZ.out) (by omega)).apart T 2 (.slice a6 (ps.length + 1) c6) (by omega))
      have HDE := Lib.hid ((Src1.within hw6 (HD5.out.by hbA) (by omega) (by omega)).apart (b := T) (o := 2) (v := .slice a6 (ps.length + 1) c6) (by omega) (by omega))
      have HWE := Lib.hid (((HW.out.alloc (.cells #[.string ⟨#[122, 122]⟩, .int .i64 N] 65)).newerM hw6 (by omega)).new T 2 (.slice a6 (ps.length + 1) c6) (by omega))
      have HDO : Hid (∃ lo hi, w.heap.size < lo ∧ OwnDs (w6.setCell ⟨T, 2, none⟩ (.slice a6 (ps.length + 1) c6)) lo hi (.slice av ds.length cv) ds) := Lib.hid ⟨lo, mid, by omega, (((HBL.out.by hbA).past hw6 (.inr (by omega))).own.past (Within.off _) (.inl (by omega)))⟩
      have HPO2 : Hid (∃ lo hi, w.heap.size < lo ∧ OwnPs (w6.setCell ⟨T, 2, none⟩ (.slice a6 (ps.length + 1) c6)) lo hi (.slice a6 (ps.length + 1) c6) (ps ++ [⟨⟨#[122, 122]⟩, N⟩])) := Lib.hid ⟨mid, w6.heap.size, by omega, by simpa using HB6.out.own.offN (o := 2) (v := .slice a6 (ps.length + 1) c6) k36⟩
      have HSM2 : Hid (Small ⟨N, ds, ps ++ [⟨⟨#[122, 122]⟩, N⟩]⟩) := Lib.hid ⟨HSM.out.1, HSM.out.2.1, HSM.out.2.2.1, by have := hpl; simp; omega, by
        intro e he
        rcases List.mem_append.1 he with h | h
        · exact HPO.out e h
        · obtain rfl := List.mem_singleton.1 h
          exact ⟨by show (⟨#[122, 122]⟩ : ByteArray).size ≤ _; decide, by show Fits N; exact ⟨by omega, by omega⟩⟩⟩
      replace HSM := HSM2
      clear HSM2 k36 f36 c36 l36 c3 l3
      generalize w6.setCell ⟨T, 2, none⟩ (.slice a6 (ps.length + 1) c6) = wE at *
      have cT := kE.cell
      have lT := kE.lt
      have kZE := HZE.out
      have cZ := kZE.cell
      have fZ := kZE.free
      have lZ := kZE.lt
      go_wp2
      refine bodyPost_ret (v := .agg #[.int .i64 N, .slice av ds.length cv, .slice a6 (ps.length + 1) c6]) (by simp [results, Tryz.results45, go_sem, *]) rfl ?_
      exact ⟨_, ⟨N, ds, ps ++ [⟨⟨#[122, 122]⟩, N⟩]⟩, rfl, Lib.hid (nlv_set3 _ _ _ HDO.out HPO2.out), HSM, Lib.hid (((HDE.out.apart (by omega) (by omega)).apart (by omega) (by omega)).apart (by omega) (by omega)), Lib.hid (((HWE.out.new _ _ _ (by omega)).new _ _ _ (by omega)).new _ _ _ (by omega))⟩
    · go_upto_region 23 with (refine list_pushD (by rfl) _ _ (by rfl) lo mid (.slice av ds.length cv) ds (by rfl) (HBL.out.by (by ((repeat (first | (with_reducible exact Below.refl _ _) | (with_reducible refine below_drewN ?_ _) | (with_reducible refine Below.drew ?_) | (with_reducible refine below_al ?_ _) | (with_reducible refine below_on (by assumption) ?_) | ((with_reducible refine Below.setCell ?_ ?_ _); rotate_left; focus (first | omega | (simp; done) | (simp; omega))) | (with_reducible assumption))); done))) (w5.heap.size + 1) ⟨2, [0, 0], 2, 2⟩ _ w5.heap.size (by first | rfl | (simp; done)) (Blk.new _ (by simp)) (BldI.lit (zs := [0, 0]) ((Blk.new _ rfl).past _) rfl (by simp) (Nat.le_refl _) (Nat.lt_succ_self _) (by simp)) (by omega) (by omega) (by simp; omega) (by omega) ?_; intro a6 c6 w6 hB6 hw6; have HB6 := Lib.hid hB6; have k36 := hw6.blk ((k35.past (.cells #[.int .i64 0, .int .i64 0] 2)).past (.cells #[.int .i64 2, .slice (some ⟨w5.heap.size, 0, none⟩) 2 2, .int .i64 2, .int .i64 2] 62)) (by omega); have f36 := k36.free; have c36 := k36.cell; have l36 := k36.lt; clear hB6)
      have hbA : Below w5.heap.size w5 ((w5.alloc (.cells #[.int .i64 0, .int .i64 0] 2)).alloc (.cells #[.int .i64 2, .slice (some ⟨w5.heap.size, 0, none⟩) 2 2, .int .i64 2, .int .i64 2] 62)) := ((Below.refl _ w5).alloc (Nat.le_refl _) _).alloc (by simp) _
      have hsA := hbA.size
      have hs6 := hw6.size
      have kE : Blk (w6.setCell ⟨T, 1, none⟩ (.slice a6 (ds.length + 1) c6)) T #[.int .i64 N, .slice a6 (ds.length + 1) c6, .slice pa ps.length pc] 27 := k36.set 1 _
      have HZE := Lib.hid ((hw6.blk (Blk.by hbA HZ.out) (by omega)).apart T 1 (.slice a6 (ds.length + 1) c6) (by omega))
      have HDE := Lib.hid ((Src1.within hw6 (HD5.out.by hbA) (by omega) (by omega)).apart (b := T) (o := 1) (v := .slice a6 (ds.length + 1) c6) (by omega) (by omega))
      have HWE := Lib.hid ((((HW.out.alloc (.cells #[.int .i64 0, .int .i64 0] 2)).alloc (.cells #[.int .i64 2, .slice (some ⟨w5.heap.size, 0, none⟩) 2 2, .int .i64 2, .int .i64 2] 62)).newerM hw6 (by omega)).new T 1 (.slice a6 (ds.length + 1) c6) (by omega))
      have HDO : Hid (∃ lo hi, w.heap.size < lo ∧ OwnDs (w6.setCell ⟨T, 1, none⟩ (.slice a6 (ds.length + 1) c6)) lo hi (.slice a6 (ds.length + 1) c6) (ds ++ [⟨2, [0, 0], 2, 2⟩])) := Lib.hid ⟨lo, w6.heap.size, by omega, by simpa using HB6.out.own.offN (o := 1) (v := .slice a6 (ds.length + 1) c6) k36⟩
      have HPO2 : Hid (∃ lo hi, w.heap.size < lo ∧ OwnPs (w6.setCell ⟨T, 1, none⟩ (.slice a6 (ds.length + 1) c6)) lo hi (.slice pa ps.length pc) ps) := Lib.hid ⟨mid, hi, by omega, (((HPL.out.by hbA).past hw6 (.inl (by omega))).own.past (Within.off _) (.inl (by omega)))⟩
      have HSM2 : Hid (Small ⟨N, ds ++ [⟨2, [0, 0], 2, 2⟩], ps⟩) := Lib.hid ⟨HSM.out.1, by simp; omega, by
        intro e he
        rcases List.mem_append.1 he with h | h
        · have := HDP.out e h; omega
        · obtain rfl := List.mem_singleton.1 h
          simp, HSM.out.2.2.2⟩
      replace HSM := HSM2
      clear HSM2 k36 f36 c36 l36 c3 l3
      generalize w6.setCell ⟨T, 1, none⟩ (.slice a6 (ds.length + 1) c6) = wE at *
      have cT := kE.cell
      have lT := kE.lt
      have kZE := HZE.out
      have cZ := kZE.cell
      have fZ := kZE.free
      have lZ := kZE.lt
      go_wp2
      refine bodyPost_ret (v := .agg #[.int .i64 N, .slice a6 (ds.length + 1) c6, .slice pa ps.length pc]) (by simp [results, Tryz.results45, go_sem, *]) rfl ?_
      exact ⟨_, ⟨N, ds ++ [⟨2, [0, 0], 2, 2⟩], ps⟩, rfl, Lib.hid (nlv_set3 _ _ _ HDO.out HPO2.out), HSM, Lib.hid (((HDE.out.apart (by omega) (by omega)).apart (by omega) (by omega)).apart (by omega) (by omega)), Lib.hid (((HWE.out.new _ _ _ (by omega)).new _ _ _ (by omega)).new _ _ _ (by omega))⟩
    · by_cases hdl : 0 < ds.length
      · have hdi : (0 : Int) < (ds.length : Int) := by omega
        have hql := hq hdl
        have hqi : (q : Int) < (ds.length : Int) := by omega
        have hqj : (0 : Int) ≤ (q : Int) := by omega
        obtain ⟨b, rfl, hb1, hb2⟩ := HBL.out.ad hdl
        obtain ⟨x, hx⟩ : ∃ x, ds[q]? = some x := ⟨ds[q]'(by omega), List.getElem?_eq_getElem _⟩
        go_upto_region 16 with fail
        go_region_law
          (go_simp; go_at_call 46; refine (HN.out _ _ (HD5.out.by (by ((repeat (first | (with_reducible exact Below.refl _ _) | (with_reducible refine below_drewN ?_ _) | (with_reducible refine Below.drew ?_) | (with_reducible refine below_al ?_ _) | (with_reducible refine below_on (by assumption) ?_) | ((with_reducible refine Below.setCell ?_ ?_ _); rotate_left; focus (first | omega | (simp; done) | (simp; omega))) | (with_reducible assumption))); done))) (by omega)).mono ?_; rintro e w6 ⟨z, rfl, hz0, hz1, hD6, ho6⟩; have HD6 := Lib.hid hD6; have hW6 := ho6.within; have hs6 := hW6.size; have hs6' : w5.heap.size ≤ w6.heap.size := (by simp at hs6 <;> omega); have k36 := hW6.blk (Blk.by (w := w5) (by ((repeat (first | (with_reducible exact Below.refl _ _) | (with_reducible refine below_drewN ?_ _) | (with_reducible refine Below.drew ?_) | (with_reducible refine below_al ?_ _) | (with_reducible refine below_on (by assumption) ?_) | ((with_reducible refine Below.setCell ?_ ?_ _); rotate_left; focus (first | omega | (simp; done) | (simp; omega))) | (with_reducible assumption))); done)) k35) (by omega); have c36 := k36.cell; have l36 := k36.lt; have HZ6 := Lib.hid (hW6.blk (Blk.by (w := w5) (by ((repeat (first | (with_reducible exact Below.refl _ _) | (with_reducible refine below_drewN ?_ _) | (with_reducible refine Below.drew ?_) | (with_reducible refine below_al ?_ _) | (with_reducible refine below_on (by assumption) ?_) | ((with_reducible refine Below.setCell ?_ ?_ _); rotate_left; focus (first | omega | (simp; done) | (simp; omega))) | (with_reducible assumption))); done)) HZ.out) (by omega)); have HBL6 := Lib.hid ((HBL.out.by (w := w5) (by ((repeat (first | (with_reducible exact Below.refl _ _) | (with_reducible refine below_drewN ?_ _) | (with_reducible refine Below.drew ?_) | (with_reducible refine below_al ?_ _) | (with_reducible refine below_on (by assumption) ?_) | ((with_reducible refine Below.setCell ?_ ?_ _); rotate_left; focus (first | omega | (simp; done) | (simp; omega))) | (with_reducible assumption))); done))).only ho6 (by omega)); have HPL6 := Lib.hid ((HPL.out.by (w := w5) (by ((repeat (first | (with_reducible exact Below.refl _ _) | (with_reducible refine below_drewN ?_ _) | (with_reducible refine Below.drew ?_) | (with_reducible refine below_al ?_ _) | (with_reducible refine below_on (by assumption) ?_) | ((with_reducible refine Below.setCell ?_ ?_ _); rotate_left; focus (first | omega | (simp; done) | (simp; omega))) | (with_reducible assumption))); done))).only ho6 (by omega)); (obtain ⟨sx, e1, e2, e3, e4, hSx⟩ := HBL6.out.at q x hx); have fr := HBL6.out.fr hdl; have lX := lt_of_cell e1; (obtain ⟨Z, rfl⟩ : ∃ Z : Nat, z = Z := ⟨z.toNat, by omega⟩); have hZi : (Z : Int) < 3 := (by omega); have hZj : (0 : Int) ≤ (Z : Int) := (by omega); (obtain ⟨u, hu⟩ : ∃ u : Int, (#[.int .i64 0, .int .i64 1000000, .int .i64 1000001] : Array Value)[Z]? = some (.int .i64 u) := (by rcases (by omega : Z = 0 ∨ Z = 1 ∨ Z = 2) with rfl | rfl | rfl <;> exact ⟨_, rfl⟩)); (try (refine with_fact (p := Blk w6 w5.heap.size #[.int .i64 0, .int .i64 1000000, .int .i64 1000001] 2) (hW6.blk ?_ (by omega)) ?_; (focus ((repeat (first | (with_reducible assumption) | (with_reducible refine Blk.drewN ?_ _) | (with_reducible refine Blk.drew ?_) | ((with_reducible refine Blk.new _ ?_); focus (first | omega | (simp; done) | (simp; omega))) | (with_reducible refine Blk.past ?_ _) | ((with_reducible refine Blk.apart ?_ _ _ _ ?_); rotate_left; focus (first | omega | (simp; done) | (simp; omega))) | (with_reducible refine Blk.by (by assumption) ?_))); done)); intro kL6; have hu' : w6.cell? ⟨w5.heap.size, Z, none⟩ = some (.int .i64 u) := (by rw [kL6.cell]; exact hu); have lu := kL6.lt)); have HW6 := Lib.hid (HW.out.on (Within.onB g (g + 1) (by ((repeat (first | (with_reducible exact Below.refl _ _) | (with_reducible refine below_drewN ?_ _) | (with_reducible refine Below.drew ?_) | (with_reducible refine below_al ?_ _) | (with_reducible refine below_on (by assumption) ?_) | ((with_reducible refine Below.setCell ?_ ?_ _); rotate_left; focus (first | omega | (simp; done) | (simp; omega))) | (with_reducible assumption))); done)) hW6)); clear hW6 ho6 hD6; dsimp only at lX ⊢)
        all_goals
          go_upto_region 23 with fail
          first
            | (
               with_reducible refine atWorld (w6.setCell ⟨b, q * 4 + 2, none⟩ (.int .i64 u)) ?_
               have kE : Blk (w6.setCell ⟨b, q * 4 + 2, none⟩ (.int .i64 u)) T #[.int .i64 N, .slice (some ⟨b, 0, none⟩) ds.length cv, .slice pa ps.length pc] 27 := k36.apart b _ _ (by omega)
               have HZE : Hid (Blk (w6.setCell ⟨b, q * 4 + 2, none⟩ (.int .i64 u)) w.heap.size #[.int .i64 0, .slice none 0 0, .slice none 0 0] 27) := Lib.hid (HZ6.out.apart b _ _ (by omega))
               have HDE : Hid (Src1 W0 g sv n (w6.setCell ⟨b, q * 4 + 2, none⟩ (.int .i64 u))) := Lib.hid (HD6.out.apart (b := b) (by omega) (by omega))
               have HWE : Hid (Within g (g + 1) w (w6.setCell ⟨b, q * 4 + 2, none⟩ (.int .i64 u))) := Lib.hid (HW6.out.new b _ _ (by omega))
               have HDO : Hid (∃ lo hi, w.heap.size < lo ∧ OwnDs (w6.setCell ⟨b, q * 4 + 2, none⟩ (.int .i64 u)) lo hi (.slice (some ⟨b, 0, none⟩) ds.length cv) (ds.set q ⟨x.kind, x.pins, u, x.len⟩)) := Lib.hid ⟨lo, mid, by omega, by simpa using (HBL6.out.own.setNum q x hx 2 (u) ⟨x.kind, x.pins, u, x.len⟩ (by simp))⟩
               have HPO2 : Hid (∃ lo hi, w.heap.size < lo ∧ OwnPs (w6.setCell ⟨b, q * 4 + 2, none⟩ (.int .i64 u)) lo hi (.slice pa ps.length pc) ps) := Lib.hid ⟨mid, hi, by omega, HPL6.out.own.past (Within.off _) (.inr (by omega))⟩
               have HSM2 : Hid (Small ⟨N, ds.set q ⟨x.kind, x.pins, u, x.len⟩, ps⟩) := Lib.hid ⟨HSM.out.1, by simp; omega, by
                 intro e he
                 rcases List.mem_or_eq_of_mem_set he with h | rfl
                 · have := HDP.out e h; omega
                 · have := HDP.out x (List.mem_of_getElem? hx); show 1 ≤ x.pins.length ∧ x.pins.length ≤ 100; omega, HSM.out.2.2.2⟩
               replace HSM := HSM2
               clear HSM2 k36 c36 l36 c3 l3 e1 e2 e3 e4 hSx fr hx
               generalize (w6.setCell ⟨b, q * 4 + 2, none⟩ (.int .i64 u)) = wE at *
               have cT := kE.cell
               have lT := kE.lt
               have kZE := HZE.out
               have cZ := kZE.cell
               have fZ := kZE.free
               have lZ := kZE.lt
               go_wp2
               refine bodyPost_ret (v := .agg #[.int .i64 N, .slice (some ⟨b, 0, none⟩) ds.length cv, .slice pa ps.length pc]) (by simp [results, Tryz.results45, go_sem, *]) rfl ?_
               exact ⟨_, ⟨N, ds.set q ⟨x.kind, x.pins, u, x.len⟩, ps⟩, rfl, Lib.hid (nlv_set3 _ _ _ HDO.out HPO2.out), HSM, Lib.hid (((HDE.out.apart (by omega) (by omega)).apart (by omega) (by omega)).apart (by omega) (by omega)), Lib.hid (((HWE.out.new _ _ _ (by omega)).new _ _ _ (by omega)).new _ _ _ (by omega))⟩
              )
            | (
               with_reducible refine atWorld ((w6.setCell ⟨b, q * 4 + 2, none⟩ (.int .i64 u)).alloc (.cells #[.int .i64 0, .int .i64 1000000, .int .i64 1000001] 2)) ?_
               have kE : Blk ((w6.setCell ⟨b, q * 4 + 2, none⟩ (.int .i64 u)).alloc (.cells #[.int .i64 0, .int .i64 1000000, .int .i64 1000001] 2)) T #[.int .i64 N, .slice (some ⟨b, 0, none⟩) ds.length cv, .slice pa ps.length pc] 27 := (k36.apart b _ _ (by omega)).past _
               have HZE : Hid (Blk ((w6.setCell ⟨b, q * 4 + 2, none⟩ (.int .i64 u)).alloc (.cells #[.int .i64 0, .int .i64 1000000, .int .i64 1000001] 2)) w.heap.size #[.int .i64 0, .slice none 0 0, .slice none 0 0] 27) := Lib.hid ((HZ6.out.apart b _ _ (by omega)).past _)
               have HDE : Hid (Src1 W0 g sv n ((w6.setCell ⟨b, q * 4 + 2, none⟩ (.int .i64 u)).alloc (.cells #[.int .i64 0, .int .i64 1000000, .int .i64 1000001] 2))) := Lib.hid ((HD6.out.apart (b := b) (by omega) (by omega)).by ((Below.refl _ _).alloc (Nat.le_refl _) _))
               have HWE : Hid (Within g (g + 1) w ((w6.setCell ⟨b, q * 4 + 2, none⟩ (.int .i64 u)).alloc (.cells #[.int .i64 0, .int .i64 1000000, .int .i64 1000001] 2))) := Lib.hid ((HW6.out.new b _ _ (by omega)).alloc _)
               have HDO : Hid (∃ lo hi, w.heap.size < lo ∧ OwnDs ((w6.setCell ⟨b, q * 4 + 2, none⟩ (.int .i64 u)).alloc (.cells #[.int .i64 0, .int .i64 1000000, .int .i64 1000001] 2)) lo hi (.slice (some ⟨b, 0, none⟩) ds.length cv) (ds.set q ⟨x.kind, x.pins, u, x.len⟩)) := Lib.hid ⟨lo, mid, by omega, OwnDs.by ((Below.refl _ _).alloc (Nat.le_refl _) _) (by simpa using (HBL6.out.own.setNum q x hx 2 (u) ⟨x.kind, x.pins, u, x.len⟩ (by simp)))⟩
               have HPO2 : Hid (∃ lo hi, w.heap.size < lo ∧ OwnPs ((w6.setCell ⟨b, q * 4 + 2, none⟩ (.int .i64 u)).alloc (.cells #[.int .i64 0, .int .i64 1000000, .int .i64 1000001] 2)) lo hi (.slice pa ps.length pc) ps) := Lib.hid ⟨mid, hi, by omega, OwnPs.by ((Below.refl _ _).alloc (Nat.le_refl _) _) (HPL6.out.own.past (Within.off _) (.inr (by omega)))⟩
               have HSM2 : Hid (Small ⟨N, ds.set q ⟨x.kind, x.pins, u, x.len⟩, ps⟩) := Lib.hid ⟨HSM.out.1, by simp; omega, by
                 intro e he
                 rcases List.mem_or_eq_of_mem_set he with h | rfl
                 · have := HDP.out e h; omega
                 · have := HDP.out x (List.mem_of_getElem? hx); show 1 ≤ x.pins.length ∧ x.pins.length ≤ 100; omega, HSM.out.2.2.2⟩
               replace HSM := HSM2
               clear HSM2 k36 c36 l36 c3 l3 e1 e2 e3 e4 hSx fr hx
               generalize ((w6.setCell ⟨b, q * 4 + 2, none⟩ (.int .i64 u)).alloc (.cells #[.int .i64 0, .int .i64 1000000, .int .i64 1000001] 2)) = wE at *
               have cT := kE.cell
               have lT := kE.lt
               have kZE := HZE.out
               have cZ := kZE.cell
               have fZ := kZE.free
               have lZ := kZE.lt
               go_wp2
               refine bodyPost_ret (v := .agg #[.int .i64 N, .slice (some ⟨b, 0, none⟩) ds.length cv, .slice pa ps.length pc]) (by simp [results, Tryz.results45, go_sem, *]) rfl ?_
               exact ⟨_, ⟨N, ds.set q ⟨x.kind, x.pins, u, x.len⟩, ps⟩, rfl, Lib.hid (nlv_set3 _ _ _ HDO.out HPO2.out), HSM, Lib.hid (((HDE.out.apart (by omega) (by omega)).apart (by omega) (by omega)).apart (by omega) (by omega)), Lib.hid (((HWE.out.new _ _ _ (by omega)).new _ _ _ (by omega)).new _ _ _ (by omega))⟩
              )
      · have HDO : Hid (∃ lo hi, w.heap.size < lo ∧ OwnDs w5 lo hi (.slice av ds.length cv) ds) := Lib.hid ⟨lo, mid, by omega, HBL.out.own⟩
        have HPO2 : Hid (∃ lo hi, w.heap.size < lo ∧ OwnPs w5 lo hi (.slice pa ps.length pc) ps) := Lib.hid ⟨mid, hi, by omega, HPL.out.own⟩
        have kE := k35
        have HZE := HZ
        have HDE := HD5
        have HWE := HW
        have hdi : ¬ (0 : Int) < (ds.length : Int) := by omega
        have cT := kE.cell
        have lT := kE.lt
        have kZE := HZE.out
        have cZ := kZE.cell
        have fZ := kZE.free
        have lZ := kZE.lt
        go_wp2
        refine bodyPost_ret (v := .agg #[.int .i64 N, .slice av ds.length cv, .slice pa ps.length pc]) (by simp [results, Tryz.results45, go_sem, *]) rfl ?_
        exact ⟨_, ⟨N, ds, ps⟩, rfl, Lib.hid (nlv_set3 _ _ _ HDO.out HPO2.out), HSM, Lib.hid (((HDE.out.apart (by omega) (by omega)).apart (by omega) (by omega)).apart (by omega) (by omega)), Lib.hid (((HWE.out.new _ _ _ (by omega)).new _ _ _ (by omega)).new _ _ _ (by omega))⟩
    · by_cases hdl : 0 < ds.length
      · have hdi : (0 : Int) < (ds.length : Int) := by omega
        have hql := hq hdl
        have hqi : (q : Int) < (ds.length : Int) := by omega
        have hqj : (0 : Int) ≤ (q : Int) := by omega
        obtain ⟨b, rfl, hb1, hb2⟩ := HBL.out.ad hdl
        obtain ⟨x, hx⟩ : ∃ x, ds[q]? = some x := ⟨ds[q]'(by omega), List.getElem?_eq_getElem _⟩
        obtain ⟨f, pv, hBf, ep, hf12, hfb, HK⟩ := HBL.out.pinsAt q x hx
        obtain ⟨ap, cp, rfl⟩ := hBf.sized
        obtain ⟨cs, hBb⟩ := HBL.out.blkB hdl
        have HBF := Lib.hid hBf
        have HKK := Lib.hid HK
        have HBB := Lib.hid hBb
        have lb := lt_of_cell ep
        dsimp only at lb
        have hxp := HDP.out x (List.mem_of_getElem? hx)
        clear hBf HK hBb
        go_upto_region 19 with fail
        go_region_law
          (refine step_pushOne (by rfl) _ _ (by rfl) f _ x.pins [0] (by rfl) (HBF.out.by (w := w5) (by ((repeat (first | (with_reducible exact Below.refl _ _) | (with_reducible refine below_drewN ?_ _) | (with_reducible refine Below.drew ?_) | (with_reducible refine below_al ?_ _) | (with_reducible refine below_on (by assumption) ?_) | ((with_reducible refine Below.setCell ?_ ?_ _); rotate_left; focus (first | omega | (simp; done) | (simp; omega))) | (with_reducible assumption))); done))) w5.heap.size 1 #[.int .i64 0] (by rfl) (by rfl) (by omega) (by ((repeat (first | (with_reducible assumption) | (with_reducible refine Blk.drewN ?_ _) | (with_reducible refine Blk.drew ?_) | ((with_reducible refine Blk.new _ ?_); focus (first | omega | (simp; done) | (simp; omega))) | (with_reducible refine Blk.past ?_ _) | ((with_reducible refine Blk.apart ?_ _ _ _ ?_); rotate_left; focus (first | omega | (simp; done) | (simp; omega))) | (with_reducible refine Blk.by (by assumption) ?_))); done)) (by rfl) (by omega) ?_; intro a6 c6 w6 f2 hB6 hf6 hw6; have hB6' := Lib.hid hB6; have hs6 := hw6.size; have hs6' : w5.heap.size ≤ w6.heap.size := (by simp at hs6 <;> omega); have hf6' : f2 = f ∨ w5.heap.size ≤ f2 := (by simp at hf6 <;> omega); have k36 := hw6.blk (Blk.by (w := w5) (by ((repeat (first | (with_reducible exact Below.refl _ _) | (with_reducible refine below_drewN ?_ _) | (with_reducible refine Below.drew ?_) | (with_reducible refine below_al ?_ _) | (with_reducible refine below_on (by assumption) ?_) | ((with_reducible refine Below.setCell ?_ ?_ _); rotate_left; focus (first | omega | (simp; done) | (simp; omega))) | (with_reducible assumption))); done)) k35) (by omega); have c36 := k36.cell; have l36 := k36.lt; have kb6 := hw6.blk (Blk.by (w := w5) (by ((repeat (first | (with_reducible exact Below.refl _ _) | (with_reducible refine below_drewN ?_ _) | (with_reducible refine Below.drew ?_) | (with_reducible refine below_al ?_ _) | (with_reducible refine below_on (by assumption) ?_) | ((with_reducible refine Below.setCell ?_ ?_ _); rotate_left; focus (first | omega | (simp; done) | (simp; omega))) | (with_reducible assumption))); done)) HBB.out) (by omega); have fb6 := kb6.free; have eb6 : w6.cell? ⟨b, q * 4 + 1, none⟩ = some (.slice ap x.pins.length cp) := (by rw [kb6.cell]; rw [HBB.out.cell] at ep; exact ep); have lb6 := kb6.lt; have HZ6 := Lib.hid (hw6.blk (Blk.by (w := w5) (by ((repeat (first | (with_reducible exact Below.refl _ _) | (with_reducible refine below_drewN ?_ _) | (with_reducible refine Below.drew ?_) | (with_reducible refine below_al ?_ _) | (with_reducible refine below_on (by assumption) ?_) | ((with_reducible refine Below.setCell ?_ ?_ _); rotate_left; focus (first | omega | (simp; done) | (simp; omega))) | (with_reducible assumption))); done)) HZ.out) (by omega)); have HPL6 := Lib.hid (BldP.past hw6 (HPL.out.by (w := w5) (by ((repeat (first | (with_reducible exact Below.refl _ _) | (with_reducible refine below_drewN ?_ _) | (with_reducible refine Below.drew ?_) | (with_reducible refine below_al ?_ _) | (with_reducible refine below_on (by assumption) ?_) | ((with_reducible refine Below.setCell ?_ ?_ _); rotate_left; focus (first | omega | (simp; done) | (simp; omega))) | (with_reducible assumption))); done))) (.inl (by omega))); have HD6 := Lib.hid (Src1.within hw6 (HD5.out.by (w := w5) (by ((repeat (first | (with_reducible exact Below.refl _ _) | (with_reducible refine below_drewN ?_ _) | (with_reducible refine Below.drew ?_) | (with_reducible refine below_al ?_ _) | (with_reducible refine below_on (by assumption) ?_) | ((with_reducible refine Below.setCell ?_ ?_ _); rotate_left; focus (first | omega | (simp; done) | (simp; omega))) | (with_reducible assumption))); done))) (by omega) (by omega)); have HWo := Lib.hid (Within.onB f (f + 1) (a := w5) (by ((repeat (first | (with_reducible exact Below.refl _ _) | (with_reducible refine below_drewN ?_ _) | (with_reducible refine Below.drew ?_) | (with_reducible refine below_al ?_ _) | (with_reducible refine below_on (by assumption) ?_) | ((with_reducible refine Below.setCell ?_ ?_ _); rotate_left; focus (first | omega | (simp; done) | (simp; omega))) | (with_reducible assumption))); done)) hw6); clear hB6 hw6)
        all_goals
          go_upto_region 23 with fail
          have kE : Blk (w6.setCell ⟨b, q * 4 + 1, none⟩ (.slice a6 (x.pins.length + 1) c6)) T #[.int .i64 N, .slice (some ⟨b, 0, none⟩) ds.length cv, .slice pa ps.length pc] 27 := k36.apart b _ _ (by omega)
          have HZE : Hid (Blk (w6.setCell ⟨b, q * 4 + 1, none⟩ (.slice a6 (x.pins.length + 1) c6)) w.heap.size #[.int .i64 0, .slice none 0 0, .slice none 0 0] 27) := Lib.hid (HZ6.out.apart b _ _ (by omega))
          have HDE : Hid (Src1 W0 g sv n (w6.setCell ⟨b, q * 4 + 1, none⟩ (.slice a6 (x.pins.length + 1) c6))) := Lib.hid (HD6.out.apart (b := b) (by omega) (by omega))
          have HWE : Hid (Within g (g + 1) w (w6.setCell ⟨b, q * 4 + 1, none⟩ (.slice a6 (x.pins.length + 1) c6))) := Lib.hid ((HW.out.newerM HWo.out (by omega)).new b _ _ (by omega))
          have hl2 := hB6'.out.1
          have HDO : Hid (∃ lo hi, w.heap.size < lo ∧ OwnDs (w6.setCell ⟨b, q * 4 + 1, none⟩ (.slice a6 (x.pins.length + 1) c6)) lo hi (.slice (some ⟨b, 0, none⟩) ds.length cv) (ds.set q ⟨x.kind, x.pins ++ [0], x.wd, x.len⟩)) := Lib.hid ⟨lo, w6.heap.size, by omega, HKK.out w6 _ (x.pins ++ [0]) f2 w6.heap.size HWo.out (by omega) (by omega) (by omega) (by simpa using hB6'.out.own)⟩
          have HPO2 : Hid (∃ lo hi, w.heap.size < lo ∧ OwnPs (w6.setCell ⟨b, q * 4 + 1, none⟩ (.slice a6 (x.pins.length + 1) c6)) lo hi (.slice pa ps.length pc) ps) := Lib.hid ⟨mid, hi, by omega, HPL6.out.own.past (Within.off _) (.inr (by omega))⟩
          have HSM2 : Hid (Small ⟨N, ds.set q ⟨x.kind, x.pins ++ [0], x.wd, x.len⟩, ps⟩) := Lib.hid ⟨HSM.out.1, by simp; omega, by
            intro e he
            rcases List.mem_or_eq_of_mem_set he with h | rfl
            · have := HDP.out e h; omega
            · simp; omega, HSM.out.2.2.2⟩
          replace HSM := HSM2
          clear HSM2 k36 c36 l36 c3 l3 ep hx eb6 fb6 kb6
          generalize (w6.setCell ⟨b, q * 4 + 1, none⟩ (.slice a6 (x.pins.length + 1) c6)) = wE at *
          have cT := kE.cell
          have lT := kE.lt
          have kZE := HZE.out
          have cZ := kZE.cell
          have fZ := kZE.free
          have lZ := kZE.lt
          go_wp2
          refine bodyPost_ret (v := .agg #[.int .i64 N, .slice (some ⟨b, 0, none⟩) ds.length cv, .slice pa ps.length pc]) (by simp [results, Tryz.results45, go_sem, *]) rfl ?_
          exact ⟨_, ⟨N, ds.set q ⟨x.kind, x.pins ++ [0], x.wd, x.len⟩, ps⟩, rfl, Lib.hid (nlv_set3 _ _ _ HDO.out HPO2.out), HSM, Lib.hid (((HDE.out.apart (by omega) (by omega)).apart (by omega) (by omega)).apart (by omega) (by omega)), Lib.hid (((HWE.out.new _ _ _ (by omega)).new _ _ _ (by omega)).new _ _ _ (by omega))⟩
      · have HDO : Hid (∃ lo hi, w.heap.size < lo ∧ OwnDs w5 lo hi (.slice av ds.length cv) ds) := Lib.hid ⟨lo, mid, by omega, HBL.out.own⟩
        have HPO2 : Hid (∃ lo hi, w.heap.size < lo ∧ OwnPs w5 lo hi (.slice pa ps.length pc) ps) := Lib.hid ⟨mid, hi, by omega, HPL.out.own⟩
        have kE := k35
        have HZE := HZ
        have HDE := HD5
        have HWE := HW
        have hdi : ¬ (0 : Int) < (ds.length : Int) := by omega
        have cT := kE.cell
        have lT := kE.lt
        have kZE := HZE.out
        have cZ := kZE.cell
        have fZ := kZE.free
        have lZ := kZE.lt
        go_wp2
        refine bodyPost_ret (v := .agg #[.int .i64 N, .slice av ds.length cv, .slice pa ps.length pc]) (by simp [results, Tryz.results45, go_sem, *]) rfl ?_
        exact ⟨_, ⟨N, ds, ps⟩, rfl, Lib.hid (nlv_set3 _ _ _ HDO.out HPO2.out), HSM, Lib.hid (((HDE.out.apart (by omega) (by omega)).apart (by omega) (by omega)).apart (by omega) (by omega)), Lib.hid (((HWE.out.new _ _ _ (by omega)).new _ _ _ (by omega)).new _ _ _ (by omega))⟩
    · by_cases hdl : 0 < ds.length
      · have hdi : (0 : Int) < (ds.length : Int) := by omega
        have hql := hq hdl
        have hqi : (q : Int) < (ds.length : Int) := by omega
        have hqj : (0 : Int) ≤ (q : Int) := by omega
        obtain ⟨b, rfl, hb1, hb2⟩ := HBL.out.ad hdl
        obtain ⟨x, hx⟩ : ∃ x, ds[q]? = some x := ⟨ds[q]'(by omega), List.getElem?_eq_getElem _⟩
        go_upto_region 22 with fail
        go_region_law
          (go_simp; go_at_call 46; refine (HN.out _ _ (HD5.out.by (by ((repeat (first | (with_reducible exact Below.refl _ _) | (with_reducible refine below_drewN ?_ _) | (with_reducible refine Below.drew ?_) | (with_reducible refine below_al ?_ _) | (with_reducible refine below_on (by assumption) ?_) | ((with_reducible refine Below.setCell ?_ ?_ _); rotate_left; focus (first | omega | (simp; done) | (simp; omega))) | (with_reducible assumption))); done))) (by omega)).mono ?_; rintro e w6 ⟨z, rfl, hz0, hz1, hD6, ho6⟩; have HD6 := Lib.hid hD6; have hW6 := ho6.within; have hs6 := hW6.size; have hs6' : w5.heap.size ≤ w6.heap.size := (by simp at hs6 <;> omega); have k36 := hW6.blk (Blk.by (w := w5) (by ((repeat (first | (with_reducible exact Below.refl _ _) | (with_reducible refine below_drewN ?_ _) | (with_reducible refine Below.drew ?_) | (with_reducible refine below_al ?_ _) | (with_reducible refine below_on (by assumption) ?_) | ((with_reducible refine Below.setCell ?_ ?_ _); rotate_left; focus (first | omega | (simp; done) | (simp; omega))) | (with_reducible assumption))); done)) k35) (by omega); have c36 := k36.cell; have l36 := k36.lt; have HZ6 := Lib.hid (hW6.blk (Blk.by (w := w5) (by ((repeat (first | (with_reducible exact Below.refl _ _) | (with_reducible refine below_drewN ?_ _) | (with_reducible refine Below.drew ?_) | (with_reducible refine below_al ?_ _) | (with_reducible refine below_on (by assumption) ?_) | ((with_reducible refine Below.setCell ?_ ?_ _); rotate_left; focus (first | omega | (simp; done) | (simp; omega))) | (with_reducible assumption))); done)) HZ.out) (by omega)); have HBL6 := Lib.hid ((HBL.out.by (w := w5) (by ((repeat (first | (with_reducible exact Below.refl _ _) | (with_reducible refine below_drewN ?_ _) | (with_reducible refine Below.drew ?_) | (with_reducible refine below_al ?_ _) | (with_reducible refine below_on (by assumption) ?_) | ((with_reducible refine Below.setCell ?_ ?_ _); rotate_left; focus (first | omega | (simp; done) | (simp; omega))) | (with_reducible assumption))); done))).only ho6 (by omega)); have HPL6 := Lib.hid ((HPL.out.by (w := w5) (by ((repeat (first | (with_reducible exact Below.refl _ _) | (with_reducible refine below_drewN ?_ _) | (with_reducible refine Below.drew ?_) | (with_reducible refine below_al ?_ _) | (with_reducible refine below_on (by assumption) ?_) | ((with_reducible refine Below.setCell ?_ ?_ _); rotate_left; focus (first | omega | (simp; done) | (simp; omega))) | (with_reducible assumption))); done))).only ho6 (by omega)); (obtain ⟨sx, e1, e2, e3, e4, hSx⟩ := HBL6.out.at q x hx); have fr := HBL6.out.fr hdl; have lX := lt_of_cell e1; have wz : IntKind.i64.wrap (4 * z) = 4 * z := (by simp [IntKind.wrap, IntKind.bits, IntKind.signed]; omega); have wz2 : IntKind.i64.wrap (3 - 4 * z) = 3 - 4 * z := (by simp [IntKind.wrap, IntKind.bits, IntKind.signed]; omega); have HW6 := Lib.hid (HW.out.on (Within.onB g (g + 1) (by ((repeat (first | (with_reducible exact Below.refl _ _) | (with_reducible refine below_drewN ?_ _) | (with_reducible refine Below.drew ?_) | (with_reducible refine below_al ?_ _) | (with_reducible refine below_on (by assumption) ?_) | ((with_reducible refine Below.setCell ?_ ?_ _); rotate_left; focus (first | omega | (simp; done) | (simp; omega))) | (with_reducible assumption))); done)) hW6)); clear hW6 ho6 hD6; dsimp only at lX ⊢)
        all_goals
          go_upto_region 23 with fail
          with_reducible refine atWorld (w6.setCell ⟨b, q * 4, none⟩ (.int .i64 (3 - 4 * z))) ?_
          have kE : Blk (w6.setCell ⟨b, q * 4, none⟩ (.int .i64 (3 - 4 * z))) T #[.int .i64 N, .slice (some ⟨b, 0, none⟩) ds.length cv, .slice pa ps.length pc] 27 := k36.apart b _ _ (by omega)
          have HZE : Hid (Blk (w6.setCell ⟨b, q * 4, none⟩ (.int .i64 (3 - 4 * z))) w.heap.size #[.int .i64 0, .slice none 0 0, .slice none 0 0] 27) := Lib.hid (HZ6.out.apart b _ _ (by omega))
          have HDE : Hid (Src1 W0 g sv n (w6.setCell ⟨b, q * 4, none⟩ (.int .i64 (3 - 4 * z)))) := Lib.hid (HD6.out.apart (b := b) (by omega) (by omega))
          have HWE : Hid (Within g (g + 1) w (w6.setCell ⟨b, q * 4, none⟩ (.int .i64 (3 - 4 * z)))) := Lib.hid (HW6.out.new b _ _ (by omega))
          have HDO : Hid (∃ lo hi, w.heap.size < lo ∧ OwnDs (w6.setCell ⟨b, q * 4, none⟩ (.int .i64 (3 - 4 * z))) lo hi (.slice (some ⟨b, 0, none⟩) ds.length cv) (ds.set q ⟨3 - 4 * z, x.pins, x.wd, x.len⟩)) := Lib.hid ⟨lo, mid, by omega, by simpa using (HBL6.out.own.setNum q x hx 0 ((3 - 4 * z)) ⟨3 - 4 * z, x.pins, x.wd, x.len⟩ (by simp))⟩
          have HPO2 : Hid (∃ lo hi, w.heap.size < lo ∧ OwnPs (w6.setCell ⟨b, q * 4, none⟩ (.int .i64 (3 - 4 * z))) lo hi (.slice pa ps.length pc) ps) := Lib.hid ⟨mid, hi, by omega, HPL6.out.own.past (Within.off _) (.inr (by omega))⟩
          have HSM2 : Hid (Small ⟨N, ds.set q ⟨3 - 4 * z, x.pins, x.wd, x.len⟩, ps⟩) := Lib.hid ⟨HSM.out.1, by simp; omega, by
            intro e he
            rcases List.mem_or_eq_of_mem_set he with h | rfl
            · have := HDP.out e h; omega
            · have := HDP.out x (List.mem_of_getElem? hx); show 1 ≤ x.pins.length ∧ x.pins.length ≤ 100; omega, HSM.out.2.2.2⟩
          replace HSM := HSM2
          clear HSM2 k36 c36 l36 c3 l3 e1 e2 e3 e4 hSx fr hx
          generalize (w6.setCell ⟨b, q * 4, none⟩ (.int .i64 (3 - 4 * z))) = wE at *
          have cT := kE.cell
          have lT := kE.lt
          have kZE := HZE.out
          have cZ := kZE.cell
          have fZ := kZE.free
          have lZ := kZE.lt
          go_wp2
          refine bodyPost_ret (v := .agg #[.int .i64 N, .slice (some ⟨b, 0, none⟩) ds.length cv, .slice pa ps.length pc]) (by simp [results, Tryz.results45, go_sem, *]) rfl ?_
          exact ⟨_, ⟨N, ds.set q ⟨3 - 4 * z, x.pins, x.wd, x.len⟩, ps⟩, rfl, Lib.hid (nlv_set3 _ _ _ HDO.out HPO2.out), HSM, Lib.hid (((HDE.out.apart (by omega) (by omega)).apart (by omega) (by omega)).apart (by omega) (by omega)), Lib.hid (((HWE.out.new _ _ _ (by omega)).new _ _ _ (by omega)).new _ _ _ (by omega))⟩
      · have HDO : Hid (∃ lo hi, w.heap.size < lo ∧ OwnDs w5 lo hi (.slice av ds.length cv) ds) := Lib.hid ⟨lo, mid, by omega, HBL.out.own⟩
        have HPO2 : Hid (∃ lo hi, w.heap.size < lo ∧ OwnPs w5 lo hi (.slice pa ps.length pc) ps) := Lib.hid ⟨mid, hi, by omega, HPL.out.own⟩
        have kE := k35
        have HZE := HZ
        have HDE := HD5
        have HWE := HW
        have hdi : ¬ (0 : Int) < (ds.length : Int) := by omega
        have cT := kE.cell
        have lT := kE.lt
        have kZE := HZE.out
        have cZ := kZE.cell
        have fZ := kZE.free
        have lZ := kZE.lt
        go_wp2
        refine bodyPost_ret (v := .agg #[.int .i64 N, .slice av ds.length cv, .slice pa ps.length pc]) (by simp [results, Tryz.results45, go_sem, *]) rfl ?_
        exact ⟨_, ⟨N, ds, ps⟩, rfl, Lib.hid (nlv_set3 _ _ _ HDO.out HPO2.out), HSM, Lib.hid (((HDE.out.apart (by omega) (by omega)).apart (by omega) (by omega)).apart (by omega) (by omega)), Lib.hid (((HWE.out.new _ _ _ (by omega)).new _ _ _ (by omega)).new _ _ _ (by omega))⟩
end Go.Proofs.YtpaiiaajbojmnaaGreat

/- The draw of a netlist, often a ring of resistors. -/
namespace Go.Proofs.YtpaiiaajbojmnaaGreat
open Go.RowKit
set_option linter.unusedVariables false
set_option linter.unusedSimpArgs false

theorem Only.within9 {g : Nat} {w w' : World} (h : Only g w w') : Within g (g + 1) w w' := ⟨h.os, h.tape, h.output, Nat.le_of_eq h.size.symm, fun k _ hne => h.block k (by omega)⟩
/-- What stands while the netlist is drawn. -/
structure L9 (W0 : World) (g : Nat) (sv : Value) (n : Nat) (w : World) (T : Nat) (N : Int) (s1 s2 : Value) (ds : List Dv) (ps : List Pt) (wx : World) : Prop where
  src : Src1 W0 g sv n wx
  t : Blk wx T #[.int .i64 N, s1, s2] 27
  r : Blk wx w.heap.size #[.int .i64 0, .slice none 0 0, .slice none 0 0] 27
  ds : ∃ lo hi, w.heap.size < lo ∧ OwnDs wx lo hi s1 ds
  ps : ∃ lo hi, w.heap.size < lo ∧ OwnPs wx lo hi s2 ps
  wi : Within g (g + 1) w wx
theorem L9.only {W0 w wx wy : World} {g n T : Nat} {sv s1 s2 : Value} {N : Int} {ds : List Dv} {ps : List Pt} (h : L9 W0 g sv n w T N s1 s2 ds ps wx) (ho : Only g wx wy) (hD : Src1 W0 g sv n wy) (hg : g < w.heap.size) (hT : w.heap.size < T) : L9 W0 g sv n w T N s1 s2 ds ps wy := by
  obtain ⟨l1, h1, a1, o1⟩ := h.ds
  obtain ⟨l2, h2, a2, o2⟩ := h.ps
  exact ⟨hD, ho.blk h.t (by omega), ho.blk h.r (by omega), ⟨l1, h1, a1, o1.past ho.within9 (.inr (by omega))⟩, ⟨l2, h2, a2, o2.past ho.within9 (.inr (by omega))⟩, h.wi.on ho.within9⟩
theorem BldD0 (w : World) : Bld w w.heap.size w.heap.size (.slice none 0 0) [] := Bld.nil w _
theorem Within.ofB {lo hi : Nat} {a w w' : World} (h : Within lo hi a w) (hb : Below w.heap.size w w') : Within lo hi a w' :=
  ⟨hb.os.trans h.os, hb.tape.trans h.tape, hb.output.trans h.output, Nat.le_trans h.size hb.size, fun k hk hne => (hb.block k (Nat.lt_of_lt_of_le hk h.size)).trans (h.block k hk hne)⟩
theorem Within.newerL {a w w' : World} {lo hi lo' hi' : Nat} (h : Within lo hi a w) (h' : Within lo' hi' w w') (hl : a.heap.size ≤ lo') : Within lo hi a w' :=
  ⟨h'.os.trans h.os, h'.tape.trans h.tape, h'.output.trans h.output, Nat.le_trans h.size h'.size, fun k hk hne => (h'.block k (Nat.lt_of_lt_of_le hk h.size) (.inl (by omega))).trans (h.block k hk hne)⟩
/-- The end of it. -/
theorem L9.fin {W0 w wx : World} {g n T : Nat} {sv s1 s2 : Value} {N : Int} {ds : List Dv} {ps : List Pt} (h : L9 W0 g sv n w T N s1 s2 ds ps wx) (hg : g < w.heap.size) (h0 : W0.heap.size ≤ g) (v1 v2 v3 : Value) :
    NlO w.heap.size (((wx.setCell ⟨w.heap.size, 0, none⟩ v1).setCell ⟨w.heap.size, 1, none⟩ v2).setCell ⟨w.heap.size, 2, none⟩ v3) (.agg #[.int .i64 N, s1, s2]) ⟨N, ds, ps⟩ ∧ Src1 W0 g sv n (((wx.setCell ⟨w.heap.size, 0, none⟩ v1).setCell ⟨w.heap.size, 1, none⟩ v2).setCell ⟨w.heap.size, 2, none⟩ v3) ∧ Within g (g + 1) w (((wx.setCell ⟨w.heap.size, 0, none⟩ v1).setCell ⟨w.heap.size, 1, none⟩ v2).setCell ⟨w.heap.size, 2, none⟩ v3) :=
  ⟨nlv_set3 v1 v2 v3 h.ds h.ps, ((h.src.apart (by omega) (by omega)).apart (by omega) (by omega)).apart (by omega) (by omega), ((h.wi.new _ _ _ (by omega)).new _ _ _ (by omega)).new _ _ _ (by omega)⟩

set_option maxRecDepth 100000 in
set_option maxHeartbeats 16000000 in
theorem l29DrawNetlist_any (W0 : World) (g : Nat) (sv : Value) (n : Nat) (w : World) (hD : Src1 W0 g sv n w) :
    Calls Tryz.prog 24 #[.pointer (some ⟨g, 0, none⟩)] w fun e w' => ∃ (v : Value) (x : Nl), e = .returned v ∧ Hid (NlO w.heap.size w' v x) ∧ Hid (Small x) ∧ Hid (Src1 W0 g sv n w') ∧ Hid (Within g (g + 1) w w') := by
  have HN := Lib.hid (fun q w h hq => l01Next_any W0 g sv n q w h hq)
  have HDN := Lib.hid (fun w h => l27DrawNetlist_any W0 g sv n w h)
  have hgl := hD.lt
  have hg0 : W0.heap.size ≤ g := hD.1
  have kR0 : Blk (w.alloc (.cells #[.int .i64 0, .slice none 0 0, .slice none 0 0] 27)) w.heap.size #[.int .i64 0, .slice none 0 0, .slice none 0 0] 27 := Blk.new _ rfl
  have HD0 := Lib.hid (hD.by ((Below.refl _ w).alloc (Nat.le_refl _) (.cells #[.int .i64 0, .slice none 0 0, .slice none 0 0] 27)))
  have hW0 : Within g (g + 1) w (w.alloc (.cells #[.int .i64 0, .slice none 0 0, .slice none 0 0] 27)) := (Within.refl _ _ _).alloc _
  have hs0 : w.heap.size < (w.alloc (.cells #[.int .i64 0, .slice none 0 0, .slice none 0 0] 27)).heap.size := by simp
  clear hD
  go_enter Tryz.func24, Tryz.ntmps24
  go_wp2_with fail
  refine (HDN.out _ HD0.out).mono ?_
  rintro e w1 ⟨v, x, rfl, HO, HS, HD1, HW1⟩
  generalize w.alloc (.cells #[.int .i64 0, .slice none 0 0, .slice none 0 0] 27) = w0 at *
  obtain ⟨s1, s2, rfl, r1, r2⟩ := HO.out
  obtain ⟨a1, c1, rfl⟩ : ∃ a c, s1 = .slice a x.ds.length c := by obtain ⟨_, _, _, o⟩ := r1; exact o.sl.sized
  obtain ⟨a2, c2, rfl⟩ : ∃ a c, s2 = .slice a x.ps.length c := by obtain ⟨_, _, _, o⟩ := r2; exact o.sl.sized
  have hs1 := HW1.out.size
  have hal : Below w1.heap.size w1 (w1.alloc (.cells #[.int .i64 x.nets, .slice a1 x.ds.length c1, .slice a2 x.ps.length c2] 27)) := (Below.refl _ w1).alloc (Nat.le_refl _) _
  have HL2 : Hid (L9 W0 g sv n w w1.heap.size x.nets (.slice a1 x.ds.length c1) (.slice a2 x.ps.length c2) x.ds x.ps (w1.alloc (.cells #[.int .i64 x.nets, .slice a1 x.ds.length c1, .slice a2 x.ps.length c2] 27))) := Lib.hid ⟨HD1.out.by hal, Blk.new _ rfl, Blk.by hal (HW1.out.blk kR0 (by omega)), by obtain ⟨l, h, q, p⟩ := r1; exact ⟨l, h, by omega, p.by hal⟩, by obtain ⟨l, h, q, p⟩ := r2; exact ⟨l, h, by omega, p.by hal⟩, (hW0.on HW1.out).alloc _⟩
  obtain ⟨N, hN⟩ : ∃ N, x.nets = N := ⟨_, rfl⟩
  obtain ⟨L, hL⟩ : ∃ L, x.ds.length = L := ⟨_, rfl⟩
  obtain ⟨L2, hL2⟩ : ∃ L, x.ps.length = L := ⟨_, rfl⟩
  have HE := Lib.hid (And.intro hN (And.intro hL hL2))
  rw [hN, hL, hL2] at HL2 ⊢
  rw [hN, hL, hL2] at hal
  have qT := HL2.out.t.cell
  have lT := HL2.out.t.lt
  clear HO r1 r2 HD1 HW1 kR0 hW0 HD0 hal hN hL hL2
  go_wp2_with fail
  generalize w1.alloc (.cells #[.int .i64 N, .slice a1 L c1, .slice a2 L2 c2] 27) = w2 at *
  have hwT : w.heap.size < w1.heap.size := by omega
  generalize w1.heap.size = T at *
  refine (HN.out 2 _ HL2.out.src (by omega)).mono ?_
  rintro e w3 ⟨y, rfl, hy0, hy1, hD3, ho3⟩
  have HL3 := Lib.hid (HL2.out.only ho3 hD3 hgl hwT)
  clear hD3 ho3 HL2 qT lT
  have qT := HL3.out.t.cell
  have fT := HL3.out.t.free
  have lT := HL3.out.t.lt
  go_upto_if 9 with fail
  go_cut [9] (fun s9 wx => ∃ (b : Bool) (av : Option Addr) (l cv : Nat) (ps : List Pt), s9 = .bool b ∧ Hid (Small ⟨x.nets, x.ds, ps⟩) ∧ Hid (L9 W0 g sv n w T N (.slice a1 L c1) (.slice av l cv) x.ds ps wx))
  case first =>
    by_cases hy : y = 0
    · subst hy
      go_wp2
      go_meet
      exact ⟨_, none, 0, 0, [], rfl, Lib.hid ⟨HS.out.1, HS.out.2.1, HS.out.2.2.1, by simp, by simp⟩, Lib.hid ⟨HL3.out.src.apart (by omega) (by omega), by simpa using HL3.out.t.set 2 (.slice none 0 0), HL3.out.r.apart _ _ _ (by omega), by obtain ⟨l, h, q, p⟩ := HL3.out.ds; exact ⟨l, h, q, p.offN HL3.out.t⟩, ⟨w.heap.size + 1, w.heap.size + 2, by omega, .inl ⟨_, _, rfl, rfl⟩⟩, HL3.out.wi.new _ _ _ (by omega)⟩⟩
    · have hy' : (y == 0) = false := by simpa using hy
      go_wp2
      go_meet
      exact ⟨_, a2, L2, c2, x.ps, rfl, HS, HL3⟩
  case rest =>
    obtain ⟨b, av, l, cv, ps, rfl, HS4, HL4⟩ := hcut
    obtain ⟨w4, rfl⟩ : ∃ z : World, z = wc := ⟨_, rfl⟩
    clear HL3 qT fT lT HS
    go_wp2_with fail
    refine (HN.out 4 _ HL4.out.src (by omega)).mono ?_
    rintro e w5 ⟨y2, rfl, hz0, hz1, hD5, ho5⟩
    have HL5 := Lib.hid (HL4.out.only ho5 hD5 hgl hwT)
    clear hD5 ho5 HL4
    have qT := HL5.out.t.cell
    have fT := HL5.out.t.free
    have lT := HL5.out.t.lt
    have qR := HL5.out.r.cell
    have fR := HL5.out.r.free
    have lR := HL5.out.r.lt
    by_cases hy2 : y2 = 0
    · subst hy2
      clear qT fT qR fR lR
      go_wp2_with fail
      refine (HN.out 4 _ HL5.out.src (by omega)).mono ?_
      rintro e w6 ⟨r, rfl, hr0, hr1, hD6, ho6⟩
      have HL6 := Lib.hid (HL5.out.only ho6 hD6 hgl hwT)
      clear hD6 ho6 HL5 lT
      have wr3 : IntKind.i64.wrap (3 + r) = 3 + r := by simp [IntKind.wrap, IntKind.bits, IntKind.signed]; omega
      obtain ⟨M, hM⟩ : ∃ M, 3 + r = M := ⟨_, rfl⟩
      rw [hM] at wr3
      have hMb : 3 ≤ M ∧ M ≤ 6 := by omega
      have qT := HL6.out.t.cell
      have fT := HL6.out.t.free
      have lT := HL6.out.t.lt
      have HT7 := Lib.hid (show Blk (((w6.setCell ⟨T, 0, none⟩ (.int .i64 M)).setCell ⟨T, 1, none⟩ (.slice none 0 0)).setCell ⟨T, 2, none⟩ (.slice none 0 0)) T #[.int .i64 M, .slice none 0 0, .slice none 0 0] 27 from by simpa using ((HL6.out.t.set 0 (.int .i64 M)).set 1 (.slice none 0 0)).set 2 (.slice none 0 0))
      have HR7 := Lib.hid (show Blk (((w6.setCell ⟨T, 0, none⟩ (.int .i64 M)).setCell ⟨T, 1, none⟩ (.slice none 0 0)).setCell ⟨T, 2, none⟩ (.slice none 0 0)) w.heap.size _ 27 from ((HL6.out.r.apart T 0 _ (by omega)).apart T 1 _ (by omega)).apart T 2 _ (by omega))
      have HD7 := Lib.hid (show Src1 W0 g sv n (((w6.setCell ⟨T, 0, none⟩ (.int .i64 M)).setCell ⟨T, 1, none⟩ (.slice none 0 0)).setCell ⟨T, 2, none⟩ (.slice none 0 0)) from ((HL6.out.src.apart (by omega) (by omega)).apart (by omega) (by omega)).apart (by omega) (by omega))
      have HW7 := Lib.hid (show Within g (g + 1) w (((w6.setCell ⟨T, 0, none⟩ (.int .i64 M)).setCell ⟨T, 1, none⟩ (.slice none 0 0)).setCell ⟨T, 2, none⟩ (.slice none 0 0)) from ((HL6.out.wi.new _ _ _ (by omega)).new _ _ _ (by omega)).new _ _ _ (by omega))
      have hs7 : T < (((w6.setCell ⟨T, 0, none⟩ (.int .i64 M)).setCell ⟨T, 1, none⟩ (.slice none 0 0)).setCell ⟨T, 2, none⟩ (.slice none 0 0)).heap.size := HT7.out.lt
      go_wp2
      (try simp only [hM, wr3])
      generalize ((w6.setCell ⟨T, 0, none⟩ (.int .i64 M)).setCell ⟨T, 1, none⟩ (.slice none 0 0)).setCell ⟨T, 2, none⟩ (.slice none 0 0) = w7 at *
      clear HL6 qT fT lT hM hr0 hr1 hz0 hz1 hy0 hy1
      have HB7 := Lib.hid (BldD0 w7)
      go_loopw [4] (fun z wr => ∃ (k hi : Nat) (av : Option Addr) (cv : Nat) (ds : List Dv), z = .int .i64 (k : Int) ∧ (k : Int) ≤ M ∧ ds.length = k ∧ w7.heap.size ≤ hi ∧ Hid (Blk wr T #[.int .i64 M, .slice av k cv, .slice none 0 0] 27) ∧ Hid (Blk wr w.heap.size #[.int .i64 0, .slice none 0 0, .slice none 0 0] 27) ∧ Hid (Src1 W0 g sv n wr) ∧ Hid (Within g (g + 1) w wr) ∧ Hid (Bld wr w7.heap.size hi (.slice av k cv) ds) ∧ Hid (∀ d ∈ ds, d.pins.length = 2)) (fun z _ => (M - intOf z).toNat)
      case atStart => exact ⟨0, w7.heap.size, none, 0, [], by go_num, by omega, rfl, Nat.le_refl _, HT7, HR7, HD7, HW7, HB7, Lib.hid (by simp)⟩
      case round =>
        clear HT7 HR7 HD7 HW7 HB7
        obtain ⟨k, hi, av, cv, ds, rfl, hkM, hdk, hhi, HT, HR, HDr, HW, HB, HP⟩ := hrel
        have HDK := Lib.hid hdk
        clear hdk
        have cT0 : wr.cell? ⟨T, 0, none⟩ = some (.int .i64 M) := HT.out.cell 0
        have cT1 : wr.cell? ⟨T, 1, none⟩ = some (.slice av k cv) := HT.out.cell 1
        have lT := HT.out.lt
        have hhr := HB.out.1
        go_upto_region 7 with fail
        have hS : (fun w' : World => w'.cell? ⟨T, 0, none⟩ = some (.int .i64 M)) { wr with drawn := wr.drawn + 1 } := cT0
        refine wp_region_any (by kernel_rfl) (wpAny_of_E (S := (fun w' : World => w'.cell? ⟨T, 0, none⟩ = some (.int .i64 M))) (l := 6) _ _ _ _ ?_)
        change wpAnyE _ _ _ _ _ _ _ _ _ wr.drew
        refine wpAnyE_takeL (i := 0) (v := ?_) rfl (by kernel_rfl) (fun _ _ _ h => h) (Or.inl ⟨by rfl, ?_⟩) hS ?_
        rotate_left
        · intro w hSw; (try dsimp only at hSw); go_simp; (try with_reducible rfl)
        try simp only [Act.put, List.setIfInBounds_toArray, List.set_cons_zero, List.set_cons_succ]
        refine wpAnyE_takeL (i := 1) (v := ?_) rfl (by kernel_rfl) (fun _ _ _ h => h) (Or.inl ⟨by rfl, ?_⟩) hS ?_
        rotate_left
        · intro w hSw; (try dsimp only at hSw); go_simp; (try with_reducible rfl)
        try simp only [Act.put, List.setIfInBounds_toArray, List.set_cons_zero, List.set_cons_succ]
        refine wpAnyE_takeL (i := 2) (v := ?_) rfl (by kernel_rfl) (fun _ _ _ h => h) (Or.inl ⟨by rfl, ?_⟩) hS ?_
        rotate_left
        · intro w hSw; (try dsimp only at hSw); go_simp; (try with_reducible rfl)
        try simp only [Act.put, List.setIfInBounds_toArray, List.set_cons_zero, List.set_cons_succ]
        refine wpAnyE_takeL (i := 3) (v := ?_) rfl (by kernel_rfl) (fun _ _ _ h => h) (Or.inl ⟨by rfl, ?_⟩) hS ?_
        rotate_left
        · intro w hSw; (try dsimp only at hSw); go_simp; (try with_reducible rfl)
        try simp only [Act.put, List.setIfInBounds_toArray, List.set_cons_zero, List.set_cons_succ]
        refine wpAnyE_oneL (k := 4) (by kernel_rfl) rfl (fun K hK => ?_)
        go_simp
        go_at_call 46
        refine (HN.out 2 _ (HDr.out.by (below_of_drewN wr 1)) (by omega)).mono ?_
        rintro e w8 ⟨y, rfl, hy0, hy1, hD8, ho8⟩
        have HT8 : Hid (Blk w8 T _ 27) := Lib.hid (ho8.blk HT.out.drew (by omega))
        have HR8 : Hid (Blk w8 w.heap.size _ 27) := Lib.hid (ho8.blk HR.out.drew (by omega))
        have HD8 := Lib.hid hD8
        have HW8 : Hid (Within g (g + 1) w w8) := Lib.hid ((HW.out.drewN 1).on ho8.within9)
        have HB8 := Lib.hid (Bld.past ho8.within9 (Bld.by (below_of_drewN wr 1) HB.out) (.inl (by omega)))
        have hsz8 : wr.heap.size ≤ w8.heap.size := ho8.within9.size
        clear hD8 ho8 HT HR HDr HW HB hS
        have c80 : w8.cell? ⟨T, 0, none⟩ = some (.int .i64 M) := HT8.out.cell 0
        have c81 : w8.cell? ⟨T, 1, none⟩ = some (.slice av k cv) := HT8.out.cell 1
        have l8 := HT8.out.lt
        have wMy : IntKind.i64.wrap (M - y) = M - y := by simp [IntKind.wrap, IntKind.bits, IntKind.signed]; omega
        clear cT0 cT1 lT
        refine hK.out _ _ (fun _ => c80) ?_
        try simp only [Act.put, List.setIfInBounds_toArray, List.set_cons_zero, List.set_cons_succ]
        refine wpAnyE_oneL (k := 5) (by kernel_rfl) rfl (fun K hK => ?_)
        go_simp
        refine hK.out _ _ (fun _ => c80) ?_
        try simp only [Act.put, List.setIfInBounds_toArray, List.set_cons_zero, List.set_cons_succ]
        refine wpAnyE_oneL (k := 6) (by kernel_rfl) rfl (fun K hK => ?_)
        go_simp
        refine hK.out _ _ (fun h => absurd rfl h) ?_
        refine wpAnyE_done (by kernel_rfl) ?_ _
        by_cases hlt : (k : Int) < M - y
        · have wk1 : IntKind.i64.wrap ((k : Int) + 1) = (k : Int) + 1 := by simp [IntKind.wrap, IntKind.bits, IntKind.signed]; omega
          obtain ⟨z, hz⟩ : ∃ z, ((k : Int) + 1).tmod M = z := ⟨_, rfl⟩
          have hzb : -10 ≤ z ∧ z ≤ 10 := (by have h1 := Int.tmod_lt_of_pos ((k : Int) + 1) (show 0 < M by omega); have h2 := Int.tmod_nonneg M (show 0 ≤ (k : Int) + 1 by omega); omega)
          have wZ : IntKind.i64.wrap z = z := by simp [IntKind.wrap, IntKind.bits, IntKind.signed]; omega
          have hM0 : ¬ M = 0 := by omega
          go_upto_region 9 with fail
          have hS : (fun w' : World => w'.cell? ⟨T, 0, none⟩ = some (.int .i64 M) ∧ w'.cell? ⟨T, 1, none⟩ = some (.slice av k cv)) { w8 with drawn := w8.drawn + 1 } := ⟨c80, c81⟩
          refine wp_region_any (by kernel_rfl) (wpAny_of_E (S := (fun w' : World => w'.cell? ⟨T, 0, none⟩ = some (.int .i64 M) ∧ w'.cell? ⟨T, 1, none⟩ = some (.slice av k cv))) (l := 13) _ _ _ _ ?_)
          change wpAnyE _ _ _ _ _ _ _ _ _ w8.drew
          refine wpAnyE_takeL (i := 0) (v := ?_) rfl (by kernel_rfl) (fun _ _ _ h => h) (Or.inl ⟨by rfl, ?_⟩) hS ?_
          rotate_left
          · intro w hSw; (try dsimp only at hSw); obtain ⟨hSa, hSb⟩ := hSw; go_simp; (try with_reducible rfl)
          try simp only [Act.put, List.setIfInBounds_toArray, List.set_cons_zero, List.set_cons_succ]
          refine wpAnyE_takeL (i := 1) (v := ?_) rfl (by kernel_rfl) (fun _ _ _ h => h) (Or.inl ⟨by rfl, ?_⟩) hS ?_
          rotate_left
          · intro w hSw; (try dsimp only at hSw); obtain ⟨hSa, hSb⟩ := hSw; go_simp; (try with_reducible rfl)
          try simp only [Act.put, List.setIfInBounds_toArray, List.set_cons_zero, List.set_cons_succ]
          refine wpAnyE_takeL (i := 2) (v := ?_) rfl (by kernel_rfl) (fun _ _ _ h => h) (Or.inl ⟨by rfl, ?_⟩) hS ?_
          rotate_left
          · intro w hSw; (try dsimp only at hSw); obtain ⟨hSa, hSb⟩ := hSw; go_simp; (try with_reducible rfl)
          try simp only [Act.put, List.setIfInBounds_toArray, List.set_cons_zero, List.set_cons_succ]
          refine wpAnyE_takeL (i := 3) (v := ?_) rfl (by kernel_rfl) (fun _ _ _ h => h) (Or.inl ⟨by rfl, ?_⟩) hS ?_
          rotate_left
          · intro w hSw; (try dsimp only at hSw); obtain ⟨hSa, hSb⟩ := hSw; go_simp; (try with_reducible rfl)
          try simp only [Act.put, List.setIfInBounds_toArray, List.set_cons_zero, List.set_cons_succ]
          refine wpAnyE_takeL (i := 4) (v := ?_) rfl (by kernel_rfl) (fun _ _ _ h => h) (Or.inl ⟨by rfl, ?_⟩) hS ?_
          rotate_left
          · intro w hSw; (try dsimp only at hSw); obtain ⟨hSa, hSb⟩ := hSw; go_simp; (try with_reducible rfl)
          try simp only [Act.put, List.setIfInBounds_toArray, List.set_cons_zero, List.set_cons_succ]
          refine wpAnyE_takeL (i := 5) (v := ?_) rfl (by kernel_rfl) (fun _ _ _ h => h) (Or.inl ⟨by rfl, ?_⟩) hS ?_
          rotate_left
          · intro w hSw; (try dsimp only at hSw); obtain ⟨hSa, hSb⟩ := hSw; go_simp; (try with_reducible rfl)
          try simp only [Act.put, List.setIfInBounds_toArray, List.set_cons_zero, List.set_cons_succ]
          refine wpAnyE_takeL (i := 6) (v := ?_) rfl (by kernel_rfl) (fun _ _ _ h => h) (Or.inl ⟨by rfl, ?_⟩) hS ?_
          rotate_left
          · intro w hSw; (try dsimp only at hSw); obtain ⟨hSa, hSb⟩ := hSw; go_simp; (try with_reducible rfl)
          try simp only [Act.put, List.setIfInBounds_toArray, List.set_cons_zero, List.set_cons_succ]
          refine wpAnyE_takeL (i := 7) (v := ?_) rfl (by kernel_rfl) (fun _ _ _ h => h) (Or.inl ⟨by rfl, ?_⟩) hS ?_
          rotate_left
          · intro w hSw; (try dsimp only at hSw); obtain ⟨hSa, hSb⟩ := hSw; go_simp; (try with_reducible rfl)
          try simp only [Act.put, List.setIfInBounds_toArray, List.set_cons_zero, List.set_cons_succ]
          refine wpAnyE_oneL (k := 8) (by kernel_rfl) rfl (fun K hK => ?_)
          go_simp
          have hal1 : Below w8.heap.size w8 (w8.alloc (.cells #[.int .i64 (k : Int), .int .i64 z] 2)).drew := ((Below.refl _ w8).alloc (Nat.le_refl _) _).drew
          have kP : Blk (w8.alloc (.cells #[.int .i64 (k : Int), .int .i64 z] 2)).drew w8.heap.size #[.int .i64 (k : Int), .int .i64 z] 2 := (Blk.new _ rfl).drew
          refine hK.out _ _ (fun _ => ⟨cell_by' hal1 c80, cell_by' hal1 c81⟩) ?_
          try simp only [Act.put, List.setIfInBounds_toArray, List.set_cons_zero, List.set_cons_succ]
          have hS1 := And.intro (cell_by' hal1 c80) (cell_by' hal1 c81)
          generalize hw9 : (w8.alloc (.cells #[.int .i64 (k : Int), .int .i64 z] 2)).drew = w9 at *
          have hs9 : w8.heap.size < w9.heap.size := by rw [← hw9]; simp
          have HW9 := Lib.hid hw9
          clear hw9
          refine wpAnyE_takeL (i := 9) (v := ?_) rfl (by kernel_rfl) (fun _ _ _ h => h) (Or.inl ⟨by rfl, ?_⟩) hS1 ?_
          rotate_left
          · intro w hSw; (try dsimp only at hSw); obtain ⟨hSa, hSb⟩ := hSw; go_simp; (try with_reducible rfl)
          try simp only [Act.put, List.setIfInBounds_toArray, List.set_cons_zero, List.set_cons_succ]
          refine wpAnyE_oneL (k := 10) (by kernel_rfl) rfl (fun K hK => ?_)
          go_simp
          have hal2 : Below w9.heap.size w9 (w9.alloc (.cells #[.int .i64 2, .slice (some ⟨w8.heap.size, 0, none⟩) 2 2, .int .i64 1, .int .i64 1] 62)) := (Below.refl _ w9).alloc (Nat.le_refl _) _
          have kD : Blk (w9.alloc (.cells #[.int .i64 2, .slice (some ⟨w8.heap.size, 0, none⟩) 2 2, .int .i64 1, .int .i64 1] 62)) w9.heap.size #[.int .i64 2, .slice (some ⟨w8.heap.size, 0, none⟩) 2 2, .int .i64 1, .int .i64 1] 62 := Blk.new _ rfl
          have hS2 := And.intro (cell_by' hal2 hS1.1) (cell_by' hal2 hS1.2)
          have hs10 : w9.heap.size < (w9.alloc (.cells #[.int .i64 2, .slice (some ⟨w8.heap.size, 0, none⟩) 2 2, .int .i64 1, .int .i64 1] 62)).heap.size := by simp
          refine hK.out _ _ (fun _ => hS2) ?_
          try simp only [Act.put, List.setIfInBounds_toArray, List.set_cons_zero, List.set_cons_succ]
          have kP2 := Blk.by hal2 kP
          have HB10 := Lib.hid (Bld.by hal2 (Bld.by hal1 HB8.out))
          have HT10 := Lib.hid (Blk.by hal2 (Blk.by hal1 HT8.out))
          have HR10 := Lib.hid (Blk.by hal2 (Blk.by hal1 HR8.out))
          have HD10 := Lib.hid ((HD8.out.by hal1).by hal2)
          have HW10 := Lib.hid (((HW8.out.ofB hal1).ofB hal2))
          generalize w9.alloc (.cells #[.int .i64 2, .slice (some ⟨w8.heap.size, 0, none⟩) 2 2, .int .i64 1, .int .i64 1] 62) = w10 at *
          clear hal1 hal2 kP HB8 HT8 HR8 HD8 HW8
          refine wpAnyE_oneL (k := 11) (by kernel_rfl) rfl (fun K hK => ?_)
          refine step_push (by rfl) _ _ (by rfl) w7.heap.size hi (.slice av k cv) ds (by rfl) HB10.out w9.heap.size ⟨2, [(k : Int), z], 1, 1⟩ (.slice (some ⟨w8.heap.size, 0, none⟩) 2 2) w8.heap.size (by rfl) kD (BldI.lit (zs := [(k : Int), z]) kP2 rfl (by simp) (Nat.le_refl _) (by omega) (by omega)).own hhi (by omega) (by omega) (by have := HDK.out; omega) ?_
          intro a' c' w11 hB11 hw11
          rw [HDK.out] at hB11 ⊢
          have HT11 := Lib.hid (hw11.blk HT10.out (by omega))
          have HR11 := Lib.hid (hw11.blk HR10.out (by omega))
          have HD11 := Lib.hid (Src1.within hw11 HD10.out (by omega) (by have := HW10.out.size; omega))
          have HW11 := Lib.hid (HW10.out.newerL hw11 (by have := HW10.out.size; omega))
          have HB11 := Lib.hid hB11
          have hs11 := hw11.size
          have c110 : w11.cell? ⟨T, 0, none⟩ = some (.int .i64 M) := HT11.out.cell 0
          have c111 : w11.cell? ⟨T, 1, none⟩ = some (.slice av k cv) := HT11.out.cell 1
          have f111 := HT11.out.free 1
          have l11 := HT11.out.lt
          clear hB11 hw11 HB10 HT10 HR10 HD10 HW10 kD kP2 hS hS1 hS2 c80 c81 HW9
          refine hK.out _ _ (fun _ => ⟨c110, c111⟩) ?_
          try simp only [Act.put, List.setIfInBounds_toArray, List.set_cons_zero, List.set_cons_succ]
          refine wpAnyE_oneL (k := 12) (by kernel_rfl) rfl (fun K hK => ?_)
          go_simp
          refine hK.out _ _ (fun _ => ⟨c110, c111⟩) ?_
          try simp only [Act.put, List.setIfInBounds_toArray, List.set_cons_zero, List.set_cons_succ]
          refine wpAnyE_oneL (k := 13) (by kernel_rfl) rfl (fun K hK => ?_)
          go_simp
          refine hK.out _ _ (fun h => absurd rfl h) ?_
          refine wpAnyE_done (by kernel_rfl) ?_ _
          go_wp2
          exact ⟨⟨k + 1, w11.heap.size, a', c', ds ++ [⟨2, [(k : Int), z], 1, 1⟩], by go_num, by omega, by rw [List.length_append, HDK.out]; rfl, by omega, Lib.hid (by simpa using HT11.out.set 1 (.slice a' (k + 1) c')), Lib.hid (HR11.out.apart T 1 _ (by omega)), Lib.hid (HD11.out.apart (by omega) (by omega)), Lib.hid (HW11.out.new _ _ _ (by omega)), Lib.hid (Bld.past (Within.off (g := T) _) HB11.out (.inl (by omega))), Lib.hid (fun d hd => by
            rcases List.mem_append.1 hd with h | h
            · exact HP.out d h
            · rw [List.mem_singleton] at h; subst h; rfl)⟩, by simp [intOf]; omega⟩
        · have hlt' : ¬ (k : Int) < M - y := hlt
          have c82 : w8.cell? ⟨T, 2, none⟩ = some (.slice none 0 0) := HT8.out.cell 2
          have qR := HR8.out.cell
          have fR := HR8.out.free
          have lR := HR8.out.lt
          go_wp2
          have HLf : L9 W0 g sv n w T M (.slice av k cv) (.slice none 0 0) ds [] w8 := ⟨HD8.out, HT8.out, HR8.out, ⟨w7.heap.size, hi, by omega, HB8.out.own⟩, ⟨w.heap.size + 1, w.heap.size + 2, by omega, .inl ⟨_, _, rfl, rfl⟩⟩, HW8.out⟩
          obtain ⟨f1, f2, f3⟩ := L9.fin HLf hgl hg0 (.int .i64 M) (.slice av k cv) (.slice none 0 0)
          refine bodyPost_ret (v := .agg #[.int .i64 M, .slice av k cv, .slice none 0 0]) (by simp [results, Tryz.results24, go_sem, *]) rfl ⟨_, rfl, ⟨M, ds, []⟩, Lib.hid f1, Lib.hid ⟨⟨by dsimp only; omega, by dsimp only; omega⟩, by dsimp only; rw [HDK.out]; omega, fun d hd => by rw [HP.out d hd]; omega, by simp, by simp⟩, Lib.hid f2, Lib.hid f3⟩
    · have hy2' : (y2 == 0) = false := by simpa using hy2
      have HX := HE.out.1
      go_wp2
      obtain ⟨f1, f2, f3⟩ := L9.fin HL5.out hgl hg0 (.int .i64 N) (.slice a1 L c1) (.slice av l cv)
      refine bodyPost_ret (v := .agg #[.int .i64 N, .slice a1 L c1, .slice av l cv]) (by simp [results, Tryz.results24, go_sem, *]) rfl ⟨_, ⟨N, x.ds, ps⟩, rfl, Lib.hid f1, Lib.hid (by rw [← HX]; exact HS4.out), Lib.hid f2, Lib.hid f3⟩
end Go.Proofs.YtpaiiaajbojmnaaGreat
