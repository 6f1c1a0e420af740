/- Contracts and plain laws, part 4, for the statement's proof. -/
import Derived.Test.YtacbdmngcdhgoaaGreatPkRrLaw3
import Derived.Deep.DeepCutAuto
import Derived.WalkLawsBesides
namespace Go.Proofs.YtacbdmngcdhgoaaGreat
open Go.RowKit
set_option linter.unusedVariables false
set_option linter.unusedSimpArgs false
def Small (x : Nl) : Prop := (-1 ≤ x.nets ∧ x.nets ≤ 25) ∧ x.ds.length ≤ 10 ∧ (∀ d ∈ x.ds, 1 ≤ d.pins.length ∧ d.pins.length ≤ 100) ∧ x.ps.length ≤ 100 ∧ ∀ p ∈ x.ps, p.ok
theorem Small.fits {x : Nl} (h : Small x) : Fits x.nets := by
  obtain ⟨⟨h1, h2⟩, _⟩ := h
  exact ⟨by omega, by omega⟩
def NlO (m : Nat) (w : World) (v : Value) (x : Nl) : Prop := ∃ s1 s2, v = .agg #[.int .i64 x.nets, s1, s2] ∧ (∃ lo hi, m ≤ lo ∧ OwnDs w lo hi s1 x.ds) ∧ ∃ lo hi, m ≤ lo ∧ OwnPs w lo hi s2 x.ps
section
variable {m : Nat} {w w' : World} {v : Value} {x : Nl}
theorem NlO.nl (h : NlO m w v x) : NlV w v x := by
  obtain ⟨s1, s2, e, ⟨l1, h1, r1, o1⟩, l2, h2, r2, o2⟩ := h
  exact ⟨s1, s2, e, o1.sl, o2.sl⟩
theorem NlO.by (hb : Below w.heap.size w w') (h : NlO m w v x) : NlO m w' v x := by
  obtain ⟨s1, s2, e, ⟨l1, h1, r1, o1⟩, l2, h2, r2, o2⟩ := h
  exact ⟨s1, s2, e, ⟨l1, h1, r1, o1.by hb⟩, l2, h2, r2, o2.by hb⟩
theorem NlO.past {lo hi : Nat} (hw : Within lo hi w w') (h : NlO m w v x) (hh : hi ≤ m) : NlO m w' v x := by
  obtain ⟨s1, s2, e, ⟨l1, h1, r1, o1⟩, l2, h2, r2, o2⟩ := h
  exact ⟨s1, s2, e, ⟨l1, h1, r1, o1.past hw (.inr (by omega))⟩, l2, h2, r2, o2.past hw (.inr (by omega))⟩
theorem NlO.low {m' : Nat} (h : NlO m w v x) (hm : m' ≤ m) : NlO m' w v x := by
  obtain ⟨s1, s2, e, ⟨l1, h1, r1, o1⟩, l2, h2, r2, o2⟩ := h
  exact ⟨s1, s2, e, ⟨l1, h1, by omega, o1⟩, l2, h2, by omega, o2⟩
end
theorem nlv_set3 {w : World} {r : Nat} {X : Int} {D P : Value} {ds : List Dv} {ps : List Pt} (v1 v2 v3 : Value) (h1 : ∃ lo hi, r < lo ∧ OwnDs w lo hi D ds) (h2 : ∃ lo hi, r < lo ∧ OwnPs w lo hi P ps) :
    NlO r (((w.setCell ⟨r, 0, none⟩ v1).setCell ⟨r, 1, none⟩ v2).setCell ⟨r, 2, none⟩ v3) (.agg #[.int .i64 X, D, P]) ⟨X, ds, ps⟩ := by
  obtain ⟨l1, h1', r1, o1⟩ := h1
  obtain ⟨l2, h2', r2, o2⟩ := h2
  exact ⟨D, P, rfl, ⟨l1, h1', by omega, (((o1.past (Within.off _) (by omega)).past (Within.off _) (by omega)).past (Within.off _) (by omega))⟩, l2, h2', by omega, (((o2.past (Within.off _) (by omega)).past (Within.off _) (by omega)).past (Within.off _) (by omega))⟩
set_option maxRecDepth 100000 in
set_option maxHeartbeats 16000000 in
theorem l27DrawNetlist_any (W0 : World) (g : Nat) (sv : Value) (n : Nat) (w : World) (hD : Src1 W0 g sv n w) :
    Calls Tryz.prog 35 #[.pointer (some ⟨g, 0, none⟩)] w fun e w' => ∃ (v : Value) (x : Nl), e = .returned v ∧ Hid (NlO w.heap.size w' v x) ∧ Hid (Small x) ∧ Hid (Src1 W0 g sv n w') ∧ Hid (Within g (g + 1) w w') := by
  have HN := Lib.hid (fun q w h hq => l01Next_any W0 g sv n q w h hq)
  have HDV := Lib.hid (fun w h => l27DrawValid_any W0 g sv n w h)
  have hgl := hD.lt
  have hW0 : W0.heap.size ≤ g := hD.1
  have HD := Lib.hid hD
  clear hD
  go_enter Tryz.func35, Tryz.ntmps35
  go_wp2_with fail
  refine (HDV.out _ (HD.out.by blwT)).mono ?_
  rintro e w1 ⟨⟨N, ds, ps⟩, dv, pv, lo, mid, hi, rfl, HBL1, HPL1, hb, hN, hdl, hdp, hpl, hpo, HD1, HW1⟩
  dsimp only at HBL1 HPL1 hN hdl hdp hpl hpo
  simp only [World.size_alloc] at hb
  obtain ⟨av, cv, rfl⟩ := HBL1.out.sized
  obtain ⟨pa, pc, rfl⟩ := HPL1.out.sized
  have kZ0 : Blk (w.alloc (.cells #[.int .i64 0, .slice none 0 0, .slice none 0 0] 27)) w.heap.size #[.int .i64 0, .slice none 0 0, .slice none 0 0] 27 := Blk.new _ rfl
  have hZ1 := HW1.out.blk kZ0 (by omega)
  have lZ1 := hZ1.lt
  have HWs := Lib.hid (((Within.refl g (g + 1) w).alloc (.cells #[.int .i64 0, .slice none 0 0, .slice none 0 0] 27)).on HW1.out)
  have hbA : Below w1.heap.size w1 (w1.alloc (.cells #[.int .i64 N, .slice av ds.length cv, .slice pa ps.length pc] 27)) := (Below.refl _ w1).alloc (Nat.le_refl _) _
  have k3 : Blk (w1.alloc (.cells #[.int .i64 N, .slice av ds.length cv, .slice pa ps.length pc] 27)) w1.heap.size #[.int .i64 N, .slice av ds.length cv, .slice pa ps.length pc] 27 := Blk.new _ rfl
  have HBL := Lib.hid (HBL1.out.by hbA)
  have HPL := Lib.hid (HPL1.out.by hbA)
  have HDs := Lib.hid (HD1.out.by hbA)
  have HZ := Lib.hid (Blk.by hbA hZ1)
  have HW := Lib.hid (HWs.out.alloc (.cells #[.int .i64 N, .slice av ds.length cv, .slice pa ps.length pc] 27))
  have hsA : w1.heap.size + 1 ≤ (w1.alloc (.cells #[.int .i64 N, .slice av ds.length cv, .slice pa ps.length pc] 27)).heap.size := by simp
  have HDP := Lib.hid hdp
  have HPO := Lib.hid hpo
  clear HBL1 HPL1 HD1 HW1 kZ0 hZ1 HWs hbA hdp hpo
  go_upto_region 2 with fail
  generalize w1.alloc (.cells #[.int .i64 N, .slice av ds.length cv, .slice pa ps.length pc] 27) = w2 at *
  obtain ⟨T, hT⟩ : ∃ T, w1.heap.size = T := ⟨_, rfl⟩
  rw [hT] at k3 hsA lZ1 hb
  (try rw [hT])
  clear hT
  go_wp2_with fail
  refine (HN.out _ _ HDs.out (by omega)).mono ?_
  rintro e w3 ⟨a, rfl, ha0, ha1, hD3, ho3⟩
  have HBL3 := Lib.hid (HBL.out.only ho3 (by omega))
  have HPL3 := Lib.hid (HPL.out.only ho3 (by omega))
  have HD3 := Lib.hid hD3
  have HW3 := Lib.hid (HW.out.on ho3.within)
  have HZ3 := Lib.hid (ho3.within.blk HZ.out (by omega))
  have k33 := ho3.within.blk k3 (by omega)
  have hs3 : w2.heap.size ≤ w3.heap.size := ho3.within.size
  have HSM : Hid (Small ⟨N, ds, ps⟩) := Lib.hid ⟨⟨by show -1 ≤ N; omega, by show N ≤ 25; omega⟩, by show ds.length ≤ 10; omega, fun d hd => by have := HDP.out d hd; omega, by show ps.length ≤ 100; omega, HPO.out⟩
  clear HBL HPL HDs HW HZ k3 hD3 ho3
  by_cases ha : 0 < a
  · have HDO : Hid (∃ lo hi, w.heap.size < lo ∧ OwnDs w3 lo hi (.slice av ds.length cv) ds) := Lib.hid ⟨lo, mid, by omega, HBL3.out.own⟩
    have HPO2 : Hid (∃ lo hi, w.heap.size < lo ∧ OwnPs w3 lo hi (.slice pa ps.length pc) ps) := Lib.hid ⟨mid, hi, by omega, HPL3.out.own⟩
    have kE := k33
    have HZE := HZ3
    have HDE := HD3
    have HWE := HW3
    have cT := kE.cell
    have lT := kE.lt
    have kZE := HZE.out
    have cZ := kZE.cell
    have fZ := kZE.free
    have lZ := kZE.lt
    go_wp2
    refine bodyPost_ret (v := .agg #[.int .i64 N, .slice av ds.length cv, .slice pa ps.length pc]) (by simp [results, Tryz.results35, go_sem, *]) rfl ?_
    exact ⟨_, ⟨N, ds, ps⟩, rfl, Lib.hid (nlv_set3 _ _ _ HDO.out HPO2.out), HSM, Lib.hid (((HDE.out.apart (by omega) (by omega)).apart (by omega) (by omega)).apart (by omega) (by omega)), Lib.hid (((HWE.out.new _ _ _ (by omega)).new _ _ _ (by omega)).new _ _ _ (by omega))⟩
  have c3 := k33.cell
  have l3 := k33.lt
  go_upto_region 4 with fail
  go_cut [4] (fun s wx => ∃ q : Nat, s = .int .i64 (q : Int) ∧ (0 < ds.length → q < ds.length) ∧ Hid (Src1 W0 g sv n wx) ∧ Hid (Only g w3 wx))
  case first =>
    go_wp2_with fail
    all_goals
      refine (HN.out _ _ HD3.out (by omega)).mono ?_
      rintro e w4 ⟨q, rfl, hq0, hq1, hD4, ho4⟩
      obtain ⟨Q, rfl⟩ : ∃ Q : Nat, q = Q := ⟨q.toNat, by omega⟩
      go_wp2
      go_meet
      exact ⟨Q, rfl, by omega, Lib.hid hD4, Lib.hid ho4⟩
  case rest =>
    obtain ⟨q, rfl, hq, HD4, HO4⟩ := hcut
    have HBL4 := Lib.hid (HBL3.out.only HO4.out (by omega))
    have HPL4 := Lib.hid (HPL3.out.only HO4.out (by omega))
    have HW4 := Lib.hid (HW3.out.on HO4.out.within)
    have HZ4 := Lib.hid (HO4.out.within.blk HZ3.out (by omega))
    have k34 := HO4.out.within.blk k33 (by omega)
    have hs4 : w3.heap.size ≤ wc.heap.size := HO4.out.within.size
    clear HBL3 HPL3 HW3 HZ3 k33 HD3 c3 l3 HO4
    have c3 := k34.cell
    have l3 := k34.lt
    go_wp2_with fail
    refine (HN.out _ _ HD4.out (by omega)).mono ?_
    rintro e w5 ⟨y, rfl, hy0, hy1, hD5, ho5⟩
    have HBL := Lib.hid (HBL4.out.only ho5 (by omega))
    have HPL := Lib.hid (HPL4.out.only ho5 (by omega))
    have HD5 := Lib.hid hD5
    have HW := Lib.hid (HW4.out.on ho5.within)
    have HZ := Lib.hid (ho5.within.blk HZ4.out (by omega))
    have k35 := ho5.within.blk k34 (by omega)
    have hs5 : wc.heap.size ≤ w5.heap.size := ho5.within.size
    clear HBL4 HPL4 HD4 HW4 HZ4 k34 hD5 ho5 c3 l3
    have c3 := k35.cell
    have l3 := k35.lt
    rcases (by omega : y = 0 ∨ y = 1 ∨ y = 2 ∨ y = 3 ∨ y = 4 ∨ y = 5 ∨ y = 6) with rfl | rfl | rfl | rfl | rfl | rfl | rfl
    · go_upto_region 23 with (go_at_call 11; refine (HN.out _ _ (HD5.out.by blwT) (by omega)).mono ?_; rintro e w6 ⟨z, rfl, hz0, hz1, hD6, ho6⟩; have HD6 := Lib.hid hD6; have hW6 := ho6.within; have kL0 : Blk (w5.alloc (.cells #[.int .i64 (-1), .int .i64 0, .int .i64 24, .int .i64 25] 2)) w5.heap.size #[.int .i64 (-1), .int .i64 0, .int .i64 24, .int .i64 25] 2 := Blk.new _ rfl; have kL6 := hW6.blk kL0 (by omega); have k36 := hW6.blk (k35.past _) (by omega); have f36 := k36.free; have c36 := k36.cell; have l36 := k36.lt; (obtain ⟨Z, rfl⟩ : ∃ Z : Nat, z = Z := ⟨z.toNat, by omega⟩); have hZi : (Z : Int) < 4 := (by omega); have hZj : (0 : Int) ≤ (Z : Int) := (by omega); (obtain ⟨u, hu, hu1, hu2⟩ : ∃ u : Int, (#[.int .i64 (-1), .int .i64 0, .int .i64 24, .int .i64 25] : Array Value)[Z]? = some (.int .i64 u) ∧ -1 ≤ u ∧ u ≤ 25 := (by rcases (by omega : Z = 0 ∨ Z = 1 ∨ Z = 2 ∨ Z = 3) with rfl | rfl | rfl | rfl <;> exact ⟨_, rfl, by omega, by omega⟩)); rw [← kL6.cell] at hu; have lu := kL6.lt)
      have hbA : Below w5.heap.size w5 (w5.alloc (.cells #[.int .i64 (-1), .int .i64 0, .int .i64 24, .int .i64 25] 2)) := (Below.refl _ w5).alloc (Nat.le_refl _) _
      have hsA := hbA.size
      have hs6 := hW6.size
      have kE : Blk (w6.setCell ⟨T, 0, none⟩ (.int .i64 u)) T #[.int .i64 u, .slice av ds.length cv, .slice pa ps.length pc] 27 := k36.set 0 _
      have HZE := Lib.hid ((hW6.blk (Blk.by hbA HZ.out) (by omega)).apart T 0 (.int .i64 u) (by omega))
      have HDE := Lib.hid (HD6.out.apart (b := T) (o := 0) (v := .int .i64 u) (by omega) (by omega))
      have HWE := Lib.hid (((HW.out.alloc (.cells #[.int .i64 (-1), .int .i64 0, .int .i64 24, .int .i64 25] 2)).on hW6).new T 0 (.int .i64 u) (by omega))
      have HDO : Hid (∃ lo hi, w.heap.size < lo ∧ OwnDs (w6.setCell ⟨T, 0, none⟩ (.int .i64 u)) lo hi (.slice av ds.length cv) ds) := Lib.hid ⟨lo, mid, by omega, (((HBL.out.by hbA).past hW6 (.inl (by omega))).own.past (Within.off _) (.inl (by omega)))⟩
      have HPO2 : Hid (∃ lo hi, w.heap.size < lo ∧ OwnPs (w6.setCell ⟨T, 0, none⟩ (.int .i64 u)) lo hi (.slice pa ps.length pc) ps) := Lib.hid ⟨mid, hi, by omega, (((HPL.out.by hbA).past hW6 (.inl (by omega))).own.past (Within.off _) (.inl (by omega)))⟩
      have HSM2 : Hid (Small ⟨u, ds, ps⟩) := Lib.hid ⟨⟨hu1, hu2⟩, HSM.out.2⟩
      replace HSM := HSM2
      clear HSM2 k36 f36 c36 l36 hu lu kL0 kL6 c3 l3
      generalize w6.setCell ⟨T, 0, none⟩ (.int .i64 u) = wE at *
      have cT := kE.cell
      have lT := kE.lt
      have kZE := HZE.out
      have cZ := kZE.cell
      have fZ := kZE.free
      have lZ := kZE.lt
      go_wp2
      refine bodyPost_ret (v := .agg #[.int .i64 u, .slice av ds.length cv, .slice pa ps.length pc]) (by simp [results, Tryz.results35, go_sem, *]) rfl ?_
      exact ⟨_, ⟨u, ds, ps⟩, rfl, Lib.hid (nlv_set3 _ _ _ HDO.out HPO2.out), HSM, Lib.hid (((HDE.out.apart (by omega) (by omega)).apart (by omega) (by omega)).apart (by omega) (by omega)), Lib.hid (((HWE.out.new _ _ _ (by omega)).new _ _ _ (by omega)).new _ _ _ (by omega))⟩
    · go_upto_region 23 with (refine list_pushP (by rfl) _ _ (by rfl) mid hi (.slice pa ps.length pc) ps (by rfl) (HPL.out.by blwT) w5.heap.size ⟨⟨#[97]⟩, 0⟩ (by rfl) (Blk.new _ rfl) (by omega) (by omega) ?_; intro a6 c6 w6 hB6 hw6; have HB6 := Lib.hid hB6; have k36 := hw6.blk (k35.past (.cells #[.string ⟨#[97]⟩, .int .i64 0] 70)) (by omega); have f36 := k36.free; have c36 := k36.cell; have l36 := k36.lt; clear hB6)
      have hbA : Below w5.heap.size w5 (w5.alloc (.cells #[.string ⟨#[97]⟩, .int .i64 0] 70)) := (Below.refl _ w5).alloc (Nat.le_refl _) _
      have hsA := hbA.size
      have hs6 := hw6.size
      have kE : Blk (w6.setCell ⟨T, 2, none⟩ (.slice a6 (ps.length + 1) c6)) T #[.int .i64 N, .slice av ds.length cv, .slice a6 (ps.length + 1) c6] 27 := k36.set 2 _
      have HZE := Lib.hid ((hw6.blk (Blk.by hbA HZ.out) (by omega)).apart T 2 (.slice a6 (ps.length + 1) c6) (by omega))
      have HDE := Lib.hid ((Src1.within hw6 (HD5.out.by hbA) (by omega) (by omega)).apart (b := T) (o := 2) (v := .slice a6 (ps.length + 1) c6) (by omega) (by omega))
      have HWE := Lib.hid (((HW.out.alloc (.cells #[.string ⟨#[97]⟩, .int .i64 0] 70)).newerM hw6 (by omega)).new T 2 (.slice a6 (ps.length + 1) c6) (by omega))
      have HDO : Hid (∃ lo hi, w.heap.size < lo ∧ OwnDs (w6.setCell ⟨T, 2, none⟩ (.slice a6 (ps.length + 1) c6)) lo hi (.slice av ds.length cv) ds) := Lib.hid ⟨lo, mid, by omega, (((HBL.out.by hbA).past hw6 (.inr (by omega))).own.past (Within.off _) (.inl (by omega)))⟩
      have HPO2 : Hid (∃ lo hi, w.heap.size < lo ∧ OwnPs (w6.setCell ⟨T, 2, none⟩ (.slice a6 (ps.length + 1) c6)) lo hi (.slice a6 (ps.length + 1) c6) (ps ++ [⟨⟨#[97]⟩, 0⟩])) := Lib.hid ⟨mid, w6.heap.size, by omega, by simpa using HB6.out.own.offN (o := 2) (v := .slice a6 (ps.length + 1) c6) k36⟩
      have HSM2 : Hid (Small ⟨N, ds, ps ++ [⟨⟨#[97]⟩, 0⟩]⟩) := Lib.hid ⟨HSM.out.1, HSM.out.2.1, HSM.out.2.2.1, by have := hpl; simp; omega, by
        intro e he
        rcases List.mem_append.1 he with h | h
        · exact HPO.out e h
        · obtain rfl := List.mem_singleton.1 h
          exact ⟨by show (⟨#[97]⟩ : ByteArray).size ≤ _; decide, by show Fits 0; exact ⟨by omega, by omega⟩⟩⟩
      replace HSM := HSM2
      clear HSM2 k36 f36 c36 l36 c3 l3
      generalize w6.setCell ⟨T, 2, none⟩ (.slice a6 (ps.length + 1) c6) = wE at *
      have cT := kE.cell
      have lT := kE.lt
      have kZE := HZE.out
      have cZ := kZE.cell
      have fZ := kZE.free
      have lZ := kZE.lt
      go_wp2
      refine bodyPost_ret (v := .agg #[.int .i64 N, .slice av ds.length cv, .slice a6 (ps.length + 1) c6]) (by simp [results, Tryz.results35, go_sem, *]) rfl ?_
      exact ⟨_, ⟨N, ds, ps ++ [⟨⟨#[97]⟩, 0⟩]⟩, rfl, Lib.hid (nlv_set3 _ _ _ HDO.out HPO2.out), HSM, Lib.hid (((HDE.out.apart (by omega) (by omega)).apart (by omega) (by omega)).apart (by omega) (by omega)), Lib.hid (((HWE.out.new _ _ _ (by omega)).new _ _ _ (by omega)).new _ _ _ (by omega))⟩
    · go_upto_region 23 with (refine list_pushP (by rfl) _ _ (by rfl) mid hi (.slice pa ps.length pc) ps (by rfl) (HPL.out.by blwT) w5.heap.size ⟨⟨#[122, 122]⟩, N⟩ (by rfl) (Blk.new _ rfl) (by omega) (by omega) ?_; intro a6 c6 w6 hB6 hw6; have HB6 := Lib.hid hB6; have k36 := hw6.blk (k35.past (.cells #[.string ⟨#[122, 122]⟩, .int .i64 N] 70)) (by omega); have f36 := k36.free; have c36 := k36.cell; have l36 := k36.lt; clear hB6)
      have hbA : Below w5.heap.size w5 (w5.alloc (.cells #[.string ⟨#[122, 122]⟩, .int .i64 N] 70)) := (Below.refl _ w5).alloc (Nat.le_refl _) _
      have hsA := hbA.size
      have hs6 := hw6.size
      have kE : Blk (w6.setCell ⟨T, 2, none⟩ (.slice a6 (ps.length + 1) c6)) T #[.int .i64 N, .slice av ds.length cv, .slice a6 (ps.length + 1) c6] 27 := k36.set 2 _
      have HZE := Lib.hid ((hw6.blk (Blk.by hbA HZ.out) (by omega)).apart T 2 (.slice a6 (ps.length + 1) c6) (by omega))
      have HDE := Lib.hid ((Src1.within hw6 (HD5.out.by hbA) (by omega) (by omega)).apart (b := T) (o := 2) (v := .slice a6 (ps.length + 1) c6) (by omega) (by omega))
      have HWE := Lib.hid (((HW.out.alloc (.cells #[.string ⟨#[122, 122]⟩, .int .i64 N] 70)).newerM hw6 (by omega)).new T 2 (.slice a6 (ps.length + 1) c6) (by omega))
      have HDO : Hid (∃ lo hi, w.heap.size < lo ∧ OwnDs (w6.setCell ⟨T, 2, none⟩ (.slice a6 (ps.length + 1) c6)) lo hi (.slice av ds.length cv) ds) := Lib.hid ⟨lo, mid, by omega, (((HBL.out.by hbA).past hw6 (.inr (by omega))).own.past (Within.off _) (.inl (by omega)))⟩
      have HPO2 : Hid (∃ lo hi, w.heap.size < lo ∧ OwnPs (w6.setCell ⟨T, 2, none⟩ (.slice a6 (ps.length + 1) c6)) lo hi (.slice a6 (ps.length + 1) c6) (ps ++ [⟨⟨#[122, 122]⟩, N⟩])) := Lib.hid ⟨mid, w6.heap.size, by omega, by simpa using HB6.out.own.offN (o := 2) (v := .slice a6 (ps.length + 1) c6) k36⟩
      have HSM2 : Hid (Small ⟨N, ds, ps ++ [⟨⟨#[122, 122]⟩, N⟩]⟩) := Lib.hid ⟨HSM.out.1, HSM.out.2.1, HSM.out.2.2.1, by have := hpl; simp; omega, by
        intro e he
        rcases List.mem_append.1 he with h | h
        · exact HPO.out e h
        · obtain rfl := List.mem_singleton.1 h
          exact ⟨by show (⟨#[122, 122]⟩ : ByteArray).size ≤ _; decide, by show Fits N; exact ⟨by omega, by omega⟩⟩⟩
      replace HSM := HSM2
      clear HSM2 k36 f36 c36 l36 c3 l3
      generalize w6.setCell ⟨T, 2, none⟩ (.slice a6 (ps.length + 1) c6) = wE at *
      have cT := kE.cell
      have lT := kE.lt
      have kZE := HZE.out
      have cZ := kZE.cell
      have fZ := kZE.free
      have lZ := kZE.lt
      go_wp2
      refine bodyPost_ret (v := .agg #[.int .i64 N, .slice av ds.length cv, .slice a6 (ps.length + 1) c6]) (by simp [results, Tryz.results35, go_sem, *]) rfl ?_
      exact ⟨_, ⟨N, ds, ps ++ [⟨⟨#[122, 122]⟩, N⟩]⟩, rfl, Lib.hid (nlv_set3 _ _ _ HDO.out HPO2.out), HSM, Lib.hid (((HDE.out.apart (by omega) (by omega)).apart (by omega) (by omega)).apart (by omega) (by omega)), Lib.hid (((HWE.out.new _ _ _ (by omega)).new _ _ _ (by omega)).new _ _ _ (by omega))⟩
    · go_upto_region 23 with (refine list_pushD (by rfl) _ _ (by rfl) lo mid (.slice av ds.length cv) ds (by rfl) (HBL.out.by blwT) (w5.heap.size + 1) ⟨2, [0, 0], 2, 2⟩ _ w5.heap.size (by first | rfl | (simp; done)) (Blk.new _ (by simp)) (BldI.lit (zs := [0, 0]) ((Blk.new _ rfl).past _) rfl (by simp) (Nat.le_refl _) (Nat.lt_succ_self _) (by simp)) (by omega) (by omega) (by simp; omega) (by omega) ?_; intro a6 c6 w6 hB6 hw6; have HB6 := Lib.hid hB6; have k36 := hw6.blk ((k35.past (.cells #[.int .i64 0, .int .i64 0] 2)).past (.cells #[.int .i64 2, .slice (some ⟨w5.heap.size, 0, none⟩) 2 2, .int .i64 2, .int .i64 2] 46)) (by omega); have f36 := k36.free; have c36 := k36.cell; have l36 := k36.lt; clear hB6)
      have hbA : Below w5.heap.size w5 ((w5.alloc (.cells #[.int .i64 0, .int .i64 0] 2)).alloc (.cells #[.int .i64 2, .slice (some ⟨w5.heap.size, 0, none⟩) 2 2, .int .i64 2, .int .i64 2] 46)) := ((Below.refl _ w5).alloc (Nat.le_refl _) _).alloc (by simp) _
      have hsA := hbA.size
      have hs6 := hw6.size
      have kE : Blk (w6.setCell ⟨T, 1, none⟩ (.slice a6 (ds.length + 1) c6)) T #[.int .i64 N, .slice a6 (ds.length + 1) c6, .slice pa ps.length pc] 27 := k36.set 1 _
      have HZE := Lib.hid ((hw6.blk (Blk.by hbA HZ.out) (by omega)).apart T 1 (.slice a6 (ds.length + 1) c6) (by omega))
      have HDE := Lib.hid ((Src1.within hw6 (HD5.out.by hbA) (by omega) (by omega)).apart (b := T) (o := 1) (v := .slice a6 (ds.length + 1) c6) (by omega) (by omega))
      have HWE := Lib.hid ((((HW.out.alloc (.cells #[.int .i64 0, .int .i64 0] 2)).alloc (.cells #[.int .i64 2, .slice (some ⟨w5.heap.size, 0, none⟩) 2 2, .int .i64 2, .int .i64 2] 46)).newerM hw6 (by omega)).new T 1 (.slice a6 (ds.length + 1) c6) (by omega))
      have HDO : Hid (∃ lo hi, w.heap.size < lo ∧ OwnDs (w6.setCell ⟨T, 1, none⟩ (.slice a6 (ds.length + 1) c6)) lo hi (.slice a6 (ds.length + 1) c6) (ds ++ [⟨2, [0, 0], 2, 2⟩])) := Lib.hid ⟨lo, w6.heap.size, by omega, by simpa using HB6.out.own.offN (o := 1) (v := .slice a6 (ds.length + 1) c6) k36⟩
      have HPO2 : Hid (∃ lo hi, w.heap.size < lo ∧ OwnPs (w6.setCell ⟨T, 1, none⟩ (.slice a6 (ds.length + 1) c6)) lo hi (.slice pa ps.length pc) ps) := Lib.hid ⟨mid, hi, by omega, (((HPL.out.by hbA).past hw6 (.inl (by omega))).own.past (Within.off _) (.inl (by omega)))⟩
      have HSM2 : Hid (Small ⟨N, ds ++ [⟨2, [0, 0], 2, 2⟩], ps⟩) := Lib.hid ⟨HSM.out.1, by simp; omega, by
        intro e he
        rcases List.mem_append.1 he with h | h
        · have := HDP.out e h; omega
        · obtain rfl := List.mem_singleton.1 h
          simp, HSM.out.2.2.2⟩
      replace HSM := HSM2
      clear HSM2 k36 f36 c36 l36 c3 l3
      generalize w6.setCell ⟨T, 1, none⟩ (.slice a6 (ds.length + 1) c6) = wE at *
      have cT := kE.cell
      have lT := kE.lt
      have kZE := HZE.out
      have cZ := kZE.cell
      have fZ := kZE.free
      have lZ := kZE.lt
      go_wp2
      refine bodyPost_ret (v := .agg #[.int .i64 N, .slice a6 (ds.length + 1) c6, .slice pa ps.length pc]) (by simp [results, Tryz.results35, go_sem, *]) rfl ?_
      exact ⟨_, ⟨N, ds ++ [⟨2, [0, 0], 2, 2⟩], ps⟩, rfl, Lib.hid (nlv_set3 _ _ _ HDO.out HPO2.out), HSM, Lib.hid (((HDE.out.apart (by omega) (by omega)).apart (by omega) (by omega)).apart (by omega) (by omega)), Lib.hid (((HWE.out.new _ _ _ (by omega)).new _ _ _ (by omega)).new _ _ _ (by omega))⟩
    · by_cases hdl : 0 < ds.length
      · have hdi : (0 : Int) < (ds.length : Int) := by omega
        have hql := hq hdl
        have hqi : (q : Int) < (ds.length : Int) := by omega
        have hqj : (0 : Int) ≤ (q : Int) := by omega
        obtain ⟨b, rfl, hb1, hb2⟩ := HBL.out.ad hdl
        obtain ⟨x, hx⟩ : ∃ x, ds[q]? = some x := ⟨ds[q]'(by omega), List.getElem?_eq_getElem _⟩
        go_upto_region 16 with fail
        go_region_law
          (go_simp; go_at_call 11; refine (HN.out _ _ (HD5.out.by blwT) (by omega)).mono ?_; rintro e w6 ⟨z, rfl, hz0, hz1, hD6, ho6⟩; have HD6 := Lib.hid hD6; have hW6 := ho6.within; have hs6 := hW6.size; have hs6' : w5.heap.size ≤ w6.heap.size := (by simp at hs6 <;> omega); have k36 := hW6.blk (Blk.by (w := w5) blwT k35) (by omega); have c36 := k36.cell; have l36 := k36.lt; have HZ6 := Lib.hid (hW6.blk (Blk.by (w := w5) blwT HZ.out) (by omega)); have HBL6 := Lib.hid ((HBL.out.by (w := w5) blwT).only ho6 (by omega)); have HPL6 := Lib.hid ((HPL.out.by (w := w5) blwT).only ho6 (by omega)); (obtain ⟨sx, e1, e2, e3, e4, hSx⟩ := HBL6.out.at q x hx); have fr := HBL6.out.fr hdl; have lX := lt_of_cell e1; (obtain ⟨Z, rfl⟩ : ∃ Z : Nat, z = Z := ⟨z.toNat, by omega⟩); have hZi : (Z : Int) < 3 := (by omega); have hZj : (0 : Int) ≤ (Z : Int) := (by omega); (obtain ⟨u, hu⟩ : ∃ u : Int, (#[.int .i64 0, .int .i64 1000000, .int .i64 1000001] : Array Value)[Z]? = some (.int .i64 u) := (by rcases (by omega : Z = 0 ∨ Z = 1 ∨ Z = 2) with rfl | rfl | rfl <;> exact ⟨_, rfl⟩)); (try (refine with_fact (p := Blk w6 w5.heap.size #[.int .i64 0, .int .i64 1000000, .int .i64 1000001] 2) (hW6.blk ?_ (by omega)) ?_; (focus ((repeat (first | (with_reducible assumption) | (with_reducible refine Blk.drewN ?_ _) | (with_reducible refine Blk.drew ?_) | ((with_reducible refine Blk.new _ ?_); focus (first | omega | (simp; done) | (simp; omega))) | (with_reducible refine Blk.past ?_ _) | ((with_reducible refine Blk.apart ?_ _ _ _ ?_); rotate_left; focus (first | omega | (simp; done) | (simp; omega))) | (with_reducible refine Blk.by (by assumption) ?_))); done)); intro kL6; have hu' : w6.cell? ⟨w5.heap.size, Z, none⟩ = some (.int .i64 u) := (by rw [kL6.cell]; exact hu); have lu := kL6.lt)); have HW6 := Lib.hid (HW.out.on (Within.onB g (g + 1) blwT hW6)); clear hW6 ho6 hD6; dsimp only at lX ⊢)
        all_goals
          go_upto_region 23 with fail
          first
            | (
               with_reducible refine atWorld (w6.setCell ⟨b, q * 4 + 2, none⟩ (.int .i64 u)) ?_
               have kE : Blk (w6.setCell ⟨b, q * 4 + 2, none⟩ (.int .i64 u)) T #[.int .i64 N, .slice (some ⟨b, 0, none⟩) ds.length cv, .slice pa ps.length pc] 27 := k36.apart b _ _ (by omega)
               have HZE : Hid (Blk (w6.setCell ⟨b, q * 4 + 2, none⟩ (.int .i64 u)) w.heap.size #[.int .i64 0, .slice none 0 0, .slice none 0 0] 27) := Lib.hid (HZ6.out.apart b _ _ (by omega))
               have HDE : Hid (Src1 W0 g sv n (w6.setCell ⟨b, q * 4 + 2, none⟩ (.int .i64 u))) := Lib.hid (HD6.out.apart (b := b) (by omega) (by omega))
               have HWE : Hid (Within g (g + 1) w (w6.setCell ⟨b, q * 4 + 2, none⟩ (.int .i64 u))) := Lib.hid (HW6.out.new b _ _ (by omega))
               have HDO : Hid (∃ lo hi, w.heap.size < lo ∧ OwnDs (w6.setCell ⟨b, q * 4 + 2, none⟩ (.int .i64 u)) lo hi (.slice (some ⟨b, 0, none⟩) ds.length cv) (ds.set q ⟨x.kind, x.pins, u, x.len⟩)) := Lib.hid ⟨lo, mid, by omega, by simpa using (HBL6.out.own.setNum q x hx 2 (u) ⟨x.kind, x.pins, u, x.len⟩ (by simp))⟩
               have HPO2 : Hid (∃ lo hi, w.heap.size < lo ∧ OwnPs (w6.setCell ⟨b, q * 4 + 2, none⟩ (.int .i64 u)) lo hi (.slice pa ps.length pc) ps) := Lib.hid ⟨mid, hi, by omega, HPL6.out.own.past (Within.off _) (.inr (by omega))⟩
               have HSM2 : Hid (Small ⟨N, ds.set q ⟨x.kind, x.pins, u, x.len⟩, ps⟩) := Lib.hid ⟨HSM.out.1, by simp; omega, by
                 intro e he
                 rcases List.mem_or_eq_of_mem_set he with h | rfl
                 · have := HDP.out e h; omega
                 · have := HDP.out x (List.mem_of_getElem? hx); show 1 ≤ x.pins.length ∧ x.pins.length ≤ 100; omega, HSM.out.2.2.2⟩
               replace HSM := HSM2
               clear HSM2 k36 c36 l36 c3 l3 e1 e2 e3 e4 hSx fr hx
               generalize (w6.setCell ⟨b, q * 4 + 2, none⟩ (.int .i64 u)) = wE at *
               have cT := kE.cell
               have lT := kE.lt
               have kZE := HZE.out
               have cZ := kZE.cell
               have fZ := kZE.free
               have lZ := kZE.lt
               go_wp2
               refine bodyPost_ret (v := .agg #[.int .i64 N, .slice (some ⟨b, 0, none⟩) ds.length cv, .slice pa ps.length pc]) (by simp [results, Tryz.results35, go_sem, *]) rfl ?_
               exact ⟨_, ⟨N, ds.set q ⟨x.kind, x.pins, u, x.len⟩, ps⟩, rfl, Lib.hid (nlv_set3 _ _ _ HDO.out HPO2.out), HSM, Lib.hid (((HDE.out.apart (by omega) (by omega)).apart (by omega) (by omega)).apart (by omega) (by omega)), Lib.hid (((HWE.out.new _ _ _ (by omega)).new _ _ _ (by omega)).new _ _ _ (by omega))⟩
              )
            | (
               with_reducible refine atWorld ((w6.setCell ⟨b, q * 4 + 2, none⟩ (.int .i64 u)).alloc (.cells #[.int .i64 0, .int .i64 1000000, .int .i64 1000001] 2)) ?_
               have kE : Blk ((w6.setCell ⟨b, q * 4 + 2, none⟩ (.int .i64 u)).alloc (.cells #[.int .i64 0, .int .i64 1000000, .int .i64 1000001] 2)) T #[.int .i64 N, .slice (some ⟨b, 0, none⟩) ds.length cv, .slice pa ps.length pc] 27 := (k36.apart b _ _ (by omega)).past _
               have HZE : Hid (Blk ((w6.setCell ⟨b, q * 4 + 2, none⟩ (.int .i64 u)).alloc (.cells #[.int .i64 0, .int .i64 1000000, .int .i64 1000001] 2)) w.heap.size #[.int .i64 0, .slice none 0 0, .slice none 0 0] 27) := Lib.hid ((HZ6.out.apart b _ _ (by omega)).past _)
               have HDE : Hid (Src1 W0 g sv n ((w6.setCell ⟨b, q * 4 + 2, none⟩ (.int .i64 u)).alloc (.cells #[.int .i64 0, .int .i64 1000000, .int .i64 1000001] 2))) := Lib.hid ((HD6.out.apart (b := b) (by omega) (by omega)).by ((Below.refl _ _).alloc (Nat.le_refl _) _))
               have HWE : Hid (Within g (g + 1) w ((w6.setCell ⟨b, q * 4 + 2, none⟩ (.int .i64 u)).alloc (.cells #[.int .i64 0, .int .i64 1000000, .int .i64 1000001] 2))) := Lib.hid ((HW6.out.new b _ _ (by omega)).alloc _)
               have HDO : Hid (∃ lo hi, w.heap.size < lo ∧ OwnDs ((w6.setCell ⟨b, q * 4 + 2, none⟩ (.int .i64 u)).alloc (.cells #[.int .i64 0, .int .i64 1000000, .int .i64 1000001] 2)) lo hi (.slice (some ⟨b, 0, none⟩) ds.length cv) (ds.set q ⟨x.kind, x.pins, u, x.len⟩)) := Lib.hid ⟨lo, mid, by omega, OwnDs.by ((Below.refl _ _).alloc (Nat.le_refl _) _) (by simpa using (HBL6.out.own.setNum q x hx 2 (u) ⟨x.kind, x.pins, u, x.len⟩ (by simp)))⟩
               have HPO2 : Hid (∃ lo hi, w.heap.size < lo ∧ OwnPs ((w6.setCell ⟨b, q * 4 + 2, none⟩ (.int .i64 u)).alloc (.cells #[.int .i64 0, .int .i64 1000000, .int .i64 1000001] 2)) lo hi (.slice pa ps.length pc) ps) := Lib.hid ⟨mid, hi, by omega, OwnPs.by ((Below.refl _ _).alloc (Nat.le_refl _) _) (HPL6.out.own.past (Within.off _) (.inr (by omega)))⟩
               have HSM2 : Hid (Small ⟨N, ds.set q ⟨x.kind, x.pins, u, x.len⟩, ps⟩) := Lib.hid ⟨HSM.out.1, by simp; omega, by
                 intro e he
                 rcases List.mem_or_eq_of_mem_set he with h | rfl
                 · have := HDP.out e h; omega
                 · have := HDP.out x (List.mem_of_getElem? hx); show 1 ≤ x.pins.length ∧ x.pins.length ≤ 100; omega, HSM.out.2.2.2⟩
               replace HSM := HSM2
               clear HSM2 k36 c36 l36 c3 l3 e1 e2 e3 e4 hSx fr hx
               generalize ((w6.setCell ⟨b, q * 4 + 2, none⟩ (.int .i64 u)).alloc (.cells #[.int .i64 0, .int .i64 1000000, .int .i64 1000001] 2)) = wE at *
               have cT := kE.cell
               have lT := kE.lt
               have kZE := HZE.out
               have cZ := kZE.cell
               have fZ := kZE.free
               have lZ := kZE.lt
               go_wp2
               refine bodyPost_ret (v := .agg #[.int .i64 N, .slice (some ⟨b, 0, none⟩) ds.length cv, .slice pa ps.length pc]) (by simp [results, Tryz.results35, go_sem, *]) rfl ?_
               exact ⟨_, ⟨N, ds.set q ⟨x.kind, x.pins, u, x.len⟩, ps⟩, rfl, Lib.hid (nlv_set3 _ _ _ HDO.out HPO2.out), HSM, Lib.hid (((HDE.out.apart (by omega) (by omega)).apart (by omega) (by omega)).apart (by omega) (by omega)), Lib.hid (((HWE.out.new _ _ _ (by omega)).new _ _ _ (by omega)).new _ _ _ (by omega))⟩
              )
      · have HDO : Hid (∃ lo hi, w.heap.size < lo ∧ OwnDs w5 lo hi (.slice av ds.length cv) ds) := Lib.hid ⟨lo, mid, by omega, HBL.out.own⟩
        have HPO2 : Hid (∃ lo hi, w.heap.size < lo ∧ OwnPs w5 lo hi (.slice pa ps.length pc) ps) := Lib.hid ⟨mid, hi, by omega, HPL.out.own⟩
        have kE := k35
        have HZE := HZ
        have HDE := HD5
        have HWE := HW
        have hdi : ¬ (0 : Int) < (ds.length : Int) := by omega
        have cT := kE.cell
        have lT := kE.lt
        have kZE := HZE.out
        have cZ := kZE.cell
        have fZ := kZE.free
        have lZ := kZE.lt
        go_wp2
        refine bodyPost_ret (v := .agg #[.int .i64 N, .slice av ds.length cv, .slice pa ps.length pc]) (by simp [results, Tryz.results35, go_sem, *]) rfl ?_
        exact ⟨_, ⟨N, ds, ps⟩, rfl, Lib.hid (nlv_set3 _ _ _ HDO.out HPO2.out), HSM, Lib.hid (((HDE.out.apart (by omega) (by omega)).apart (by omega) (by omega)).apart (by omega) (by omega)), Lib.hid (((HWE.out.new _ _ _ (by omega)).new _ _ _ (by omega)).new _ _ _ (by omega))⟩
    · by_cases hdl : 0 < ds.length
      · have hdi : (0 : Int) < (ds.length : Int) := by omega
        have hql := hq hdl
        have hqi : (q : Int) < (ds.length : Int) := by omega
        have hqj : (0 : Int) ≤ (q : Int) := by omega
        obtain ⟨b, rfl, hb1, hb2⟩ := HBL.out.ad hdl
        obtain ⟨x, hx⟩ : ∃ x, ds[q]? = some x := ⟨ds[q]'(by omega), List.getElem?_eq_getElem _⟩
        obtain ⟨f, pv, hBf, ep, hf12, hfb, HK⟩ := HBL.out.pinsAt q x hx
        obtain ⟨ap, cp, rfl⟩ := hBf.sized
        obtain ⟨cs, hBb⟩ := HBL.out.blkB hdl
        have HBF := Lib.hid hBf
        have HKK := Lib.hid HK
        have HBB := Lib.hid hBb
        have lb := lt_of_cell ep
        dsimp only at lb
        have hxp := HDP.out x (List.mem_of_getElem? hx)
        clear hBf HK hBb
        go_upto_region 19 with fail
        go_region_law
          (refine step_pushOne (by rfl) _ _ (by rfl) f _ x.pins [0] (by rfl) (HBF.out.by (w := w5) blwT) w5.heap.size 1 #[.int .i64 0] (by rfl) (by rfl) (by omega) blkT (by rfl) (by omega) ?_; intro a6 c6 w6 f2 hB6 hf6 hw6; have hB6' := Lib.hid hB6; have hs6 := hw6.size; have hs6' : w5.heap.size ≤ w6.heap.size := (by simp at hs6 <;> omega); have hf6' : f2 = f ∨ w5.heap.size ≤ f2 := (by simp at hf6 <;> omega); have k36 := hw6.blk (Blk.by (w := w5) blwT k35) (by omega); have c36 := k36.cell; have l36 := k36.lt; have kb6 := hw6.blk (Blk.by (w := w5) blwT HBB.out) (by omega); have fb6 := kb6.free; have eb6 : w6.cell? ⟨b, q * 4 + 1, none⟩ = some (.slice ap x.pins.length cp) := (by rw [kb6.cell]; rw [HBB.out.cell] at ep; exact ep); have lb6 := kb6.lt; have HZ6 := Lib.hid (hw6.blk (Blk.by (w := w5) blwT HZ.out) (by omega)); have HPL6 := Lib.hid (BldP.past hw6 (HPL.out.by (w := w5) blwT) (.inl (by omega))); have HD6 := Lib.hid (Src1.within hw6 (HD5.out.by (w := w5) blwT) (by omega) (by omega)); have HWo := Lib.hid (Within.onB f (f + 1) (a := w5) blwT hw6); clear hB6 hw6)
        all_goals
          go_upto_region 23 with fail
          have kE : Blk (w6.setCell ⟨b, q * 4 + 1, none⟩ (.slice a6 (x.pins.length + 1) c6)) T #[.int .i64 N, .slice (some ⟨b, 0, none⟩) ds.length cv, .slice pa ps.length pc] 27 := k36.apart b _ _ (by omega)
          have HZE : Hid (Blk (w6.setCell ⟨b, q * 4 + 1, none⟩ (.slice a6 (x.pins.length + 1) c6)) w.heap.size #[.int .i64 0, .slice none 0 0, .slice none 0 0] 27) := Lib.hid (HZ6.out.apart b _ _ (by omega))
          have HDE : Hid (Src1 W0 g sv n (w6.setCell ⟨b, q * 4 + 1, none⟩ (.slice a6 (x.pins.length + 1) c6))) := Lib.hid (HD6.out.apart (b := b) (by omega) (by omega))
          have HWE : Hid (Within g (g + 1) w (w6.setCell ⟨b, q * 4 + 1, none⟩ (.slice a6 (x.pins.length + 1) c6))) := Lib.hid ((HW.out.newerM HWo.out (by omega)).new b _ _ (by omega))
          have hl2 := hB6'.out.1
          have HDO : Hid (∃ lo hi, w.heap.size < lo ∧ OwnDs (w6.setCell ⟨b, q * 4 + 1, none⟩ (.slice a6 (x.pins.length + 1) c6)) lo hi (.slice (some ⟨b, 0, none⟩) ds.length cv) (ds.set q ⟨x.kind, x.pins ++ [0], x.wd, x.len⟩)) := Lib.hid ⟨lo, w6.heap.size, by omega, HKK.out w6 _ (x.pins ++ [0]) f2 w6.heap.size HWo.out (by omega) (by omega) (by omega) (by simpa using hB6'.out.own)⟩
          have HPO2 : Hid (∃ lo hi, w.heap.size < lo ∧ OwnPs (w6.setCell ⟨b, q * 4 + 1, none⟩ (.slice a6 (x.pins.length + 1) c6)) lo hi (.slice pa ps.length pc) ps) := Lib.hid ⟨mid, hi, by omega, HPL6.out.own.past (Within.off _) (.inr (by omega))⟩
          have HSM2 : Hid (Small ⟨N, ds.set q ⟨x.kind, x.pins ++ [0], x.wd, x.len⟩, ps⟩) := Lib.hid ⟨HSM.out.1, by simp; omega, by
            intro e he
            rcases List.mem_or_eq_of_mem_set he with h | rfl
            · have := HDP.out e h; omega
            · simp; omega, HSM.out.2.2.2⟩
          replace HSM := HSM2
          clear HSM2 k36 c36 l36 c3 l3 ep hx eb6 fb6 kb6
          generalize (w6.setCell ⟨b, q * 4 + 1, none⟩ (.slice a6 (x.pins.length + 1) c6)) = wE at *
          have cT := kE.cell
          have lT := kE.lt
          have kZE := HZE.out
          have cZ := kZE.cell
          have fZ := kZE.free
          have lZ := kZE.lt
          go_wp2
          refine bodyPost_ret (v := .agg #[.int .i64 N, .slice (some ⟨b, 0, none⟩) ds.length cv, .slice pa ps.length pc]) (by simp [results, Tryz.results35, go_sem, *]) rfl ?_
          exact ⟨_, ⟨N, ds.set q ⟨x.kind, x.pins ++ [0], x.wd, x.len⟩, ps⟩, rfl, Lib.hid (nlv_set3 _ _ _ HDO.out HPO2.out), HSM, Lib.hid (((HDE.out.apart (by omega) (by omega)).apart (by omega) (by omega)).apart (by omega) (by omega)), Lib.hid (((HWE.out.new _ _ _ (by omega)).new _ _ _ (by omega)).new _ _ _ (by omega))⟩
      · have HDO : Hid (∃ lo hi, w.heap.size < lo ∧ OwnDs w5 lo hi (.slice av ds.length cv) ds) := Lib.hid ⟨lo, mid, by omega, HBL.out.own⟩
        have HPO2 : Hid (∃ lo hi, w.heap.size < lo ∧ OwnPs w5 lo hi (.slice pa ps.length pc) ps) := Lib.hid ⟨mid, hi, by omega, HPL.out.own⟩
        have kE := k35
        have HZE := HZ
        have HDE := HD5
        have HWE := HW
        have hdi : ¬ (0 : Int) < (ds.length : Int) := by omega
        have cT := kE.cell
        have lT := kE.lt
        have kZE := HZE.out
        have cZ := kZE.cell
        have fZ := kZE.free
        have lZ := kZE.lt
        go_wp2
        refine bodyPost_ret (v := .agg #[.int .i64 N, .slice av ds.length cv, .slice pa ps.length pc]) (by simp [results, Tryz.results35, go_sem, *]) rfl ?_
        exact ⟨_, ⟨N, ds, ps⟩, rfl, Lib.hid (nlv_set3 _ _ _ HDO.out HPO2.out), HSM, Lib.hid (((HDE.out.apart (by omega) (by omega)).apart (by omega) (by omega)).apart (by omega) (by omega)), Lib.hid (((HWE.out.new _ _ _ (by omega)).new _ _ _ (by omega)).new _ _ _ (by omega))⟩
    · by_cases hdl : 0 < ds.length
      · have hdi : (0 : Int) < (ds.length : Int) := by omega
        have hql := hq hdl
        have hqi : (q : Int) < (ds.length : Int) := by omega
        have hqj : (0 : Int) ≤ (q : Int) := by omega
        obtain ⟨b, rfl, hb1, hb2⟩ := HBL.out.ad hdl
        obtain ⟨x, hx⟩ : ∃ x, ds[q]? = some x := ⟨ds[q]'(by omega), List.getElem?_eq_getElem _⟩
        go_upto_region 22 with fail
        go_region_law
          (go_simp; go_at_call 11; refine (HN.out _ _ (HD5.out.by blwT) (by omega)).mono ?_; rintro e w6 ⟨z, rfl, hz0, hz1, hD6, ho6⟩; have HD6 := Lib.hid hD6; have hW6 := ho6.within; have hs6 := hW6.size; have hs6' : w5.heap.size ≤ w6.heap.size := (by simp at hs6 <;> omega); have k36 := hW6.blk (Blk.by (w := w5) blwT k35) (by omega); have c36 := k36.cell; have l36 := k36.lt; have HZ6 := Lib.hid (hW6.blk (Blk.by (w := w5) blwT HZ.out) (by omega)); have HBL6 := Lib.hid ((HBL.out.by (w := w5) blwT).only ho6 (by omega)); have HPL6 := Lib.hid ((HPL.out.by (w := w5) blwT).only ho6 (by omega)); (obtain ⟨sx, e1, e2, e3, e4, hSx⟩ := HBL6.out.at q x hx); have fr := HBL6.out.fr hdl; have lX := lt_of_cell e1; have wz : IntKind.i64.wrap (4 * z) = 4 * z := (by simp [IntKind.wrap, IntKind.bits, IntKind.signed]; omega); have wz2 : IntKind.i64.wrap (3 - 4 * z) = 3 - 4 * z := (by simp [IntKind.wrap, IntKind.bits, IntKind.signed]; omega); have HW6 := Lib.hid (HW.out.on (Within.onB g (g + 1) blwT hW6)); clear hW6 ho6 hD6; dsimp only at lX ⊢)
        all_goals
          go_upto_region 23 with fail
          with_reducible refine atWorld (w6.setCell ⟨b, q * 4, none⟩ (.int .i64 (3 - 4 * z))) ?_
          have kE : Blk (w6.setCell ⟨b, q * 4, none⟩ (.int .i64 (3 - 4 * z))) T #[.int .i64 N, .slice (some ⟨b, 0, none⟩) ds.length cv, .slice pa ps.length pc] 27 := k36.apart b _ _ (by omega)
          have HZE : Hid (Blk (w6.setCell ⟨b, q * 4, none⟩ (.int .i64 (3 - 4 * z))) w.heap.size #[.int .i64 0, .slice none 0 0, .slice none 0 0] 27) := Lib.hid (HZ6.out.apart b _ _ (by omega))
          have HDE : Hid (Src1 W0 g sv n (w6.setCell ⟨b, q * 4, none⟩ (.int .i64 (3 - 4 * z)))) := Lib.hid (HD6.out.apart (b := b) (by omega) (by omega))
          have HWE : Hid (Within g (g + 1) w (w6.setCell ⟨b, q * 4, none⟩ (.int .i64 (3 - 4 * z)))) := Lib.hid (HW6.out.new b _ _ (by omega))
          have HDO : Hid (∃ lo hi, w.heap.size < lo ∧ OwnDs (w6.setCell ⟨b, q * 4, none⟩ (.int .i64 (3 - 4 * z))) lo hi (.slice (some ⟨b, 0, none⟩) ds.length cv) (ds.set q ⟨3 - 4 * z, x.pins, x.wd, x.len⟩)) := Lib.hid ⟨lo, mid, by omega, by simpa using (HBL6.out.own.setNum q x hx 0 ((3 - 4 * z)) ⟨3 - 4 * z, x.pins, x.wd, x.len⟩ (by simp))⟩
          have HPO2 : Hid (∃ lo hi, w.heap.size < lo ∧ OwnPs (w6.setCell ⟨b, q * 4, none⟩ (.int .i64 (3 - 4 * z))) lo hi (.slice pa ps.length pc) ps) := Lib.hid ⟨mid, hi, by omega, HPL6.out.own.past (Within.off _) (.inr (by omega))⟩
          have HSM2 : Hid (Small ⟨N, ds.set q ⟨3 - 4 * z, x.pins, x.wd, x.len⟩, ps⟩) := Lib.hid ⟨HSM.out.1, by simp; omega, by
            intro e he
            rcases List.mem_or_eq_of_mem_set he with h | rfl
            · have := HDP.out e h; omega
            · have := HDP.out x (List.mem_of_getElem? hx); show 1 ≤ x.pins.length ∧ x.pins.length ≤ 100; omega, HSM.out.2.2.2⟩
          replace HSM := HSM2
          clear HSM2 k36 c36 l36 c3 l3 e1 e2 e3 e4 hSx fr hx
          generalize (w6.setCell ⟨b, q * 4, none⟩ (.int .i64 (3 - 4 * z))) = wE at *
          have cT := kE.cell
          have lT := kE.lt
          have kZE := HZE.out
          have cZ := kZE.cell
          have fZ := kZE.free
          have lZ := kZE.lt
          go_wp2
          refine bodyPost_ret (v := .agg #[.int .i64 N, .slice (some ⟨b, 0, none⟩) ds.length cv, .slice pa ps.length pc]) (by simp [results, Tryz.results35, go_sem, *]) rfl ?_
          exact ⟨_, ⟨N, ds.set q ⟨3 - 4 * z, x.pins, x.wd, x.len⟩, ps⟩, rfl, Lib.hid (nlv_set3 _ _ _ HDO.out HPO2.out), HSM, Lib.hid (((HDE.out.apart (by omega) (by omega)).apart (by omega) (by omega)).apart (by omega) (by omega)), Lib.hid (((HWE.out.new _ _ _ (by omega)).new _ _ _ (by omega)).new _ _ _ (by omega))⟩
      · have HDO : Hid (∃ lo hi, w.heap.size < lo ∧ OwnDs w5 lo hi (.slice av ds.length cv) ds) := Lib.hid ⟨lo, mid, by omega, HBL.out.own⟩
        have HPO2 : Hid (∃ lo hi, w.heap.size < lo ∧ OwnPs w5 lo hi (.slice pa ps.length pc) ps) := Lib.hid ⟨mid, hi, by omega, HPL.out.own⟩
        have kE := k35
        have HZE := HZ
        have HDE := HD5
        have HWE := HW
        have hdi : ¬ (0 : Int) < (ds.length : Int) := by omega
        have cT := kE.cell
        have lT := kE.lt
        have kZE := HZE.out
        have cZ := kZE.cell
        have fZ := kZE.free
        have lZ := kZE.lt
        go_wp2
        refine bodyPost_ret (v := .agg #[.int .i64 N, .slice av ds.length cv, .slice pa ps.length pc]) (by simp [results, Tryz.results35, go_sem, *]) rfl ?_
        exact ⟨_, ⟨N, ds, ps⟩, rfl, Lib.hid (nlv_set3 _ _ _ HDO.out HPO2.out), HSM, Lib.hid (((HDE.out.apart (by omega) (by omega)).apart (by omega) (by omega)).apart (by omega) (by omega)), Lib.hid (((HWE.out.new _ _ _ (by omega)).new _ _ _ (by omega)).new _ _ _ (by omega))⟩
/- The draw of a netlist, often a ring of resistors. -/
theorem Only.within9 {g : Nat} {w w' : World} (h : Only g w w') : Within g (g + 1) w w' := ⟨h.os, h.tape, h.output, Nat.le_of_eq h.size.symm, fun k _ hne => h.block k (by omega)⟩
structure L9 (W0 : World) (g : Nat) (sv : Value) (n : Nat) (w : World) (T : Nat) (N : Int) (s1 s2 : Value) (ds : List Dv) (ps : List Pt) (wx : World) : Prop where
  src : Src1 W0 g sv n wx
  t : Blk wx T #[.int .i64 N, s1, s2] 27
  r : Blk wx w.heap.size #[.int .i64 0, .slice none 0 0, .slice none 0 0] 27
  ds : ∃ lo hi, w.heap.size < lo ∧ OwnDs wx lo hi s1 ds
  ps : ∃ lo hi, w.heap.size < lo ∧ OwnPs wx lo hi s2 ps
  wi : Within g (g + 1) w wx
theorem L9.only {W0 w wx wy : World} {g n T : Nat} {sv s1 s2 : Value} {N : Int} {ds : List Dv} {ps : List Pt} (h : L9 W0 g sv n w T N s1 s2 ds ps wx) (ho : Only g wx wy) (hD : Src1 W0 g sv n wy) (hg : g < w.heap.size) (hT : w.heap.size < T) : L9 W0 g sv n w T N s1 s2 ds ps wy := by
  obtain ⟨l1, h1, a1, o1⟩ := h.ds
  obtain ⟨l2, h2, a2, o2⟩ := h.ps
  exact ⟨hD, ho.blk h.t (by omega), ho.blk h.r (by omega), ⟨l1, h1, a1, o1.past ho.within9 (.inr (by omega))⟩, ⟨l2, h2, a2, o2.past ho.within9 (.inr (by omega))⟩, h.wi.on ho.within9⟩
def Dr (w w' : World) : Prop := ∃ n, w' = w.drewN n
theorem Dr.refl (w : World) : Dr w w := ⟨0, rfl⟩
theorem Dr.drewN {w w' : World} (h : Dr w w') (m : Nat) : Dr w (w'.drewN m) := by obtain ⟨n, rfl⟩ := h; exact ⟨n + m, World.drewN_drewN _ _ _⟩
theorem Dr.cell {w w' : World} (h : Dr w w') (p : Addr) : w'.cell? p = w.cell? p := by obtain ⟨n, rfl⟩ := h; rfl
theorem Dr.out {w w' : World} (h : Dr w w') : ∃ n, w' = w.drewN n := h
def sgn (a b : Int) : Int := if a < b then -1 else if b < a then 1 else 0
def lcmp : List Int → List Int → Int
  | [], [] => 0
  | [], _ :: _ => -1
  | _ :: _, [] => 1
  | a :: r, b :: s => if sgn a b = 0 then lcmp r s else sgn a b
def or2 (a b : Int) : Int := if a = 0 then b else a
def devcmp (k1 k2 : Int) (p1 p2 : List Int) (w1 w2 l1 l2 : Int) : Int := or2 (sgn k1 k2) (or2 (lcmp p1 p2) (or2 (sgn w1 w2) (sgn l1 l2)))
theorem sgn_lt {a b : Int} (h : a < b) : sgn a b = -1 := by simp [sgn, h]
theorem sgn_gt {a b : Int} (h : b < a) : sgn a b = 1 := by
  have : ¬ a < b := by omega
  simp [sgn, h, this]
theorem sgn_eq {a b : Int} (h : a = b) : sgn a b = 0 := by subst h; simp [sgn]
theorem drop_of {l : List Int} {k : Nat} {x : Int} (h : l[k]? = some x) : l.drop k = x :: l.drop (k + 1) := by
  obtain ⟨hlt, e⟩ := List.getElem?_eq_some_iff.1 h
  rw [List.drop_eq_getElem_cons hlt, e]
theorem lcmp_step {a b : List Int} {k : Nat} {x y : Int} (hx : a[k]? = some x) (hy : b[k]? = some y) : lcmp (a.drop k) (b.drop k) = if sgn x y = 0 then lcmp (a.drop (k + 1)) (b.drop (k + 1)) else sgn x y := by
  rw [drop_of hx, drop_of hy]; rfl
theorem lcmp_end1 {a b : List Int} {k : Nat} (ha : a.length ≤ k) : lcmp (a.drop k) (b.drop k) = if k < b.length then -1 else 0 := by
  rw [List.drop_eq_nil_of_le ha]
  split
  · rename_i h
    rw [List.drop_eq_getElem_cons h]; rfl
  · rw [List.drop_eq_nil_of_le (by omega)]; rfl
theorem lcmp_end2 {a b : List Int} {k : Nat} (ha : k < a.length) (hb : b.length ≤ k) : lcmp (a.drop k) (b.drop k) = 1 := by
  rw [List.drop_eq_nil_of_le hb, List.drop_eq_getElem_cons ha]; rfl
theorem IntSl.cells {w : World} {a : Option Addr} {n c : Nat} {zs : List Int} (h : IntSl w (.slice a n c) zs) : n = zs.length ∧ ∀ (i : Nat) (x : Int), zs[i]? = some x → ∃ b off, a = some ⟨b, off, none⟩ ∧ w.cell? ⟨b, off + i, none⟩ = some (.int .i64 x) := by
  rcases h with ⟨_, _, e, rfl⟩ | ⟨b, off, cap, e, h2, h3, h4⟩
  · simp at e
    exact ⟨e.2.1, by simp⟩
  · simp at e
    exact ⟨e.2.1, fun i x hx => ⟨b, off, e.1, h4 i x hx⟩⟩
theorem cmpCompare_any (a b : Int) (w : World) :
    Calls Tryz.prog 103 #[.int .i64 a, .int .i64 b] w fun e w' => e = .returned (.int .i64 (sgn a b)) ∧ w = w' := by
  by_cases h1 : a < b
  · rw [sgn_lt h1]
    go_enter Tryz.func103, Tryz.ntmps103
    go_wp2
    go_ret
    exact ⟨rfl, rfl⟩
  · by_cases h2 : b < a
    · rw [sgn_gt h2]
      go_enter Tryz.func103, Tryz.ntmps103
      go_wp2
      go_ret
      exact ⟨rfl, rfl⟩
    · rw [sgn_eq (by omega)]
      go_enter Tryz.func103, Tryz.ntmps103
      go_wp2
      go_ret
      exact ⟨rfl, rfl⟩
set_option maxRecDepth 100000 in
set_option maxHeartbeats 1000000 in
theorem slicesCompare_any (s1 s2 : Value) (xs ys : List Int) (w : World) (h : IntSl w s1 xs) (h' : IntSl w s2 ys) :
    Calls Tryz.prog 104 #[s1, s2] w fun e w' => e = .returned (.int .i64 (lcmp xs ys)) ∧ ∃ n, w' = w.drewN n := by
  have hl1 := h.le
  have hl2 := h'.le
  obtain ⟨a, c, rfl⟩ := h.len
  obtain ⟨a', c', rfl⟩ := h'.len
  have HC := Lib.hid h.cells.2
  have HC' := Lib.hid h'.cells.2
  clear h h'
  obtain ⟨r, hr⟩ : ∃ r, lcmp xs ys = r := ⟨_, rfl⟩
  rw [hr]
  go_enter Tryz.func104, Tryz.ntmps104
  go_wp2
  go_loopw [11] (fun i wr => ∃ k : Nat, k ≤ xs.length ∧ k ≤ ys.length ∧ i = .int .i64 k ∧ Dr w wr ∧ lcmp (xs.drop k) (ys.drop k) = r) (fun i _ => xs.length - (intOf i).toNat)
  case atStart => exact ⟨0, Nat.zero_le _, Nat.zero_le _, rfl, Dr.refl _, by simpa using hr⟩
  case round =>
    obtain ⟨k, hk, hk', rfl, hdr, he⟩ := hrel
    have HE := Lib.hid he
    clear he hr
    by_cases h1 : k < xs.length
    · obtain ⟨x, hx⟩ : ∃ x, xs[k]? = some x := ⟨xs[k], List.getElem?_eq_getElem h1⟩
      obtain ⟨b, off, rfl, c1⟩ := HC.out k x hx
      rw [← hdr.cell] at c1
      have i1 : (0 : Int) ≤ (k : Int) := by omega
      have i2 : (k : Int) < (xs.length : Int) := by omega
      by_cases h2 : k < ys.length
      · obtain ⟨y, hy⟩ : ∃ y, ys[k]? = some y := ⟨ys[k], List.getElem?_eq_getElem h2⟩
        obtain ⟨b', off', rfl, c2⟩ := HC'.out k y hy
        rw [← hdr.cell] at c2
        have HT := Lib.hid (lcmp_step hx hy)
        clear hx hy
        obtain ⟨z, hz⟩ : ∃ z, sgn x y = z := ⟨_, rfl⟩
        have hcall := fun w => cmpCompare_any x y w
        rw [hz] at hcall
        have HS := Lib.hid hcall
        have HZ := Lib.hid hz
        clear hcall hz
        have i3 : (k : Int) < (ys.length : Int) := by omega
        by_cases h0 : z = 0
        · subst h0
          go_wp2_with (go_at_call 103; refine (HS.out _).mono ?_; rintro e w' ⟨rfl, rfl⟩)
          exact ⟨⟨k + 1, by omega, by omega, by go_num, by first | exact hdr | exact hdr.drewN _, by rw [← HE.out, HT.out, if_pos HZ.out]⟩, by simp [intOf]; omega⟩
        · have hz1 : (z == 0) = false := by simpa using h0
          have hz2 : (z != 0) = true := by simpa using h0
          go_wp2_with (go_at_call 103; refine (HS.out _).mono ?_; rintro e w' ⟨rfl, rfl⟩)
          go_ret
          exact ⟨ret_i64 (by rw [← HE.out, HT.out, if_neg (by rw [HZ.out]; exact h0), HZ.out]), by first | exact hdr.out | exact (hdr.drewN _).out⟩
      · have hle : ys.length ≤ k := by omega
        have HT := Lib.hid (lcmp_end2 (b := ys) h1 hle)
        clear hx
        go_wp2
        go_ret
        exact ⟨ret_i64 (by rw [← HE.out, HT.out]), by first | exact hdr.out | exact (hdr.drewN _).out⟩
    · have hle : xs.length ≤ k := by omega
      have HT := Lib.hid (lcmp_end1 (b := ys) hle)
      have hkx : k = xs.length := by omega
      subst hkx
      by_cases h2 : xs.length < ys.length
      · go_wp2
        go_ret
        exact ⟨ret_i64 (by rw [← HE.out, HT.out, if_pos h2]), by first | exact hdr.out | exact (hdr.drewN _).out⟩
      · go_wp2
        go_ret
        exact ⟨ret_i64 (by rw [← HE.out, HT.out, if_neg h2]), by first | exact hdr.out | exact (hdr.drewN _).out⟩
theorem cmpOr_any (g : Nat) (a b c d : Int) (w : World) (h : Blk w g #[.int .i64 a, .int .i64 b, .int .i64 c, .int .i64 d] 3) :
    Calls Tryz.prog 102 #[.slice (some ⟨g, 0, none⟩) 4 4] w fun e w' => e = .returned (.int .i64 (or2 a (or2 b (or2 c d)))) ∧ w = w' := by
  obtain ⟨r, hr⟩ : ∃ r, or2 a (or2 b (or2 c d)) = r := ⟨_, rfl⟩
  rw [hr]
  have HR := Lib.hid hr
  clear hr
  have hc := h.cell
  by_cases h1 : a = 0
  · have e1 : (a == 0) = true := by simpa using h1
    have f1 : (a != 0) = false := by simpa using h1
    subst h1
    by_cases h2 : b = 0
    · subst h2
      by_cases h3 : c = 0
      · subst h3
        by_cases h4 : d = 0
        · subst h4
          go_enter Tryz.func102, Tryz.ntmps102
          go_wp2
          refine wp_loop_rounds 5 ?_
          repeat any_goals (rw [rounds_succ]; go_wp2)
          go_ret
          exact ⟨ret_i64 (by rw [← HR.out]; simp [or2]), rfl⟩
        · have f4 : (d != 0) = true := by simpa using h4
          have e4 : (d == 0) = false := by simpa using h4
          go_enter Tryz.func102, Tryz.ntmps102
          go_wp2
          refine wp_loop_rounds 5 ?_
          repeat any_goals (rw [rounds_succ]; go_wp2)
          go_ret
          exact ⟨ret_i64 (by rw [← HR.out]; simp [or2]), rfl⟩
      · have f3 : (c != 0) = true := by simpa using h3
        have e3 : (c == 0) = false := by simpa using h3
        go_enter Tryz.func102, Tryz.ntmps102
        go_wp2
        refine wp_loop_rounds 5 ?_
        repeat any_goals (rw [rounds_succ]; go_wp2)
        go_ret
        exact ⟨ret_i64 (by rw [← HR.out]; simp [or2, h3]), rfl⟩
    · have f2 : (b != 0) = true := by simpa using h2
      have e2 : (b == 0) = false := by simpa using h2
      go_enter Tryz.func102, Tryz.ntmps102
      go_wp2
      refine wp_loop_rounds 5 ?_
      repeat any_goals (rw [rounds_succ]; go_wp2)
      go_ret
      exact ⟨ret_i64 (by rw [← HR.out]; simp [or2, h2]), rfl⟩
  · have f1 : (a != 0) = true := by simpa using h1
    have e1 : (a == 0) = false := by simpa using h1
    go_enter Tryz.func102, Tryz.ntmps102
    go_wp2
    refine wp_loop_rounds 5 ?_
    repeat any_goals (rw [rounds_succ]; go_wp2)
    go_ret
    exact ⟨ret_i64 (by rw [← HR.out]; simp [or2, h1]), rfl⟩
/- Contracts of the functions that compare two devices. -/
theorem or2_ne {a b : Int} (h : a ≠ 0) : or2 a b = a := by simp [or2, h]
theorem or2_z (b : Int) : or2 0 b = b := by simp [or2]
set_option maxRecDepth 100000 in
set_option maxHeartbeats 2000000 in
theorem compareDevices_any (k1 w1 l1 k2 w2 l2 : Int) (s1 s2 : Value) (xs ys : List Int) (w : World) (h : IntSl w s1 xs) (h' : IntSl w s2 ys) :
    Calls Tryz.prog 62 #[.agg #[.int .i64 k1, s1, .int .i64 w1, .int .i64 l1], .agg #[.int .i64 k2, s2, .int .i64 w2, .int .i64 l2]] w fun e w' => e = .returned (.int .i64 (devcmp k1 k2 xs ys w1 w2 l1 l2)) ∧ Below w.heap.size w w' := by
  obtain ⟨r, hr⟩ : ∃ r, devcmp k1 k2 xs ys w1 w2 l1 l2 = r := ⟨_, rfl⟩
  rw [hr]
  unfold devcmp at hr
  have hw := (((Below.refl _ w).alloc (Nat.le_refl _) (.cells #[.int .i64 k1, s1, .int .i64 w1, .int .i64 l1] 46)).alloc (by simp) (.cells #[.int .i64 k2, s2, .int .i64 w2, .int .i64 l2] 46))
  have h1 := h.by hw
  have h2 := h'.by hw
  obtain ⟨a, c, rfl⟩ := h.len
  obtain ⟨a', c', rfl⟩ := h'.len
  clear h h' hw
  have g1 := fun w => cmpCompare_any k1 k2 w
  have g2 := fun w h h' => slicesCompare_any (.slice a xs.length c) (.slice a' ys.length c') xs ys w h h'
  have g3 := fun w => cmpCompare_any w1 w2 w
  have g4 := fun w => cmpCompare_any l1 l2 w
  generalize sgn k1 k2 = z1 at *
  generalize lcmp xs ys = z2 at *
  generalize sgn w1 w2 = z3 at *
  generalize sgn l1 l2 = z4 at *
  have HR := Lib.hid hr
  have H1 := Lib.hid g1
  have H2 := Lib.hid g2
  have H3 := Lib.hid g3
  have H4 := Lib.hid g4
  clear hr g1 g2 g3 g4
  go_enter Tryz.func62, Tryz.ntmps62
  go_wp2_with fail
  go_region_held3 (fun w' => (Blk w' (w.heap.size) #[.int .i64 k1, .slice a xs.length c, .int .i64 w1, .int .i64 l1] 46 ∧ ∀ o, w'.cell? ⟨w.heap.size, o, none⟩ = (#[.int .i64 k1, .slice a xs.length c, .int .i64 w1, .int .i64 l1] : Array Value)[o]?) ∧ (Blk w' (w.heap.size + 1) #[.int .i64 k2, .slice a' ys.length c', .int .i64 w2, .int .i64 l2] 46 ∧ ∀ o, w'.cell? ⟨w.heap.size + 1, o, none⟩ = (#[.int .i64 k2, .slice a' ys.length c', .int .i64 w2, .int .i64 l2] : Array Value)[o]?) ∧ Below w.heap.size w w') (((try (obtain ⟨⟨hS0, _⟩, ⟨hS1, _⟩, hSB⟩ := hHeld)); refine ⟨Blk.both ?_, Blk.both ?_, ?_⟩ <;> first | ((repeat (first | (with_reducible assumption) | (with_reducible refine Blk.drewN ?_ _) | (with_reducible refine Blk.drew ?_) | ((with_reducible refine Blk.new _ ?_); focus (first | omega | (simp; done) | (simp; omega))) | (with_reducible refine Blk.past ?_ _) | ((with_reducible refine Blk.apart ?_ _ _ _ ?_); rotate_left; focus (first | omega | (simp; done) | (simp; omega))) | (with_reducible refine Blk.by (by assumption) ?_))); done) | ((repeat (first | (with_reducible exact Below.refl _ _) | (with_reducible refine below_drewN ?_ _) | (with_reducible refine Below.drew ?_) | (with_reducible refine below_al ?_ _) | (with_reducible refine below_on (by assumption) ?_) | ((with_reducible refine Below.setCell ?_ ?_ _); rotate_left; focus (first | omega | (simp; done) | (simp; omega))) | (with_reducible assumption))); done)))
    (first | (go_at_call_of 103 (Value.int .i64 k1); refine (H1.out _).mono ?_; rintro e w' ⟨rfl, rfl⟩) | (go_at_call_of 103 (Value.int .i64 w1); refine (H3.out _).mono ?_; rintro e w' ⟨rfl, rfl⟩) | (go_at_call_of 103 (Value.int .i64 l1); refine (H4.out _).mono ?_; rintro e w' ⟨rfl, rfl⟩) | (go_at_call 104; refine (H2.out _ (h1.by (below_of_drewN _ 1)) (h2.by (below_of_drewN _ 1))).mono ?_; rintro e w' ⟨rfl, m, rfl⟩) | (go_at_call 102; refine (cmpOr_any _ z1 z2 z3 z4 _ (Blk.new _ (by simp))).mono ?_; rintro e w' ⟨rfl, rfl⟩))
  all_goals go_wp2
  all_goals go_ret
  exact ⟨ret_i64 HR.out, blwT⟩
/- Parallel devices, devices in series, first pairs: plain. -/
def curP : List Int → Int
  | [p, _] => p
  | [_, p, _] => p
  | _ => 0
def curQ : List Int → Int
  | [_, q] => q
  | [_, _, q] => q
  | _ => 0
def gateOf : List Int → Int
  | [g, _, _] => g
  | _ => 0
def Shp (x : Dv) : Prop := (x.kind = 2 ∧ ∃ p q, x.pins = [p, q]) ∨ ((x.kind = 0 ∨ x.kind = 1) ∧ ∃ g p q, x.pins = [g, p, q])
theorem shp_of {nets : Int} {x : Dv} (h : dvB nets x = true) : Shp x := by
  obtain ⟨h1, h2, _⟩ := dvB_all h
  have hk := inB_iff.1 h1
  by_cases h2' : x.kind = 2
  · left
    refine ⟨h2', ?_⟩
    simp only [pinsOf, h2', if_pos] at h2
    match hp : x.pins, h2 with
    | [p, q], _ => exact ⟨p, q, rfl⟩
  · right
    refine ⟨by omega, ?_⟩
    simp only [pinsOf, if_neg h2'] at h2
    match hp : x.pins, h2 with
    | [g, p, q], _ => exact ⟨g, p, q, rfl⟩
theorem lcmp_zero : ∀ (a b : List Int), lcmp a b = 0 ↔ a = b
  | [], [] => by simp [lcmp]
  | [], _ :: _ => by simp [lcmp]
  | _ :: _, [] => by simp [lcmp]
  | a :: r, b :: s => by
    have ih := lcmp_zero r s
    unfold lcmp
    by_cases h : sgn a b = 0
    · rw [if_pos h, ih]
      have hab : a = b := by
        unfold sgn at h
        split at h
        · omega
        · split at h
          · omega
          · omega
      simp [hab]
    · rw [if_neg h]
      have hab : a ≠ b := fun e => h (sgn_eq e)
      simp [hab, h]
def parB (x y : Dv) : Bool :=
  decide (x.kind = y.kind) && ((decide (x.kind = 2) || decide (gateOf x.pins = gateOf y.pins)) && ((decide (x.kind = 2) || decide (x.len = y.len)) &&
    ((decide (curP x.pins = curP y.pins) && decide (curQ x.pins = curQ y.pins)) || (decide (curP x.pins = curQ y.pins) && decide (curQ x.pins = curP y.pins)))))
theorem normz_two (p q : Int) : normz 2 [p, q] = [min p q, max p q] := by simp [normz, pinc, lastTwo]
theorem normz_three (k g p q : Int) (h : k = 0 ∨ k = 1) : normz k [g, p, q] = [g, min p q, max p q] := by rcases h with rfl | rfl <;> simp [normz, pinc, lastTwo]
def Hit (p : Dv → Dv → Bool) (ds : List Dv) (i j : Nat) : Prop :=
  i < j ∧ (∃ x y, ds[i]? = some x ∧ ds[j]? = some y ∧ p x y = true) ∧ ∀ i' j' x y, (i' < i ∨ i' = i ∧ j' < j) → i' < j' → ds[i']? = some x → ds[j']? = some y → p x y = false
theorem hit_one {p : Dv → Dv → Bool} {ds : List Dv} {i j i' j' : Nat} (h : Hit p ds i j) (h' : Hit p ds i' j') : i = i' ∧ j = j' := by
  obtain ⟨h1, ⟨x, y, hx, hy, h2⟩, h3⟩ := h
  obtain ⟨h1', ⟨x', y', hx', hy', h2'⟩, h3'⟩ := h'
  by_cases e : i = i' ∧ j = j'
  · exact e
  · exfalso
    by_cases e2 : i < i' ∨ i = i' ∧ j < j'
    · have := h3' i j x y e2 h1 hx hy; rw [this] at h2; cases h2
    · have := h3 i' j' x' y' (by omega) h1' hx' hy'; rw [this] at h2'; cases h2'
noncomputable def firstP (p : Dv → Dv → Bool) (ds : List Dv) : Int × Int × Bool :=
  open Classical in if h : ∃ ij : Nat × Nat, Hit p ds ij.1 ij.2 then (((Classical.choose h).1 : Int), ((Classical.choose h).2 : Int), true) else (0, 0, false)
theorem firstP_hit {p : Dv → Dv → Bool} {ds : List Dv} {i j : Nat} (h : Hit p ds i j) : firstP p ds = ((i : Int), (j : Int), true) := by
  have he : ∃ ij : Nat × Nat, Hit p ds ij.1 ij.2 := ⟨(i, j), h⟩
  unfold firstP
  rw [dif_pos he]
  obtain ⟨e1, e2⟩ := hit_one (Classical.choose_spec he) h
  rw [e1, e2]
theorem firstP_miss {p : Dv → Dv → Bool} {ds : List Dv} (h : ∀ (i j : Nat) x y, i < j → ds[i]? = some x → ds[j]? = some y → p x y = false) : firstP p ds = (0, 0, false) := by
  unfold firstP
  rw [dif_neg]
  rintro ⟨⟨i, j⟩, h1, ⟨x, y, hx, hy, h2⟩, _⟩
  rw [h i j x y h1 hx hy] at h2; cases h2
/- Current pins, gates: contracts. -/
theorem IntSl.two {w : World} {sv : Value} {p q : Int} (h : IntSl w sv [p, q]) : ∃ b off cap, sv = .slice (some ⟨b, off, none⟩) 2 cap ∧ w.cell? ⟨b, off, none⟩ = some (.int .i64 p) ∧ w.cell? ⟨b, off + 1, none⟩ = some (.int .i64 q) ∧ b < w.heap.size := by
  rcases h with ⟨_, _, _, h2⟩ | ⟨b, off, cap, hsv, h2, h3, h4⟩
  · simp at h2
  simp only [List.length_cons, List.length_nil, Nat.zero_add, Nat.reduceAdd] at hsv
  have hp : w.cell? ⟨b, off, none⟩ = some (.int .i64 p) := by have := h4 0 p rfl; simpa using this
  have hq : w.cell? ⟨b, off + 1, none⟩ = some (.int .i64 q) := by have := h4 1 q rfl; simpa using this
  refine ⟨b, off, cap, hsv, hp, hq, ?_⟩
  rcases Nat.lt_or_ge b w.heap.size with h' | h'
  · exact h'
  · simp [World.cell?, Array.getElem?_eq_none h'] at hp
theorem IntSl.three {w : World} {sv : Value} {g p q : Int} (h : IntSl w sv [g, p, q]) : ∃ b off cap, sv = .slice (some ⟨b, off, none⟩) 3 cap ∧ w.cell? ⟨b, off, none⟩ = some (.int .i64 g) ∧ w.cell? ⟨b, off + 1, none⟩ = some (.int .i64 p) ∧ w.cell? ⟨b, off + 2, none⟩ = some (.int .i64 q) ∧ b < w.heap.size := by
  rcases h with ⟨_, _, _, h2⟩ | ⟨b, off, cap, hsv, h2, h3, h4⟩
  · simp at h2
  simp only [List.length_cons, List.length_nil, Nat.zero_add, Nat.reduceAdd] at hsv
  have hg : w.cell? ⟨b, off, none⟩ = some (.int .i64 g) := by have := h4 0 g rfl; simpa using this
  have hp : w.cell? ⟨b, off + 1, none⟩ = some (.int .i64 p) := by have := h4 1 p rfl; simpa using this
  have hq : w.cell? ⟨b, off + 2, none⟩ = some (.int .i64 q) := by have := h4 2 q rfl; simpa using this
  refine ⟨b, off, cap, hsv, hg, hp, hq, ?_⟩
  rcases Nat.lt_or_ge b w.heap.size with h' | h'
  · exact h'
  · simp [World.cell?, Array.getElem?_eq_none h'] at hp
set_option maxRecDepth 100000 in
set_option maxHeartbeats 1000000 in
theorem currentPins_any (x : Dv) (sv : Value) (w : World) (h : IntSl w sv x.pins) (hs : Shp x) :
    Calls Tryz.prog 77 #[.agg #[.int .i64 x.kind, sv, .int .i64 x.wd, .int .i64 x.len]] w fun e w' => e = .returned (.tuple #[.int .i64 (curP x.pins), .int .i64 (curQ x.pins)]) ∧ Below w.heap.size w w' := by
  obtain ⟨kind, pins, wd, len⟩ := x
  dsimp only at h ⊢
  rcases hs with ⟨_, p, q, hp⟩ | ⟨_, g, p, q, hp⟩
  · dsimp only at hp; subst hp
    obtain ⟨b, off, cap, rfl, c0, c1, hb⟩ := h.two
    clear h
    simp only [curP, curQ]
    go_enter Tryz.func77, Tryz.ntmps77
    go_wp2
    go_quiet (fail)
    go_wp2
    go_ret2
    exact ⟨rfl, blwT⟩
  · dsimp only at hp; subst hp
    obtain ⟨b, off, cap, rfl, c0, c1, c2, hb⟩ := h.three
    clear h
    simp only [curP, curQ]
    go_enter Tryz.func77, Tryz.ntmps77
    go_wp2
    go_quiet (fail)
    go_wp2
    go_ret2
    exact ⟨rfl, blwT⟩
def sgB (x y : Dv) : Bool := decide (x.kind = 2) || decide (gateOf x.pins = gateOf y.pins)
set_option maxRecDepth 100000 in
set_option maxHeartbeats 1000000 in
theorem sameGate_any (x y : Dv) (s t : Value) (w : World) (h : IntSl w s x.pins) (h' : IntSl w t y.pins) (hs : Shp x) (ht : Shp y) (hk : x.kind = y.kind) :
    Calls Tryz.prog 97 #[.agg #[.int .i64 x.kind, s, .int .i64 x.wd, .int .i64 x.len], .agg #[.int .i64 y.kind, t, .int .i64 y.wd, .int .i64 y.len]] w fun e w' => e = .returned (.bool (sgB x y)) ∧ Below w.heap.size w w' := by
  obtain ⟨kind, pins, wd, len⟩ := x
  obtain ⟨kind', pins', wd', len'⟩ := y
  dsimp only at h h' hk ⊢
  subst hk
  rcases hs with ⟨k2, p, q, hp⟩ | ⟨k2, g, p, q, hp⟩
  · dsimp only at hp k2; subst hp; subst k2
    obtain ⟨a, c, rfl⟩ := h.len
    obtain ⟨a', c', rfl⟩ := h'.len
    go_enter Tryz.func97, Tryz.ntmps97
    go_wp2
    go_quiet (fail)
    go_wp2
    go_ret
    exact ⟨ret_bool (by simp [sgB]), blwT⟩
  · dsimp only at hp k2; subst hp
    rcases ht with ⟨k3, r, s, hr⟩ | ⟨k3, f, r, s, hr⟩
    · dsimp only at k3; omega
    dsimp only at hr; subst hr
    obtain ⟨b, off, cap, rfl, c0, c1, c2, hb⟩ := h.three
    obtain ⟨b', off', cap', rfl, d0, d1, d2, hb'⟩ := h'.three
    have hz : (kind == 2) = false := by rw [beq_eq_false_iff_ne]; omega
    have HK := Lib.hid (show ¬ kind = 2 by omega)
    clear h h' k2 k3
    go_enter Tryz.func97, Tryz.ntmps97
    go_wp2
    go_quiet (fail)
    go_wp2
    go_ret
    exact ⟨ret_bool (by rw [Bool.eq_iff_iff]; simp [sgB, gateOf, HK.out]; exact decide_eq_true_iff.symm), blwT⟩
def shB (x : Dv) : Bool := decide (curP x.pins = curQ x.pins)
set_option maxRecDepth 100000 in
set_option maxHeartbeats 1000000 in
theorem shorted_any (x : Dv) (sv : Value) (w : World) (h : IntSl w sv x.pins) (hs : Shp x) :
    Calls Tryz.prog 45 #[.agg #[.int .i64 x.kind, sv, .int .i64 x.wd, .int .i64 x.len]] w fun e w' => e = .returned (.bool (shB x)) ∧ Below w.heap.size w w' := by
  have HC := Lib.hid (fun w h => currentPins_any x sv w h hs)
  have HH := Lib.hid h
  have HB := Lib.hid (show shB x = (decide (curP x.pins = curQ x.pins)) from rfl)
  generalize shB x = r at *
  generalize curP x.pins = p at *
  generalize curQ x.pins = q at *
  obtain ⟨a, c, rfl⟩ := h.len
  clear h
  go_enter Tryz.func45, Tryz.ntmps45
  go_wp2_with (go_at_call 77; refine (HC.out _ (HH.out.by blwT)).mono ?_; rintro e w1 ⟨rfl, hb1⟩)
  go_ret
  exact ⟨ret_bool (by rw [HB.out, Bool.eq_iff_iff]; simp), blwT⟩
/- Parallel devices: contracts. -/
set_option maxRecDepth 100000 in
set_option maxHeartbeats 4000000 in
theorem specNl_any (x : Nl) (v : Value) (w : World) (h : NlV w v x) (hok : ∀ p ∈ x.ps, p.ok) (hnn : Fits x.nets) :
    Calls Tryz.prog 29 #[v] w fun e w' => e = .returned (.bool (nlB x)) ∧ Below w.heap.size w w' := by
  obtain ⟨s1, s2, rfl, hd, hp⟩ := h
  have HNn := Lib.hid (@nlB_nets x)
  have HND := Lib.hid (@nlB_ds x)
  have HNP := Lib.hid (@nlB_ps x)
  have HDV := Lib.hid (fun k d => @nlB_dv x k d)
  have HPT := Lib.hid (fun i => @nlB_pt i x)
  have HEN := Lib.hid (@nlB_pts x)
  obtain ⟨nets, ds, ps⟩ := x
  dsimp only at hd hp hok hnn HNn HND HNP HDV HPT HEN ⊢
  generalize nlB ⟨nets, ds, ps⟩ = r at *
  have hdl : ds.length ≤ maxLen := by
    rcases hd with ⟨_, _, _, h2⟩ | ⟨b, off, cap, h1, h2, h3, _⟩
    · subst h2; simp
    · exact Nat.le_trans h2 h3
  have hpl : ps.length ≤ maxLen := by
    rcases hp with ⟨_, _, _, h2⟩ | ⟨b, off, cap, h1, h2, h3, _⟩
    · subst h2; simp
    · exact Nat.le_trans h2 h3
  unfold maxLen at hdl hpl
  have HD := Lib.hid hd
  have HP := Lib.hid hp
  obtain ⟨a1, c1, rfl⟩ := hd.sized
  obtain ⟨a2, c2, rfl⟩ := hp.sized
  clear hd hp
  rcases Bool.eq_false_or_eq_true (inB nets 0 24) with hn | hn
  · have hn' := inB_iff.1 hn
    have HN1 := Lib.hid hn
    by_cases h24 : ds.length ≤ 24
    · by_cases h8 : ps.length ≤ 8
      · have HK := Lib.hid hok
        clear hok
        go_enter Tryz.func29, Tryz.ntmps29
        go_wp2_with (go_at_call 63; refine (l16In_any _ _ _ _).mono ?_; rintro e w' ⟨rfl, rfl⟩)
        go_loopw [3] (fun i wr => ∃ k : Nat, k ≤ ds.length ∧ i = .int .i64 k ∧ Hid (∀ (j : Nat) d, j < k → ds[j]? = some d → dvB nets d = true) ∧ Blk wr w.heap.size #[.int .i64 nets, .slice a1 ds.length c1, .slice a2 ps.length c2] 27 ∧ Below w.heap.size w wr) (fun i _ => ds.length - (intOf i).toNat)
        case atStart => exact ⟨0, Nat.zero_le _, rfl, Lib.hid (by intro j d hj; omega), blkT, blwT⟩
        case round =>
          obtain ⟨k, hk, rfl, HI, kN, hb⟩ := hrel
          have cN := kN.cell
          by_cases hlt : k < ds.length
          · obtain ⟨x, hx⟩ : ∃ x, ds[k]? = some x := ⟨ds[k], List.getElem?_eq_getElem hlt⟩
            have HX := Lib.hid hx
            have HDS := HD.out
            rcases HDS with ⟨_, _, _, h2⟩ | ⟨b, off, cap, he, h2, h3, h4⟩
            · rw [h2] at hlt; simp at hlt
            obtain ⟨rfl, rfl⟩ : a1 = some ⟨b, off, none⟩ ∧ c1 = cap := by simpa using he
            obtain ⟨sv, d1, d2, d3, d4, hS⟩ := (h4 k x hx).by hb
            have HT := Lib.hid (fun w h => l27Device_any x sv nets w h (by omega) (by omega))
            obtain ⟨a', c', rfl⟩ := hS.len
            have i1 : (0 : Int) ≤ (k : Int) := by omega
            have i2 : (k : Int) < (ds.length : Int) := by omega
            clear h4 hx he
            cases hq : dvB nets x with
            | false =>
              rw [hq] at HT
              have HQ := Lib.hid (HDV.out k x HX.out hq)
              clear hq
              go_wp2_with fail
              go_region_held3 (fun w' => (Blk w' w.heap.size #[.int .i64 nets, .slice (some ⟨b, off, none⟩) ds.length c1, .slice a2 ps.length c2] 27 ∧ ∀ o, w'.cell? ⟨w.heap.size, o, none⟩ = (#[.int .i64 nets, .slice (some ⟨b, off, none⟩) ds.length c1, .slice a2 ps.length c2] : Array Value)[o]?) ∧ (w'.cell? ⟨b, off + k * 4, none⟩ = some (.int .i64 x.kind) ∧ w'.cell? ⟨b, off + k * 4 + 1, none⟩ = some (.slice a' x.pins.length c') ∧ w'.cell? ⟨b, off + k * 4 + 2, none⟩ = some (.int .i64 x.wd) ∧ w'.cell? ⟨b, off + k * 4 + 3, none⟩ = some (.int .i64 x.len)) ∧ Below w.heap.size w w')
                (first | exact ⟨kN.both, ⟨d1, d2, d3, d4⟩, hb.drew⟩ | exact ⟨(Blk.by hb1 kN).both, ⟨cell_by' hb1 d1, cell_by' hb1 d2, cell_by' hb1 d3, cell_by' hb1 d4⟩, below_on hb1 hb.drew⟩)
                (first | (go_at_call 64; refine (HT.out _ (hS.by (below_of_drewN _ 1))).mono ?_; rintro e w1 ⟨rfl, hb1⟩))
              go_wp2
              go_ret
              exact ⟨ret_bool HQ.out.symm, below_on hb1 hb.drew⟩
            | true =>
              rw [hq] at HT
              have HQ := Lib.hid hq
              clear hq
              go_wp2_with fail
              go_region_held3 (fun w' => (Blk w' w.heap.size #[.int .i64 nets, .slice (some ⟨b, off, none⟩) ds.length c1, .slice a2 ps.length c2] 27 ∧ ∀ o, w'.cell? ⟨w.heap.size, o, none⟩ = (#[.int .i64 nets, .slice (some ⟨b, off, none⟩) ds.length c1, .slice a2 ps.length c2] : Array Value)[o]?) ∧ (w'.cell? ⟨b, off + k * 4, none⟩ = some (.int .i64 x.kind) ∧ w'.cell? ⟨b, off + k * 4 + 1, none⟩ = some (.slice a' x.pins.length c') ∧ w'.cell? ⟨b, off + k * 4 + 2, none⟩ = some (.int .i64 x.wd) ∧ w'.cell? ⟨b, off + k * 4 + 3, none⟩ = some (.int .i64 x.len)) ∧ Below w.heap.size w w')
                (first | exact ⟨kN.both, ⟨d1, d2, d3, d4⟩, hb.drew⟩ | exact ⟨(Blk.by hb1 kN).both, ⟨cell_by' hb1 d1, cell_by' hb1 d2, cell_by' hb1 d3, cell_by' hb1 d4⟩, below_on hb1 hb.drew⟩)
                (first | (go_at_call 64; refine (HT.out _ (hS.by (below_of_drewN _ 1))).mono ?_; rintro e w1 ⟨rfl, hb1⟩))
              go_wp2
              exact ⟨⟨k + 1, by omega, by go_num, Lib.hid (fun j y hj hy => by
                by_cases e : j = k
                · subst e; obtain rfl : y = x := Option.some.inj (hy.symm.trans HX.out); exact HQ.out
                · exact HI.out j y (by omega) hy), Blk.by hb1 kN, below_on hb1 hb.drew⟩, by simp [intOf]; omega⟩
          · obtain rfl : k = ds.length := by omega
            have hall := all_dv (fun j d hj => HI.out j d hj)
            have HALL := Lib.hid hall
            clear hall
            clear HI HDV
            go_wp2
            go_loopw [4] (fun i wr => ∃ k : Nat, k ≤ ps.length ∧ i = .int .i64 k ∧ Hid (∀ (j : Nat), j < k → ptOk nets ps j = true) ∧ Blk wr w.heap.size #[.int .i64 nets, .slice a1 ds.length c1, .slice a2 ps.length c2] 27 ∧ Below w.heap.size w wr) (fun i _ => ps.length - (intOf i).toNat)
            case atStart => exact ⟨0, Nat.zero_le _, rfl, Lib.hid (by intro j hj; omega), kN, hb⟩
            case round =>
              clear kN hb cN
              obtain ⟨k, hk, rfl, HI, kN, hb⟩ := hrel
              have cN := kN.cell
              by_cases hlt : k < ps.length
              · obtain ⟨x, hx⟩ : ∃ x, ps[k]? = some x := ⟨ps[k], List.getElem?_eq_getElem hlt⟩
                have HX := Lib.hid hx
                have HPS := HP.out
                rcases HPS with ⟨_, _, _, h2⟩ | ⟨b, off, cap, he, h2, h3, h4⟩
                · rw [h2] at hlt; simp at hlt
                obtain ⟨rfl, rfl⟩ : a2 = some ⟨b, off, none⟩ ∧ c2 = cap := by simpa using he
                obtain ⟨p1, p2⟩ := (h4 k x hx).by hb
                have hsz : x.name.size ≤ 9223372036854775807 := (HK.out x (List.mem_of_getElem? hx)).1
                have i1 : (0 : Int) ≤ (k : Int) := by omega
                have i2 : (k : Int) < (ps.length : Int) := by omega
                clear hx he
                rcases Bool.eq_false_or_eq_true (nameB x.name) with hnm | hnm
                · by_cases hk0 : k = 0
                  · have HK0 := Lib.hid hk0
                    have hx0 := HX.out
                    rw [hk0] at hx0
                    have HX0 := Lib.hid hx0
                    have hkz : decide (0 < k) = false := by rw [decide_eq_false_iff_not]; omega
                    clear h4 hk0 hx0
                    rcases Bool.eq_false_or_eq_true (inB x.net 0 (nets - 1)) with hin | hin
                    · have HOK := Lib.hid (HK0.out.symm ▸ ptOk_zero HX0.out hnm hin : ptOk nets ps k = true)
                      go_wp2
                      go_quiet ((first | (go_at_call 65; exact Calls.quiet_of_same ((specIsName_any x.name _ hsz).mono fun _ _ h => ⟨h.1, h.2.symm⟩)) | (go_at_call 63; exact Calls.quiet_of_same ((l16In_any _ _ _ _).mono fun _ _ h => ⟨h.1, h.2.symm⟩))))
                      go_wp2
                      exact ⟨⟨k + 1, by omega, by go_num, Lib.hid (fun i hj => by
                        by_cases e : i = k
                        · subst e; exact HOK.out
                        · exact HI.out i (by omega)), blkT, blwT⟩, by simp [intOf]; omega⟩
                    · have hr := Lib.hid (HPT.out _ hlt (ptOk_net HX.out hin))
                      go_wp2
                      go_quiet ((first | (go_at_call 65; exact Calls.quiet_of_same ((specIsName_any x.name _ hsz).mono fun _ _ h => ⟨h.1, h.2.symm⟩)) | (go_at_call 63; exact Calls.quiet_of_same ((l16In_any _ _ _ _).mono fun _ _ h => ⟨h.1, h.2.symm⟩))))
                      go_wp2
                      go_ret
                      exact ⟨ret_bool hr.out.symm, blwT⟩
                  · obtain ⟨j, rfl⟩ : ∃ j, k = j + 1 := ⟨k - 1, by omega⟩
                    obtain ⟨y, hy⟩ : ∃ y, ps[j]? = some y := ⟨ps[j]'(by omega), List.getElem?_eq_getElem (by omega)⟩
                    have HY := Lib.hid hy
                    obtain ⟨q1, q2⟩ := (h4 j y hy).by hb
                    have j1 : (0 : Int) < (j : Int) + 1 := by omega
                    have j2 : (0 : Int) ≤ (j : Int) := by omega
                    have j3 : (j : Int) < (ps.length : Int) := by omega
                    have j4 : (j : Int) + 1 < (ps.length : Int) := by omega
                    clear hy h4
                    rcases Bool.eq_false_or_eq_true (Op.bytesLess y.name.toList x.name.toList) with hls | hls
                    · rcases Bool.eq_false_or_eq_true (inB x.net 0 (nets - 1)) with hin | hin
                      · have HOK := Lib.hid (ptOk_succ HX.out HY.out hnm hin hls)
                        go_wp2
                        go_quiet ((first | (go_at_call 65; exact Calls.quiet_of_same ((specIsName_any x.name _ hsz).mono fun _ _ h => ⟨h.1, h.2.symm⟩)) | (go_at_call 63; exact Calls.quiet_of_same ((l16In_any _ _ _ _).mono fun _ _ h => ⟨h.1, h.2.symm⟩))))
                        go_wp2
                        exact ⟨⟨(j + 1) + 1, by omega, by go_num, Lib.hid (fun i hj => by
                          by_cases e : i = (j + 1)
                          · subst e; exact HOK.out
                          · exact HI.out i (by omega)), blkT, blwT⟩, by simp [intOf]; omega⟩
                      · have hr := Lib.hid (HPT.out _ hlt (ptOk_net HX.out hin))
                        go_wp2
                        go_quiet ((first | (go_at_call 65; exact Calls.quiet_of_same ((specIsName_any x.name _ hsz).mono fun _ _ h => ⟨h.1, h.2.symm⟩)) | (go_at_call 63; exact Calls.quiet_of_same ((l16In_any _ _ _ _).mono fun _ _ h => ⟨h.1, h.2.symm⟩))))
                        go_wp2
                        go_ret
                        exact ⟨ret_bool hr.out.symm, blwT⟩
                    · have hr := Lib.hid (HPT.out _ hlt (ptOk_lt HX.out HY.out hls))
                      go_wp2
                      go_quiet ((first | (go_at_call 65; exact Calls.quiet_of_same ((specIsName_any x.name _ hsz).mono fun _ _ h => ⟨h.1, h.2.symm⟩)) | (go_at_call 63; exact Calls.quiet_of_same ((l16In_any _ _ _ _).mono fun _ _ h => ⟨h.1, h.2.symm⟩))))
                      go_wp2
                      go_ret
                      exact ⟨ret_bool hr.out.symm, blwT⟩
                · have hr := Lib.hid (HPT.out _ hlt (ptOk_name HX.out hnm))
                  go_wp2
                  go_quiet ((first | (go_at_call 65; exact Calls.quiet_of_same ((specIsName_any x.name _ hsz).mono fun _ _ h => ⟨h.1, h.2.symm⟩)) | (go_at_call 63; exact Calls.quiet_of_same ((l16In_any _ _ _ _).mono fun _ _ h => ⟨h.1, h.2.symm⟩))))
                  go_wp2
                  go_ret
                  exact ⟨ret_bool hr.out.symm, blwT⟩
              · obtain rfl : k = ps.length := by omega
                have hr := Lib.hid ((HEN.out HN1.out h24 h8 (fun i hi => HI.out i hi)).trans HALL.out)
                go_wp2
                go_ret
                exact ⟨ret_bool hr.out.symm, hb⟩
      · have hr := Lib.hid (HNP.out h8)
        go_enter Tryz.func29, Tryz.ntmps29
        go_wp2_with (go_at_call 63; refine (l16In_any _ _ _ _).mono ?_; rintro e w' ⟨rfl, rfl⟩)
        go_ret
        exact ⟨ret_bool hr.out.symm, blwT⟩
    · have hr := Lib.hid (HND.out h24)
      go_enter Tryz.func29, Tryz.ntmps29
      go_wp2_with (go_at_call 63; refine (l16In_any _ _ _ _).mono ?_; rintro e w' ⟨rfl, rfl⟩)
      go_ret
      exact ⟨ret_bool hr.out.symm, blwT⟩
  · have hr := Lib.hid (HNn.out hn)
    go_enter Tryz.func29, Tryz.ntmps29
    go_wp2_with (go_at_call 63; refine (l16In_any _ _ _ _).mono ?_; rintro e w' ⟨rfl, rfl⟩)
    go_ret
    exact ⟨ret_bool hr.out.symm, blwT⟩
set_option maxRecDepth 100000 in
set_option maxHeartbeats 2000000 in
theorem l27Degree_any (x : Nl) (v : Value) (net : Int) (w : World) (h : NlV w v x) (hl : x.ds.length ≤ 24) (hp3 : ∀ d ∈ x.ds, d.pins.length ≤ 3) :
    Calls Tryz.prog 32 #[v, .int .i64 net] w fun e w' => e = .returned (.int .i64 (degN x.ds net : Nat)) ∧ Below w.heap.size w w' := by
  obtain ⟨s1, s2, rfl, hd, hp⟩ := h
  obtain ⟨nets, ds, ps⟩ := x
  dsimp only at hd hp hl hp3 ⊢
  have HD := Lib.hid hd
  have H3 := Lib.hid hp3
  have HS := Lib.hid (fun k d h => degN_take ds k d h net)
  have HL := Lib.hid (fun k => degN_take_le ds k net hl hp3)
  have HF := Lib.hid (show degN (ds.take ds.length) net = degN ds net by rw [List.take_length])
  have H0 := Lib.hid (show degN (ds.take 0) net = 0 by simp [degN])
  obtain ⟨f, hf⟩ : ∃ f : Nat → Nat, (fun k => degN (ds.take k) net) = f := ⟨_, rfl⟩
  have hfe : ∀ k, degN (ds.take k) net = f k := fun k => by rw [← hf]
  generalize degN ds net = r at *
  simp only [hfe] at HS HL HF H0
  clear hf hfe hp3
  obtain ⟨a1, c1, rfl⟩ := hd.sized
  obtain ⟨a2, c2, rfl⟩ := hp.sized
  clear hd hp
  go_enter Tryz.func32, Tryz.ntmps32
  go_wp2
  go_loop [5, 6] (fun c i => ∃ k : Nat, k ≤ ds.length ∧ i = .int .i64 k ∧ c = .int .i64 (f k : Nat)) (fun _ i => ds.length - (intOf i).toNat)
  case atStart => exact ⟨0, Nat.zero_le _, rfl, by rw [H0.out]; rfl⟩
  case round =>
    obtain ⟨k, hk, rfl, rfl⟩ := hrel
    by_cases hlt : k < ds.length
    · obtain ⟨x, hx⟩ : ∃ x, ds[k]? = some x := ⟨ds[k], List.getElem?_eq_getElem hlt⟩
      have HDS := HD.out
      rcases HDS with ⟨_, _, _, h2⟩ | ⟨b, off, cap, he, h2, h3, h4⟩
      · rw [h2] at hlt; simp at hlt
      obtain ⟨rfl, rfl⟩ : a1 = some ⟨b, off, none⟩ ∧ c1 = cap := by simpa using he
      obtain ⟨sv, d1, d2, d3, d4, hS⟩ := h4 k x hx
      have lB := lt_of_cell d1
      dsimp only at lB
      have hx3 : x.pins.length ≤ 3 := H3.out x (List.mem_of_getElem? hx)
      have HC := Lib.hid (fun j z h => count_take x.pins j z h net)
      have HCL := Lib.hid (fun j => count_take_le x.pins j net hx3)
      have HST := Lib.hid (HS.out k x hx)
      have HCF := Lib.hid (show (x.pins.take x.pins.length).count net = x.pins.count net by rw [List.take_length])
      have HC0 := Lib.hid (show (x.pins.take 0).count net = 0 by simp)
      obtain ⟨g, hg⟩ : ∃ g : Nat → Nat, (fun j => (x.pins.take j).count net) = g := ⟨_, rfl⟩
      have hge : ∀ j, (x.pins.take j).count net = g j := fun j => by rw [← hg]
      simp only [hge] at HC HCL HCF HC0
      generalize x.pins.count net = q at *
      have hfk := HL.out k
      clear hg hge h4 hx he
      have HI := Lib.hid hS
      obtain ⟨a', c', rfl⟩ := hS.len
      have i1 : (0 : Int) ≤ (k : Int) := by omega
      have i2 : (k : Int) < (ds.length : Int) := by omega
      clear hS
      go_wp2
      go_loop [5, 7] (fun c j => ∃ m : Nat, m ≤ x.pins.length ∧ j = .int .i64 m ∧ c = .int .i64 (f k + g m : Nat)) (fun _ j => x.pins.length - (intOf j).toNat)
      case atStart => exact ⟨0, Nat.zero_le _, rfl, by rw [HC0.out]; rfl⟩
      case round =>
        obtain ⟨m, hm, rfl, rfl⟩ := hrel
        have hgm := HCL.out m
        by_cases hlm : m < x.pins.length
        · obtain ⟨z, hz⟩ : ∃ z, x.pins[m]? = some z := ⟨x.pins[m], List.getElem?_eq_getElem hlm⟩
          have HIS := HI.out
          rcases HIS with ⟨_, _, _, e2⟩ | ⟨bp, op, cp, e1, e2, e3, e4⟩
          · rw [e2] at hlm; simp at hlm
          obtain ⟨rfl, rfl⟩ : a' = some ⟨bp, op, none⟩ ∧ c' = cp := by simpa using e1
          have cz := e4 m z hz
          have lZ := lt_of_cell cz
          dsimp only at lZ
          have HZ := Lib.hid (HC.out m z hz)
          have j1 : (0 : Int) ≤ (m : Int) := by omega
          have j2 : (m : Int) < (x.pins.length : Int) := by omega
          clear e4 hz e1
          by_cases hzn : z = net
          · subst hzn
            go_wp2
            go_round
            case rel => exact ⟨m + 1, by omega, by go_num, by rw [HZ.out, if_pos rfl]; congr 1⟩
            case measure => simp [intOf]; omega
          · have hzb : (z == net) = false := by simpa using hzn
            have HZN := Lib.hid hzn
            clear hzn
            go_wp2
            go_round
            case rel => exact ⟨m + 1, by omega, by go_num, by rw [HZ.out, if_neg HZN.out]; rfl⟩
            case measure => simp [intOf]; omega
        · obtain rfl : m = x.pins.length := by omega
          go_wp2
          go_round
          case rel => exact ⟨k + 1, by omega, by go_num, by rw [HST.out, HCF.out]⟩
          case measure => simp [intOf]; omega
    · obtain rfl : k = ds.length := by omega
      go_wp2
      go_ret
      exact ⟨ret_i64 (by rw [HF.out]), blwT⟩
/- Contract of degrees. -/
set_option maxRecDepth 100000 in
set_option maxHeartbeats 2000000 in
theorem degrees_any (x : Nl) (n : Nat) (v : Value) (w : World) (h : NlV w v x) (hn : x.nets = (n : Int)) (hn24 : n ≤ 24) (hl : x.ds.length ≤ 24) (hp3 : ∀ d ∈ x.ds, d.pins.length ≤ 3) (hin : ∀ d ∈ x.ds, ∀ p ∈ d.pins, 0 ≤ p ∧ p < x.nets) :
    Calls Tryz.prog 55 #[v] w fun e w' => ∃ g, e = .returned (.slice (some ⟨g, 0, none⟩) n n) ∧ IBlk w' g (degs n x.ds) ∧ w.heap.size ≤ g ∧ Below w.heap.size w w' := by
  obtain ⟨s1, s2, rfl, hd, hp⟩ := h
  obtain ⟨nets, ds, ps⟩ := x
  dsimp only at hd hp hl hp3 hin hn ⊢
  subst hn
  have HD := Lib.hid hd
  have H3 := Lib.hid hp3
  have HIN := Lib.hid hin
  have HS := Lib.hid (fun k d h => degN_take ds k d h)
  have HL := Lib.hid (fun k net => degN_take_le ds k net hl hp3)
  clear hp3 hin
  obtain ⟨a1, c1, rfl⟩ := hd.sized
  obtain ⟨a2, c2, rfl⟩ := hp.sized
  clear hd hp
  obtain ⟨cs0, hcs0, hz0, hmk⟩ := make_ints n (by omega) (w.alloc (.cells #[.int .i64 (n : Int), .slice a1 ds.length c1, .slice a2 ps.length c2] 27))
  simp only [World.size_alloc] at hmk
  go_enter Tryz.func55, Tryz.ntmps55
  go_wp2
  clear hmk
  go_loopw [14] (fun i wr => ∃ k : Nat, k ≤ ds.length ∧ i = .int .i64 k ∧ (∃ cs : Array Value, Blk wr (w.heap.size + 1) cs 2 ∧ cs.size = n ∧ ∀ j, j < n → cs[j]? = some (Value.int .i64 (degN (ds.take k) (j : Int) : Nat))) ∧ Below w.heap.size w wr) (fun i _ => ds.length - (intOf i).toNat)
  case atStart => exact ⟨0, Nat.zero_le _, rfl, ⟨cs0, blkT, hcs0, fun j hj => by rw [hz0 j hj]; simp [degN]⟩, blwT⟩
  case round =>
    obtain ⟨k, hk, rfl, ⟨cs, hB, hsz, hold⟩, hb⟩ := hrel
    have lg := hB.lt
    by_cases hlt : k < ds.length
    · obtain ⟨x, hx⟩ : ∃ x, ds[k]? = some x := ⟨ds[k], List.getElem?_eq_getElem hlt⟩
      have HDS := HD.out
      rcases HDS with ⟨_, _, _, h2⟩ | ⟨b, off, cap, he, h2, h3, h4⟩
      · rw [h2] at hlt; simp at hlt
      obtain ⟨rfl, rfl⟩ : a1 = some ⟨b, off, none⟩ ∧ c1 = cap := by simpa using he
      obtain ⟨sv, e1, e2, e3, e4, hS⟩ := h4 k x hx
      have d1 := cell_by' hb e1
      have d2 := cell_by' hb e2
      have d3 := cell_by' hb e3
      have d4 := cell_by' hb e4
      have lB := lt_of_cell d1
      dsimp only at lB
      have hx3 : x.pins.length ≤ 3 := H3.out x (List.mem_of_getElem? hx)
      have HXI := Lib.hid (HIN.out x (List.mem_of_getElem? hx))
      have HST := Lib.hid (HS.out k x hx)
      have HOLD := Lib.hid hold
      have HSZ := Lib.hid hsz
      have HI := Lib.hid hS
      obtain ⟨a', c', rfl⟩ := hS.len
      have i1 : (0 : Int) ≤ (k : Int) := by omega
      have i2 : (k : Int) < (ds.length : Int) := by omega
      clear h4 hx he hold hsz hS e1 e2 e3 e4 hcs0 hz0
      go_wp2
      go_loopw [21] (fun i wr2 => ∃ m : Nat, m ≤ x.pins.length ∧ i = .int .i64 m ∧ (∃ cs : Array Value, Blk wr2 (w.heap.size + 1) cs 2 ∧ cs.size = n ∧ ∀ j, j < n → cs[j]? = some (Value.int .i64 (degN (ds.take k) (j : Int) + (x.pins.take m).count (j : Int) : Nat))) ∧ Below w.heap.size w wr2) (fun i _ => x.pins.length - (intOf i).toNat)
      case atStart => exact ⟨0, Nat.zero_le _, rfl, ⟨cs, blkT, HSZ.out, fun j hj => by rw [HOLD.out j hj]; simp⟩, blwT⟩
      case round =>
        clear hB
        obtain ⟨m, hm, rfl, ⟨cs, hB, hsz, hold⟩, hb2⟩ := hrel
        have HSZ := Lib.hid hsz
        have HOLD := Lib.hid hold
        clear hsz hold
        by_cases hlm : m < x.pins.length
        · obtain ⟨z, hz⟩ : ∃ z, x.pins[m]? = some z := ⟨x.pins[m], List.getElem?_eq_getElem hlm⟩
          have HIS := HI.out
          rcases HIS with ⟨_, _, _, e2⟩ | ⟨bp, op, cp, e1, e2, e3, e4⟩
          · rw [e2] at hlm; simp at hlm
          obtain ⟨rfl, rfl⟩ : a' = some ⟨bp, op, none⟩ ∧ c' = cp := by simpa using e1
          obtain ⟨hz0, hzn⟩ := HXI.out z (List.mem_of_getElem? hz)
          obtain ⟨q, rfl⟩ : ∃ q : Nat, z = (q : Int) := ⟨z.toNat, by omega⟩
          have cz := cell_by' hb2 (e4 m _ hz)
          have lZ := lt_of_cell cz
          dsimp only at lZ
          have hq : q < n := by omega
          have HCT := Lib.hid (fun net => count_take x.pins m _ hz net)
          have hv := HL.out k (q : Int)
          have hv2 := count_take_le x.pins m (q : Int) hx3
          have d0 := HOLD.out q hq
          obtain ⟨v, hv'⟩ : ∃ v : Nat, degN (ds.take k) (q : Int) + (x.pins.take m).count (q : Int) = v := ⟨_, rfl⟩
          rw [hv'] at d0
          have hvl : v ≤ 75 := by omega
          have HV := Lib.hid hv'
          have j1 : (0 : Int) ≤ (m : Int) := by omega
          have j2 : (m : Int) < (x.pins.length : Int) := by omega
          have q1 : (0 : Int) ≤ (q : Int) := by omega
          have q2 : (q : Int) < (n : Int) := by omega
          have hBc := hB.cell
          have hBf := hB.free
          clear e4 hz e1 hv'
          go_wp2
          refine ⟨⟨m + 1, by omega, by go_num, ⟨_, hB.set _ _, by simp [HSZ.out], ?_⟩, blwT⟩, by simp [intOf]; omega⟩
          intro j hj
          rw [Array.getElem?_setIfInBounds]
          by_cases hjq : q = j
          · subst hjq
            rw [if_pos rfl, if_pos (by rw [HSZ.out]; exact hj), HCT.out, if_pos rfl]
            have := HV.out
            congr 2; omega
          · rw [if_neg hjq, HOLD.out j hj, HCT.out, if_neg (by omega)]; rfl
        · obtain rfl : m = x.pins.length := by omega
          go_wp2
          refine ⟨⟨k + 1, by omega, by go_num, ⟨cs, hB, HSZ.out, fun j hj => ?_⟩, hb2⟩, by simp [intOf]; omega⟩
          rw [HOLD.out j hj, List.take_length, HST.out]
    · obtain rfl : k = ds.length := by omega
      rw [List.take_length] at hold
      have HOLD := Lib.hid hold
      have HSZ := Lib.hid hsz
      clear hold hsz hcs0 hz0
      go_wp2
      go_ret
      refine ⟨w.heap.size + 1, rfl, ⟨cs, hB, by rw [HSZ.out, length_degs], fun i y hy => ?_⟩, by omega, hb⟩
      have hi : i < n := by have := (List.getElem?_eq_some_iff.1 hy).1; rwa [length_degs] at this
      rw [degs_get n ds i hi] at hy
      cases hy
      exact HOLD.out i hi
/- Devices in series: plain. -/
def portB (ps : List Pt) (net : Int) : Bool := ps.any fun o => decide (o.net = net)
def comN (p q r s : Int) : Int := if q = r ∨ q = s then q else if p = r ∨ p = s then p else 0
def comC (p q r s : Int) : Int := (if p = r ∨ p = s then 1 else 0) + (if q = r ∨ q = s then 1 else 0)
def serPre (x y : Dv) : Bool :=
  decide (x.kind = y.kind) && (!parB x y && (!decide (curP x.pins = curQ x.pins) && (!decide (curP y.pins = curQ y.pins) && (decide (x.kind = 2) || (decide (gateOf x.pins = gateOf y.pins) && decide (x.wd = y.wd))))))
def serN (x y : Dv) : Int := comN (curP x.pins) (curQ x.pins) (curP y.pins) (curQ y.pins)
def oneB (x y : Dv) : Bool := decide (comC (curP x.pins) (curQ x.pins) (curP y.pins) (curQ y.pins) = 1)
def useB (n : Nl) (net : Int) : Bool := decide (degN n.ds net = 2) && !portB n.ps net
def serB (n : Nl) (x y : Dv) : Bool := serPre x y && (oneB x y && useB n (serN x y))
theorem serB_pre {n : Nl} {x y : Dv} (h : serPre x y = false) : serB n x y = false := by simp [serB, h]
theorem serB_one {n : Nl} {x y : Dv} (h : oneB x y = false) : serB n x y = false := by simp [serB, h]
theorem serB_use {n : Nl} {x y : Dv} (h : serPre x y = true) (h' : oneB x y = true) : serB n x y = useB n (serN x y) := by simp [serB, h, h']
/- Devices in series: contracts of the reference's helpers. -/
set_option maxRecDepth 100000 in
set_option maxHeartbeats 1000000 in
theorem l28Shorted_any (x : Dv) (sv : Value) (w : World) (h : IntSl w sv x.pins) (hs : Shp x) :
    Calls Tryz.prog 66 #[.agg #[.int .i64 x.kind, sv, .int .i64 x.wd, .int .i64 x.len]] w fun e w' => e = .returned (.bool (decide (curP x.pins = curQ x.pins))) ∧ Below w.heap.size w w' := by
  obtain ⟨kind, pins, wd, len⟩ := x
  dsimp only at h ⊢
  rcases hs with ⟨hkk, p, q, hp⟩ | ⟨hkk, g, p, q, hp⟩
  · dsimp only at hp; subst hp; clear hkk
    obtain ⟨b, off, cap, rfl, c0, c1, hb⟩ := h.two
    have HF := Lib.hid (fun w => l28First_any kind wd len (some ⟨b, off, none⟩) 0 cap (by omega) w)
    have HH := Lib.hid h
    clear h
    simp only [curP, curQ]
    go_enter Tryz.func66, Tryz.ntmps66
    go_wp2_with fail
    refine (HF.out _).mono ?_
    rintro e w1 ⟨rfl, hb1⟩
    have k0 : Blk w1 w.heap.size #[.int .i64 kind, .slice (some ⟨b, off, none⟩) 2 cap, .int .i64 wd, .int .i64 len] 46 := blkT
    have hW : Below w.heap.size w w1 := blwT
    have e0 := cell_by' hW c0
    have e1 := cell_by' hW c1
    have kc := k0.cell
    clear hb1
    go_wp2
    go_quiet (fail)
    go_wp2
    go_ret
    exact ⟨ret_bool (by rw [Bool.eq_iff_iff]; simp; exact decide_eq_true_iff.symm), blwT⟩
  · dsimp only at hp; subst hp; clear hkk
    obtain ⟨b, off, cap, rfl, c0, c1, c2, hb⟩ := h.three
    have HF := Lib.hid (fun w => l28First_any kind wd len (some ⟨b, off, none⟩) 1 cap (by omega) w)
    clear h
    simp only [curP, curQ]
    go_enter Tryz.func66, Tryz.ntmps66
    go_wp2_with fail
    refine (HF.out _).mono ?_
    rintro e w1 ⟨rfl, hb1⟩
    have k0 : Blk w1 w.heap.size #[.int .i64 kind, .slice (some ⟨b, off, none⟩) 3 cap, .int .i64 wd, .int .i64 len] 46 := blkT
    have hW : Below w.heap.size w w1 := blwT
    have e0 := cell_by' hW c0
    have e1 := cell_by' hW c1
    have e2 := cell_by' hW c2
    have kc := k0.cell
    clear hb1
    go_wp2
    go_quiet (fail)
    go_wp2
    go_ret
    exact ⟨ret_bool (by rw [Bool.eq_iff_iff]; simp; exact decide_eq_true_iff.symm), blwT⟩
end Go.Proofs.YtacbdmngcdhgoaaGreat
