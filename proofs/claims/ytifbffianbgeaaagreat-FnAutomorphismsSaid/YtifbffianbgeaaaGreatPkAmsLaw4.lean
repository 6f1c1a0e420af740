/- Contracts and plain laws, part 4, for the statement's proof. -/
import Derived.Test.YtifbffianbgeaaaGreatPkAmsLaw3
import Derived.Deep.DeepCutAuto
import Derived.BigRegion
import Derived.WalkLawsBesides
import Derived.ProofKit
import Derived.OpenShut
import Derived.Laws.IdiomCopy
import Derived.Laws.AppendOwn
namespace Go.Proofs.YtifbffianbgeaaaGreat
open Go.RowKit
set_option linter.unusedVariables false
set_option linter.unusedSimpArgs false
def Small (x : Nl) : Prop := (-1 ≤ x.nets ∧ x.nets ≤ 25) ∧ x.ds.length ≤ 10 ∧ (∀ d ∈ x.ds, 1 ≤ d.pins.length ∧ d.pins.length ≤ 100) ∧ x.ps.length ≤ 100 ∧ ∀ p ∈ x.ps, p.ok
theorem Small.fits {x : Nl} (h : Small x) : Fits x.nets := by
  obtain ⟨⟨h1, h2⟩, _⟩ := h
  exact ⟨by omega, by omega⟩
def NlO (m : Nat) (w : World) (v : Value) (x : Nl) : Prop := ∃ s1 s2, v = .agg #[.int .i64 x.nets, s1, s2] ∧ (∃ lo hi, m ≤ lo ∧ OwnDs w lo hi s1 x.ds) ∧ ∃ lo hi, m ≤ lo ∧ OwnPs w lo hi s2 x.ps
section
variable {m : Nat} {w w' : World} {v : Value} {x : Nl}
theorem NlO.nl (h : NlO m w v x) : NlV w v x := by
  obtain ⟨s1, s2, e, ⟨l1, h1, r1, o1⟩, l2, h2, r2, o2⟩ := h
  exact ⟨s1, s2, e, o1.sl, o2.sl⟩
theorem NlO.by (hb : Below w.heap.size w w') (h : NlO m w v x) : NlO m w' v x := by
  obtain ⟨s1, s2, e, ⟨l1, h1, r1, o1⟩, l2, h2, r2, o2⟩ := h
  exact ⟨s1, s2, e, ⟨l1, h1, r1, o1.by hb⟩, l2, h2, r2, o2.by hb⟩
theorem NlO.past {lo hi : Nat} (hw : Within lo hi w w') (h : NlO m w v x) (hh : hi ≤ m) : NlO m w' v x := by
  obtain ⟨s1, s2, e, ⟨l1, h1, r1, o1⟩, l2, h2, r2, o2⟩ := h
  exact ⟨s1, s2, e, ⟨l1, h1, r1, o1.past hw (.inr (by omega))⟩, l2, h2, r2, o2.past hw (.inr (by omega))⟩
theorem NlO.low {m' : Nat} (h : NlO m w v x) (hm : m' ≤ m) : NlO m' w v x := by
  obtain ⟨s1, s2, e, ⟨l1, h1, r1, o1⟩, l2, h2, r2, o2⟩ := h
  exact ⟨s1, s2, e, ⟨l1, h1, by omega, o1⟩, l2, h2, by omega, o2⟩
end
theorem nlv_set3 {w : World} {r : Nat} {X : Int} {D P : Value} {ds : List Dv} {ps : List Pt} (v1 v2 v3 : Value) (h1 : ∃ lo hi, r < lo ∧ OwnDs w lo hi D ds) (h2 : ∃ lo hi, r < lo ∧ OwnPs w lo hi P ps) :
    NlO r (((w.setCell ⟨r, 0, none⟩ v1).setCell ⟨r, 1, none⟩ v2).setCell ⟨r, 2, none⟩ v3) (.agg #[.int .i64 X, D, P]) ⟨X, ds, ps⟩ := by
  obtain ⟨l1, h1', r1, o1⟩ := h1
  obtain ⟨l2, h2', r2, o2⟩ := h2
  exact ⟨D, P, rfl, ⟨l1, h1', by omega, (((o1.past (Within.off _) (by omega)).past (Within.off _) (by omega)).past (Within.off _) (by omega))⟩, l2, h2', by omega, (((o2.past (Within.off _) (by omega)).past (Within.off _) (by omega)).past (Within.off _) (by omega))⟩
set_option maxRecDepth 100000 in
set_option maxHeartbeats 16000000 in
theorem l27DrawNetlist_any (W0 : World) (g : Nat) (sv : Value) (n : Nat) (w : World) (hD : Src1 W0 g sv n w) :
    Calls Tryz.prog 71 #[.pointer (some ⟨g, 0, none⟩)] w fun e w' => ∃ (v : Value) (x : Nl), e = .returned v ∧ Hid (NlO w.heap.size w' v x) ∧ Hid (Small x) ∧ Hid (Src1 W0 g sv n w') ∧ Hid (Within g (g + 1) w w') := by
  have HN := Lib.hid (fun q w h hq => l01Next_any W0 g sv n q w h hq)
  have HDV := Lib.hid (fun w h => l27DrawValid_any W0 g sv n w h)
  have hgl := hD.lt
  have hW0 : W0.heap.size ≤ g := hD.1
  have HD := Lib.hid hD
  clear hD
  go_enter Tryz.func71, Tryz.ntmps71
  go_wp2_with fail
  refine (HDV.out _ (HD.out.by blwT)).mono ?_
  rintro e w1 ⟨⟨N, ds, ps⟩, dv, pv, lo, mid, hi, rfl, HBL1, HPL1, hb, hN, hdl, hdp, hpl, hpo, HD1, HW1⟩
  dsimp only at HBL1 HPL1 hN hdl hdp hpl hpo
  simp only [World.size_alloc] at hb
  obtain ⟨av, cv, rfl⟩ := HBL1.out.sized
  obtain ⟨pa, pc, rfl⟩ := HPL1.out.sized
  have kZ0 : Blk (w.alloc (.cells #[.int .i64 0, .slice none 0 0, .slice none 0 0] 35)) w.heap.size #[.int .i64 0, .slice none 0 0, .slice none 0 0] 35 := Blk.new _ rfl
  have hZ1 := HW1.out.blk kZ0 (by omega)
  have lZ1 := hZ1.lt
  have HWs := Lib.hid (((Within.refl g (g + 1) w).alloc (.cells #[.int .i64 0, .slice none 0 0, .slice none 0 0] 35)).on HW1.out)
  have hbA : Below w1.heap.size w1 (w1.alloc (.cells #[.int .i64 N, .slice av ds.length cv, .slice pa ps.length pc] 35)) := (Below.refl _ w1).alloc (Nat.le_refl _) _
  have k3 : Blk (w1.alloc (.cells #[.int .i64 N, .slice av ds.length cv, .slice pa ps.length pc] 35)) w1.heap.size #[.int .i64 N, .slice av ds.length cv, .slice pa ps.length pc] 35 := Blk.new _ rfl
  have HBL := Lib.hid (HBL1.out.by hbA)
  have HPL := Lib.hid (HPL1.out.by hbA)
  have HDs := Lib.hid (HD1.out.by hbA)
  have HZ := Lib.hid (Blk.by hbA hZ1)
  have HW := Lib.hid (HWs.out.alloc (.cells #[.int .i64 N, .slice av ds.length cv, .slice pa ps.length pc] 35))
  have hsA : w1.heap.size + 1 ≤ (w1.alloc (.cells #[.int .i64 N, .slice av ds.length cv, .slice pa ps.length pc] 35)).heap.size := by simp
  have HDP := Lib.hid hdp
  have HPO := Lib.hid hpo
  clear HBL1 HPL1 HD1 HW1 kZ0 hZ1 HWs hbA hdp hpo
  go_upto_region 2 with fail
  generalize w1.alloc (.cells #[.int .i64 N, .slice av ds.length cv, .slice pa ps.length pc] 35) = w2 at *
  obtain ⟨T, hT⟩ : ∃ T, w1.heap.size = T := ⟨_, rfl⟩
  rw [hT] at k3 hsA lZ1 hb
  (try rw [hT])
  clear hT
  go_wp2_with fail
  refine (HN.out _ _ HDs.out (by omega)).mono ?_
  rintro e w3 ⟨a, rfl, ha0, ha1, hD3, ho3⟩
  have HBL3 := Lib.hid (HBL.out.only ho3 (by omega))
  have HPL3 := Lib.hid (HPL.out.only ho3 (by omega))
  have HD3 := Lib.hid hD3
  have HW3 := Lib.hid (HW.out.on ho3.within)
  have HZ3 := Lib.hid (ho3.within.blk HZ.out (by omega))
  have k33 := ho3.within.blk k3 (by omega)
  have hs3 : w2.heap.size ≤ w3.heap.size := ho3.within.size
  have HSM : Hid (Small ⟨N, ds, ps⟩) := Lib.hid ⟨⟨by show -1 ≤ N; omega, by show N ≤ 25; omega⟩, by show ds.length ≤ 10; omega, fun d hd => by have := HDP.out d hd; omega, by show ps.length ≤ 100; omega, HPO.out⟩
  clear HBL HPL HDs HW HZ k3 hD3 ho3
  by_cases ha : 0 < a
  · have HDO : Hid (∃ lo hi, w.heap.size < lo ∧ OwnDs w3 lo hi (.slice av ds.length cv) ds) := Lib.hid ⟨lo, mid, by omega, HBL3.out.own⟩
    have HPO2 : Hid (∃ lo hi, w.heap.size < lo ∧ OwnPs w3 lo hi (.slice pa ps.length pc) ps) := Lib.hid ⟨mid, hi, by omega, HPL3.out.own⟩
    have kE := k33
    have HZE := HZ3
    have HDE := HD3
    have HWE := HW3
    have cT := kE.cell
    have lT := kE.lt
    have kZE := HZE.out
    have cZ := kZE.cell
    have fZ := kZE.free
    have lZ := kZE.lt
    go_wp2
    refine bodyPost_ret (v := .agg #[.int .i64 N, .slice av ds.length cv, .slice pa ps.length pc]) (by simp [results, Tryz.results71, go_sem, *]) rfl ?_
    exact ⟨_, ⟨N, ds, ps⟩, rfl, Lib.hid (nlv_set3 _ _ _ HDO.out HPO2.out), HSM, Lib.hid (((HDE.out.apart (by omega) (by omega)).apart (by omega) (by omega)).apart (by omega) (by omega)), Lib.hid (((HWE.out.new _ _ _ (by omega)).new _ _ _ (by omega)).new _ _ _ (by omega))⟩
  have c3 := k33.cell
  have l3 := k33.lt
  go_upto_region 4 with fail
  go_cut [4] (fun s wx => ∃ q : Nat, s = .int .i64 (q : Int) ∧ (0 < ds.length → q < ds.length) ∧ Hid (Src1 W0 g sv n wx) ∧ Hid (Only g w3 wx))
  case first =>
    go_wp2_with fail
    all_goals
      refine (HN.out _ _ HD3.out (by omega)).mono ?_
      rintro e w4 ⟨q, rfl, hq0, hq1, hD4, ho4⟩
      obtain ⟨Q, rfl⟩ : ∃ Q : Nat, q = Q := ⟨q.toNat, by omega⟩
      go_wp2
      go_meet
      exact ⟨Q, rfl, by omega, Lib.hid hD4, Lib.hid ho4⟩
  case rest =>
    obtain ⟨q, rfl, hq, HD4, HO4⟩ := hcut
    have HBL4 := Lib.hid (HBL3.out.only HO4.out (by omega))
    have HPL4 := Lib.hid (HPL3.out.only HO4.out (by omega))
    have HW4 := Lib.hid (HW3.out.on HO4.out.within)
    have HZ4 := Lib.hid (HO4.out.within.blk HZ3.out (by omega))
    have k34 := HO4.out.within.blk k33 (by omega)
    have hs4 : w3.heap.size ≤ wc.heap.size := HO4.out.within.size
    clear HBL3 HPL3 HW3 HZ3 k33 HD3 c3 l3 HO4
    have c3 := k34.cell
    have l3 := k34.lt
    go_wp2_with fail
    refine (HN.out _ _ HD4.out (by omega)).mono ?_
    rintro e w5 ⟨y, rfl, hy0, hy1, hD5, ho5⟩
    have HBL := Lib.hid (HBL4.out.only ho5 (by omega))
    have HPL := Lib.hid (HPL4.out.only ho5 (by omega))
    have HD5 := Lib.hid hD5
    have HW := Lib.hid (HW4.out.on ho5.within)
    have HZ := Lib.hid (ho5.within.blk HZ4.out (by omega))
    have k35 := ho5.within.blk k34 (by omega)
    have hs5 : wc.heap.size ≤ w5.heap.size := ho5.within.size
    clear HBL4 HPL4 HD4 HW4 HZ4 k34 hD5 ho5 c3 l3
    have c3 := k35.cell
    have l3 := k35.lt
    rcases (by omega : y = 0 ∨ y = 1 ∨ y = 2 ∨ y = 3 ∨ y = 4 ∨ y = 5 ∨ y = 6) with rfl | rfl | rfl | rfl | rfl | rfl | rfl
    · go_upto_region 23 with (go_at_call 73; refine (HN.out _ _ (HD5.out.by blwT) (by omega)).mono ?_; rintro e w6 ⟨z, rfl, hz0, hz1, hD6, ho6⟩; have HD6 := Lib.hid hD6; have hW6 := ho6.within; have kL0 : Blk (w5.alloc (.cells #[.int .i64 (-1), .int .i64 0, .int .i64 24, .int .i64 25] 2)) w5.heap.size #[.int .i64 (-1), .int .i64 0, .int .i64 24, .int .i64 25] 2 := Blk.new _ rfl; have kL6 := hW6.blk kL0 (by omega); have k36 := hW6.blk (k35.past _) (by omega); have f36 := k36.free; have c36 := k36.cell; have l36 := k36.lt; (obtain ⟨Z, rfl⟩ : ∃ Z : Nat, z = Z := ⟨z.toNat, by omega⟩); have hZi : (Z : Int) < 4 := (by omega); have hZj : (0 : Int) ≤ (Z : Int) := (by omega); (obtain ⟨u, hu, hu1, hu2⟩ : ∃ u : Int, (#[.int .i64 (-1), .int .i64 0, .int .i64 24, .int .i64 25] : Array Value)[Z]? = some (.int .i64 u) ∧ -1 ≤ u ∧ u ≤ 25 := (by rcases (by omega : Z = 0 ∨ Z = 1 ∨ Z = 2 ∨ Z = 3) with rfl | rfl | rfl | rfl <;> exact ⟨_, rfl, by omega, by omega⟩)); rw [← kL6.cell] at hu; have lu := kL6.lt)
      have hbA : Below w5.heap.size w5 (w5.alloc (.cells #[.int .i64 (-1), .int .i64 0, .int .i64 24, .int .i64 25] 2)) := (Below.refl _ w5).alloc (Nat.le_refl _) _
      have hsA := hbA.size
      have hs6 := hW6.size
      have kE : Blk (w6.setCell ⟨T, 0, none⟩ (.int .i64 u)) T #[.int .i64 u, .slice av ds.length cv, .slice pa ps.length pc] 35 := k36.set 0 _
      have HZE := Lib.hid ((hW6.blk (Blk.by hbA HZ.out) (by omega)).apart T 0 (.int .i64 u) (by omega))
      have HDE := Lib.hid (HD6.out.apart (b := T) (o := 0) (v := .int .i64 u) (by omega) (by omega))
      have HWE := Lib.hid (((HW.out.alloc (.cells #[.int .i64 (-1), .int .i64 0, .int .i64 24, .int .i64 25] 2)).on hW6).new T 0 (.int .i64 u) (by omega))
      have HDO : Hid (∃ lo hi, w.heap.size < lo ∧ OwnDs (w6.setCell ⟨T, 0, none⟩ (.int .i64 u)) lo hi (.slice av ds.length cv) ds) := Lib.hid ⟨lo, mid, by omega, (((HBL.out.by hbA).past hW6 (.inl (by omega))).own.past (Within.off _) (.inl (by omega)))⟩
      have HPO2 : Hid (∃ lo hi, w.heap.size < lo ∧ OwnPs (w6.setCell ⟨T, 0, none⟩ (.int .i64 u)) lo hi (.slice pa ps.length pc) ps) := Lib.hid ⟨mid, hi, by omega, (((HPL.out.by hbA).past hW6 (.inl (by omega))).own.past (Within.off _) (.inl (by omega)))⟩
      have HSM2 : Hid (Small ⟨u, ds, ps⟩) := Lib.hid ⟨⟨hu1, hu2⟩, HSM.out.2⟩
      replace HSM := HSM2
      clear HSM2 k36 f36 c36 l36 hu lu kL0 kL6 c3 l3
      generalize w6.setCell ⟨T, 0, none⟩ (.int .i64 u) = wE at *
      have cT := kE.cell
      have lT := kE.lt
      have kZE := HZE.out
      have cZ := kZE.cell
      have fZ := kZE.free
      have lZ := kZE.lt
      go_wp2
      refine bodyPost_ret (v := .agg #[.int .i64 u, .slice av ds.length cv, .slice pa ps.length pc]) (by simp [results, Tryz.results71, go_sem, *]) rfl ?_
      exact ⟨_, ⟨u, ds, ps⟩, rfl, Lib.hid (nlv_set3 _ _ _ HDO.out HPO2.out), HSM, Lib.hid (((HDE.out.apart (by omega) (by omega)).apart (by omega) (by omega)).apart (by omega) (by omega)), Lib.hid (((HWE.out.new _ _ _ (by omega)).new _ _ _ (by omega)).new _ _ _ (by omega))⟩
    · go_upto_region 23 with (refine list_pushP (by rfl) _ _ (by rfl) mid hi (.slice pa ps.length pc) ps (by rfl) (HPL.out.by blwT) w5.heap.size ⟨⟨#[97]⟩, 0⟩ (by rfl) (Blk.new _ rfl) (by omega) (by omega) ?_; intro a6 c6 w6 hB6 hw6; have HB6 := Lib.hid hB6; have k36 := hw6.blk (k35.past (.cells #[.string ⟨#[97]⟩, .int .i64 0] 98)) (by omega); have f36 := k36.free; have c36 := k36.cell; have l36 := k36.lt; clear hB6)
      have hbA : Below w5.heap.size w5 (w5.alloc (.cells #[.string ⟨#[97]⟩, .int .i64 0] 98)) := (Below.refl _ w5).alloc (Nat.le_refl _) _
      have hsA := hbA.size
      have hs6 := hw6.size
      have kE : Blk (w6.setCell ⟨T, 2, none⟩ (.slice a6 (ps.length + 1) c6)) T #[.int .i64 N, .slice av ds.length cv, .slice a6 (ps.length + 1) c6] 35 := k36.set 2 _
      have HZE := Lib.hid ((hw6.blk (Blk.by hbA HZ.out) (by omega)).apart T 2 (.slice a6 (ps.length + 1) c6) (by omega))
      have HDE := Lib.hid ((Src1.within hw6 (HD5.out.by hbA) (by omega) (by omega)).apart (b := T) (o := 2) (v := .slice a6 (ps.length + 1) c6) (by omega) (by omega))
      have HWE := Lib.hid (((HW.out.alloc (.cells #[.string ⟨#[97]⟩, .int .i64 0] 98)).newerM hw6 (by omega)).new T 2 (.slice a6 (ps.length + 1) c6) (by omega))
      have HDO : Hid (∃ lo hi, w.heap.size < lo ∧ OwnDs (w6.setCell ⟨T, 2, none⟩ (.slice a6 (ps.length + 1) c6)) lo hi (.slice av ds.length cv) ds) := Lib.hid ⟨lo, mid, by omega, (((HBL.out.by hbA).past hw6 (.inr (by omega))).own.past (Within.off _) (.inl (by omega)))⟩
      have HPO2 : Hid (∃ lo hi, w.heap.size < lo ∧ OwnPs (w6.setCell ⟨T, 2, none⟩ (.slice a6 (ps.length + 1) c6)) lo hi (.slice a6 (ps.length + 1) c6) (ps ++ [⟨⟨#[97]⟩, 0⟩])) := Lib.hid ⟨mid, w6.heap.size, by omega, by simpa using HB6.out.own.offN (o := 2) (v := .slice a6 (ps.length + 1) c6) k36⟩
      have HSM2 : Hid (Small ⟨N, ds, ps ++ [⟨⟨#[97]⟩, 0⟩]⟩) := Lib.hid ⟨HSM.out.1, HSM.out.2.1, HSM.out.2.2.1, by have := hpl; simp; omega, by
        intro e he
        rcases List.mem_append.1 he with h | h
        · exact HPO.out e h
        · obtain rfl := List.mem_singleton.1 h
          exact ⟨by show (⟨#[97]⟩ : ByteArray).size ≤ _; decide, by show Fits 0; exact ⟨by omega, by omega⟩⟩⟩
      replace HSM := HSM2
      clear HSM2 k36 f36 c36 l36 c3 l3
      generalize w6.setCell ⟨T, 2, none⟩ (.slice a6 (ps.length + 1) c6) = wE at *
      have cT := kE.cell
      have lT := kE.lt
      have kZE := HZE.out
      have cZ := kZE.cell
      have fZ := kZE.free
      have lZ := kZE.lt
      go_wp2
      refine bodyPost_ret (v := .agg #[.int .i64 N, .slice av ds.length cv, .slice a6 (ps.length + 1) c6]) (by simp [results, Tryz.results71, go_sem, *]) rfl ?_
      exact ⟨_, ⟨N, ds, ps ++ [⟨⟨#[97]⟩, 0⟩]⟩, rfl, Lib.hid (nlv_set3 _ _ _ HDO.out HPO2.out), HSM, Lib.hid (((HDE.out.apart (by omega) (by omega)).apart (by omega) (by omega)).apart (by omega) (by omega)), Lib.hid (((HWE.out.new _ _ _ (by omega)).new _ _ _ (by omega)).new _ _ _ (by omega))⟩
    · go_upto_region 23 with (refine list_pushP (by rfl) _ _ (by rfl) mid hi (.slice pa ps.length pc) ps (by rfl) (HPL.out.by blwT) w5.heap.size ⟨⟨#[122, 122]⟩, N⟩ (by rfl) (Blk.new _ rfl) (by omega) (by omega) ?_; intro a6 c6 w6 hB6 hw6; have HB6 := Lib.hid hB6; have k36 := hw6.blk (k35.past (.cells #[.string ⟨#[122, 122]⟩, .int .i64 N] 98)) (by omega); have f36 := k36.free; have c36 := k36.cell; have l36 := k36.lt; clear hB6)
      have hbA : Below w5.heap.size w5 (w5.alloc (.cells #[.string ⟨#[122, 122]⟩, .int .i64 N] 98)) := (Below.refl _ w5).alloc (Nat.le_refl _) _
      have hsA := hbA.size
      have hs6 := hw6.size
      have kE : Blk (w6.setCell ⟨T, 2, none⟩ (.slice a6 (ps.length + 1) c6)) T #[.int .i64 N, .slice av ds.length cv, .slice a6 (ps.length + 1) c6] 35 := k36.set 2 _
      have HZE := Lib.hid ((hw6.blk (Blk.by hbA HZ.out) (by omega)).apart T 2 (.slice a6 (ps.length + 1) c6) (by omega))
      have HDE := Lib.hid ((Src1.within hw6 (HD5.out.by hbA) (by omega) (by omega)).apart (b := T) (o := 2) (v := .slice a6 (ps.length + 1) c6) (by omega) (by omega))
      have HWE := Lib.hid (((HW.out.alloc (.cells #[.string ⟨#[122, 122]⟩, .int .i64 N] 98)).newerM hw6 (by omega)).new T 2 (.slice a6 (ps.length + 1) c6) (by omega))
      have HDO : Hid (∃ lo hi, w.heap.size < lo ∧ OwnDs (w6.setCell ⟨T, 2, none⟩ (.slice a6 (ps.length + 1) c6)) lo hi (.slice av ds.length cv) ds) := Lib.hid ⟨lo, mid, by omega, (((HBL.out.by hbA).past hw6 (.inr (by omega))).own.past (Within.off _) (.inl (by omega)))⟩
      have HPO2 : Hid (∃ lo hi, w.heap.size < lo ∧ OwnPs (w6.setCell ⟨T, 2, none⟩ (.slice a6 (ps.length + 1) c6)) lo hi (.slice a6 (ps.length + 1) c6) (ps ++ [⟨⟨#[122, 122]⟩, N⟩])) := Lib.hid ⟨mid, w6.heap.size, by omega, by simpa using HB6.out.own.offN (o := 2) (v := .slice a6 (ps.length + 1) c6) k36⟩
      have HSM2 : Hid (Small ⟨N, ds, ps ++ [⟨⟨#[122, 122]⟩, N⟩]⟩) := Lib.hid ⟨HSM.out.1, HSM.out.2.1, HSM.out.2.2.1, by have := hpl; simp; omega, by
        intro e he
        rcases List.mem_append.1 he with h | h
        · exact HPO.out e h
        · obtain rfl := List.mem_singleton.1 h
          exact ⟨by show (⟨#[122, 122]⟩ : ByteArray).size ≤ _; decide, by show Fits N; exact ⟨by omega, by omega⟩⟩⟩
      replace HSM := HSM2
      clear HSM2 k36 f36 c36 l36 c3 l3
      generalize w6.setCell ⟨T, 2, none⟩ (.slice a6 (ps.length + 1) c6) = wE at *
      have cT := kE.cell
      have lT := kE.lt
      have kZE := HZE.out
      have cZ := kZE.cell
      have fZ := kZE.free
      have lZ := kZE.lt
      go_wp2
      refine bodyPost_ret (v := .agg #[.int .i64 N, .slice av ds.length cv, .slice a6 (ps.length + 1) c6]) (by simp [results, Tryz.results71, go_sem, *]) rfl ?_
      exact ⟨_, ⟨N, ds, ps ++ [⟨⟨#[122, 122]⟩, N⟩]⟩, rfl, Lib.hid (nlv_set3 _ _ _ HDO.out HPO2.out), HSM, Lib.hid (((HDE.out.apart (by omega) (by omega)).apart (by omega) (by omega)).apart (by omega) (by omega)), Lib.hid (((HWE.out.new _ _ _ (by omega)).new _ _ _ (by omega)).new _ _ _ (by omega))⟩
    · go_upto_region 23 with (refine list_pushD (by rfl) _ _ (by rfl) lo mid (.slice av ds.length cv) ds (by rfl) (HBL.out.by blwT) (w5.heap.size + 1) ⟨2, [0, 0], 2, 2⟩ _ w5.heap.size (by first | rfl | (simp; done)) (Blk.new _ (by simp)) (BldI.lit (zs := [0, 0]) ((Blk.new _ rfl).past _) rfl (by simp) (Nat.le_refl _) (Nat.lt_succ_self _) (by simp)) (by omega) (by omega) (by simp; omega) (by omega) ?_; intro a6 c6 w6 hB6 hw6; have HB6 := Lib.hid hB6; have k36 := hw6.blk ((k35.past (.cells #[.int .i64 0, .int .i64 0] 2)).past (.cells #[.int .i64 2, .slice (some ⟨w5.heap.size, 0, none⟩) 2 2, .int .i64 2, .int .i64 2] 62)) (by omega); have f36 := k36.free; have c36 := k36.cell; have l36 := k36.lt; clear hB6)
      have hbA : Below w5.heap.size w5 ((w5.alloc (.cells #[.int .i64 0, .int .i64 0] 2)).alloc (.cells #[.int .i64 2, .slice (some ⟨w5.heap.size, 0, none⟩) 2 2, .int .i64 2, .int .i64 2] 62)) := ((Below.refl _ w5).alloc (Nat.le_refl _) _).alloc (by simp) _
      have hsA := hbA.size
      have hs6 := hw6.size
      have kE : Blk (w6.setCell ⟨T, 1, none⟩ (.slice a6 (ds.length + 1) c6)) T #[.int .i64 N, .slice a6 (ds.length + 1) c6, .slice pa ps.length pc] 35 := k36.set 1 _
      have HZE := Lib.hid ((hw6.blk (Blk.by hbA HZ.out) (by omega)).apart T 1 (.slice a6 (ds.length + 1) c6) (by omega))
      have HDE := Lib.hid ((Src1.within hw6 (HD5.out.by hbA) (by omega) (by omega)).apart (b := T) (o := 1) (v := .slice a6 (ds.length + 1) c6) (by omega) (by omega))
      have HWE := Lib.hid ((((HW.out.alloc (.cells #[.int .i64 0, .int .i64 0] 2)).alloc (.cells #[.int .i64 2, .slice (some ⟨w5.heap.size, 0, none⟩) 2 2, .int .i64 2, .int .i64 2] 62)).newerM hw6 (by omega)).new T 1 (.slice a6 (ds.length + 1) c6) (by omega))
      have HDO : Hid (∃ lo hi, w.heap.size < lo ∧ OwnDs (w6.setCell ⟨T, 1, none⟩ (.slice a6 (ds.length + 1) c6)) lo hi (.slice a6 (ds.length + 1) c6) (ds ++ [⟨2, [0, 0], 2, 2⟩])) := Lib.hid ⟨lo, w6.heap.size, by omega, by simpa using HB6.out.own.offN (o := 1) (v := .slice a6 (ds.length + 1) c6) k36⟩
      have HPO2 : Hid (∃ lo hi, w.heap.size < lo ∧ OwnPs (w6.setCell ⟨T, 1, none⟩ (.slice a6 (ds.length + 1) c6)) lo hi (.slice pa ps.length pc) ps) := Lib.hid ⟨mid, hi, by omega, (((HPL.out.by hbA).past hw6 (.inl (by omega))).own.past (Within.off _) (.inl (by omega)))⟩
      have HSM2 : Hid (Small ⟨N, ds ++ [⟨2, [0, 0], 2, 2⟩], ps⟩) := Lib.hid ⟨HSM.out.1, by simp; omega, by
        intro e he
        rcases List.mem_append.1 he with h | h
        · have := HDP.out e h; omega
        · obtain rfl := List.mem_singleton.1 h
          simp, HSM.out.2.2.2⟩
      replace HSM := HSM2
      clear HSM2 k36 f36 c36 l36 c3 l3
      generalize w6.setCell ⟨T, 1, none⟩ (.slice a6 (ds.length + 1) c6) = wE at *
      have cT := kE.cell
      have lT := kE.lt
      have kZE := HZE.out
      have cZ := kZE.cell
      have fZ := kZE.free
      have lZ := kZE.lt
      go_wp2
      refine bodyPost_ret (v := .agg #[.int .i64 N, .slice a6 (ds.length + 1) c6, .slice pa ps.length pc]) (by simp [results, Tryz.results71, go_sem, *]) rfl ?_
      exact ⟨_, ⟨N, ds ++ [⟨2, [0, 0], 2, 2⟩], ps⟩, rfl, Lib.hid (nlv_set3 _ _ _ HDO.out HPO2.out), HSM, Lib.hid (((HDE.out.apart (by omega) (by omega)).apart (by omega) (by omega)).apart (by omega) (by omega)), Lib.hid (((HWE.out.new _ _ _ (by omega)).new _ _ _ (by omega)).new _ _ _ (by omega))⟩
    · by_cases hdl : 0 < ds.length
      · have hdi : (0 : Int) < (ds.length : Int) := by omega
        have hql := hq hdl
        have hqi : (q : Int) < (ds.length : Int) := by omega
        have hqj : (0 : Int) ≤ (q : Int) := by omega
        obtain ⟨b, rfl, hb1, hb2⟩ := HBL.out.ad hdl
        obtain ⟨x, hx⟩ : ∃ x, ds[q]? = some x := ⟨ds[q]'(by omega), List.getElem?_eq_getElem _⟩
        go_upto_region 16 with fail
        go_region_law
          (go_simp; go_at_call 73; refine (HN.out _ _ (HD5.out.by blwT) (by omega)).mono ?_; rintro e w6 ⟨z, rfl, hz0, hz1, hD6, ho6⟩; have HD6 := Lib.hid hD6; have hW6 := ho6.within; have hs6 := hW6.size; have hs6' : w5.heap.size ≤ w6.heap.size := (by simp at hs6 <;> omega); have k36 := hW6.blk (Blk.by (w := w5) blwT k35) (by omega); have c36 := k36.cell; have l36 := k36.lt; have HZ6 := Lib.hid (hW6.blk (Blk.by (w := w5) blwT HZ.out) (by omega)); have HBL6 := Lib.hid ((HBL.out.by (w := w5) blwT).only ho6 (by omega)); have HPL6 := Lib.hid ((HPL.out.by (w := w5) blwT).only ho6 (by omega)); (obtain ⟨sx, e1, e2, e3, e4, hSx⟩ := HBL6.out.at q x hx); have fr := HBL6.out.fr hdl; have lX := lt_of_cell e1; (obtain ⟨Z, rfl⟩ : ∃ Z : Nat, z = Z := ⟨z.toNat, by omega⟩); have hZi : (Z : Int) < 3 := (by omega); have hZj : (0 : Int) ≤ (Z : Int) := (by omega); (obtain ⟨u, hu⟩ : ∃ u : Int, (#[.int .i64 0, .int .i64 1000000, .int .i64 1000001] : Array Value)[Z]? = some (.int .i64 u) := (by rcases (by omega : Z = 0 ∨ Z = 1 ∨ Z = 2) with rfl | rfl | rfl <;> exact ⟨_, rfl⟩)); (try (refine with_fact (p := Blk w6 w5.heap.size #[.int .i64 0, .int .i64 1000000, .int .i64 1000001] 2) (hW6.blk ?_ (by omega)) ?_; (focus ((repeat (first | (with_reducible assumption) | (with_reducible refine Blk.drewN ?_ _) | (with_reducible refine Blk.drew ?_) | ((with_reducible refine Blk.new _ ?_); focus (first | omega | (simp; done) | (simp; omega))) | (with_reducible refine Blk.past ?_ _) | ((with_reducible refine Blk.apart ?_ _ _ _ ?_); rotate_left; focus (first | omega | (simp; done) | (simp; omega))) | (with_reducible refine Blk.by (by assumption) ?_))); done)); intro kL6; have hu' : w6.cell? ⟨w5.heap.size, Z, none⟩ = some (.int .i64 u) := (by rw [kL6.cell]; exact hu); have lu := kL6.lt)); have HW6 := Lib.hid (HW.out.on (Within.onB g (g + 1) blwT hW6)); clear hW6 ho6 hD6; dsimp only at lX ⊢)
        all_goals
          go_upto_region 23 with fail
          first
            | (
               with_reducible refine atWorld (w6.setCell ⟨b, q * 4 + 2, none⟩ (.int .i64 u)) ?_
               have kE : Blk (w6.setCell ⟨b, q * 4 + 2, none⟩ (.int .i64 u)) T #[.int .i64 N, .slice (some ⟨b, 0, none⟩) ds.length cv, .slice pa ps.length pc] 35 := k36.apart b _ _ (by omega)
               have HZE : Hid (Blk (w6.setCell ⟨b, q * 4 + 2, none⟩ (.int .i64 u)) w.heap.size #[.int .i64 0, .slice none 0 0, .slice none 0 0] 35) := Lib.hid (HZ6.out.apart b _ _ (by omega))
               have HDE : Hid (Src1 W0 g sv n (w6.setCell ⟨b, q * 4 + 2, none⟩ (.int .i64 u))) := Lib.hid (HD6.out.apart (b := b) (by omega) (by omega))
               have HWE : Hid (Within g (g + 1) w (w6.setCell ⟨b, q * 4 + 2, none⟩ (.int .i64 u))) := Lib.hid (HW6.out.new b _ _ (by omega))
               have HDO : Hid (∃ lo hi, w.heap.size < lo ∧ OwnDs (w6.setCell ⟨b, q * 4 + 2, none⟩ (.int .i64 u)) lo hi (.slice (some ⟨b, 0, none⟩) ds.length cv) (ds.set q ⟨x.kind, x.pins, u, x.len⟩)) := Lib.hid ⟨lo, mid, by omega, by simpa using (HBL6.out.own.setNum q x hx 2 (u) ⟨x.kind, x.pins, u, x.len⟩ (by simp))⟩
               have HPO2 : Hid (∃ lo hi, w.heap.size < lo ∧ OwnPs (w6.setCell ⟨b, q * 4 + 2, none⟩ (.int .i64 u)) lo hi (.slice pa ps.length pc) ps) := Lib.hid ⟨mid, hi, by omega, HPL6.out.own.past (Within.off _) (.inr (by omega))⟩
               have HSM2 : Hid (Small ⟨N, ds.set q ⟨x.kind, x.pins, u, x.len⟩, ps⟩) := Lib.hid ⟨HSM.out.1, by simp; omega, by
                 intro e he
                 rcases List.mem_or_eq_of_mem_set he with h | rfl
                 · have := HDP.out e h; omega
                 · have := HDP.out x (List.mem_of_getElem? hx); show 1 ≤ x.pins.length ∧ x.pins.length ≤ 100; omega, HSM.out.2.2.2⟩
               replace HSM := HSM2
               clear HSM2 k36 c36 l36 c3 l3 e1 e2 e3 e4 hSx fr hx
               generalize (w6.setCell ⟨b, q * 4 + 2, none⟩ (.int .i64 u)) = wE at *
               have cT := kE.cell
               have lT := kE.lt
               have kZE := HZE.out
               have cZ := kZE.cell
               have fZ := kZE.free
               have lZ := kZE.lt
               go_wp2
               refine bodyPost_ret (v := .agg #[.int .i64 N, .slice (some ⟨b, 0, none⟩) ds.length cv, .slice pa ps.length pc]) (by simp [results, Tryz.results71, go_sem, *]) rfl ?_
               exact ⟨_, ⟨N, ds.set q ⟨x.kind, x.pins, u, x.len⟩, ps⟩, rfl, Lib.hid (nlv_set3 _ _ _ HDO.out HPO2.out), HSM, Lib.hid (((HDE.out.apart (by omega) (by omega)).apart (by omega) (by omega)).apart (by omega) (by omega)), Lib.hid (((HWE.out.new _ _ _ (by omega)).new _ _ _ (by omega)).new _ _ _ (by omega))⟩
              )
            | (
               with_reducible refine atWorld ((w6.setCell ⟨b, q * 4 + 2, none⟩ (.int .i64 u)).alloc (.cells #[.int .i64 0, .int .i64 1000000, .int .i64 1000001] 2)) ?_
               have kE : Blk ((w6.setCell ⟨b, q * 4 + 2, none⟩ (.int .i64 u)).alloc (.cells #[.int .i64 0, .int .i64 1000000, .int .i64 1000001] 2)) T #[.int .i64 N, .slice (some ⟨b, 0, none⟩) ds.length cv, .slice pa ps.length pc] 35 := (k36.apart b _ _ (by omega)).past _
               have HZE : Hid (Blk ((w6.setCell ⟨b, q * 4 + 2, none⟩ (.int .i64 u)).alloc (.cells #[.int .i64 0, .int .i64 1000000, .int .i64 1000001] 2)) w.heap.size #[.int .i64 0, .slice none 0 0, .slice none 0 0] 35) := Lib.hid ((HZ6.out.apart b _ _ (by omega)).past _)
               have HDE : Hid (Src1 W0 g sv n ((w6.setCell ⟨b, q * 4 + 2, none⟩ (.int .i64 u)).alloc (.cells #[.int .i64 0, .int .i64 1000000, .int .i64 1000001] 2))) := Lib.hid ((HD6.out.apart (b := b) (by omega) (by omega)).by ((Below.refl _ _).alloc (Nat.le_refl _) _))
               have HWE : Hid (Within g (g + 1) w ((w6.setCell ⟨b, q * 4 + 2, none⟩ (.int .i64 u)).alloc (.cells #[.int .i64 0, .int .i64 1000000, .int .i64 1000001] 2))) := Lib.hid ((HW6.out.new b _ _ (by omega)).alloc _)
               have HDO : Hid (∃ lo hi, w.heap.size < lo ∧ OwnDs ((w6.setCell ⟨b, q * 4 + 2, none⟩ (.int .i64 u)).alloc (.cells #[.int .i64 0, .int .i64 1000000, .int .i64 1000001] 2)) lo hi (.slice (some ⟨b, 0, none⟩) ds.length cv) (ds.set q ⟨x.kind, x.pins, u, x.len⟩)) := Lib.hid ⟨lo, mid, by omega, OwnDs.by ((Below.refl _ _).alloc (Nat.le_refl _) _) (by simpa using (HBL6.out.own.setNum q x hx 2 (u) ⟨x.kind, x.pins, u, x.len⟩ (by simp)))⟩
               have HPO2 : Hid (∃ lo hi, w.heap.size < lo ∧ OwnPs ((w6.setCell ⟨b, q * 4 + 2, none⟩ (.int .i64 u)).alloc (.cells #[.int .i64 0, .int .i64 1000000, .int .i64 1000001] 2)) lo hi (.slice pa ps.length pc) ps) := Lib.hid ⟨mid, hi, by omega, OwnPs.by ((Below.refl _ _).alloc (Nat.le_refl _) _) (HPL6.out.own.past (Within.off _) (.inr (by omega)))⟩
               have HSM2 : Hid (Small ⟨N, ds.set q ⟨x.kind, x.pins, u, x.len⟩, ps⟩) := Lib.hid ⟨HSM.out.1, by simp; omega, by
                 intro e he
                 rcases List.mem_or_eq_of_mem_set he with h | rfl
                 · have := HDP.out e h; omega
                 · have := HDP.out x (List.mem_of_getElem? hx); show 1 ≤ x.pins.length ∧ x.pins.length ≤ 100; omega, HSM.out.2.2.2⟩
               replace HSM := HSM2
               clear HSM2 k36 c36 l36 c3 l3 e1 e2 e3 e4 hSx fr hx
               generalize ((w6.setCell ⟨b, q * 4 + 2, none⟩ (.int .i64 u)).alloc (.cells #[.int .i64 0, .int .i64 1000000, .int .i64 1000001] 2)) = wE at *
               have cT := kE.cell
               have lT := kE.lt
               have kZE := HZE.out
               have cZ := kZE.cell
               have fZ := kZE.free
               have lZ := kZE.lt
               go_wp2
               refine bodyPost_ret (v := .agg #[.int .i64 N, .slice (some ⟨b, 0, none⟩) ds.length cv, .slice pa ps.length pc]) (by simp [results, Tryz.results71, go_sem, *]) rfl ?_
               exact ⟨_, ⟨N, ds.set q ⟨x.kind, x.pins, u, x.len⟩, ps⟩, rfl, Lib.hid (nlv_set3 _ _ _ HDO.out HPO2.out), HSM, Lib.hid (((HDE.out.apart (by omega) (by omega)).apart (by omega) (by omega)).apart (by omega) (by omega)), Lib.hid (((HWE.out.new _ _ _ (by omega)).new _ _ _ (by omega)).new _ _ _ (by omega))⟩
              )
      · have HDO : Hid (∃ lo hi, w.heap.size < lo ∧ OwnDs w5 lo hi (.slice av ds.length cv) ds) := Lib.hid ⟨lo, mid, by omega, HBL.out.own⟩
        have HPO2 : Hid (∃ lo hi, w.heap.size < lo ∧ OwnPs w5 lo hi (.slice pa ps.length pc) ps) := Lib.hid ⟨mid, hi, by omega, HPL.out.own⟩
        have kE := k35
        have HZE := HZ
        have HDE := HD5
        have HWE := HW
        have hdi : ¬ (0 : Int) < (ds.length : Int) := by omega
        have cT := kE.cell
        have lT := kE.lt
        have kZE := HZE.out
        have cZ := kZE.cell
        have fZ := kZE.free
        have lZ := kZE.lt
        go_wp2
        refine bodyPost_ret (v := .agg #[.int .i64 N, .slice av ds.length cv, .slice pa ps.length pc]) (by simp [results, Tryz.results71, go_sem, *]) rfl ?_
        exact ⟨_, ⟨N, ds, ps⟩, rfl, Lib.hid (nlv_set3 _ _ _ HDO.out HPO2.out), HSM, Lib.hid (((HDE.out.apart (by omega) (by omega)).apart (by omega) (by omega)).apart (by omega) (by omega)), Lib.hid (((HWE.out.new _ _ _ (by omega)).new _ _ _ (by omega)).new _ _ _ (by omega))⟩
    · by_cases hdl : 0 < ds.length
      · have hdi : (0 : Int) < (ds.length : Int) := by omega
        have hql := hq hdl
        have hqi : (q : Int) < (ds.length : Int) := by omega
        have hqj : (0 : Int) ≤ (q : Int) := by omega
        obtain ⟨b, rfl, hb1, hb2⟩ := HBL.out.ad hdl
        obtain ⟨x, hx⟩ : ∃ x, ds[q]? = some x := ⟨ds[q]'(by omega), List.getElem?_eq_getElem _⟩
        obtain ⟨f, pv, hBf, ep, hf12, hfb, HK⟩ := HBL.out.pinsAt q x hx
        obtain ⟨ap, cp, rfl⟩ := hBf.sized
        obtain ⟨cs, hBb⟩ := HBL.out.blkB hdl
        have HBF := Lib.hid hBf
        have HKK := Lib.hid HK
        have HBB := Lib.hid hBb
        have lb := lt_of_cell ep
        dsimp only at lb
        have hxp := HDP.out x (List.mem_of_getElem? hx)
        clear hBf HK hBb
        go_upto_region 19 with fail
        go_region_law
          (refine step_pushOne (by rfl) _ _ (by rfl) f _ x.pins [0] (by rfl) (HBF.out.by (w := w5) blwT) w5.heap.size 1 #[.int .i64 0] (by rfl) (by rfl) (by omega) blkT (by rfl) (by omega) ?_; intro a6 c6 w6 f2 hB6 hf6 hw6; have hB6' := Lib.hid hB6; have hs6 := hw6.size; have hs6' : w5.heap.size ≤ w6.heap.size := (by simp at hs6 <;> omega); have hf6' : f2 = f ∨ w5.heap.size ≤ f2 := (by simp at hf6 <;> omega); have k36 := hw6.blk (Blk.by (w := w5) blwT k35) (by omega); have c36 := k36.cell; have l36 := k36.lt; have kb6 := hw6.blk (Blk.by (w := w5) blwT HBB.out) (by omega); have fb6 := kb6.free; have eb6 : w6.cell? ⟨b, q * 4 + 1, none⟩ = some (.slice ap x.pins.length cp) := (by rw [kb6.cell]; rw [HBB.out.cell] at ep; exact ep); have lb6 := kb6.lt; have HZ6 := Lib.hid (hw6.blk (Blk.by (w := w5) blwT HZ.out) (by omega)); have HPL6 := Lib.hid (BldP.past hw6 (HPL.out.by (w := w5) blwT) (.inl (by omega))); have HD6 := Lib.hid (Src1.within hw6 (HD5.out.by (w := w5) blwT) (by omega) (by omega)); have HWo := Lib.hid (Within.onB f (f + 1) (a := w5) blwT hw6); clear hB6 hw6)
        all_goals
          go_upto_region 23 with fail
          have kE : Blk (w6.setCell ⟨b, q * 4 + 1, none⟩ (.slice a6 (x.pins.length + 1) c6)) T #[.int .i64 N, .slice (some ⟨b, 0, none⟩) ds.length cv, .slice pa ps.length pc] 35 := k36.apart b _ _ (by omega)
          have HZE : Hid (Blk (w6.setCell ⟨b, q * 4 + 1, none⟩ (.slice a6 (x.pins.length + 1) c6)) w.heap.size #[.int .i64 0, .slice none 0 0, .slice none 0 0] 35) := Lib.hid (HZ6.out.apart b _ _ (by omega))
          have HDE : Hid (Src1 W0 g sv n (w6.setCell ⟨b, q * 4 + 1, none⟩ (.slice a6 (x.pins.length + 1) c6))) := Lib.hid (HD6.out.apart (b := b) (by omega) (by omega))
          have HWE : Hid (Within g (g + 1) w (w6.setCell ⟨b, q * 4 + 1, none⟩ (.slice a6 (x.pins.length + 1) c6))) := Lib.hid ((HW.out.newerM HWo.out (by omega)).new b _ _ (by omega))
          have hl2 := hB6'.out.1
          have HDO : Hid (∃ lo hi, w.heap.size < lo ∧ OwnDs (w6.setCell ⟨b, q * 4 + 1, none⟩ (.slice a6 (x.pins.length + 1) c6)) lo hi (.slice (some ⟨b, 0, none⟩) ds.length cv) (ds.set q ⟨x.kind, x.pins ++ [0], x.wd, x.len⟩)) := Lib.hid ⟨lo, w6.heap.size, by omega, HKK.out w6 _ (x.pins ++ [0]) f2 w6.heap.size HWo.out (by omega) (by omega) (by omega) (by simpa using hB6'.out.own)⟩
          have HPO2 : Hid (∃ lo hi, w.heap.size < lo ∧ OwnPs (w6.setCell ⟨b, q * 4 + 1, none⟩ (.slice a6 (x.pins.length + 1) c6)) lo hi (.slice pa ps.length pc) ps) := Lib.hid ⟨mid, hi, by omega, HPL6.out.own.past (Within.off _) (.inr (by omega))⟩
          have HSM2 : Hid (Small ⟨N, ds.set q ⟨x.kind, x.pins ++ [0], x.wd, x.len⟩, ps⟩) := Lib.hid ⟨HSM.out.1, by simp; omega, by
            intro e he
            rcases List.mem_or_eq_of_mem_set he with h | rfl
            · have := HDP.out e h; omega
            · simp; omega, HSM.out.2.2.2⟩
          replace HSM := HSM2
          clear HSM2 k36 c36 l36 c3 l3 ep hx eb6 fb6 kb6
          generalize (w6.setCell ⟨b, q * 4 + 1, none⟩ (.slice a6 (x.pins.length + 1) c6)) = wE at *
          have cT := kE.cell
          have lT := kE.lt
          have kZE := HZE.out
          have cZ := kZE.cell
          have fZ := kZE.free
          have lZ := kZE.lt
          go_wp2
          refine bodyPost_ret (v := .agg #[.int .i64 N, .slice (some ⟨b, 0, none⟩) ds.length cv, .slice pa ps.length pc]) (by simp [results, Tryz.results71, go_sem, *]) rfl ?_
          exact ⟨_, ⟨N, ds.set q ⟨x.kind, x.pins ++ [0], x.wd, x.len⟩, ps⟩, rfl, Lib.hid (nlv_set3 _ _ _ HDO.out HPO2.out), HSM, Lib.hid (((HDE.out.apart (by omega) (by omega)).apart (by omega) (by omega)).apart (by omega) (by omega)), Lib.hid (((HWE.out.new _ _ _ (by omega)).new _ _ _ (by omega)).new _ _ _ (by omega))⟩
      · have HDO : Hid (∃ lo hi, w.heap.size < lo ∧ OwnDs w5 lo hi (.slice av ds.length cv) ds) := Lib.hid ⟨lo, mid, by omega, HBL.out.own⟩
        have HPO2 : Hid (∃ lo hi, w.heap.size < lo ∧ OwnPs w5 lo hi (.slice pa ps.length pc) ps) := Lib.hid ⟨mid, hi, by omega, HPL.out.own⟩
        have kE := k35
        have HZE := HZ
        have HDE := HD5
        have HWE := HW
        have hdi : ¬ (0 : Int) < (ds.length : Int) := by omega
        have cT := kE.cell
        have lT := kE.lt
        have kZE := HZE.out
        have cZ := kZE.cell
        have fZ := kZE.free
        have lZ := kZE.lt
        go_wp2
        refine bodyPost_ret (v := .agg #[.int .i64 N, .slice av ds.length cv, .slice pa ps.length pc]) (by simp [results, Tryz.results71, go_sem, *]) rfl ?_
        exact ⟨_, ⟨N, ds, ps⟩, rfl, Lib.hid (nlv_set3 _ _ _ HDO.out HPO2.out), HSM, Lib.hid (((HDE.out.apart (by omega) (by omega)).apart (by omega) (by omega)).apart (by omega) (by omega)), Lib.hid (((HWE.out.new _ _ _ (by omega)).new _ _ _ (by omega)).new _ _ _ (by omega))⟩
    · by_cases hdl : 0 < ds.length
      · have hdi : (0 : Int) < (ds.length : Int) := by omega
        have hql := hq hdl
        have hqi : (q : Int) < (ds.length : Int) := by omega
        have hqj : (0 : Int) ≤ (q : Int) := by omega
        obtain ⟨b, rfl, hb1, hb2⟩ := HBL.out.ad hdl
        obtain ⟨x, hx⟩ : ∃ x, ds[q]? = some x := ⟨ds[q]'(by omega), List.getElem?_eq_getElem _⟩
        go_upto_region 22 with fail
        go_region_law
          (go_simp; go_at_call 73; refine (HN.out _ _ (HD5.out.by blwT) (by omega)).mono ?_; rintro e w6 ⟨z, rfl, hz0, hz1, hD6, ho6⟩; have HD6 := Lib.hid hD6; have hW6 := ho6.within; have hs6 := hW6.size; have hs6' : w5.heap.size ≤ w6.heap.size := (by simp at hs6 <;> omega); have k36 := hW6.blk (Blk.by (w := w5) blwT k35) (by omega); have c36 := k36.cell; have l36 := k36.lt; have HZ6 := Lib.hid (hW6.blk (Blk.by (w := w5) blwT HZ.out) (by omega)); have HBL6 := Lib.hid ((HBL.out.by (w := w5) blwT).only ho6 (by omega)); have HPL6 := Lib.hid ((HPL.out.by (w := w5) blwT).only ho6 (by omega)); (obtain ⟨sx, e1, e2, e3, e4, hSx⟩ := HBL6.out.at q x hx); have fr := HBL6.out.fr hdl; have lX := lt_of_cell e1; have wz : IntKind.i64.wrap (4 * z) = 4 * z := (by simp [IntKind.wrap, IntKind.bits, IntKind.signed]; omega); have wz2 : IntKind.i64.wrap (3 - 4 * z) = 3 - 4 * z := (by simp [IntKind.wrap, IntKind.bits, IntKind.signed]; omega); have HW6 := Lib.hid (HW.out.on (Within.onB g (g + 1) blwT hW6)); clear hW6 ho6 hD6; dsimp only at lX ⊢)
        all_goals
          go_upto_region 23 with fail
          with_reducible refine atWorld (w6.setCell ⟨b, q * 4, none⟩ (.int .i64 (3 - 4 * z))) ?_
          have kE : Blk (w6.setCell ⟨b, q * 4, none⟩ (.int .i64 (3 - 4 * z))) T #[.int .i64 N, .slice (some ⟨b, 0, none⟩) ds.length cv, .slice pa ps.length pc] 35 := k36.apart b _ _ (by omega)
          have HZE : Hid (Blk (w6.setCell ⟨b, q * 4, none⟩ (.int .i64 (3 - 4 * z))) w.heap.size #[.int .i64 0, .slice none 0 0, .slice none 0 0] 35) := Lib.hid (HZ6.out.apart b _ _ (by omega))
          have HDE : Hid (Src1 W0 g sv n (w6.setCell ⟨b, q * 4, none⟩ (.int .i64 (3 - 4 * z)))) := Lib.hid (HD6.out.apart (b := b) (by omega) (by omega))
          have HWE : Hid (Within g (g + 1) w (w6.setCell ⟨b, q * 4, none⟩ (.int .i64 (3 - 4 * z)))) := Lib.hid (HW6.out.new b _ _ (by omega))
          have HDO : Hid (∃ lo hi, w.heap.size < lo ∧ OwnDs (w6.setCell ⟨b, q * 4, none⟩ (.int .i64 (3 - 4 * z))) lo hi (.slice (some ⟨b, 0, none⟩) ds.length cv) (ds.set q ⟨3 - 4 * z, x.pins, x.wd, x.len⟩)) := Lib.hid ⟨lo, mid, by omega, by simpa using (HBL6.out.own.setNum q x hx 0 ((3 - 4 * z)) ⟨3 - 4 * z, x.pins, x.wd, x.len⟩ (by simp))⟩
          have HPO2 : Hid (∃ lo hi, w.heap.size < lo ∧ OwnPs (w6.setCell ⟨b, q * 4, none⟩ (.int .i64 (3 - 4 * z))) lo hi (.slice pa ps.length pc) ps) := Lib.hid ⟨mid, hi, by omega, HPL6.out.own.past (Within.off _) (.inr (by omega))⟩
          have HSM2 : Hid (Small ⟨N, ds.set q ⟨3 - 4 * z, x.pins, x.wd, x.len⟩, ps⟩) := Lib.hid ⟨HSM.out.1, by simp; omega, by
            intro e he
            rcases List.mem_or_eq_of_mem_set he with h | rfl
            · have := HDP.out e h; omega
            · have := HDP.out x (List.mem_of_getElem? hx); show 1 ≤ x.pins.length ∧ x.pins.length ≤ 100; omega, HSM.out.2.2.2⟩
          replace HSM := HSM2
          clear HSM2 k36 c36 l36 c3 l3 e1 e2 e3 e4 hSx fr hx
          generalize (w6.setCell ⟨b, q * 4, none⟩ (.int .i64 (3 - 4 * z))) = wE at *
          have cT := kE.cell
          have lT := kE.lt
          have kZE := HZE.out
          have cZ := kZE.cell
          have fZ := kZE.free
          have lZ := kZE.lt
          go_wp2
          refine bodyPost_ret (v := .agg #[.int .i64 N, .slice (some ⟨b, 0, none⟩) ds.length cv, .slice pa ps.length pc]) (by simp [results, Tryz.results71, go_sem, *]) rfl ?_
          exact ⟨_, ⟨N, ds.set q ⟨3 - 4 * z, x.pins, x.wd, x.len⟩, ps⟩, rfl, Lib.hid (nlv_set3 _ _ _ HDO.out HPO2.out), HSM, Lib.hid (((HDE.out.apart (by omega) (by omega)).apart (by omega) (by omega)).apart (by omega) (by omega)), Lib.hid (((HWE.out.new _ _ _ (by omega)).new _ _ _ (by omega)).new _ _ _ (by omega))⟩
      · have HDO : Hid (∃ lo hi, w.heap.size < lo ∧ OwnDs w5 lo hi (.slice av ds.length cv) ds) := Lib.hid ⟨lo, mid, by omega, HBL.out.own⟩
        have HPO2 : Hid (∃ lo hi, w.heap.size < lo ∧ OwnPs w5 lo hi (.slice pa ps.length pc) ps) := Lib.hid ⟨mid, hi, by omega, HPL.out.own⟩
        have kE := k35
        have HZE := HZ
        have HDE := HD5
        have HWE := HW
        have hdi : ¬ (0 : Int) < (ds.length : Int) := by omega
        have cT := kE.cell
        have lT := kE.lt
        have kZE := HZE.out
        have cZ := kZE.cell
        have fZ := kZE.free
        have lZ := kZE.lt
        go_wp2
        refine bodyPost_ret (v := .agg #[.int .i64 N, .slice av ds.length cv, .slice pa ps.length pc]) (by simp [results, Tryz.results71, go_sem, *]) rfl ?_
        exact ⟨_, ⟨N, ds, ps⟩, rfl, Lib.hid (nlv_set3 _ _ _ HDO.out HPO2.out), HSM, Lib.hid (((HDE.out.apart (by omega) (by omega)).apart (by omega) (by omega)).apart (by omega) (by omega)), Lib.hid (((HWE.out.new _ _ _ (by omega)).new _ _ _ (by omega)).new _ _ _ (by omega))⟩
/- The draw of a netlist, often a ring of resistors. -/
theorem Only.within9 {g : Nat} {w w' : World} (h : Only g w w') : Within g (g + 1) w w' := ⟨h.os, h.tape, h.output, Nat.le_of_eq h.size.symm, fun k _ hne => h.block k (by omega)⟩
structure L9 (W0 : World) (g : Nat) (sv : Value) (n : Nat) (w : World) (T : Nat) (N : Int) (s1 s2 : Value) (ds : List Dv) (ps : List Pt) (wx : World) : Prop where
  src : Src1 W0 g sv n wx
  t : Blk wx T #[.int .i64 N, s1, s2] 35
  r : Blk wx w.heap.size #[.int .i64 0, .slice none 0 0, .slice none 0 0] 35
  ds : ∃ lo hi, w.heap.size < lo ∧ OwnDs wx lo hi s1 ds
  ps : ∃ lo hi, w.heap.size < lo ∧ OwnPs wx lo hi s2 ps
  wi : Within g (g + 1) w wx
theorem L9.only {W0 w wx wy : World} {g n T : Nat} {sv s1 s2 : Value} {N : Int} {ds : List Dv} {ps : List Pt} (h : L9 W0 g sv n w T N s1 s2 ds ps wx) (ho : Only g wx wy) (hD : Src1 W0 g sv n wy) (hg : g < w.heap.size) (hT : w.heap.size < T) : L9 W0 g sv n w T N s1 s2 ds ps wy := by
  obtain ⟨l1, h1, a1, o1⟩ := h.ds
  obtain ⟨l2, h2, a2, o2⟩ := h.ps
  exact ⟨hD, ho.blk h.t (by omega), ho.blk h.r (by omega), ⟨l1, h1, a1, o1.past ho.within9 (.inr (by omega))⟩, ⟨l2, h2, a2, o2.past ho.within9 (.inr (by omega))⟩, h.wi.on ho.within9⟩
theorem OwnDs.offM {w : World} {lo hi T o : Nat} {cs : Array Value} {sv v : Value} {ds : List Dv} (h : OwnDs w lo hi sv ds) (hT : Blk w T cs 29) : OwnDs (w.setCell ⟨T, o, none⟩ v) lo hi sv ds := by
  rcases h with h | ⟨g, cap, c2, f, h1, h2, h3, h4, h5, h6, h7⟩
  · exact .inl h
  · refine .inr ⟨g, cap, c2, f, h1, h2, h3, h4, h5.apart T o v (fun e => by subst e; exact absurd (h5.differ2 hT) (by decide)), fun i x hx => ?_, h7⟩
    obtain ⟨⟨pv, hC, hR⟩, hf⟩ := h6 i x hx
    exact ⟨⟨pv, hC, hR.offM hT⟩, hf⟩
theorem OwnPs.offM {w : World} {lo hi T o : Nat} {cs : Array Value} {sv v : Value} {ps : List Pt} (h : OwnPs w lo hi sv ps) (hT : Blk w T cs 29) : OwnPs (w.setCell ⟨T, o, none⟩ v) lo hi sv ps := by
  rcases h with h | ⟨g, cap, c2, h1, h2, h3, h4, h5, h6⟩
  · exact .inl h
  · exact .inr ⟨g, cap, c2, h1, h2, h3, h4, h5.apart T o v (fun e => by subst e; exact absurd (h5.differ2 hT) (by decide)), h6⟩
theorem NlO.offM {m T o : Nat} {cs : Array Value} {w : World} {v u : Value} {x : Nl} (h : NlO m w v x) (hT : Blk w T cs 29) : NlO m (w.setCell ⟨T, o, none⟩ u) v x := by
  obtain ⟨s1, s2, e, ⟨l1, h1, r1, o1⟩, l2, h2, r2, o2⟩ := h
  exact ⟨s1, s2, e, ⟨l1, h1, r1, o1.offM hT⟩, l2, h2, r2, o2.offM hT⟩
structure ApE (w : World) (A M m : Nat) (nv s1 s2 u1 u2 : Value) (x : Nl) (z : List Int × List Int) (wx : World) : Prop where
  nl : Blk wx A #[nv, s1, s2] 35
  ma : Blk wx M #[u1, u2] 29
  r2 : Blk wx w.heap.size #[.int .i64 0, .slice none 0 0, .slice none 0 0] 35
  r3 : Blk wx (w.heap.size + 1) #[.slice none 0 0, .slice none 0 0] 29
  ownN : NlO m wx (.agg #[nv, s1, s2]) x
  ownM : MaO m wx (.agg #[u1, u2]) z
  below : Below w.heap.size w wx
  big : w.heap.size + 2 ≤ m
set_option maxRecDepth 100000 in
set_option maxHeartbeats 8000000 in
theorem drawAp_any (v0 : Value) (n : Nat) (w : World) (h : Bytes w v0 n) (hn : n ≤ 4096) :
    Calls Tryz.prog 29 #[v0] w fun e w' => ∃ (v u : Value) (x : Nl) (z : List Int × List Int), e = .returned (.tuple #[v, u]) ∧ Hid (NlV w' v x) ∧ Hid (Small x) ∧ Hid (MaV w' u z) ∧ (z.1.length ≤ 300 ∧ z.2.length ≤ 300) ∧ Below w.heap.size w w' := by
  have HB := Lib.hid h
  obtain ⟨w0, hw0⟩ : ∃ z, z = (w.alloc (.cells #[.int .i64 0, .slice none 0 0, .slice none 0 0] 35)).alloc (.cells #[.slice none 0 0, .slice none 0 0] 29) := ⟨_, rfl⟩
  have kR0 : Blk w0 w.heap.size #[.int .i64 0, .slice none 0 0, .slice none 0 0] 35 := by rw [hw0]; exact (Blk.new _ rfl).past _
  have kS0 : Blk w0 (w.heap.size + 1) #[.slice none 0 0, .slice none 0 0] 29 := by rw [hw0]; exact Blk.new _ (by simp)
  have hb0 : Below w.heap.size w w0 := by rw [hw0]; exact ((Below.refl _ w).alloc (Nat.le_refl _) _).alloc (by simp) _
  have hs0 : w0.heap.size = w.heap.size + 2 := by rw [hw0]; simp
  have hf := l01From_any v0 n w0 (HB.out.by hb0) hn
  obtain ⟨G, hG⟩ : ∃ G, w0.heap.size = G := ⟨_, rfl⟩
  rw [hG] at hf hs0
  have HF := Lib.hid hf
  have HN := Lib.hid (fun m w h hm => l01Next_any w0 G v0 n m w h hm)
  have HDN := Lib.hid (fun w h => l27DrawNetlist_any w0 G v0 n w h)
  have HDM := Lib.hid (fun nets a1 a2 L L2 c1 c2 h0 h1 hL w h => l30DrawMatching_any w0 G v0 n nets a1 a2 L L2 c1 c2 h0 h1 hL w h)
  have HDO := Lib.hid (fun w h => l30DrawOrders_any w0 G v0 n 3 2 (by omega) (by omega) w h)
  have hGw : w.heap.size + 1 < G := by omega
  have HG := Lib.hid hG
  clear h hf hs0 hG
  go_enter Tryz.func29, Tryz.ntmps29
  go_wp2_with fail
  (try rw [← hw0])
  clear hw0
  refine HF.out.mono ?_
  rintro e w1 ⟨rfl, hD1, hb1⟩
  have kR1 : Blk w1 w.heap.size _ 35 := Blk.by (by rw [HG.out]; exact hb1) kR0
  have kS1 : Blk w1 (w.heap.size + 1) _ 29 := Blk.by (by rw [HG.out]; exact hb1) kS0
  have HD1 := Lib.hid hD1
  have hG1 := hD1.lt
  clear hD1 hb1 kR0 kS0
  go_wp2_with fail
  refine (HDN.out _ HD1.out).mono ?_
  rintro e w2 ⟨v, x, rfl, HO, HS, HD2, HW2⟩
  obtain ⟨s1, s2, rfl, r1, r2⟩ := HO.out
  obtain ⟨a1, c1, rfl⟩ : ∃ a c, s1 = .slice a x.ds.length c := by obtain ⟨_, _, _, o⟩ := r1; exact o.sl.sized
  obtain ⟨a2, c2, rfl⟩ : ∃ a c, s2 = .slice a x.ps.length c := by obtain ⟨_, _, _, o⟩ := r2; exact o.sl.sized
  have kR2 := HW2.out.blk kR1 (by omega)
  have kS2 := HW2.out.blk kS1 (by omega)
  have hb2 : Below w.heap.size w w2 := below_on HD2.out.2.1 hb0
  have hsz2 := HW2.out.size
  have HO2 := Lib.hid (HO.out.low (show G + 1 ≤ w1.heap.size by omega))
  obtain ⟨N, hN⟩ : ∃ N, x.nets = N := ⟨_, rfl⟩
  obtain ⟨L, hL⟩ : ∃ L, x.ds.length = L := ⟨_, rfl⟩
  obtain ⟨L2, hL2⟩ : ∃ L, x.ps.length = L := ⟨_, rfl⟩
  have hNb : -1 ≤ N ∧ N ≤ 25 ∧ L ≤ 100 := by have := HS.out; unfold Small at this; omega
  rw [hN, hL, hL2] at HO2 ⊢
  have HNn := Lib.hid hN
  clear HO HW2 kR1 kS1 r1 r2 hb0 HD1 hN hL hL2
  have hal : Below w2.heap.size w2 (w2.alloc (.cells #[.int .i64 N, .slice a1 L c1, .slice a2 L2 c2] 35)) := (Below.refl _ w2).alloc (Nat.le_refl _) _
  have kA3 : Blk (w2.alloc (.cells #[.int .i64 N, .slice a1 L c1, .slice a2 L2 c2] 35)) w2.heap.size #[.int .i64 N, .slice a1 L c1, .slice a2 L2 c2] 35 := Blk.new _ rfl
  have kR3 := Blk.by hal kR2
  have kS3 := Blk.by hal kS2
  have HO3 := Lib.hid (HO2.out.by hal)
  have HD3 := Lib.hid (HD2.out.by hal)
  have hb3 := below_on hal hb2
  have hsz3 := hal.size
  have qA := kA3.cell
  have lA := kA3.lt
  clear hal kR2 kS2 HO2 HD2 hb2
  go_wp2_with fail
  generalize w2.alloc (.cells #[.int .i64 N, .slice a1 L c1, .slice a2 L2 c2] 35) = w3 at *
  generalize w2.heap.size = A at *
  refine (HDM.out N a1 a2 L L2 c1 c2 (by omega) (by omega) (by omega) _ HD3.out).mono ?_
  rintro e w4 ⟨u1, u2, z1, z2, rfl, hz1, hz2, hO1, hO2, hD4, hW4⟩
  obtain ⟨b1, d1, rfl⟩ := hO1.sl.len
  obtain ⟨b2, d2, rfl⟩ := hO2.sl.len
  have HM4 : Hid (MaO (G + 1) w4 (.agg #[.slice b1 z1.length d1, .slice b2 z2.length d2]) (z1, z2)) := Lib.hid ⟨_, _, rfl, ⟨_, _, by omega, hO1⟩, _, _, by omega, hO2⟩
  have kA4 := hW4.blk kA3 (by omega)
  have kR4 := hW4.blk kR3 (by omega)
  have kS4 := hW4.blk kS3 (by omega)
  have HO4 := Lib.hid (HO3.out.past hW4 (Nat.le_refl _))
  have HD4 := Lib.hid hD4
  have hb4 : Below w.heap.size w w4 := hW4.below hb3 (by omega)
  have hsz4 := hW4.size
  clear hO1 hO2 hD4 hW4 kA3 kR3 kS3 HO3 HD3 hb3 qA lA
  have hal : Below w4.heap.size w4 (w4.alloc (.cells #[.slice b1 z1.length d1, .slice b2 z2.length d2] 29)) := (Below.refl _ w4).alloc (Nat.le_refl _) _
  have kM5 : Blk (w4.alloc (.cells #[.slice b1 z1.length d1, .slice b2 z2.length d2] 29)) w4.heap.size #[.slice b1 z1.length d1, .slice b2 z2.length d2] 29 := Blk.new _ rfl
  have kA5 := Blk.by hal kA4
  have kR5 := Blk.by hal kR4
  have kS5 := Blk.by hal kS4
  have HO5 := Lib.hid (HO4.out.by hal)
  have HM5 := Lib.hid (HM4.out.by hal)
  have HD5 := Lib.hid (HD4.out.by hal)
  have hb5 := below_on hal hb4
  clear hal kA4 kR4 kS4 HO4 HM4 HD4 hb4
  go_wp2_with fail
  generalize w4.alloc (.cells #[.slice b1 z1.length d1, .slice b2 z2.length d2] 29) = w5 at *
  generalize w4.heap.size = M at *
  refine (HN.out 12 _ HD5.out (by omega)).mono ?_
  rintro e w6 ⟨y, rfl, hy0, hy1, hD6, ho6⟩
  have kM6 := ho6.within.blk kM5 (by omega)
  have kA6 := ho6.within.blk kA5 (by omega)
  have kR6 := ho6.within.blk kR5 (by omega)
  have kS6 := ho6.within.blk kS5 (by omega)
  have HO6 := Lib.hid (HO5.out.past ho6.within (Nat.le_refl _))
  have HM6 := Lib.hid (HM5.out.past ho6.within (Nat.le_refl _))
  have HD6 := Lib.hid hD6
  have hb6 : Below w.heap.size w w6 := ho6.within.below hb5 (by omega)
  have hsz6 := ho6.within.size
  have hM6l := kM6.lt
  clear ho6 kM5 kA5 kR5 kS5 HO5 HM5 HD5 hb5 hD6
  by_cases hy : y = 0
  · subst hy
    go_wp2_with fail
    refine (HDO.out _ HD6.out).mono ?_
    rintro e w7 ⟨u, rfl, z, hV, hv1, hv2, hD7, hW7⟩
    obtain ⟨t1, t2, rfl, i1, i2⟩ := hV
    obtain ⟨_, _, _, j1⟩ := id i1
    obtain ⟨_, _, _, j2⟩ := id i2
    obtain ⟨e1, f1, rfl⟩ := j1.sl.len
    obtain ⟨e2, f2, rfl⟩ := j2.sl.len
    have hM7 : MaO (G + 1) w7 (.agg #[.slice e1 z.1.length f1, .slice e2 z.2.length f2]) z := MaO.low ⟨_, _, rfl, i1, i2⟩ (by omega)
    have kM7 := hW7.blk kM6 (by omega)
    have kA7 := hW7.blk kA6 (by omega)
    have kR7 := hW7.blk kR6 (by omega)
    have kS7 := hW7.blk kS6 (by omega)
    have hO7 := HO6.out.past hW7 (Nat.le_refl _)
    have hb7 : Below w.heap.size w w7 := hW7.below hb6 (by omega)
    have hMA : ¬ M = A := by
      intro e
      subst e
      exact absurd (kM7.differ2 kA7) (by decide)
    have hMw : w.heap.size + 1 < M := by omega
    have HE := Lib.hid (show ApE w A M (G + 1) (.int .i64 N) (.slice a1 L c1) (.slice a2 L2 c2) (.slice e1 z.1.length f1) (.slice e2 z.2.length f2) x z ((w7.setCell ⟨M, 0, none⟩ (.slice e1 z.1.length f1)).setCell ⟨M, 1, none⟩ (.slice e2 z.2.length f2)) from
      ⟨(kA7.apart M 0 _ (fun e => hMA e.symm)).apart M 1 _ (fun e => hMA e.symm), kM7.set2, (kR7.apart M 0 _ (by omega)).apart M 1 _ (by omega), (kS7.apart M 0 _ (by omega)).apart M 1 _ (by omega), (hO7.offM kM7).offM (kM7.set _ _), (hM7.offM kM7).offM (kM7.set _ _), (hb7.setCell (show w.heap.size ≤ M by omega) _).setCell (show w.heap.size ≤ M by omega) _, by omega⟩)
    have qM := kM7.cell
    have fM := kM7.free
    have lM := kM7.lt
    clear hM7 kM7 kA7 kR7 kS7 hO7 hb7 hD7 hW7 j1 j2 i1 i2 kM6 kA6 kR6 kS6 HO6 HM6 HD6 hb6
    go_upto_region 6 with fail
    generalize (w7.setCell ⟨M, 0, none⟩ (.slice e1 z.1.length f1)).setCell ⟨M, 1, none⟩ (.slice e2 z.2.length f2) = wE at *
    clear qM fM lM
    have qA0 : wE.cell? ⟨A, 0, none⟩ = some (.int .i64 N) := HE.out.nl.cell 0
    have qA1 : wE.cell? ⟨A, 1, none⟩ = some (.slice a1 L c1) := HE.out.nl.cell 1
    have qA2 : wE.cell? ⟨A, 2, none⟩ = some (.slice a2 L2 c2) := HE.out.nl.cell 2
    have qM0 : wE.cell? ⟨M, 0, none⟩ = some (.slice e1 z.1.length f1) := HE.out.ma.cell 0
    have qM1 : wE.cell? ⟨M, 1, none⟩ = some (.slice e2 z.2.length f2) := HE.out.ma.cell 1
    have qR := HE.out.r2.cell
    have fR := HE.out.r2.free
    have lR := HE.out.r2.lt
    have qS := HE.out.r3.cell
    have fS := HE.out.r3.free
    have lS := HE.out.r3.lt
    have lA := HE.out.nl.lt
    have lM := HE.out.ma.lt
    go_region
    all_goals
      go_wp2
      refine bodyPost_ret (v := .tuple #[.agg #[.int .i64 N, .slice a1 L c1, .slice a2 L2 c2], .agg #[(.slice e1 z.1.length f1), (.slice e2 z.2.length f2)]]) (by simp [results, Tryz.results29, go_sem, *]) rfl ⟨_, _, x, z, rfl, Lib.hid ?_, HS, Lib.hid ?_, ⟨hv1, hv2⟩, ?_⟩
      · first
        | exact NlO.nl (NlO.past (Within.off _) (NlO.past (Within.off _) (NlO.past (Within.off _) (NlO.past (Within.off _) (NlO.past (Within.off _) HE.out.ownN (by omega)) (by omega)) (by omega)) (by omega)) (by omega))
        | exact NlO.nl (NlO.by (below_of_drewN _ 1) (NlO.past (Within.off _) (NlO.past (Within.off _) (NlO.past (Within.off _) (NlO.past (Within.off _) (NlO.past (Within.off _) HE.out.ownN (by omega)) (by omega)) (by omega)) (by omega)) (by omega)))
      · first
        | exact MaO.ma (MaO.past (Within.off _) (MaO.past (Within.off _) (MaO.past (Within.off _) (MaO.past (Within.off _) (MaO.past (Within.off _) HE.out.ownM (by omega)) (by omega)) (by omega)) (by omega)) (by omega))
        | exact MaO.ma (MaO.by (below_of_drewN _ 1) (MaO.past (Within.off _) (MaO.past (Within.off _) (MaO.past (Within.off _) (MaO.past (Within.off _) (MaO.past (Within.off _) HE.out.ownM (by omega)) (by omega)) (by omega)) (by omega)) (by omega)))
      · have hb := HE.out.below
        ((repeat (first | (with_reducible exact Below.refl _ _) | (with_reducible refine below_drewN ?_ _) | (with_reducible refine Below.drew ?_) | (with_reducible refine below_al ?_ _) | (with_reducible refine below_on (by assumption) ?_) | ((with_reducible refine Below.setCell ?_ ?_ _); rotate_left; focus (first | omega | (simp; done) | (simp; omega))) | (with_reducible assumption))); done)
  · have hy' : (y == 0) = false := by simpa using hy
    have HE := Lib.hid (show ApE w A M (G + 1) (.int .i64 N) (.slice a1 L c1) (.slice a2 L2 c2) (.slice b1 z1.length d1) (.slice b2 z2.length d2) x (z1, z2) w6 from ⟨kA6, kM6, kR6, kS6, HO6.out, HM6.out, hb6, by omega⟩)
    clear kM6 kA6 kR6 kS6 HO6 HM6 HD6 hb6 hy
    go_upto_region 6 with fail
    have qA0 : w6.cell? ⟨A, 0, none⟩ = some (.int .i64 N) := HE.out.nl.cell 0
    have qA1 : w6.cell? ⟨A, 1, none⟩ = some (.slice a1 L c1) := HE.out.nl.cell 1
    have qA2 : w6.cell? ⟨A, 2, none⟩ = some (.slice a2 L2 c2) := HE.out.nl.cell 2
    have qM0 : w6.cell? ⟨M, 0, none⟩ = some (.slice b1 z1.length d1) := HE.out.ma.cell 0
    have qM1 : w6.cell? ⟨M, 1, none⟩ = some (.slice b2 z2.length d2) := HE.out.ma.cell 1
    have qR := HE.out.r2.cell
    have fR := HE.out.r2.free
    have lR := HE.out.r2.lt
    have qS := HE.out.r3.cell
    have fS := HE.out.r3.free
    have lS := HE.out.r3.lt
    have lA := HE.out.nl.lt
    have lM := HE.out.ma.lt
    go_region
    all_goals
      go_wp2
      refine bodyPost_ret (v := .tuple #[.agg #[.int .i64 N, .slice a1 L c1, .slice a2 L2 c2], .agg #[(.slice b1 z1.length d1), (.slice b2 z2.length d2)]]) (by simp [results, Tryz.results29, go_sem, *]) rfl ⟨_, _, x, (z1, z2), rfl, Lib.hid ?_, HS, Lib.hid ?_, ⟨by dsimp only; omega, by dsimp only; omega⟩, ?_⟩
      · first
        | exact NlO.nl (NlO.past (Within.off _) (NlO.past (Within.off _) (NlO.past (Within.off _) (NlO.past (Within.off _) (NlO.past (Within.off _) HE.out.ownN (by omega)) (by omega)) (by omega)) (by omega)) (by omega))
        | exact NlO.nl (NlO.by (below_of_drewN _ 1) (NlO.past (Within.off _) (NlO.past (Within.off _) (NlO.past (Within.off _) (NlO.past (Within.off _) (NlO.past (Within.off _) HE.out.ownN (by omega)) (by omega)) (by omega)) (by omega)) (by omega)))
      · first
        | exact MaO.ma (MaO.past (Within.off _) (MaO.past (Within.off _) (MaO.past (Within.off _) (MaO.past (Within.off _) (MaO.past (Within.off _) HE.out.ownM (by omega)) (by omega)) (by omega)) (by omega)) (by omega))
        | exact MaO.ma (MaO.by (below_of_drewN _ 1) (MaO.past (Within.off _) (MaO.past (Within.off _) (MaO.past (Within.off _) (MaO.past (Within.off _) (MaO.past (Within.off _) HE.out.ownM (by omega)) (by omega)) (by omega)) (by omega)) (by omega)))
      · have hb := HE.out.below
        ((repeat (first | (with_reducible exact Below.refl _ _) | (with_reducible refine below_drewN ?_ _) | (with_reducible refine Below.drew ?_) | (with_reducible refine below_al ?_ _) | (with_reducible refine below_on (by assumption) ?_) | ((with_reducible refine Below.setCell ?_ ?_ _); rotate_left; focus (first | omega | (simp; done) | (simp; omega))) | (with_reducible assumption))); done)
theorem size_drewN (w : World) (n : Nat) : (w.drewN n).heap.size = w.heap.size := rfl
section
variable {w w' : World} {lo hi lo' hi' : Nat} {v : Value} {zs : List Int}
theorem OwnR.wide' (h : OwnR w lo hi v zs) (h1 : lo' ≤ lo) (h2 : hi ≤ hi') : OwnR w lo' hi' v zs := by
  rcases h with h | ⟨g, cap, cs, e1, e2, e2', e3⟩
  · exact .inl h
  · exact .inr ⟨g, cap, cs, e1, by omega, by omega, e3⟩
end
def OwnPr (w : World) (lo hi : Nat) (v : Value) (x : List Int × List Int) : Prop := ∃ s1 s2 l1 h1 l2 h2, v = .agg #[s1, s2] ∧ OwnR w l1 h1 s1 x.1 ∧ OwnR w l2 h2 s2 x.2 ∧ (lo ≤ l1 ∧ h1 ≤ hi) ∧ (lo ≤ l2 ∧ h2 ≤ hi) ∧ (h1 ≤ l2 ∨ h2 ≤ l1)
section
variable {w w' : World} {lo hi lo' hi' : Nat} {v : Value} {x : List Int × List Int}
theorem OwnPr.by (hb : Below w.heap.size w w') (h : OwnPr w lo hi v x) : OwnPr w' lo hi v x := by
  obtain ⟨s1, s2, l1, h1, l2, h2, e, a, b, c⟩ := h; exact ⟨s1, s2, l1, h1, l2, h2, e, OwnR.by hb a, OwnR.by hb b, c⟩
theorem OwnPr.past (hb : Within lo' hi' w w') (h : OwnPr w lo hi v x) (hd : hi ≤ lo' ∨ hi' ≤ lo) : OwnPr w' lo hi v x := by
  obtain ⟨s1, s2, l1, h1, l2, h2, e, a, b, c, d, f⟩ := h; exact ⟨s1, s2, l1, h1, l2, h2, e, OwnR.past hb a (by omega), OwnR.past hb b (by omega), c, d, f⟩
theorem OwnPr.wide (h : OwnPr w lo hi v x) (h1 : lo' ≤ lo) (h2 : hi ≤ hi') : OwnPr w lo' hi' v x := by
  obtain ⟨s1, s2, l1, h1, l2, h2, e, a, b, c, d, f⟩ := h; exact ⟨s1, s2, l1, h1, l2, h2, e, a, b, by omega, by omega, f⟩
end
/- A slice of int64 that came in as an argument. -/
open Go.ChangeShapes Go.WideShapes Go.ChangeAt Go.RowKit Go.Joins
def CoV (w : World) (v : Value) (x : List Int × List Int) : Prop := ∃ s1 s2, v = .agg #[s1, s2] ∧ IntSl w s1 x.1 ∧ IntSl w s2 x.2
theorem CoV.by {w w1 : World} {v : Value} {x : List Int × List Int} (hb : Below w.heap.size w w1) (h : CoV w v x) : CoV w1 v x := by
  obtain ⟨s1, s2, h1, h2, h3⟩ := h; exact ⟨s1, s2, h1, h2.by hb, h3.by hb⟩
theorem CoV.sized {w : World} {v : Value} {x : List Int × List Int} (h : CoV w v x) : ∃ a c a' c', v = .agg #[.slice a x.1.length c, .slice a' x.2.length c'] := by
  obtain ⟨s1, s2, rfl, hd, hp⟩ := h
  obtain ⟨a, c, rfl⟩ := hd.len
  obtain ⟨a', c', rfl⟩ := hp.len
  exact ⟨a, c, a', c', rfl⟩
open Go.ChangeShapes Go.WideShapes Go.ChangeAt Go.RowKit Go.Joins Go.Deep
/- A coloring as argument and result in memory. -/
theorem OwnPr.co {w : World} {lo hi : Nat} {v : Value} {x : List Int × List Int} (h : OwnPr w lo hi v x) : CoV w v x := by
  obtain ⟨s1, s2, l1, h1, l2, h2, e, a, b, c⟩ := h; exact ⟨s1, s2, e, a.sl, b.sl⟩
def colsB (zs : List Int) (n : Int) : Bool := zs.all (fun z => inB z 0 23) && decide ((zs.length : Int) = n)
def coB (x : Nl) (c : List Int × List Int) : Bool := nlB x && (colsB c.1 x.nets && colsB c.2 x.ds.length)
def Dr (w w' : World) : Prop := ∃ n, w' = w.drewN n
theorem Dr.refl (w : World) : Dr w w := ⟨0, rfl⟩
theorem Dr.drewN {w w' : World} (h : Dr w w') (m : Nat) : Dr w (w'.drewN m) := by obtain ⟨n, rfl⟩ := h; exact ⟨n + m, World.drewN_drewN _ _ _⟩
theorem Dr.cell {w w' : World} (h : Dr w w') (p : Addr) : w'.cell? p = w.cell? p := by obtain ⟨n, rfl⟩ := h; rfl
theorem Dr.out {w w' : World} (h : Dr w w') : ∃ n, w' = w.drewN n := h
def sgn (a b : Int) : Int := if a < b then -1 else if b < a then 1 else 0
def lcmp : List Int → List Int → Int
  | [], [] => 0
  | [], _ :: _ => -1
  | _ :: _, [] => 1
  | a :: r, b :: s => if sgn a b = 0 then lcmp r s else sgn a b
def or2 (a b : Int) : Int := if a = 0 then b else a
def devcmp (k1 k2 : Int) (p1 p2 : List Int) (w1 w2 l1 l2 : Int) : Int := or2 (sgn k1 k2) (or2 (lcmp p1 p2) (or2 (sgn w1 w2) (sgn l1 l2)))
theorem sgn_lt {a b : Int} (h : a < b) : sgn a b = -1 := by simp [sgn, h]
theorem sgn_gt {a b : Int} (h : b < a) : sgn a b = 1 := by
  have : ¬ a < b := by omega
  simp [sgn, h, this]
theorem sgn_eq {a b : Int} (h : a = b) : sgn a b = 0 := by subst h; simp [sgn]
theorem drop_of {l : List Int} {k : Nat} {x : Int} (h : l[k]? = some x) : l.drop k = x :: l.drop (k + 1) := by
  obtain ⟨hlt, e⟩ := List.getElem?_eq_some_iff.1 h
  rw [List.drop_eq_getElem_cons hlt, e]
theorem lcmp_step {a b : List Int} {k : Nat} {x y : Int} (hx : a[k]? = some x) (hy : b[k]? = some y) : lcmp (a.drop k) (b.drop k) = if sgn x y = 0 then lcmp (a.drop (k + 1)) (b.drop (k + 1)) else sgn x y := by
  rw [drop_of hx, drop_of hy]; rfl
theorem lcmp_end1 {a b : List Int} {k : Nat} (ha : a.length ≤ k) : lcmp (a.drop k) (b.drop k) = if k < b.length then -1 else 0 := by
  rw [List.drop_eq_nil_of_le ha]
  split
  · rename_i h
    rw [List.drop_eq_getElem_cons h]; rfl
  · rw [List.drop_eq_nil_of_le (by omega)]; rfl
theorem lcmp_end2 {a b : List Int} {k : Nat} (ha : k < a.length) (hb : b.length ≤ k) : lcmp (a.drop k) (b.drop k) = 1 := by
  rw [List.drop_eq_nil_of_le hb, List.drop_eq_getElem_cons ha]; rfl
theorem IntSl.cells {w : World} {a : Option Addr} {n c : Nat} {zs : List Int} (h : IntSl w (.slice a n c) zs) : n = zs.length ∧ ∀ (i : Nat) (x : Int), zs[i]? = some x → ∃ b off, a = some ⟨b, off, none⟩ ∧ w.cell? ⟨b, off + i, none⟩ = some (.int .i64 x) := by
  rcases h with ⟨_, _, e, rfl⟩ | ⟨b, off, cap, e, h2, h3, h4⟩
  · simp at e
    exact ⟨e.2.1, by simp⟩
  · simp at e
    exact ⟨e.2.1, fun i x hx => ⟨b, off, e.1, h4 i x hx⟩⟩
theorem cmpCompare_any (a b : Int) (w : World) :
    Calls Tryz.prog 113 #[.int .i64 a, .int .i64 b] w fun e w' => e = .returned (.int .i64 (sgn a b)) ∧ w = w' := by
  by_cases h1 : a < b
  · rw [sgn_lt h1]
    go_enter Tryz.func113, Tryz.ntmps113
    go_wp2
    go_ret
    exact ⟨rfl, rfl⟩
  · by_cases h2 : b < a
    · rw [sgn_gt h2]
      go_enter Tryz.func113, Tryz.ntmps113
      go_wp2
      go_ret
      exact ⟨rfl, rfl⟩
    · rw [sgn_eq (by omega)]
      go_enter Tryz.func113, Tryz.ntmps113
      go_wp2
      go_ret
      exact ⟨rfl, rfl⟩
set_option maxRecDepth 100000 in
set_option maxHeartbeats 1000000 in
theorem slicesCompare_any (s1 s2 : Value) (xs ys : List Int) (w : World) (h : IntSl w s1 xs) (h' : IntSl w s2 ys) :
    Calls Tryz.prog 114 #[s1, s2] w fun e w' => e = .returned (.int .i64 (lcmp xs ys)) ∧ ∃ n, w' = w.drewN n := by
  have hl1 := h.le
  have hl2 := h'.le
  obtain ⟨a, c, rfl⟩ := h.len
  obtain ⟨a', c', rfl⟩ := h'.len
  have HC := Lib.hid h.cells.2
  have HC' := Lib.hid h'.cells.2
  clear h h'
  obtain ⟨r, hr⟩ : ∃ r, lcmp xs ys = r := ⟨_, rfl⟩
  rw [hr]
  go_enter Tryz.func114, Tryz.ntmps114
  go_wp2
  go_loopw [11] (fun i wr => ∃ k : Nat, k ≤ xs.length ∧ k ≤ ys.length ∧ i = .int .i64 k ∧ Dr w wr ∧ lcmp (xs.drop k) (ys.drop k) = r) (fun i _ => xs.length - (intOf i).toNat)
  case atStart => exact ⟨0, Nat.zero_le _, Nat.zero_le _, rfl, Dr.refl _, by simpa using hr⟩
  case round =>
    obtain ⟨k, hk, hk', rfl, hdr, he⟩ := hrel
    have HE := Lib.hid he
    clear he hr
    by_cases h1 : k < xs.length
    · obtain ⟨x, hx⟩ : ∃ x, xs[k]? = some x := ⟨xs[k], List.getElem?_eq_getElem h1⟩
      obtain ⟨b, off, rfl, c1⟩ := HC.out k x hx
      rw [← hdr.cell] at c1
      have i1 : (0 : Int) ≤ (k : Int) := by omega
      have i2 : (k : Int) < (xs.length : Int) := by omega
      by_cases h2 : k < ys.length
      · obtain ⟨y, hy⟩ : ∃ y, ys[k]? = some y := ⟨ys[k], List.getElem?_eq_getElem h2⟩
        obtain ⟨b', off', rfl, c2⟩ := HC'.out k y hy
        rw [← hdr.cell] at c2
        have HT := Lib.hid (lcmp_step hx hy)
        clear hx hy
        obtain ⟨z, hz⟩ : ∃ z, sgn x y = z := ⟨_, rfl⟩
        have hcall := fun w => cmpCompare_any x y w
        rw [hz] at hcall
        have HS := Lib.hid hcall
        have HZ := Lib.hid hz
        clear hcall hz
        have i3 : (k : Int) < (ys.length : Int) := by omega
        by_cases h0 : z = 0
        · subst h0
          go_wp2_with (go_at_call 113; refine (HS.out _).mono ?_; rintro e w' ⟨rfl, rfl⟩)
          exact ⟨⟨k + 1, by omega, by omega, by go_num, by first | exact hdr | exact hdr.drewN _, by rw [← HE.out, HT.out, if_pos HZ.out]⟩, by simp [intOf]; omega⟩
        · have hz1 : (z == 0) = false := by simpa using h0
          have hz2 : (z != 0) = true := by simpa using h0
          go_wp2_with (go_at_call 113; refine (HS.out _).mono ?_; rintro e w' ⟨rfl, rfl⟩)
          go_ret
          exact ⟨ret_i64 (by rw [← HE.out, HT.out, if_neg (by rw [HZ.out]; exact h0), HZ.out]), by first | exact hdr.out | exact (hdr.drewN _).out⟩
      · have hle : ys.length ≤ k := by omega
        have HT := Lib.hid (lcmp_end2 (b := ys) h1 hle)
        clear hx
        go_wp2
        go_ret
        exact ⟨ret_i64 (by rw [← HE.out, HT.out]), by first | exact hdr.out | exact (hdr.drewN _).out⟩
    · have hle : xs.length ≤ k := by omega
      have HT := Lib.hid (lcmp_end1 (b := ys) hle)
      have hkx : k = xs.length := by omega
      subst hkx
      by_cases h2 : xs.length < ys.length
      · go_wp2
        go_ret
        exact ⟨ret_i64 (by rw [← HE.out, HT.out, if_pos h2]), by first | exact hdr.out | exact (hdr.drewN _).out⟩
      · go_wp2
        go_ret
        exact ⟨ret_i64 (by rw [← HE.out, HT.out, if_neg h2]), by first | exact hdr.out | exact (hdr.drewN _).out⟩
theorem cmpOr_any (g : Nat) (a b c d : Int) (w : World) (h : Blk w g #[.int .i64 a, .int .i64 b, .int .i64 c, .int .i64 d] 3) :
    Calls Tryz.prog 112 #[.slice (some ⟨g, 0, none⟩) 4 4] w fun e w' => e = .returned (.int .i64 (or2 a (or2 b (or2 c d)))) ∧ w = w' := by
  obtain ⟨r, hr⟩ : ∃ r, or2 a (or2 b (or2 c d)) = r := ⟨_, rfl⟩
  rw [hr]
  have HR := Lib.hid hr
  clear hr
  have hc := h.cell
  by_cases h1 : a = 0
  · have e1 : (a == 0) = true := by simpa using h1
    have f1 : (a != 0) = false := by simpa using h1
    subst h1
    by_cases h2 : b = 0
    · subst h2
      by_cases h3 : c = 0
      · subst h3
        by_cases h4 : d = 0
        · subst h4
          go_enter Tryz.func112, Tryz.ntmps112
          go_wp2
          refine wp_loop_rounds 5 ?_
          repeat any_goals (rw [rounds_succ]; go_wp2)
          go_ret
          exact ⟨ret_i64 (by rw [← HR.out]; simp [or2]), rfl⟩
        · have f4 : (d != 0) = true := by simpa using h4
          have e4 : (d == 0) = false := by simpa using h4
          go_enter Tryz.func112, Tryz.ntmps112
          go_wp2
          refine wp_loop_rounds 5 ?_
          repeat any_goals (rw [rounds_succ]; go_wp2)
          go_ret
          exact ⟨ret_i64 (by rw [← HR.out]; simp [or2]), rfl⟩
      · have f3 : (c != 0) = true := by simpa using h3
        have e3 : (c == 0) = false := by simpa using h3
        go_enter Tryz.func112, Tryz.ntmps112
        go_wp2
        refine wp_loop_rounds 5 ?_
        repeat any_goals (rw [rounds_succ]; go_wp2)
        go_ret
        exact ⟨ret_i64 (by rw [← HR.out]; simp [or2, h3]), rfl⟩
    · have f2 : (b != 0) = true := by simpa using h2
      have e2 : (b == 0) = false := by simpa using h2
      go_enter Tryz.func112, Tryz.ntmps112
      go_wp2
      refine wp_loop_rounds 5 ?_
      repeat any_goals (rw [rounds_succ]; go_wp2)
      go_ret
      exact ⟨ret_i64 (by rw [← HR.out]; simp [or2, h2]), rfl⟩
  · have f1 : (a != 0) = true := by simpa using h1
    have e1 : (a == 0) = false := by simpa using h1
    go_enter Tryz.func112, Tryz.ntmps112
    go_wp2
    refine wp_loop_rounds 5 ?_
    repeat any_goals (rw [rounds_succ]; go_wp2)
    go_ret
    exact ⟨ret_i64 (by rw [← HR.out]; simp [or2, h1]), rfl⟩
/- Contracts of the functions that compare two devices. -/
theorem or2_ne {a b : Int} (h : a ≠ 0) : or2 a b = a := by simp [or2, h]
theorem or2_z (b : Int) : or2 0 b = b := by simp [or2]
set_option maxRecDepth 100000 in
set_option maxHeartbeats 2000000 in
theorem compareDevices_any (k1 w1 l1 k2 w2 l2 : Int) (s1 s2 : Value) (xs ys : List Int) (w : World) (h : IntSl w s1 xs) (h' : IntSl w s2 ys) :
    Calls Tryz.prog 62 #[.agg #[.int .i64 k1, s1, .int .i64 w1, .int .i64 l1], .agg #[.int .i64 k2, s2, .int .i64 w2, .int .i64 l2]] w fun e w' => e = .returned (.int .i64 (devcmp k1 k2 xs ys w1 w2 l1 l2)) ∧ Below w.heap.size w w' := by
  obtain ⟨r, hr⟩ : ∃ r, devcmp k1 k2 xs ys w1 w2 l1 l2 = r := ⟨_, rfl⟩
  rw [hr]
  unfold devcmp at hr
  have hw := (((Below.refl _ w).alloc (Nat.le_refl _) (.cells #[.int .i64 k1, s1, .int .i64 w1, .int .i64 l1] 62)).alloc (by simp) (.cells #[.int .i64 k2, s2, .int .i64 w2, .int .i64 l2] 62))
  have h1 := h.by hw
  have h2 := h'.by hw
  obtain ⟨a, c, rfl⟩ := h.len
  obtain ⟨a', c', rfl⟩ := h'.len
  clear h h' hw
  have g1 := fun w => cmpCompare_any k1 k2 w
  have g2 := fun w h h' => slicesCompare_any (.slice a xs.length c) (.slice a' ys.length c') xs ys w h h'
  have g3 := fun w => cmpCompare_any w1 w2 w
  have g4 := fun w => cmpCompare_any l1 l2 w
  generalize sgn k1 k2 = z1 at *
  generalize lcmp xs ys = z2 at *
  generalize sgn w1 w2 = z3 at *
  generalize sgn l1 l2 = z4 at *
  have HR := Lib.hid hr
  have H1 := Lib.hid g1
  have H2 := Lib.hid g2
  have H3 := Lib.hid g3
  have H4 := Lib.hid g4
  clear hr g1 g2 g3 g4
  go_enter Tryz.func62, Tryz.ntmps62
  go_wp2_with fail
  go_region_held3 (fun w' => (Blk w' (w.heap.size) #[.int .i64 k1, .slice a xs.length c, .int .i64 w1, .int .i64 l1] 62 ∧ ∀ o, w'.cell? ⟨w.heap.size, o, none⟩ = (#[.int .i64 k1, .slice a xs.length c, .int .i64 w1, .int .i64 l1] : Array Value)[o]?) ∧ (Blk w' (w.heap.size + 1) #[.int .i64 k2, .slice a' ys.length c', .int .i64 w2, .int .i64 l2] 62 ∧ ∀ o, w'.cell? ⟨w.heap.size + 1, o, none⟩ = (#[.int .i64 k2, .slice a' ys.length c', .int .i64 w2, .int .i64 l2] : Array Value)[o]?) ∧ Below w.heap.size w w') (((try (obtain ⟨⟨hS0, _⟩, ⟨hS1, _⟩, hSB⟩ := hHeld)); refine ⟨Blk.both ?_, Blk.both ?_, ?_⟩ <;> first | ((repeat (first | (with_reducible assumption) | (with_reducible refine Blk.drewN ?_ _) | (with_reducible refine Blk.drew ?_) | ((with_reducible refine Blk.new _ ?_); focus (first | omega | (simp; done) | (simp; omega))) | (with_reducible refine Blk.past ?_ _) | ((with_reducible refine Blk.apart ?_ _ _ _ ?_); rotate_left; focus (first | omega | (simp; done) | (simp; omega))) | (with_reducible refine Blk.by (by assumption) ?_))); done) | ((repeat (first | (with_reducible exact Below.refl _ _) | (with_reducible refine below_drewN ?_ _) | (with_reducible refine Below.drew ?_) | (with_reducible refine below_al ?_ _) | (with_reducible refine below_on (by assumption) ?_) | ((with_reducible refine Below.setCell ?_ ?_ _); rotate_left; focus (first | omega | (simp; done) | (simp; omega))) | (with_reducible assumption))); done)))
    (first | (go_at_call_of 113 (Value.int .i64 k1); refine (H1.out _).mono ?_; rintro e w' ⟨rfl, rfl⟩) | (go_at_call_of 113 (Value.int .i64 w1); refine (H3.out _).mono ?_; rintro e w' ⟨rfl, rfl⟩) | (go_at_call_of 113 (Value.int .i64 l1); refine (H4.out _).mono ?_; rintro e w' ⟨rfl, rfl⟩) | (go_at_call 114; refine (H2.out _ (h1.by (below_of_drewN _ 1)) (h2.by (below_of_drewN _ 1))).mono ?_; rintro e w' ⟨rfl, m, rfl⟩) | (go_at_call 112; refine (cmpOr_any _ z1 z2 z3 z4 _ (Blk.new _ (by simp))).mono ?_; rintro e w' ⟨rfl, rfl⟩))
  all_goals go_wp2
  all_goals go_ret
  exact ⟨ret_i64 HR.out, blwT⟩
/- Parallel devices, devices in series, first pairs: plain. -/
def curP : List Int → Int
  | [p, _] => p
  | [_, p, _] => p
  | _ => 0
def curQ : List Int → Int
  | [_, q] => q
  | [_, _, q] => q
  | _ => 0
def gateOf : List Int → Int
  | [g, _, _] => g
  | _ => 0
def Shp (x : Dv) : Prop := (x.kind = 2 ∧ ∃ p q, x.pins = [p, q]) ∨ ((x.kind = 0 ∨ x.kind = 1) ∧ ∃ g p q, x.pins = [g, p, q])
theorem shp_of {nets : Int} {x : Dv} (h : dvB nets x = true) : Shp x := by
  obtain ⟨h1, h2, _⟩ := dvB_all h
  have hk := inB_iff.1 h1
  by_cases h2' : x.kind = 2
  · left
    refine ⟨h2', ?_⟩
    simp only [pinsOf, h2', if_pos] at h2
    match hp : x.pins, h2 with
    | [p, q], _ => exact ⟨p, q, rfl⟩
  · right
    refine ⟨by omega, ?_⟩
    simp only [pinsOf, if_neg h2'] at h2
    match hp : x.pins, h2 with
    | [g, p, q], _ => exact ⟨g, p, q, rfl⟩
theorem lcmp_zero : ∀ (a b : List Int), lcmp a b = 0 ↔ a = b
  | [], [] => by simp [lcmp]
  | [], _ :: _ => by simp [lcmp]
  | _ :: _, [] => by simp [lcmp]
  | a :: r, b :: s => by
    have ih := lcmp_zero r s
    unfold lcmp
    by_cases h : sgn a b = 0
    · rw [if_pos h, ih]
      have hab : a = b := by
        unfold sgn at h
        split at h
        · omega
        · split at h
          · omega
          · omega
      simp [hab]
    · rw [if_neg h]
      have hab : a ≠ b := fun e => h (sgn_eq e)
      simp [hab, h]
/- Current pins, gates: contracts. -/
theorem IntSl.two {w : World} {sv : Value} {p q : Int} (h : IntSl w sv [p, q]) : ∃ b off cap, sv = .slice (some ⟨b, off, none⟩) 2 cap ∧ w.cell? ⟨b, off, none⟩ = some (.int .i64 p) ∧ w.cell? ⟨b, off + 1, none⟩ = some (.int .i64 q) ∧ b < w.heap.size := by
  rcases h with ⟨_, _, _, h2⟩ | ⟨b, off, cap, hsv, h2, h3, h4⟩
  · simp at h2
  simp only [List.length_cons, List.length_nil, Nat.zero_add, Nat.reduceAdd] at hsv
  have hp : w.cell? ⟨b, off, none⟩ = some (.int .i64 p) := by have := h4 0 p rfl; simpa using this
  have hq : w.cell? ⟨b, off + 1, none⟩ = some (.int .i64 q) := by have := h4 1 q rfl; simpa using this
  refine ⟨b, off, cap, hsv, hp, hq, ?_⟩
  rcases Nat.lt_or_ge b w.heap.size with h' | h'
  · exact h'
  · simp [World.cell?, Array.getElem?_eq_none h'] at hp
theorem IntSl.three {w : World} {sv : Value} {g p q : Int} (h : IntSl w sv [g, p, q]) : ∃ b off cap, sv = .slice (some ⟨b, off, none⟩) 3 cap ∧ w.cell? ⟨b, off, none⟩ = some (.int .i64 g) ∧ w.cell? ⟨b, off + 1, none⟩ = some (.int .i64 p) ∧ w.cell? ⟨b, off + 2, none⟩ = some (.int .i64 q) ∧ b < w.heap.size := by
  rcases h with ⟨_, _, _, h2⟩ | ⟨b, off, cap, hsv, h2, h3, h4⟩
  · simp at h2
  simp only [List.length_cons, List.length_nil, Nat.zero_add, Nat.reduceAdd] at hsv
  have hg : w.cell? ⟨b, off, none⟩ = some (.int .i64 g) := by have := h4 0 g rfl; simpa using this
  have hp : w.cell? ⟨b, off + 1, none⟩ = some (.int .i64 p) := by have := h4 1 p rfl; simpa using this
  have hq : w.cell? ⟨b, off + 2, none⟩ = some (.int .i64 q) := by have := h4 2 q rfl; simpa using this
  refine ⟨b, off, cap, hsv, hg, hp, hq, ?_⟩
  rcases Nat.lt_or_ge b w.heap.size with h' | h'
  · exact h'
  · simp [World.cell?, Array.getElem?_eq_none h'] at hp
set_option maxRecDepth 100000 in
set_option maxHeartbeats 1000000 in
theorem currentPins_any (x : Dv) (sv : Value) (w : World) (h : IntSl w sv x.pins) (hs : Shp x) :
    Calls Tryz.prog 175 #[.agg #[.int .i64 x.kind, sv, .int .i64 x.wd, .int .i64 x.len]] w fun e w' => e = .returned (.tuple #[.int .i64 (curP x.pins), .int .i64 (curQ x.pins)]) ∧ Below w.heap.size w w' := by
  obtain ⟨kind, pins, wd, len⟩ := x
  dsimp only at h ⊢
  rcases hs with ⟨_, p, q, hp⟩ | ⟨_, g, p, q, hp⟩
  · dsimp only at hp; subst hp
    obtain ⟨b, off, cap, rfl, c0, c1, hb⟩ := h.two
    clear h
    simp only [curP, curQ]
    go_enter Tryz.func175, Tryz.ntmps175
    go_wp2
    go_quiet (fail)
    go_wp2
    go_ret2
    exact ⟨rfl, blwT⟩
  · dsimp only at hp; subst hp
    obtain ⟨b, off, cap, rfl, c0, c1, c2, hb⟩ := h.three
    clear h
    simp only [curP, curQ]
    go_enter Tryz.func175, Tryz.ntmps175
    go_wp2
    go_quiet (fail)
    go_wp2
    go_ret2
    exact ⟨rfl, blwT⟩
/- Parallel devices: contracts. -/
theorem sgn_cases (a b : Int) : (a < b ∧ sgn a b = -1) ∨ (a = b ∧ sgn a b = 0) ∨ (b < a ∧ sgn a b = 1) := by
  rcases Int.lt_trichotomy a b with h | h | h
  · exact .inl ⟨h, sgn_lt h⟩
  · exact .inr (.inl ⟨h, sgn_eq h⟩)
  · exact .inr (.inr ⟨h, sgn_gt h⟩)
theorem lcmp_nn : lcmp [] [] = 0 := rfl
theorem lcmp_nc (b : Int) (s : List Int) : lcmp [] (b :: s) = -1 := rfl
theorem lcmp_cn (a : Int) (r : List Int) : lcmp (a :: r) [] = 1 := rfl
theorem lcmp_cc (a b : Int) (r s : List Int) : lcmp (a :: r) (b :: s) = if sgn a b = 0 then lcmp r s else sgn a b := rfl
theorem lcmp_flip : ∀ (a b : List Int), lcmp a b = - lcmp b a
  | [], [] => by simp [lcmp_nn]
  | [], _ :: _ => by rw [lcmp_nc, lcmp_cn]
  | _ :: _, [] => by rw [lcmp_nc, lcmp_cn]; rfl
  | a :: r, b :: s => by
    have ih := lcmp_flip r s
    rw [lcmp_cc, lcmp_cc]
    rcases sgn_cases a b with ⟨h, e⟩ | ⟨h, e⟩ | ⟨h, e⟩
    · rw [e, sgn_gt h]; simp
    · subst h; rw [e]; simpa using ih
    · rw [e, sgn_lt h]; simp
theorem lcmp_trans : ∀ (a b c : List Int), lcmp a b < 0 → lcmp b c < 0 → lcmp a c < 0
  | [], [], c, h, _ => by simp [lcmp_nn] at h
  | [], _ :: _, [], _, h => by simp [lcmp_cn] at h
  | [], _ :: _, _ :: _, _, _ => by simp [lcmp_nc]
  | _ :: _, [], _, h, _ => by simp [lcmp_cn] at h
  | _ :: _, _ :: _, [], _, h => by simp [lcmp_cn] at h
  | a :: r, b :: s, c :: t, h1, h2 => by
    rw [lcmp_cc] at *
    rcases sgn_cases a b with ⟨h, e⟩ | ⟨h, e⟩ | ⟨h, e⟩ <;> rcases sgn_cases b c with ⟨h', e'⟩ | ⟨h', e'⟩ | ⟨h', e'⟩ <;> rw [e] at h1 <;> rw [e'] at h2 <;> simp at h1 h2
    · rw [sgn_lt (by omega)]; simp
    · subst h'; rw [e]; simp
    · subst h; rw [e']; simp
    · subst h; rw [e']; simpa using lcmp_trans r s t h1 h2
theorem lcmp_ntrans : ∀ (a b c : List Int), 0 ≤ lcmp a b → 0 ≤ lcmp b c → 0 ≤ lcmp a c
  | [], [], c, _, h => h
  | [], _ :: _, _, h, _ => by simp [lcmp_nc] at h
  | _ :: _, [], [], _, _ => by simp [lcmp_cn]
  | _ :: _, [], _ :: _, _, h => by simp [lcmp_nc] at h
  | _ :: _, _ :: _, [], _, _ => by simp [lcmp_cn]
  | a :: r, b :: s, c :: t, h1, h2 => by
    rw [lcmp_cc] at *
    rcases sgn_cases a b with ⟨h, e⟩ | ⟨h, e⟩ | ⟨h, e⟩ <;> rcases sgn_cases b c with ⟨h', e'⟩ | ⟨h', e'⟩ | ⟨h', e'⟩ <;> rw [e] at h1 <;> rw [e'] at h2 <;> simp at h1 h2
    · subst h; rw [e']; simpa using lcmp_ntrans r s t h1 h2
    · subst h; rw [e']; simp
    · subst h'; rw [e]; simp
    · rw [sgn_gt (by omega)]; simp
theorem lcmp_self (a : List Int) : lcmp a a = 0 := (lcmp_zero a a).2 rfl
theorem lcmp_lt_of_ne {a b : List Int} (h : lcmp a b ≤ 0) (hne : a ≠ b) : lcmp a b < 0 := by
  have : lcmp a b ≠ 0 := fun e => hne ((lcmp_zero a b).1 e)
  omega
def firstAt (ls : List (List Int)) (k : Nat) : Bool := (List.range k).all fun j => decide (lcmp (ls.getD j []) (ls.getD k []) ≠ 0)
def rankTo (ls : List (List Int)) (x : List Int) (k : Nat) : Nat := (List.range k).countP fun j => firstAt ls j && decide (lcmp (ls.getD j []) x < 0)
def rankOf (ls : List (List Int)) (x : List Int) : Nat := rankTo ls x ls.length
def rankS (ls : List (List Int)) : List Int := ls.map fun x => (rankOf ls x : Int)
theorem rankTo_le (ls : List (List Int)) (x : List Int) (k : Nat) : rankTo ls x k ≤ k := by
  have := List.countP_le_length (p := fun j => firstAt ls j && decide (lcmp (ls.getD j []) x < 0)) (l := List.range k)
  simpa [rankTo] using this
theorem length_rankS (ls : List (List Int)) : (rankS ls).length = ls.length := by simp [rankS]
def fsts (ls : List (List Int)) : List (List Int) := ((List.range ls.length).filter (firstAt ls)).map fun k => ls.getD k []
theorem rankOf_fsts (ls : List (List Int)) (x : List Int) : rankOf ls x = (fsts ls).countP fun y => decide (lcmp y x < 0) := by
  unfold rankOf rankTo fsts
  rw [List.countP_map, List.countP_filter]
  congr 1
  funext j
  simp [Bool.and_comm]
theorem firstAt_iff {ls : List (List Int)} {k : Nat} : firstAt ls k = true ↔ ∀ j, j < k → ls.getD j [] ≠ ls.getD k [] := by
  simp only [firstAt, List.all_eq_true, List.mem_range, decide_eq_true_eq, ne_eq, lcmp_zero]
theorem mem_fsts {ls : List (List Int)} {x : List Int} : x ∈ fsts ls ↔ x ∈ ls := by
  simp only [fsts, List.mem_map, List.mem_filter, List.mem_range]
  constructor
  · rintro ⟨k, ⟨hk, _⟩, rfl⟩
    rw [List.getD_eq_getElem?_getD, List.getElem?_eq_getElem hk]
    exact List.getElem_mem hk
  · intro hx
    obtain ⟨k, hk, e⟩ := List.mem_iff_getElem.1 hx
    -- the least such place
    have : ∀ n k, k ≤ n → k < ls.length → ls.getD k [] = x → ∃ j, (j < ls.length ∧ firstAt ls j = true) ∧ ls.getD j [] = x := by
      intro n
      induction n with
      | zero =>
        intro k h1 h2 h3
        exact ⟨k, ⟨h2, firstAt_iff.2 (fun j hj => by omega)⟩, h3⟩
      | succ n ih =>
        intro k h1 h2 h3
        by_cases hf : firstAt ls k = true
        · exact ⟨k, ⟨h2, hf⟩, h3⟩
        · rw [firstAt_iff] at hf
          have : ∃ j, j < k ∧ ls.getD j [] = ls.getD k [] := by
            apply Classical.byContradiction
            intro hn
            exact hf (fun j hj e => hn ⟨j, hj, e⟩)
          obtain ⟨j, hj, e⟩ := this
          exact ih j (by omega) (by omega) (e.trans h3)
    exact this k k (Nat.le_refl _) hk (by rw [List.getD_eq_getElem?_getD, List.getElem?_eq_getElem hk]; exact e)
theorem nodup_fsts (ls : List (List Int)) : (fsts ls).Nodup := by
  unfold fsts List.Nodup
  rw [List.pairwise_map]
  have h : (List.range ls.length).Pairwise (fun a b => a < b) := List.pairwise_lt_range
  refine List.Pairwise.imp_of_mem ?_ (h.filter _)
  intro a b ha hb hab e
  have := firstAt_iff.1 (List.mem_filter.1 hb).2 a hab
  exact this e
theorem perm_of_mem {α : Type} [DecidableEq α] : ∀ (l r : List α), l.Nodup → r.Nodup → (∀ z, z ∈ l ↔ z ∈ r) → l.Perm r
  | [], r, _, _, h => by
    cases r with
    | nil => exact List.Perm.nil
    | cons a s => exact absurd ((h a).2 (by simp)) (by simp)
  | a :: l, r, hn, hr, h => by
    rw [List.nodup_cons] at hn
    have ha : a ∈ r := (h a).1 (by simp)
    have hp := List.perm_cons_erase ha
    have hre : (a :: r.erase a).Nodup := hp.nodup_iff.1 hr
    rw [List.nodup_cons] at hre
    refine (List.Perm.cons a (perm_of_mem l (r.erase a) hn.2 hre.2 (fun z => ?_))).trans hp.symm
    by_cases e : z = a
    · subst e; simp [hn.1, hre.1]
    · rw [List.mem_erase_of_ne e, ← h z]; simp [e]
theorem place_count : ∀ (D : List (List Int)) (x : List Int), D.Pairwise (fun a b => lcmp a b < 0) → x ∈ D → D[D.countP fun y => decide (lcmp y x < 0)]? = some x ∧ ∀ j y, j < D.countP (fun y => decide (lcmp y x < 0)) → D[j]? = some y → y ≠ x
  | [], x, _, h => by simp at h
  | d :: D, x, hp, hx => by
    rw [List.pairwise_cons] at hp
    by_cases e : d = x
    · subst e
      have hz : (d :: D).countP (fun y => decide (lcmp y d < 0)) = 0 := by
        rw [List.countP_eq_zero]
        intro y hy
        rcases List.mem_cons.1 hy with rfl | hy
        · simp [lcmp_self]
        · have := hp.1 y hy
          rw [lcmp_flip] at this
          simp; omega
      rw [hz]
      exact ⟨rfl, fun j y hj => by omega⟩
    · have hx' : x ∈ D := by
        rcases List.mem_cons.1 hx with h | h
        · exact absurd h.symm e
        · exact h
      have hd : decide (lcmp d x < 0) = true := by simpa using hp.1 x hx'
      obtain ⟨h1, h2⟩ := place_count D x hp.2 hx'
      rw [List.countP_cons_of_pos (p := fun y => decide (lcmp y x < 0)) hd]
      refine ⟨by simpa using h1, fun j y hj hy => ?_⟩
      cases j with
      | zero => simp at hy; subst hy; exact e
      | succ j => exact h2 j y (by omega) (by simpa using hy)
theorem place_rank {D ls : List (List Int)} {x : List Int} (hs : D.Pairwise (fun a b => lcmp a b < 0)) (hm : ∀ z, z ∈ D ↔ z ∈ ls) (hx : x ∈ ls) : fidx (fun y => decide (y = x)) D = rankOf ls x := by
  have hn : D.Nodup := hs.imp (fun {a b} h e => by subst e; rw [lcmp_self] at h; omega)
  have hp := perm_of_mem D (fsts ls) hn (nodup_fsts ls) (fun z => by rw [mem_fsts]; exact hm z)
  rw [rankOf_fsts, ← hp.countP_eq]
  obtain ⟨h1, h2⟩ := place_count D x hs ((hm x).2 hx)
  exact fidx_hit h1 (by simp) (fun j y hj hy => by simpa using h2 j y hj hy)
def ddpA {α : Type} [DecidableEq α] (p : α) : List α → List α
  | [] => []
  | b :: l => if b = p then ddpA b l else b :: ddpA b l
def ddp {α : Type} [DecidableEq α] : List α → List α
  | [] => []
  | a :: l => a :: ddpA a l
theorem mem_ddpA {α : Type} [DecidableEq α] (p : α) (l : List α) (z : α) : z = p ∨ z ∈ ddpA p l ↔ z = p ∨ z ∈ l := by
  induction l generalizing p with
  | nil => simp [ddpA]
  | cons b l ih =>
    unfold ddpA
    by_cases h : b = p
    · subst h
      rw [if_pos rfl, ih b]; simp
    · rw [if_neg h, List.mem_cons, List.mem_cons, ih b]
theorem mem_ddp {α : Type} [DecidableEq α] (l : List α) (z : α) : z ∈ ddp l ↔ z ∈ l := by
  cases l with
  | nil => simp [ddp]
  | cons a l => simp only [ddp, List.mem_cons]; exact mem_ddpA a l z
theorem ddpA_sorted (p : List Int) (l : List (List Int)) (h : (p :: l).Pairwise (fun a b => lcmp a b ≤ 0)) : (p :: ddpA p l).Pairwise (fun a b => lcmp a b < 0) := by
  induction l generalizing p with
  | nil => simp [ddpA]
  | cons b l ih =>
    rw [List.pairwise_cons] at h
    have hb := ih b h.2
    unfold ddpA
    by_cases e : b = p
    · subst e; rw [if_pos rfl]; exact hb
    · rw [if_neg e, List.pairwise_cons]
      have hpb : lcmp p b < 0 := lcmp_lt_of_ne (h.1 b (by simp)) (fun e' => e e'.symm)
      refine ⟨fun z hz => ?_, hb⟩
      rcases List.mem_cons.1 hz with rfl | hz
      · exact hpb
      · exact lcmp_trans p b z hpb ((List.pairwise_cons.1 hb).1 z hz)
theorem ddp_sorted {l : List (List Int)} (h : l.Pairwise (fun a b => lcmp a b ≤ 0)) : (ddp l).Pairwise (fun a b => lcmp a b < 0) := by
  cases l with
  | nil => exact List.Pairwise.nil
  | cons a l => exact ddpA_sorted a l h
/- What a walk reads of a slice of slices. -/
def LlSl (w : World) (sv : Value) (ls : List (List Int)) : Prop :=
  (∃ a c, sv = .slice a 0 c ∧ ls = []) ∨ ∃ b off cap, sv = .slice (some ⟨b, off, none⟩) ls.length cap ∧ ls.length ≤ cap ∧ cap ≤ maxLen ∧ ∀ (i : Nat) (xs : List Int), ls[i]? = some xs → ∃ s, w.cell? ⟨b, off + i, none⟩ = some s ∧ IntSl w s xs
theorem LlSl.by {w w1 : World} {sv : Value} {ls : List (List Int)} (hb : Below w.heap.size w w1) (h : LlSl w sv ls) : LlSl w1 sv ls := by
  rcases h with h | ⟨b, off, cap, h1, h2, h3, h4⟩
  · exact .inl h
  · refine .inr ⟨b, off, cap, h1, h2, h3, fun i xs hx => ?_⟩
    obtain ⟨s, a, b⟩ := h4 i xs hx
    exact ⟨s, cell_by' hb a, b.by hb⟩
theorem LlSl.sized {w : World} {sv : Value} {ls : List (List Int)} (h : LlSl w sv ls) : ∃ a c, sv = .slice a ls.length c := by
  rcases h with ⟨a, c, h1, h2⟩ | ⟨b, off, cap, h1, _⟩
  · exact ⟨a, c, by rw [h2]; exact h1⟩
  · exact ⟨_, _, h1⟩
theorem infoL : (Tryz.prog.info? 27).map (fun i => (i.zero, i.size, i.bytes)) = some (some (.slice none 0 0), 1, 24) := by kernel_rfl
theorem IntSl.old {w w' : World} {s : Value} {xs : List Int} (h : IntSl w s xs) (hb : ∀ k, k < w.heap.size → w'.heap[k]? = w.heap[k]?) : IntSl w' s xs := by
  rcases h with h | ⟨b, off, cap, h1, h2, h3, h4⟩
  · exact .inl h
  · refine .inr ⟨b, off, cap, h1, h2, h3, fun i x hx => ?_⟩
    have hc := h4 i x hx
    have hl := lt_of_cell hc
    dsimp only at hl
    rw [← hc]
    simp only [World.cell?, hb b hl]
theorem IntSl.one {w : World} {s : Value} {xs : List Int} (h : IntSl w s xs) : s.oneCell' = true := by
  rcases h with ⟨_, _, rfl, _⟩ | ⟨_, _, _, rfl, _⟩ <;> rfl
def Off (blk : Nat) (w w' : World) : Prop := ∀ k, k < w.heap.size → k ≠ blk → w'.heap[k]? = w.heap[k]?
/- slices.DeleteFunc on a slice of devices of the call's own: the plain part, and clear. -/
theorem Blk.setCells (g : Nat) {T : TypeId} : ∀ (vs : List Value) (o : Nat) (w : World) (cs : Array Value), Blk w g cs T → ∃ cs' : Array Value, Blk (w.setCells g o vs) g cs' T ∧ (∀ i, i < o → cs'[i]? = cs[i]?) ∧ Within g (g + 1) w (w.setCells g o vs)
  | [], o, w, cs, h => ⟨cs, h, fun _ _ => rfl, Within.refl _ _ _⟩
  | v :: r, o, w, cs, h => by
    obtain ⟨cs', h1, h2, h3⟩ := Blk.setCells g r (o + 1) (w.setCell ⟨g, o, none⟩ v) _ (h.set o v)
    refine ⟨cs', h1, fun i hi => ?_, (Within.off v).on h3⟩
    rw [h2 i (by omega)]
    simp [Array.getElem?_setIfInBounds, show ¬ o = i by omega]
def At4 (w : World) (cs : Array Value) (i f : Nat) (x : Dv) : Prop := ∃ pv, Cs4 cs i (.int .i64 x.kind) pv (.int .i64 x.wd) (.int .i64 x.len) ∧ OwnR w f (f + 1) pv x.pins
def DelSt (w : World) (lo hi g : Nat) (f : Nat → Nat) (xs ys : List Dv) (k : Nat) (cs : Array Value) : Prop :=
  (∃ h : Nat → Nat, (∀ i y, ys[i]? = some y → At4 w cs i (f (h i)) y ∧ (h i < k ∧ h i < xs.length) ∧ (lo ≤ f (h i) ∧ f (h i) < hi ∧ f (h i) ≠ g)) ∧ (∀ i j, i < ys.length → j < ys.length → i ≠ j → h i ≠ h j)) ∧
  (∀ i x, k ≤ i → xs[i]? = some x → At4 w cs i (f i) x ∧ (lo ≤ f i ∧ f i < hi ∧ f i ≠ g))
section
variable {w w' : World} {lo hi g k : Nat} {f : Nat → Nat} {xs ys : List Dv} {cs cs' : Array Value}
theorem Cs4.at_ {cs cs' : Array Value} {i : Nat} {a b c d : Value} (h : Cs4 cs i a b c d) (e : ∀ j, i * 4 ≤ j → j < i * 4 + 4 → cs'[j]? = cs[j]?) : Cs4 cs' i a b c d :=
  ⟨(e _ (by omega) (by omega)).trans h.1, (e _ (by omega) (by omega)).trans h.2.1, (e _ (by omega) (by omega)).trans h.2.2.1, (e _ (by omega) (by omega)).trans h.2.2.2⟩
theorem At4.at_ {i q : Nat} {x : Dv} (h : At4 w cs i q x) (e : ∀ j, i * 4 ≤ j → j < i * 4 + 4 → cs'[j]? = cs[j]?) : At4 w cs' i q x := by
  obtain ⟨pv, h1, h2⟩ := h
  exact ⟨pv, h1.at_ e, h2⟩
def set4 (cs : Array Value) (k : Nat) (a b c d : Value) : Array Value := (((cs.setIfInBounds (k * 4) a).setIfInBounds (k * 4 + 1) b).setIfInBounds (k * 4 + 2) c).setIfInBounds (k * 4 + 3) d
theorem set4_other (cs : Array Value) (k : Nat) (a b c d : Value) (j : Nat) (h : j < k * 4 ∨ k * 4 + 4 ≤ j) : (set4 cs k a b c d)[j]? = cs[j]? := by
  simp [set4, Array.getElem?_setIfInBounds, show ¬ k * 4 = j by omega, show ¬ k * 4 + 1 = j by omega, show ¬ k * 4 + 2 = j by omega, show ¬ k * 4 + 3 = j by omega]
theorem set4_same (cs : Array Value) (k : Nat) (a b c d : Value) (h : k * 4 + 3 < cs.size) : Cs4 (set4 cs k a b c d) k a b c d := by
  refine ⟨?_, ?_, ?_, ?_⟩ <;> simp [set4, Array.getElem?_setIfInBounds] <;> omega
theorem DelSt.push (h : DelSt w lo hi g f xs ys k cs) (hl : ys.length ≤ k) {x : Dv} (hx : xs[k]? = some x) {pv : Value} (hc : Cs4 cs k (.int .i64 x.kind) pv (.int .i64 x.wd) (.int .i64 x.len)) (hO : OwnR w (f k) (f k + 1) pv x.pins) :
    DelSt w lo hi g f xs (ys ++ [x]) (k + 1) (set4 cs ys.length (.int .i64 x.kind) pv (.int .i64 x.wd) (.int .i64 x.len)) := by
  obtain ⟨⟨m, h1, h2⟩, h3⟩ := h
  have hk := (List.getElem?_eq_some_iff.1 hx).1
  have hsz : ys.length * 4 + 3 < cs.size := by have := (Array.getElem?_eq_some_iff.1 hc.2.2.2).1; omega
  refine ⟨⟨fun i => if i = ys.length then k else m i, fun i y hy => ?_, fun i j hi hj hne => ?_⟩, fun i y hi hy => ?_⟩
  · dsimp only
    by_cases e : i = ys.length
    · subst e
      obtain rfl : y = x := by simpa using hy.symm
      rw [if_pos rfl]
      exact ⟨⟨pv, set4_same _ _ _ _ _ _ hsz, hO⟩, ⟨by omega, hk⟩, (h3 k y (Nat.le_refl _) hx).2⟩
    · have hi : i < ys.length := by have := (List.getElem?_eq_some_iff.1 hy).1; simp at this; omega
      rw [List.getElem?_append_left hi] at hy
      obtain ⟨a, b, c⟩ := h1 i y hy
      rw [if_neg e]
      exact ⟨a.at_ (fun j _ _ => set4_other _ _ _ _ _ _ _ (by omega)), ⟨by omega, b.2⟩, c⟩
  · simp at hi hj
    dsimp only
    have hb : ∀ i, i < ys.length → m i < k := fun i hi => (h1 i ys[i] (List.getElem?_eq_getElem hi)).2.1.1
    by_cases e : i = ys.length <;> by_cases e' : j = ys.length
    · omega
    · have := hb j (by omega); rw [if_pos e, if_neg e']; omega
    · have := hb i (by omega); rw [if_neg e, if_pos e']; omega
    · rw [if_neg e, if_neg e']; exact h2 i j (by omega) (by omega) hne
  · obtain ⟨a, b⟩ := h3 i y (by omega) hy
    exact ⟨a.at_ (fun j _ _ => set4_other _ _ _ _ _ _ _ (by omega)), b⟩
end
def roleOf (kind : Int) (k : Nat) : Int := if kind = 2 then 2 else min (k : Int) 1
def pHit (ci kind : Int) (pins : List Int) (net color role : Int) (k : Nat) : Bool := decide (ci = color) && (decide (pins.getD k 0 = net) && decide (roleOf kind k = role))
def pTo (ci kind : Int) (pins : List Int) (net color role : Int) (k : Nat) : List Int := (List.range k).flatMap fun j => if pHit ci kind pins net color role j = true then [color, role] else []
def dAt (ds : List Dv) (j : Nat) : Dv := ds.getD j ⟨0, [], 0, 0⟩
def dTo (ds : List Dv) (cs : List Int) (net color role : Int) (i : Nat) : List Int := (List.range i).flatMap fun j : Nat => pTo (nmOf cs (j : Int)) (dAt ds j).kind (dAt ds j).pins net color role (dAt ds j).pins.length
def rTo (ds : List Dv) (cs : List Int) (net color : Int) (r : Nat) : List Int := (List.range r).flatMap fun j : Nat => dTo ds cs net color (j : Int) ds.length
def cTo (ds : List Dv) (cs : List Int) (net : Int) (c : Nat) : List Int := (List.range c).flatMap fun j : Nat => rTo ds cs net (j : Int) 3
def netL' (x : Nl) (c : List Int × List Int) (net : Int) : List Int := [nmOf c.1 net] ++ cTo x.ds c.2 net 24
theorem flat_succ {α : Type} (f : Nat → List α) (k : Nat) : (List.range (k + 1)).flatMap f = (List.range k).flatMap f ++ f k := by
  rw [List.range_succ, List.flatMap_append]; simp
theorem flat_len {α : Type} (f : Nat → List α) (b n : Nat) (h : ∀ j, j < n → (f j).length ≤ b) : ((List.range n).flatMap f).length ≤ n * b := by
  induction n with
  | zero => simp
  | succ n ih =>
    rw [flat_succ, List.length_append, Nat.succ_mul]
    have := ih (fun j hj => h j (by omega))
    have := h n (by omega)
    omega
theorem pTo_len (ci kind : Int) (pins : List Int) (net color role : Int) (k : Nat) : (pTo ci kind pins net color role k).length ≤ k * 2 := flat_len _ 2 k (fun j _ => by split <;> simp)
theorem dTo_len {ds : List Dv} (hp : ∀ d ∈ ds, d.pins.length ≤ 3) (cs : List Int) (net color role : Int) (i : Nat) : (dTo ds cs net color role i).length ≤ i * 6 := flat_len _ 6 i (fun (j : Nat) _ => by
  have h := pTo_len (nmOf cs (j : Int)) (dAt ds j).kind (dAt ds j).pins net color role (dAt ds j).pins.length
  have h3 : (dAt ds j).pins.length ≤ 3 := by
    unfold dAt
    rw [List.getD_eq_getElem?_getD]
    cases e : ds[j]? with
    | none => simp
    | some d => exact hp d (List.mem_of_getElem? e)
  omega)
theorem rTo_len {ds : List Dv} (hp : ∀ d ∈ ds, d.pins.length ≤ 3) (cs : List Int) (net color : Int) (r : Nat) : (rTo ds cs net color r).length ≤ r * (ds.length * 6) := flat_len _ _ r (fun j _ => dTo_len hp _ _ _ _ _)
theorem cTo_len {ds : List Dv} (hp : ∀ d ∈ ds, d.pins.length ≤ 3) (cs : List Int) (net : Int) (c : Nat) : (cTo ds cs net c).length ≤ c * (3 * (ds.length * 6)) := flat_len _ _ c (fun j _ => rTo_len hp _ _ _ _)
/- The signature of a net: the reference's grouped pairs are the sorted pairs. -/
def occD (ci kind : Int) (pins : List Int) (net : Int) (k : Nat) : List (List Int) := (List.range k).flatMap fun j => if pins.getD j 0 = net then [[ci, roleOf kind j]] else []
def occs (ds : List Dv) (cs : List Int) (net : Int) (i : Nat) : List (List Int) := (List.range i).flatMap fun j : Nat => occD (nmOf cs (j : Int)) (dAt ds j).kind (dAt ds j).pins net (dAt ds j).pins.length
theorem occD_succ (ci kind : Int) (pins : List Int) (net : Int) (k : Nat) : occD ci kind pins net (k + 1) = occD ci kind pins net k ++ (if pins.getD k 0 = net then [[ci, roleOf kind k]] else []) := flat_succ _ k
theorem occs_succ (ds : List Dv) (cs : List Int) (net : Int) (i : Nat) (d : Dv) (h : ds[i]? = some d) : occs ds cs net (i + 1) = occs ds cs net i ++ occD (nmOf cs (i : Int)) d.kind d.pins net d.pins.length := by
  unfold occs
  rw [flat_succ]
  simp [dAt, List.getD_eq_getElem?_getD, h]
theorem occD_len (ci kind : Int) (pins : List Int) (net : Int) (k : Nat) : (occD ci kind pins net k).length ≤ k * 1 := flat_len _ 1 k (fun j _ => by split <;> simp)
theorem occs_len {ds : List Dv} (hp : ∀ d ∈ ds, d.pins.length ≤ 3) (cs : List Int) (net : Int) (i : Nat) : (occs ds cs net i).length ≤ i * 3 := flat_len _ 3 i (fun (j : Nat) _ => by
  have h := occD_len (nmOf cs (j : Int)) (dAt ds j).kind (dAt ds j).pins net (dAt ds j).pins.length
  have h3 : (dAt ds j).pins.length ≤ 3 := by
    unfold dAt
    rw [List.getD_eq_getElem?_getD]
    cases e : ds[j]? with
    | none => simp
    | some d => exact hp d (List.mem_of_getElem? e)
  omega)
theorem flat_filter (f : Nat → List (List Int)) (p : List Int → Bool) (n : Nat) : (((List.range n).flatMap f).filter p).flatten = (List.range n).flatMap fun j => ((f j).filter p).flatten := by
  induction n with
  | zero => simp
  | succ n ih => rw [flat_succ, flat_succ, List.filter_append, List.flatten_append, ih]
theorem flat_flat (f : Nat → List (List Int)) (n : Nat) : ((List.range n).flatMap f).flatten = (List.range n).flatMap fun j => (f j).flatten := by
  induction n with
  | zero => simp
  | succ n ih => rw [flat_succ, flat_succ, List.flatten_append, ih]
theorem pTo_occ (ci kind : Int) (pins : List Int) (net q r : Int) (k : Nat) : pTo ci kind pins net q r k = ((occD ci kind pins net k).filter fun o => decide (o = [q, r])).flatten := by
  unfold pTo occD
  rw [flat_filter]
  congr 1
  funext j
  unfold pHit
  by_cases h1 : pins.getD j 0 = net
  · by_cases h2 : ci = q <;> by_cases h3 : roleOf kind j = r <;> simp only [h1, h2, h3, if_true, decide_true, decide_false, Bool.and_true, Bool.and_false, Bool.false_eq_true, if_false, List.filter_cons, List.filter_nil] <;> simp [h2, h3]
  · simp only [h1, decide_false, Bool.false_and, Bool.and_false, Bool.false_eq_true, if_false, List.filter_nil, List.flatten_nil]
theorem dTo_occ (ds : List Dv) (cs : List Int) (net q r : Int) (i : Nat) : dTo ds cs net q r i = ((occs ds cs net i).filter fun o => decide (o = [q, r])).flatten := by
  unfold dTo occs
  rw [flat_filter]
  congr 1
  funext j
  exact pTo_occ _ _ _ _ _ _ _
def grp (O : List (List Int)) (a b : Nat) : List (List Int) := (List.range a).flatMap fun q : Nat => (List.range b).flatMap fun r : Nat => O.filter fun o => decide (o = [(q : Int), (r : Int)])
theorem cTo_occ (ds : List Dv) (cs : List Int) (net : Int) (c : Nat) : cTo ds cs net c = (grp (occs ds cs net ds.length) c 3).flatten := by
  unfold cTo grp rTo
  rw [flat_flat]
  congr 1
  funext q
  rw [flat_flat]
  congr 1
  funext r
  exact dTo_occ _ _ _ _ _ _
theorem count_flat (f : Nat → List (List Int)) (a : List Int) (k c : Nat) (h1 : ∀ j, j ≠ k → (f j).count a = 0) (h2 : (f k).count a = c) (n : Nat) : ((List.range n).flatMap f).count a = if k < n then c else 0 := by
  induction n with
  | zero => simp
  | succ n ih =>
    rw [flat_succ, List.count_append, ih]
    by_cases e : n = k
    · subst e; simp [h2]
    · rw [h1 n e]
      by_cases h : k < n
      · rw [if_pos h, if_pos (by omega)]; simp
      · rw [if_neg h, if_neg (by omega)]
theorem mem_grp {O : List (List Int)} {a b : Nat} {o : List Int} (h : o ∈ grp O a b) : o ∈ O := by
  simp only [grp, List.mem_flatMap, List.mem_filter] at h
  obtain ⟨_, _, _, _, h, _⟩ := h
  exact h
theorem grp_perm (O : List (List Int)) (a b : Nat) (h : ∀ o ∈ O, ∃ q r : Nat, q < a ∧ r < b ∧ o = [(q : Int), (r : Int)]) : (grp O a b).Perm O := by
  rw [List.perm_iff_count]
  intro o
  by_cases ho : o ∈ O
  · obtain ⟨q, r, hq, hr, rfl⟩ := h o ho
    have hc : ∀ q' r' : Nat, (O.filter fun o => decide (o = [(q' : Int), (r' : Int)])).count [(q : Int), (r : Int)] = if q' = q ∧ r' = r then O.count [(q : Int), (r : Int)] else 0 := by
      intro q' r'
      by_cases e : q' = q ∧ r' = r
      · rw [if_pos e, e.1, e.2]
        exact List.count_filter (by simp)
      · rw [if_neg e]
        apply List.count_eq_zero.2
        intro hm
        have := (List.mem_filter.1 hm).2
        simp at this
        omega
    unfold grp
    rw [count_flat _ _ q (O.count [(q : Int), (r : Int)]) (fun j hj => ?_) ?_, if_pos hq]
    · rw [count_flat _ _ r (O.count [(q : Int), (r : Int)]) (fun i hi => by rw [hc, if_neg (by omega)]) (by rw [hc, if_pos ⟨rfl, rfl⟩]), if_pos hr]
    · rw [count_flat _ _ r 0 (fun i hi => by rw [hc, if_neg (by omega)]) (by rw [hc, if_neg (by omega)])]
      simp
  · rw [List.count_eq_zero.2 ho, List.count_eq_zero.2 (fun hm => ho (mem_grp hm))]
theorem lcmp_pair (a b c d : Int) (h : a < c ∨ a = c ∧ b ≤ d) : lcmp [a, b] [c, d] ≤ 0 := by
  rw [lcmp_cc, lcmp_cc, lcmp_nn]
  rcases sgn_cases a c with ⟨_, e⟩ | ⟨_, e⟩ | ⟨_, e⟩ <;> rcases sgn_cases b d with ⟨_, e'⟩ | ⟨_, e'⟩ | ⟨_, e'⟩ <;> rw [e, e'] <;> simp <;> omega
theorem grp_sorted (O : List (List Int)) (a b : Nat) : (grp O a b).Pairwise fun x y => lcmp x y ≤ 0 := by
  unfold grp
  rw [List.pairwise_flatMap]
  refine ⟨fun q _ => ?_, List.pairwise_lt_range.imp ?_⟩
  · rw [List.pairwise_flatMap]
    refine ⟨fun r _ => ?_, List.pairwise_lt_range.imp ?_⟩
    · refine List.pairwise_of_forall_mem_list fun x hx y hy => ?_
      have h1 := (List.mem_filter.1 hx).2
      have h2 := (List.mem_filter.1 hy).2
      simp at h1 h2
      subst h1
      subst h2
      rw [lcmp_self]
      simp
    · intro r r' hr x hx y hy
      have h1 := (List.mem_filter.1 hx).2
      have h2 := (List.mem_filter.1 hy).2
      simp at h1 h2
      subst h1
      subst h2
      exact lcmp_pair _ _ _ _ (.inr ⟨rfl, by omega⟩)
  · intro q q' hq x hx y hy
    simp only [List.mem_flatMap, List.mem_filter, decide_eq_true_eq] at hx hy
    obtain ⟨_, _, _, rfl⟩ := hx
    obtain ⟨_, _, _, rfl⟩ := hy
    exact lcmp_pair _ _ _ _ (.inl (by omega))
theorem netL_sorted (x : Nl) (c : List Int × List Int) (net : Int) (S : List (List Int)) (hS : S.Perm (occs x.ds c.2 net x.ds.length)) (hP : S.Pairwise fun a b => lcmp a b ≤ 0)
    (hO : ∀ o ∈ occs x.ds c.2 net x.ds.length, ∃ q r : Nat, q < 24 ∧ r < 3 ∧ o = [(q : Int), (r : Int)]) : [nmOf c.1 net] ++ S.flatten = netL' x c net := by
  have e : S = grp (occs x.ds c.2 net x.ds.length) 24 3 :=
    List.Perm.eq_of_pairwise (fun a b _ _ h1 h2 => (lcmp_zero a b).1 (by have := lcmp_flip a b; omega)) hP (grp_sorted _ _ _) (hS.trans (grp_perm _ _ _ hO).symm)
  rw [e]
  unfold netL'
  rw [cTo_occ]
/- The reference's l29Role and l29Net. -/
end Go.Proofs.YtifbffianbgeaaaGreat
