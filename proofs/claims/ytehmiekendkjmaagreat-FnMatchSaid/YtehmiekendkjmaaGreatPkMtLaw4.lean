/- Contracts and plain laws, part 4, for the statement's proof. -/
import Derived.Test.YtehmiekendkjmaaGreatPkMtLaw3
import Derived.Deep.DeepCutAuto
namespace Go.Proofs.YtehmiekendkjmaaGreat
open Go.RowKit
set_option linter.unusedVariables false
set_option linter.unusedSimpArgs false
def Small (x : Nl) : Prop := (-1 ≤ x.nets ∧ x.nets ≤ 25) ∧ x.ds.length ≤ 10 ∧ (∀ d ∈ x.ds, 1 ≤ d.pins.length ∧ d.pins.length ≤ 100) ∧ x.ps.length ≤ 100 ∧ ∀ p ∈ x.ps, p.ok
theorem Small.fits {x : Nl} (h : Small x) : Fits x.nets := by
  obtain ⟨⟨h1, h2⟩, _⟩ := h
  exact ⟨by omega, by omega⟩
def NlO (m : Nat) (w : World) (v : Value) (x : Nl) : Prop := ∃ s1 s2, v = .agg #[.int .i64 x.nets, s1, s2] ∧ (∃ lo hi, m ≤ lo ∧ OwnDs w lo hi s1 x.ds) ∧ ∃ lo hi, m ≤ lo ∧ OwnPs w lo hi s2 x.ps
section
variable {m : Nat} {w w' : World} {v : Value} {x : Nl}
theorem NlO.nl (h : NlO m w v x) : NlV w v x := by
  obtain ⟨s1, s2, e, ⟨l1, h1, r1, o1⟩, l2, h2, r2, o2⟩ := h
  exact ⟨s1, s2, e, o1.sl, o2.sl⟩
theorem NlO.by (hb : Below w.heap.size w w') (h : NlO m w v x) : NlO m w' v x := by
  obtain ⟨s1, s2, e, ⟨l1, h1, r1, o1⟩, l2, h2, r2, o2⟩ := h
  exact ⟨s1, s2, e, ⟨l1, h1, r1, o1.by hb⟩, l2, h2, r2, o2.by hb⟩
theorem NlO.past {lo hi : Nat} (hw : Within lo hi w w') (h : NlO m w v x) (hh : hi ≤ m) : NlO m w' v x := by
  obtain ⟨s1, s2, e, ⟨l1, h1, r1, o1⟩, l2, h2, r2, o2⟩ := h
  exact ⟨s1, s2, e, ⟨l1, h1, r1, o1.past hw (.inr (by omega))⟩, l2, h2, r2, o2.past hw (.inr (by omega))⟩
theorem NlO.low {m' : Nat} (h : NlO m w v x) (hm : m' ≤ m) : NlO m' w v x := by
  obtain ⟨s1, s2, e, ⟨l1, h1, r1, o1⟩, l2, h2, r2, o2⟩ := h
  exact ⟨s1, s2, e, ⟨l1, h1, by omega, o1⟩, l2, h2, by omega, o2⟩
end
theorem nlv_set3 {w : World} {r : Nat} {X : Int} {D P : Value} {ds : List Dv} {ps : List Pt} (v1 v2 v3 : Value) (h1 : ∃ lo hi, r < lo ∧ OwnDs w lo hi D ds) (h2 : ∃ lo hi, r < lo ∧ OwnPs w lo hi P ps) :
    NlO r (((w.setCell ⟨r, 0, none⟩ v1).setCell ⟨r, 1, none⟩ v2).setCell ⟨r, 2, none⟩ v3) (.agg #[.int .i64 X, D, P]) ⟨X, ds, ps⟩ := by
  obtain ⟨l1, h1', r1, o1⟩ := h1
  obtain ⟨l2, h2', r2, o2⟩ := h2
  exact ⟨D, P, rfl, ⟨l1, h1', by omega, (((o1.past (Within.off _) (by omega)).past (Within.off _) (by omega)).past (Within.off _) (by omega))⟩, l2, h2', by omega, (((o2.past (Within.off _) (by omega)).past (Within.off _) (by omega)).past (Within.off _) (by omega))⟩
set_option maxRecDepth 100000 in
set_option maxHeartbeats 16000000 in
theorem l27DrawNetlist_any (W0 : World) (g : Nat) (sv : Value) (n : Nat) (w : World) (hD : Src1 W0 g sv n w) :
    Calls Tryz.prog 30 #[.pointer (some ⟨g, 0, none⟩)] w fun e w' => ∃ (v : Value) (x : Nl), e = .returned v ∧ Hid (NlO w.heap.size w' v x) ∧ Hid (Small x) ∧ Hid (Src1 W0 g sv n w') ∧ Hid (Within g (g + 1) w w') := by
  have HN := Lib.hid (fun q w h hq => l01Next_any W0 g sv n q w h hq)
  have HDV := Lib.hid (fun w h => l27DrawValid_any W0 g sv n w h)
  have hgl := hD.lt
  have hW0 : W0.heap.size ≤ g := hD.1
  have HD := Lib.hid hD
  clear hD
  go_enter Tryz.func30, Tryz.ntmps30
  go_wp2_with fail
  refine (HDV.out _ (HD.out.by blwT)).mono ?_
  rintro e w1 ⟨⟨N, ds, ps⟩, dv, pv, lo, mid, hi, rfl, HBL1, HPL1, hb, hN, hdl, hdp, hpl, hpo, HD1, HW1⟩
  dsimp only at HBL1 HPL1 hN hdl hdp hpl hpo
  simp only [World.size_alloc] at hb
  obtain ⟨av, cv, rfl⟩ := HBL1.out.sized
  obtain ⟨pa, pc, rfl⟩ := HPL1.out.sized
  have kZ0 : Blk (w.alloc (.cells #[.int .i64 0, .slice none 0 0, .slice none 0 0] 27)) w.heap.size #[.int .i64 0, .slice none 0 0, .slice none 0 0] 27 := Blk.new _ rfl
  have hZ1 := HW1.out.blk kZ0 (by omega)
  have lZ1 := hZ1.lt
  have HWs := Lib.hid (((Within.refl g (g + 1) w).alloc (.cells #[.int .i64 0, .slice none 0 0, .slice none 0 0] 27)).on HW1.out)
  have hbA : Below w1.heap.size w1 (w1.alloc (.cells #[.int .i64 N, .slice av ds.length cv, .slice pa ps.length pc] 27)) := (Below.refl _ w1).alloc (Nat.le_refl _) _
  have k3 : Blk (w1.alloc (.cells #[.int .i64 N, .slice av ds.length cv, .slice pa ps.length pc] 27)) w1.heap.size #[.int .i64 N, .slice av ds.length cv, .slice pa ps.length pc] 27 := Blk.new _ rfl
  have HBL := Lib.hid (HBL1.out.by hbA)
  have HPL := Lib.hid (HPL1.out.by hbA)
  have HDs := Lib.hid (HD1.out.by hbA)
  have HZ := Lib.hid (Blk.by hbA hZ1)
  have HW := Lib.hid (HWs.out.alloc (.cells #[.int .i64 N, .slice av ds.length cv, .slice pa ps.length pc] 27))
  have hsA : w1.heap.size + 1 ≤ (w1.alloc (.cells #[.int .i64 N, .slice av ds.length cv, .slice pa ps.length pc] 27)).heap.size := by simp
  have HDP := Lib.hid hdp
  have HPO := Lib.hid hpo
  clear HBL1 HPL1 HD1 HW1 kZ0 hZ1 HWs hbA hdp hpo
  go_upto_region 2 with fail
  generalize w1.alloc (.cells #[.int .i64 N, .slice av ds.length cv, .slice pa ps.length pc] 27) = w2 at *
  obtain ⟨T, hT⟩ : ∃ T, w1.heap.size = T := ⟨_, rfl⟩
  rw [hT] at k3 hsA lZ1 hb
  (try rw [hT])
  clear hT
  go_wp2_with fail
  refine (HN.out _ _ HDs.out (by omega)).mono ?_
  rintro e w3 ⟨a, rfl, ha0, ha1, hD3, ho3⟩
  have HBL3 := Lib.hid (HBL.out.only ho3 (by omega))
  have HPL3 := Lib.hid (HPL.out.only ho3 (by omega))
  have HD3 := Lib.hid hD3
  have HW3 := Lib.hid (HW.out.on ho3.within)
  have HZ3 := Lib.hid (ho3.within.blk HZ.out (by omega))
  have k33 := ho3.within.blk k3 (by omega)
  have hs3 : w2.heap.size ≤ w3.heap.size := ho3.within.size
  have HSM : Hid (Small ⟨N, ds, ps⟩) := Lib.hid ⟨⟨by show -1 ≤ N; omega, by show N ≤ 25; omega⟩, by show ds.length ≤ 10; omega, fun d hd => by have := HDP.out d hd; omega, by show ps.length ≤ 100; omega, HPO.out⟩
  clear HBL HPL HDs HW HZ k3 hD3 ho3
  by_cases ha : 0 < a
  · have HDO : Hid (∃ lo hi, w.heap.size < lo ∧ OwnDs w3 lo hi (.slice av ds.length cv) ds) := Lib.hid ⟨lo, mid, by omega, HBL3.out.own⟩
    have HPO2 : Hid (∃ lo hi, w.heap.size < lo ∧ OwnPs w3 lo hi (.slice pa ps.length pc) ps) := Lib.hid ⟨mid, hi, by omega, HPL3.out.own⟩
    have kE := k33
    have HZE := HZ3
    have HDE := HD3
    have HWE := HW3
    have cT := kE.cell
    have lT := kE.lt
    have kZE := HZE.out
    have cZ := kZE.cell
    have fZ := kZE.free
    have lZ := kZE.lt
    go_wp2
    refine bodyPost_ret (v := .agg #[.int .i64 N, .slice av ds.length cv, .slice pa ps.length pc]) (by simp [results, Tryz.results30, go_sem, *]) rfl ?_
    exact ⟨_, ⟨N, ds, ps⟩, rfl, Lib.hid (nlv_set3 _ _ _ HDO.out HPO2.out), HSM, Lib.hid (((HDE.out.apart (by omega) (by omega)).apart (by omega) (by omega)).apart (by omega) (by omega)), Lib.hid (((HWE.out.new _ _ _ (by omega)).new _ _ _ (by omega)).new _ _ _ (by omega))⟩
  have c3 := k33.cell
  have l3 := k33.lt
  go_upto_region 4 with fail
  go_cut [4] (fun s wx => ∃ q : Nat, s = .int .i64 (q : Int) ∧ (0 < ds.length → q < ds.length) ∧ Hid (Src1 W0 g sv n wx) ∧ Hid (Only g w3 wx))
  case first =>
    go_wp2_with fail
    all_goals
      refine (HN.out _ _ HD3.out (by omega)).mono ?_
      rintro e w4 ⟨q, rfl, hq0, hq1, hD4, ho4⟩
      obtain ⟨Q, rfl⟩ : ∃ Q : Nat, q = Q := ⟨q.toNat, by omega⟩
      go_wp2
      go_meet
      exact ⟨Q, rfl, by omega, Lib.hid hD4, Lib.hid ho4⟩
  case rest =>
    obtain ⟨q, rfl, hq, HD4, HO4⟩ := hcut
    have HBL4 := Lib.hid (HBL3.out.only HO4.out (by omega))
    have HPL4 := Lib.hid (HPL3.out.only HO4.out (by omega))
    have HW4 := Lib.hid (HW3.out.on HO4.out.within)
    have HZ4 := Lib.hid (HO4.out.within.blk HZ3.out (by omega))
    have k34 := HO4.out.within.blk k33 (by omega)
    have hs4 : w3.heap.size ≤ wc.heap.size := HO4.out.within.size
    clear HBL3 HPL3 HW3 HZ3 k33 HD3 c3 l3 HO4
    have c3 := k34.cell
    have l3 := k34.lt
    go_wp2_with fail
    refine (HN.out _ _ HD4.out (by omega)).mono ?_
    rintro e w5 ⟨y, rfl, hy0, hy1, hD5, ho5⟩
    have HBL := Lib.hid (HBL4.out.only ho5 (by omega))
    have HPL := Lib.hid (HPL4.out.only ho5 (by omega))
    have HD5 := Lib.hid hD5
    have HW := Lib.hid (HW4.out.on ho5.within)
    have HZ := Lib.hid (ho5.within.blk HZ4.out (by omega))
    have k35 := ho5.within.blk k34 (by omega)
    have hs5 : wc.heap.size ≤ w5.heap.size := ho5.within.size
    clear HBL4 HPL4 HD4 HW4 HZ4 k34 hD5 ho5 c3 l3
    have c3 := k35.cell
    have l3 := k35.lt
    rcases (by omega : y = 0 ∨ y = 1 ∨ y = 2 ∨ y = 3 ∨ y = 4 ∨ y = 5 ∨ y = 6) with rfl | rfl | rfl | rfl | rfl | rfl | rfl
    · go_upto_region 23 with (go_at_call 32; refine (HN.out _ _ (HD5.out.by blwT) (by omega)).mono ?_; rintro e w6 ⟨z, rfl, hz0, hz1, hD6, ho6⟩; have HD6 := Lib.hid hD6; have hW6 := ho6.within; have kL0 : Blk (w5.alloc (.cells #[.int .i64 (-1), .int .i64 0, .int .i64 24, .int .i64 25] 2)) w5.heap.size #[.int .i64 (-1), .int .i64 0, .int .i64 24, .int .i64 25] 2 := Blk.new _ rfl; have kL6 := hW6.blk kL0 (by omega); have k36 := hW6.blk (k35.past _) (by omega); have f36 := k36.free; have c36 := k36.cell; have l36 := k36.lt; (obtain ⟨Z, rfl⟩ : ∃ Z : Nat, z = Z := ⟨z.toNat, by omega⟩); have hZi : (Z : Int) < 4 := (by omega); have hZj : (0 : Int) ≤ (Z : Int) := (by omega); (obtain ⟨u, hu, hu1, hu2⟩ : ∃ u : Int, (#[.int .i64 (-1), .int .i64 0, .int .i64 24, .int .i64 25] : Array Value)[Z]? = some (.int .i64 u) ∧ -1 ≤ u ∧ u ≤ 25 := (by rcases (by omega : Z = 0 ∨ Z = 1 ∨ Z = 2 ∨ Z = 3) with rfl | rfl | rfl | rfl <;> exact ⟨_, rfl, by omega, by omega⟩)); rw [← kL6.cell] at hu; have lu := kL6.lt)
      have hbA : Below w5.heap.size w5 (w5.alloc (.cells #[.int .i64 (-1), .int .i64 0, .int .i64 24, .int .i64 25] 2)) := (Below.refl _ w5).alloc (Nat.le_refl _) _
      have hsA := hbA.size
      have hs6 := hW6.size
      have kE : Blk (w6.setCell ⟨T, 0, none⟩ (.int .i64 u)) T #[.int .i64 u, .slice av ds.length cv, .slice pa ps.length pc] 27 := k36.set 0 _
      have HZE := Lib.hid ((hW6.blk (Blk.by hbA HZ.out) (by omega)).apart T 0 (.int .i64 u) (by omega))
      have HDE := Lib.hid (HD6.out.apart (b := T) (o := 0) (v := .int .i64 u) (by omega) (by omega))
      have HWE := Lib.hid (((HW.out.alloc (.cells #[.int .i64 (-1), .int .i64 0, .int .i64 24, .int .i64 25] 2)).on hW6).new T 0 (.int .i64 u) (by omega))
      have HDO : Hid (∃ lo hi, w.heap.size < lo ∧ OwnDs (w6.setCell ⟨T, 0, none⟩ (.int .i64 u)) lo hi (.slice av ds.length cv) ds) := Lib.hid ⟨lo, mid, by omega, (((HBL.out.by hbA).past hW6 (.inl (by omega))).own.past (Within.off _) (.inl (by omega)))⟩
      have HPO2 : Hid (∃ lo hi, w.heap.size < lo ∧ OwnPs (w6.setCell ⟨T, 0, none⟩ (.int .i64 u)) lo hi (.slice pa ps.length pc) ps) := Lib.hid ⟨mid, hi, by omega, (((HPL.out.by hbA).past hW6 (.inl (by omega))).own.past (Within.off _) (.inl (by omega)))⟩
      have HSM2 : Hid (Small ⟨u, ds, ps⟩) := Lib.hid ⟨⟨hu1, hu2⟩, HSM.out.2⟩
      replace HSM := HSM2
      clear HSM2 k36 f36 c36 l36 hu lu kL0 kL6 c3 l3
      generalize w6.setCell ⟨T, 0, none⟩ (.int .i64 u) = wE at *
      have cT := kE.cell
      have lT := kE.lt
      have kZE := HZE.out
      have cZ := kZE.cell
      have fZ := kZE.free
      have lZ := kZE.lt
      go_wp2
      refine bodyPost_ret (v := .agg #[.int .i64 u, .slice av ds.length cv, .slice pa ps.length pc]) (by simp [results, Tryz.results30, go_sem, *]) rfl ?_
      exact ⟨_, ⟨u, ds, ps⟩, rfl, Lib.hid (nlv_set3 _ _ _ HDO.out HPO2.out), HSM, Lib.hid (((HDE.out.apart (by omega) (by omega)).apart (by omega) (by omega)).apart (by omega) (by omega)), Lib.hid (((HWE.out.new _ _ _ (by omega)).new _ _ _ (by omega)).new _ _ _ (by omega))⟩
    · go_upto_region 23 with (refine list_pushP (by rfl) _ _ (by rfl) mid hi (.slice pa ps.length pc) ps (by rfl) (HPL.out.by blwT) w5.heap.size ⟨⟨#[97]⟩, 0⟩ (by rfl) (Blk.new _ rfl) (by omega) (by omega) ?_; intro a6 c6 w6 hB6 hw6; have HB6 := Lib.hid hB6; have k36 := hw6.blk (k35.past (.cells #[.string ⟨#[97]⟩, .int .i64 0] 52)) (by omega); have f36 := k36.free; have c36 := k36.cell; have l36 := k36.lt; clear hB6)
      have hbA : Below w5.heap.size w5 (w5.alloc (.cells #[.string ⟨#[97]⟩, .int .i64 0] 52)) := (Below.refl _ w5).alloc (Nat.le_refl _) _
      have hsA := hbA.size
      have hs6 := hw6.size
      have kE : Blk (w6.setCell ⟨T, 2, none⟩ (.slice a6 (ps.length + 1) c6)) T #[.int .i64 N, .slice av ds.length cv, .slice a6 (ps.length + 1) c6] 27 := k36.set 2 _
      have HZE := Lib.hid ((hw6.blk (Blk.by hbA HZ.out) (by omega)).apart T 2 (.slice a6 (ps.length + 1) c6) (by omega))
      have HDE := Lib.hid ((Src1.within hw6 (HD5.out.by hbA) (by omega) (by omega)).apart (b := T) (o := 2) (v := .slice a6 (ps.length + 1) c6) (by omega) (by omega))
      have HWE := Lib.hid (((HW.out.alloc (.cells #[.string ⟨#[97]⟩, .int .i64 0] 52)).newerM hw6 (by omega)).new T 2 (.slice a6 (ps.length + 1) c6) (by omega))
      have HDO : Hid (∃ lo hi, w.heap.size < lo ∧ OwnDs (w6.setCell ⟨T, 2, none⟩ (.slice a6 (ps.length + 1) c6)) lo hi (.slice av ds.length cv) ds) := Lib.hid ⟨lo, mid, by omega, (((HBL.out.by hbA).past hw6 (.inr (by omega))).own.past (Within.off _) (.inl (by omega)))⟩
      have HPO2 : Hid (∃ lo hi, w.heap.size < lo ∧ OwnPs (w6.setCell ⟨T, 2, none⟩ (.slice a6 (ps.length + 1) c6)) lo hi (.slice a6 (ps.length + 1) c6) (ps ++ [⟨⟨#[97]⟩, 0⟩])) := Lib.hid ⟨mid, w6.heap.size, by omega, by simpa using HB6.out.own.offN (o := 2) (v := .slice a6 (ps.length + 1) c6) k36⟩
      have HSM2 : Hid (Small ⟨N, ds, ps ++ [⟨⟨#[97]⟩, 0⟩]⟩) := Lib.hid ⟨HSM.out.1, HSM.out.2.1, HSM.out.2.2.1, by have := hpl; simp; omega, by
        intro e he
        rcases List.mem_append.1 he with h | h
        · exact HPO.out e h
        · obtain rfl := List.mem_singleton.1 h
          exact ⟨by show (⟨#[97]⟩ : ByteArray).size ≤ _; decide, by show Fits 0; exact ⟨by omega, by omega⟩⟩⟩
      replace HSM := HSM2
      clear HSM2 k36 f36 c36 l36 c3 l3
      generalize w6.setCell ⟨T, 2, none⟩ (.slice a6 (ps.length + 1) c6) = wE at *
      have cT := kE.cell
      have lT := kE.lt
      have kZE := HZE.out
      have cZ := kZE.cell
      have fZ := kZE.free
      have lZ := kZE.lt
      go_wp2
      refine bodyPost_ret (v := .agg #[.int .i64 N, .slice av ds.length cv, .slice a6 (ps.length + 1) c6]) (by simp [results, Tryz.results30, go_sem, *]) rfl ?_
      exact ⟨_, ⟨N, ds, ps ++ [⟨⟨#[97]⟩, 0⟩]⟩, rfl, Lib.hid (nlv_set3 _ _ _ HDO.out HPO2.out), HSM, Lib.hid (((HDE.out.apart (by omega) (by omega)).apart (by omega) (by omega)).apart (by omega) (by omega)), Lib.hid (((HWE.out.new _ _ _ (by omega)).new _ _ _ (by omega)).new _ _ _ (by omega))⟩
    · go_upto_region 23 with (refine list_pushP (by rfl) _ _ (by rfl) mid hi (.slice pa ps.length pc) ps (by rfl) (HPL.out.by blwT) w5.heap.size ⟨⟨#[122, 122]⟩, N⟩ (by rfl) (Blk.new _ rfl) (by omega) (by omega) ?_; intro a6 c6 w6 hB6 hw6; have HB6 := Lib.hid hB6; have k36 := hw6.blk (k35.past (.cells #[.string ⟨#[122, 122]⟩, .int .i64 N] 52)) (by omega); have f36 := k36.free; have c36 := k36.cell; have l36 := k36.lt; clear hB6)
      have hbA : Below w5.heap.size w5 (w5.alloc (.cells #[.string ⟨#[122, 122]⟩, .int .i64 N] 52)) := (Below.refl _ w5).alloc (Nat.le_refl _) _
      have hsA := hbA.size
      have hs6 := hw6.size
      have kE : Blk (w6.setCell ⟨T, 2, none⟩ (.slice a6 (ps.length + 1) c6)) T #[.int .i64 N, .slice av ds.length cv, .slice a6 (ps.length + 1) c6] 27 := k36.set 2 _
      have HZE := Lib.hid ((hw6.blk (Blk.by hbA HZ.out) (by omega)).apart T 2 (.slice a6 (ps.length + 1) c6) (by omega))
      have HDE := Lib.hid ((Src1.within hw6 (HD5.out.by hbA) (by omega) (by omega)).apart (b := T) (o := 2) (v := .slice a6 (ps.length + 1) c6) (by omega) (by omega))
      have HWE := Lib.hid (((HW.out.alloc (.cells #[.string ⟨#[122, 122]⟩, .int .i64 N] 52)).newerM hw6 (by omega)).new T 2 (.slice a6 (ps.length + 1) c6) (by omega))
      have HDO : Hid (∃ lo hi, w.heap.size < lo ∧ OwnDs (w6.setCell ⟨T, 2, none⟩ (.slice a6 (ps.length + 1) c6)) lo hi (.slice av ds.length cv) ds) := Lib.hid ⟨lo, mid, by omega, (((HBL.out.by hbA).past hw6 (.inr (by omega))).own.past (Within.off _) (.inl (by omega)))⟩
      have HPO2 : Hid (∃ lo hi, w.heap.size < lo ∧ OwnPs (w6.setCell ⟨T, 2, none⟩ (.slice a6 (ps.length + 1) c6)) lo hi (.slice a6 (ps.length + 1) c6) (ps ++ [⟨⟨#[122, 122]⟩, N⟩])) := Lib.hid ⟨mid, w6.heap.size, by omega, by simpa using HB6.out.own.offN (o := 2) (v := .slice a6 (ps.length + 1) c6) k36⟩
      have HSM2 : Hid (Small ⟨N, ds, ps ++ [⟨⟨#[122, 122]⟩, N⟩]⟩) := Lib.hid ⟨HSM.out.1, HSM.out.2.1, HSM.out.2.2.1, by have := hpl; simp; omega, by
        intro e he
        rcases List.mem_append.1 he with h | h
        · exact HPO.out e h
        · obtain rfl := List.mem_singleton.1 h
          exact ⟨by show (⟨#[122, 122]⟩ : ByteArray).size ≤ _; decide, by show Fits N; exact ⟨by omega, by omega⟩⟩⟩
      replace HSM := HSM2
      clear HSM2 k36 f36 c36 l36 c3 l3
      generalize w6.setCell ⟨T, 2, none⟩ (.slice a6 (ps.length + 1) c6) = wE at *
      have cT := kE.cell
      have lT := kE.lt
      have kZE := HZE.out
      have cZ := kZE.cell
      have fZ := kZE.free
      have lZ := kZE.lt
      go_wp2
      refine bodyPost_ret (v := .agg #[.int .i64 N, .slice av ds.length cv, .slice a6 (ps.length + 1) c6]) (by simp [results, Tryz.results30, go_sem, *]) rfl ?_
      exact ⟨_, ⟨N, ds, ps ++ [⟨⟨#[122, 122]⟩, N⟩]⟩, rfl, Lib.hid (nlv_set3 _ _ _ HDO.out HPO2.out), HSM, Lib.hid (((HDE.out.apart (by omega) (by omega)).apart (by omega) (by omega)).apart (by omega) (by omega)), Lib.hid (((HWE.out.new _ _ _ (by omega)).new _ _ _ (by omega)).new _ _ _ (by omega))⟩
    · go_upto_region 23 with (refine list_pushD (by rfl) _ _ (by rfl) lo mid (.slice av ds.length cv) ds (by rfl) (HBL.out.by blwT) (w5.heap.size + 1) ⟨2, [0, 0], 2, 2⟩ _ w5.heap.size (by first | rfl | (simp; done)) (Blk.new _ (by simp)) (BldI.lit (zs := [0, 0]) ((Blk.new _ rfl).past _) rfl (by simp) (Nat.le_refl _) (Nat.lt_succ_self _) (by simp)) (by omega) (by omega) (by simp; omega) (by omega) ?_; intro a6 c6 w6 hB6 hw6; have HB6 := Lib.hid hB6; have k36 := hw6.blk ((k35.past (.cells #[.int .i64 0, .int .i64 0] 2)).past (.cells #[.int .i64 2, .slice (some ⟨w5.heap.size, 0, none⟩) 2 2, .int .i64 2, .int .i64 2] 54)) (by omega); have f36 := k36.free; have c36 := k36.cell; have l36 := k36.lt; clear hB6)
      have hbA : Below w5.heap.size w5 ((w5.alloc (.cells #[.int .i64 0, .int .i64 0] 2)).alloc (.cells #[.int .i64 2, .slice (some ⟨w5.heap.size, 0, none⟩) 2 2, .int .i64 2, .int .i64 2] 54)) := ((Below.refl _ w5).alloc (Nat.le_refl _) _).alloc (by simp) _
      have hsA := hbA.size
      have hs6 := hw6.size
      have kE : Blk (w6.setCell ⟨T, 1, none⟩ (.slice a6 (ds.length + 1) c6)) T #[.int .i64 N, .slice a6 (ds.length + 1) c6, .slice pa ps.length pc] 27 := k36.set 1 _
      have HZE := Lib.hid ((hw6.blk (Blk.by hbA HZ.out) (by omega)).apart T 1 (.slice a6 (ds.length + 1) c6) (by omega))
      have HDE := Lib.hid ((Src1.within hw6 (HD5.out.by hbA) (by omega) (by omega)).apart (b := T) (o := 1) (v := .slice a6 (ds.length + 1) c6) (by omega) (by omega))
      have HWE := Lib.hid ((((HW.out.alloc (.cells #[.int .i64 0, .int .i64 0] 2)).alloc (.cells #[.int .i64 2, .slice (some ⟨w5.heap.size, 0, none⟩) 2 2, .int .i64 2, .int .i64 2] 54)).newerM hw6 (by omega)).new T 1 (.slice a6 (ds.length + 1) c6) (by omega))
      have HDO : Hid (∃ lo hi, w.heap.size < lo ∧ OwnDs (w6.setCell ⟨T, 1, none⟩ (.slice a6 (ds.length + 1) c6)) lo hi (.slice a6 (ds.length + 1) c6) (ds ++ [⟨2, [0, 0], 2, 2⟩])) := Lib.hid ⟨lo, w6.heap.size, by omega, by simpa using HB6.out.own.offN (o := 1) (v := .slice a6 (ds.length + 1) c6) k36⟩
      have HPO2 : Hid (∃ lo hi, w.heap.size < lo ∧ OwnPs (w6.setCell ⟨T, 1, none⟩ (.slice a6 (ds.length + 1) c6)) lo hi (.slice pa ps.length pc) ps) := Lib.hid ⟨mid, hi, by omega, (((HPL.out.by hbA).past hw6 (.inl (by omega))).own.past (Within.off _) (.inl (by omega)))⟩
      have HSM2 : Hid (Small ⟨N, ds ++ [⟨2, [0, 0], 2, 2⟩], ps⟩) := Lib.hid ⟨HSM.out.1, by simp; omega, by
        intro e he
        rcases List.mem_append.1 he with h | h
        · have := HDP.out e h; omega
        · obtain rfl := List.mem_singleton.1 h
          simp, HSM.out.2.2.2⟩
      replace HSM := HSM2
      clear HSM2 k36 f36 c36 l36 c3 l3
      generalize w6.setCell ⟨T, 1, none⟩ (.slice a6 (ds.length + 1) c6) = wE at *
      have cT := kE.cell
      have lT := kE.lt
      have kZE := HZE.out
      have cZ := kZE.cell
      have fZ := kZE.free
      have lZ := kZE.lt
      go_wp2
      refine bodyPost_ret (v := .agg #[.int .i64 N, .slice a6 (ds.length + 1) c6, .slice pa ps.length pc]) (by simp [results, Tryz.results30, go_sem, *]) rfl ?_
      exact ⟨_, ⟨N, ds ++ [⟨2, [0, 0], 2, 2⟩], ps⟩, rfl, Lib.hid (nlv_set3 _ _ _ HDO.out HPO2.out), HSM, Lib.hid (((HDE.out.apart (by omega) (by omega)).apart (by omega) (by omega)).apart (by omega) (by omega)), Lib.hid (((HWE.out.new _ _ _ (by omega)).new _ _ _ (by omega)).new _ _ _ (by omega))⟩
    · by_cases hdl : 0 < ds.length
      · have hdi : (0 : Int) < (ds.length : Int) := by omega
        have hql := hq hdl
        have hqi : (q : Int) < (ds.length : Int) := by omega
        have hqj : (0 : Int) ≤ (q : Int) := by omega
        obtain ⟨b, rfl, hb1, hb2⟩ := HBL.out.ad hdl
        obtain ⟨x, hx⟩ : ∃ x, ds[q]? = some x := ⟨ds[q]'(by omega), List.getElem?_eq_getElem _⟩
        go_upto_region 16 with fail
        go_region_law
          (go_simp; go_at_call 32; refine (HN.out _ _ (HD5.out.by blwT) (by omega)).mono ?_; rintro e w6 ⟨z, rfl, hz0, hz1, hD6, ho6⟩; have HD6 := Lib.hid hD6; have hW6 := ho6.within; have hs6 := hW6.size; have hs6' : w5.heap.size ≤ w6.heap.size := (by simp at hs6 <;> omega); have k36 := hW6.blk (Blk.by (w := w5) blwT k35) (by omega); have c36 := k36.cell; have l36 := k36.lt; have HZ6 := Lib.hid (hW6.blk (Blk.by (w := w5) blwT HZ.out) (by omega)); have HBL6 := Lib.hid ((HBL.out.by (w := w5) blwT).only ho6 (by omega)); have HPL6 := Lib.hid ((HPL.out.by (w := w5) blwT).only ho6 (by omega)); (obtain ⟨sx, e1, e2, e3, e4, hSx⟩ := HBL6.out.at q x hx); have fr := HBL6.out.fr hdl; have lX := lt_of_cell e1; (obtain ⟨Z, rfl⟩ : ∃ Z : Nat, z = Z := ⟨z.toNat, by omega⟩); have hZi : (Z : Int) < 3 := (by omega); have hZj : (0 : Int) ≤ (Z : Int) := (by omega); (obtain ⟨u, hu⟩ : ∃ u : Int, (#[.int .i64 0, .int .i64 1000000, .int .i64 1000001] : Array Value)[Z]? = some (.int .i64 u) := (by rcases (by omega : Z = 0 ∨ Z = 1 ∨ Z = 2) with rfl | rfl | rfl <;> exact ⟨_, rfl⟩)); (try (refine with_fact (p := Blk w6 w5.heap.size #[.int .i64 0, .int .i64 1000000, .int .i64 1000001] 2) (hW6.blk ?_ (by omega)) ?_; (focus ((repeat (first | (with_reducible assumption) | (with_reducible refine Blk.drewN ?_ _) | (with_reducible refine Blk.drew ?_) | ((with_reducible refine Blk.new _ ?_); focus (first | omega | (simp; done) | (simp; omega))) | (with_reducible refine Blk.past ?_ _) | ((with_reducible refine Blk.apart ?_ _ _ _ ?_); rotate_left; focus (first | omega | (simp; done) | (simp; omega))) | (with_reducible refine Blk.by (by assumption) ?_))); done)); intro kL6; have hu' : w6.cell? ⟨w5.heap.size, Z, none⟩ = some (.int .i64 u) := (by rw [kL6.cell]; exact hu); have lu := kL6.lt)); have HW6 := Lib.hid (HW.out.on (Within.onB g (g + 1) blwT hW6)); clear hW6 ho6 hD6; dsimp only at lX ⊢)
        all_goals
          go_upto_region 23 with fail
          first
            | (
               with_reducible refine atWorld (w6.setCell ⟨b, q * 4 + 2, none⟩ (.int .i64 u)) ?_
               have kE : Blk (w6.setCell ⟨b, q * 4 + 2, none⟩ (.int .i64 u)) T #[.int .i64 N, .slice (some ⟨b, 0, none⟩) ds.length cv, .slice pa ps.length pc] 27 := k36.apart b _ _ (by omega)
               have HZE : Hid (Blk (w6.setCell ⟨b, q * 4 + 2, none⟩ (.int .i64 u)) w.heap.size #[.int .i64 0, .slice none 0 0, .slice none 0 0] 27) := Lib.hid (HZ6.out.apart b _ _ (by omega))
               have HDE : Hid (Src1 W0 g sv n (w6.setCell ⟨b, q * 4 + 2, none⟩ (.int .i64 u))) := Lib.hid (HD6.out.apart (b := b) (by omega) (by omega))
               have HWE : Hid (Within g (g + 1) w (w6.setCell ⟨b, q * 4 + 2, none⟩ (.int .i64 u))) := Lib.hid (HW6.out.new b _ _ (by omega))
               have HDO : Hid (∃ lo hi, w.heap.size < lo ∧ OwnDs (w6.setCell ⟨b, q * 4 + 2, none⟩ (.int .i64 u)) lo hi (.slice (some ⟨b, 0, none⟩) ds.length cv) (ds.set q ⟨x.kind, x.pins, u, x.len⟩)) := Lib.hid ⟨lo, mid, by omega, by simpa using (HBL6.out.own.setNum q x hx 2 (u) ⟨x.kind, x.pins, u, x.len⟩ (by simp))⟩
               have HPO2 : Hid (∃ lo hi, w.heap.size < lo ∧ OwnPs (w6.setCell ⟨b, q * 4 + 2, none⟩ (.int .i64 u)) lo hi (.slice pa ps.length pc) ps) := Lib.hid ⟨mid, hi, by omega, HPL6.out.own.past (Within.off _) (.inr (by omega))⟩
               have HSM2 : Hid (Small ⟨N, ds.set q ⟨x.kind, x.pins, u, x.len⟩, ps⟩) := Lib.hid ⟨HSM.out.1, by simp; omega, by
                 intro e he
                 rcases List.mem_or_eq_of_mem_set he with h | rfl
                 · have := HDP.out e h; omega
                 · have := HDP.out x (List.mem_of_getElem? hx); show 1 ≤ x.pins.length ∧ x.pins.length ≤ 100; omega, HSM.out.2.2.2⟩
               replace HSM := HSM2
               clear HSM2 k36 c36 l36 c3 l3 e1 e2 e3 e4 hSx fr hx
               generalize (w6.setCell ⟨b, q * 4 + 2, none⟩ (.int .i64 u)) = wE at *
               have cT := kE.cell
               have lT := kE.lt
               have kZE := HZE.out
               have cZ := kZE.cell
               have fZ := kZE.free
               have lZ := kZE.lt
               go_wp2
               refine bodyPost_ret (v := .agg #[.int .i64 N, .slice (some ⟨b, 0, none⟩) ds.length cv, .slice pa ps.length pc]) (by simp [results, Tryz.results30, go_sem, *]) rfl ?_
               exact ⟨_, ⟨N, ds.set q ⟨x.kind, x.pins, u, x.len⟩, ps⟩, rfl, Lib.hid (nlv_set3 _ _ _ HDO.out HPO2.out), HSM, Lib.hid (((HDE.out.apart (by omega) (by omega)).apart (by omega) (by omega)).apart (by omega) (by omega)), Lib.hid (((HWE.out.new _ _ _ (by omega)).new _ _ _ (by omega)).new _ _ _ (by omega))⟩
              )
            | (
               with_reducible refine atWorld ((w6.setCell ⟨b, q * 4 + 2, none⟩ (.int .i64 u)).alloc (.cells #[.int .i64 0, .int .i64 1000000, .int .i64 1000001] 2)) ?_
               have kE : Blk ((w6.setCell ⟨b, q * 4 + 2, none⟩ (.int .i64 u)).alloc (.cells #[.int .i64 0, .int .i64 1000000, .int .i64 1000001] 2)) T #[.int .i64 N, .slice (some ⟨b, 0, none⟩) ds.length cv, .slice pa ps.length pc] 27 := (k36.apart b _ _ (by omega)).past _
               have HZE : Hid (Blk ((w6.setCell ⟨b, q * 4 + 2, none⟩ (.int .i64 u)).alloc (.cells #[.int .i64 0, .int .i64 1000000, .int .i64 1000001] 2)) w.heap.size #[.int .i64 0, .slice none 0 0, .slice none 0 0] 27) := Lib.hid ((HZ6.out.apart b _ _ (by omega)).past _)
               have HDE : Hid (Src1 W0 g sv n ((w6.setCell ⟨b, q * 4 + 2, none⟩ (.int .i64 u)).alloc (.cells #[.int .i64 0, .int .i64 1000000, .int .i64 1000001] 2))) := Lib.hid ((HD6.out.apart (b := b) (by omega) (by omega)).by ((Below.refl _ _).alloc (Nat.le_refl _) _))
               have HWE : Hid (Within g (g + 1) w ((w6.setCell ⟨b, q * 4 + 2, none⟩ (.int .i64 u)).alloc (.cells #[.int .i64 0, .int .i64 1000000, .int .i64 1000001] 2))) := Lib.hid ((HW6.out.new b _ _ (by omega)).alloc _)
               have HDO : Hid (∃ lo hi, w.heap.size < lo ∧ OwnDs ((w6.setCell ⟨b, q * 4 + 2, none⟩ (.int .i64 u)).alloc (.cells #[.int .i64 0, .int .i64 1000000, .int .i64 1000001] 2)) lo hi (.slice (some ⟨b, 0, none⟩) ds.length cv) (ds.set q ⟨x.kind, x.pins, u, x.len⟩)) := Lib.hid ⟨lo, mid, by omega, OwnDs.by ((Below.refl _ _).alloc (Nat.le_refl _) _) (by simpa using (HBL6.out.own.setNum q x hx 2 (u) ⟨x.kind, x.pins, u, x.len⟩ (by simp)))⟩
               have HPO2 : Hid (∃ lo hi, w.heap.size < lo ∧ OwnPs ((w6.setCell ⟨b, q * 4 + 2, none⟩ (.int .i64 u)).alloc (.cells #[.int .i64 0, .int .i64 1000000, .int .i64 1000001] 2)) lo hi (.slice pa ps.length pc) ps) := Lib.hid ⟨mid, hi, by omega, OwnPs.by ((Below.refl _ _).alloc (Nat.le_refl _) _) (HPL6.out.own.past (Within.off _) (.inr (by omega)))⟩
               have HSM2 : Hid (Small ⟨N, ds.set q ⟨x.kind, x.pins, u, x.len⟩, ps⟩) := Lib.hid ⟨HSM.out.1, by simp; omega, by
                 intro e he
                 rcases List.mem_or_eq_of_mem_set he with h | rfl
                 · have := HDP.out e h; omega
                 · have := HDP.out x (List.mem_of_getElem? hx); show 1 ≤ x.pins.length ∧ x.pins.length ≤ 100; omega, HSM.out.2.2.2⟩
               replace HSM := HSM2
               clear HSM2 k36 c36 l36 c3 l3 e1 e2 e3 e4 hSx fr hx
               generalize ((w6.setCell ⟨b, q * 4 + 2, none⟩ (.int .i64 u)).alloc (.cells #[.int .i64 0, .int .i64 1000000, .int .i64 1000001] 2)) = wE at *
               have cT := kE.cell
               have lT := kE.lt
               have kZE := HZE.out
               have cZ := kZE.cell
               have fZ := kZE.free
               have lZ := kZE.lt
               go_wp2
               refine bodyPost_ret (v := .agg #[.int .i64 N, .slice (some ⟨b, 0, none⟩) ds.length cv, .slice pa ps.length pc]) (by simp [results, Tryz.results30, go_sem, *]) rfl ?_
               exact ⟨_, ⟨N, ds.set q ⟨x.kind, x.pins, u, x.len⟩, ps⟩, rfl, Lib.hid (nlv_set3 _ _ _ HDO.out HPO2.out), HSM, Lib.hid (((HDE.out.apart (by omega) (by omega)).apart (by omega) (by omega)).apart (by omega) (by omega)), Lib.hid (((HWE.out.new _ _ _ (by omega)).new _ _ _ (by omega)).new _ _ _ (by omega))⟩
              )
      · have HDO : Hid (∃ lo hi, w.heap.size < lo ∧ OwnDs w5 lo hi (.slice av ds.length cv) ds) := Lib.hid ⟨lo, mid, by omega, HBL.out.own⟩
        have HPO2 : Hid (∃ lo hi, w.heap.size < lo ∧ OwnPs w5 lo hi (.slice pa ps.length pc) ps) := Lib.hid ⟨mid, hi, by omega, HPL.out.own⟩
        have kE := k35
        have HZE := HZ
        have HDE := HD5
        have HWE := HW
        have hdi : ¬ (0 : Int) < (ds.length : Int) := by omega
        have cT := kE.cell
        have lT := kE.lt
        have kZE := HZE.out
        have cZ := kZE.cell
        have fZ := kZE.free
        have lZ := kZE.lt
        go_wp2
        refine bodyPost_ret (v := .agg #[.int .i64 N, .slice av ds.length cv, .slice pa ps.length pc]) (by simp [results, Tryz.results30, go_sem, *]) rfl ?_
        exact ⟨_, ⟨N, ds, ps⟩, rfl, Lib.hid (nlv_set3 _ _ _ HDO.out HPO2.out), HSM, Lib.hid (((HDE.out.apart (by omega) (by omega)).apart (by omega) (by omega)).apart (by omega) (by omega)), Lib.hid (((HWE.out.new _ _ _ (by omega)).new _ _ _ (by omega)).new _ _ _ (by omega))⟩
    · by_cases hdl : 0 < ds.length
      · have hdi : (0 : Int) < (ds.length : Int) := by omega
        have hql := hq hdl
        have hqi : (q : Int) < (ds.length : Int) := by omega
        have hqj : (0 : Int) ≤ (q : Int) := by omega
        obtain ⟨b, rfl, hb1, hb2⟩ := HBL.out.ad hdl
        obtain ⟨x, hx⟩ : ∃ x, ds[q]? = some x := ⟨ds[q]'(by omega), List.getElem?_eq_getElem _⟩
        obtain ⟨f, pv, hBf, ep, hf12, hfb, HK⟩ := HBL.out.pinsAt q x hx
        obtain ⟨ap, cp, rfl⟩ := hBf.sized
        obtain ⟨cs, hBb⟩ := HBL.out.blkB hdl
        have HBF := Lib.hid hBf
        have HKK := Lib.hid HK
        have HBB := Lib.hid hBb
        have lb := lt_of_cell ep
        dsimp only at lb
        have hxp := HDP.out x (List.mem_of_getElem? hx)
        clear hBf HK hBb
        go_upto_region 19 with fail
        go_region_law
          (refine step_pushOne (by rfl) _ _ (by rfl) f _ x.pins [0] (by rfl) (HBF.out.by (w := w5) blwT) w5.heap.size 1 #[.int .i64 0] (by rfl) (by rfl) (by omega) blkT (by rfl) (by omega) ?_; intro a6 c6 w6 f2 hB6 hf6 hw6; have hB6' := Lib.hid hB6; have hs6 := hw6.size; have hs6' : w5.heap.size ≤ w6.heap.size := (by simp at hs6 <;> omega); have hf6' : f2 = f ∨ w5.heap.size ≤ f2 := (by simp at hf6 <;> omega); have k36 := hw6.blk (Blk.by (w := w5) blwT k35) (by omega); have c36 := k36.cell; have l36 := k36.lt; have kb6 := hw6.blk (Blk.by (w := w5) blwT HBB.out) (by omega); have fb6 := kb6.free; have eb6 : w6.cell? ⟨b, q * 4 + 1, none⟩ = some (.slice ap x.pins.length cp) := (by rw [kb6.cell]; rw [HBB.out.cell] at ep; exact ep); have lb6 := kb6.lt; have HZ6 := Lib.hid (hw6.blk (Blk.by (w := w5) blwT HZ.out) (by omega)); have HPL6 := Lib.hid (BldP.past hw6 (HPL.out.by (w := w5) blwT) (.inl (by omega))); have HD6 := Lib.hid (Src1.within hw6 (HD5.out.by (w := w5) blwT) (by omega) (by omega)); have HWo := Lib.hid (Within.onB f (f + 1) (a := w5) blwT hw6); clear hB6 hw6)
        all_goals
          go_upto_region 23 with fail
          have kE : Blk (w6.setCell ⟨b, q * 4 + 1, none⟩ (.slice a6 (x.pins.length + 1) c6)) T #[.int .i64 N, .slice (some ⟨b, 0, none⟩) ds.length cv, .slice pa ps.length pc] 27 := k36.apart b _ _ (by omega)
          have HZE : Hid (Blk (w6.setCell ⟨b, q * 4 + 1, none⟩ (.slice a6 (x.pins.length + 1) c6)) w.heap.size #[.int .i64 0, .slice none 0 0, .slice none 0 0] 27) := Lib.hid (HZ6.out.apart b _ _ (by omega))
          have HDE : Hid (Src1 W0 g sv n (w6.setCell ⟨b, q * 4 + 1, none⟩ (.slice a6 (x.pins.length + 1) c6))) := Lib.hid (HD6.out.apart (b := b) (by omega) (by omega))
          have HWE : Hid (Within g (g + 1) w (w6.setCell ⟨b, q * 4 + 1, none⟩ (.slice a6 (x.pins.length + 1) c6))) := Lib.hid ((HW.out.newerM HWo.out (by omega)).new b _ _ (by omega))
          have hl2 := hB6'.out.1
          have HDO : Hid (∃ lo hi, w.heap.size < lo ∧ OwnDs (w6.setCell ⟨b, q * 4 + 1, none⟩ (.slice a6 (x.pins.length + 1) c6)) lo hi (.slice (some ⟨b, 0, none⟩) ds.length cv) (ds.set q ⟨x.kind, x.pins ++ [0], x.wd, x.len⟩)) := Lib.hid ⟨lo, w6.heap.size, by omega, HKK.out w6 _ (x.pins ++ [0]) f2 w6.heap.size HWo.out (by omega) (by omega) (by omega) (by simpa using hB6'.out.own)⟩
          have HPO2 : Hid (∃ lo hi, w.heap.size < lo ∧ OwnPs (w6.setCell ⟨b, q * 4 + 1, none⟩ (.slice a6 (x.pins.length + 1) c6)) lo hi (.slice pa ps.length pc) ps) := Lib.hid ⟨mid, hi, by omega, HPL6.out.own.past (Within.off _) (.inr (by omega))⟩
          have HSM2 : Hid (Small ⟨N, ds.set q ⟨x.kind, x.pins ++ [0], x.wd, x.len⟩, ps⟩) := Lib.hid ⟨HSM.out.1, by simp; omega, by
            intro e he
            rcases List.mem_or_eq_of_mem_set he with h | rfl
            · have := HDP.out e h; omega
            · simp; omega, HSM.out.2.2.2⟩
          replace HSM := HSM2
          clear HSM2 k36 c36 l36 c3 l3 ep hx eb6 fb6 kb6
          generalize (w6.setCell ⟨b, q * 4 + 1, none⟩ (.slice a6 (x.pins.length + 1) c6)) = wE at *
          have cT := kE.cell
          have lT := kE.lt
          have kZE := HZE.out
          have cZ := kZE.cell
          have fZ := kZE.free
          have lZ := kZE.lt
          go_wp2
          refine bodyPost_ret (v := .agg #[.int .i64 N, .slice (some ⟨b, 0, none⟩) ds.length cv, .slice pa ps.length pc]) (by simp [results, Tryz.results30, go_sem, *]) rfl ?_
          exact ⟨_, ⟨N, ds.set q ⟨x.kind, x.pins ++ [0], x.wd, x.len⟩, ps⟩, rfl, Lib.hid (nlv_set3 _ _ _ HDO.out HPO2.out), HSM, Lib.hid (((HDE.out.apart (by omega) (by omega)).apart (by omega) (by omega)).apart (by omega) (by omega)), Lib.hid (((HWE.out.new _ _ _ (by omega)).new _ _ _ (by omega)).new _ _ _ (by omega))⟩
      · have HDO : Hid (∃ lo hi, w.heap.size < lo ∧ OwnDs w5 lo hi (.slice av ds.length cv) ds) := Lib.hid ⟨lo, mid, by omega, HBL.out.own⟩
        have HPO2 : Hid (∃ lo hi, w.heap.size < lo ∧ OwnPs w5 lo hi (.slice pa ps.length pc) ps) := Lib.hid ⟨mid, hi, by omega, HPL.out.own⟩
        have kE := k35
        have HZE := HZ
        have HDE := HD5
        have HWE := HW
        have hdi : ¬ (0 : Int) < (ds.length : Int) := by omega
        have cT := kE.cell
        have lT := kE.lt
        have kZE := HZE.out
        have cZ := kZE.cell
        have fZ := kZE.free
        have lZ := kZE.lt
        go_wp2
        refine bodyPost_ret (v := .agg #[.int .i64 N, .slice av ds.length cv, .slice pa ps.length pc]) (by simp [results, Tryz.results30, go_sem, *]) rfl ?_
        exact ⟨_, ⟨N, ds, ps⟩, rfl, Lib.hid (nlv_set3 _ _ _ HDO.out HPO2.out), HSM, Lib.hid (((HDE.out.apart (by omega) (by omega)).apart (by omega) (by omega)).apart (by omega) (by omega)), Lib.hid (((HWE.out.new _ _ _ (by omega)).new _ _ _ (by omega)).new _ _ _ (by omega))⟩
    · by_cases hdl : 0 < ds.length
      · have hdi : (0 : Int) < (ds.length : Int) := by omega
        have hql := hq hdl
        have hqi : (q : Int) < (ds.length : Int) := by omega
        have hqj : (0 : Int) ≤ (q : Int) := by omega
        obtain ⟨b, rfl, hb1, hb2⟩ := HBL.out.ad hdl
        obtain ⟨x, hx⟩ : ∃ x, ds[q]? = some x := ⟨ds[q]'(by omega), List.getElem?_eq_getElem _⟩
        go_upto_region 22 with fail
        go_region_law
          (go_simp; go_at_call 32; refine (HN.out _ _ (HD5.out.by blwT) (by omega)).mono ?_; rintro e w6 ⟨z, rfl, hz0, hz1, hD6, ho6⟩; have HD6 := Lib.hid hD6; have hW6 := ho6.within; have hs6 := hW6.size; have hs6' : w5.heap.size ≤ w6.heap.size := (by simp at hs6 <;> omega); have k36 := hW6.blk (Blk.by (w := w5) blwT k35) (by omega); have c36 := k36.cell; have l36 := k36.lt; have HZ6 := Lib.hid (hW6.blk (Blk.by (w := w5) blwT HZ.out) (by omega)); have HBL6 := Lib.hid ((HBL.out.by (w := w5) blwT).only ho6 (by omega)); have HPL6 := Lib.hid ((HPL.out.by (w := w5) blwT).only ho6 (by omega)); (obtain ⟨sx, e1, e2, e3, e4, hSx⟩ := HBL6.out.at q x hx); have fr := HBL6.out.fr hdl; have lX := lt_of_cell e1; have wz : IntKind.i64.wrap (4 * z) = 4 * z := (by simp [IntKind.wrap, IntKind.bits, IntKind.signed]; omega); have wz2 : IntKind.i64.wrap (3 - 4 * z) = 3 - 4 * z := (by simp [IntKind.wrap, IntKind.bits, IntKind.signed]; omega); have HW6 := Lib.hid (HW.out.on (Within.onB g (g + 1) blwT hW6)); clear hW6 ho6 hD6; dsimp only at lX ⊢)
        all_goals
          go_upto_region 23 with fail
          with_reducible refine atWorld (w6.setCell ⟨b, q * 4, none⟩ (.int .i64 (3 - 4 * z))) ?_
          have kE : Blk (w6.setCell ⟨b, q * 4, none⟩ (.int .i64 (3 - 4 * z))) T #[.int .i64 N, .slice (some ⟨b, 0, none⟩) ds.length cv, .slice pa ps.length pc] 27 := k36.apart b _ _ (by omega)
          have HZE : Hid (Blk (w6.setCell ⟨b, q * 4, none⟩ (.int .i64 (3 - 4 * z))) w.heap.size #[.int .i64 0, .slice none 0 0, .slice none 0 0] 27) := Lib.hid (HZ6.out.apart b _ _ (by omega))
          have HDE : Hid (Src1 W0 g sv n (w6.setCell ⟨b, q * 4, none⟩ (.int .i64 (3 - 4 * z)))) := Lib.hid (HD6.out.apart (b := b) (by omega) (by omega))
          have HWE : Hid (Within g (g + 1) w (w6.setCell ⟨b, q * 4, none⟩ (.int .i64 (3 - 4 * z)))) := Lib.hid (HW6.out.new b _ _ (by omega))
          have HDO : Hid (∃ lo hi, w.heap.size < lo ∧ OwnDs (w6.setCell ⟨b, q * 4, none⟩ (.int .i64 (3 - 4 * z))) lo hi (.slice (some ⟨b, 0, none⟩) ds.length cv) (ds.set q ⟨3 - 4 * z, x.pins, x.wd, x.len⟩)) := Lib.hid ⟨lo, mid, by omega, by simpa using (HBL6.out.own.setNum q x hx 0 ((3 - 4 * z)) ⟨3 - 4 * z, x.pins, x.wd, x.len⟩ (by simp))⟩
          have HPO2 : Hid (∃ lo hi, w.heap.size < lo ∧ OwnPs (w6.setCell ⟨b, q * 4, none⟩ (.int .i64 (3 - 4 * z))) lo hi (.slice pa ps.length pc) ps) := Lib.hid ⟨mid, hi, by omega, HPL6.out.own.past (Within.off _) (.inr (by omega))⟩
          have HSM2 : Hid (Small ⟨N, ds.set q ⟨3 - 4 * z, x.pins, x.wd, x.len⟩, ps⟩) := Lib.hid ⟨HSM.out.1, by simp; omega, by
            intro e he
            rcases List.mem_or_eq_of_mem_set he with h | rfl
            · have := HDP.out e h; omega
            · have := HDP.out x (List.mem_of_getElem? hx); show 1 ≤ x.pins.length ∧ x.pins.length ≤ 100; omega, HSM.out.2.2.2⟩
          replace HSM := HSM2
          clear HSM2 k36 c36 l36 c3 l3 e1 e2 e3 e4 hSx fr hx
          generalize (w6.setCell ⟨b, q * 4, none⟩ (.int .i64 (3 - 4 * z))) = wE at *
          have cT := kE.cell
          have lT := kE.lt
          have kZE := HZE.out
          have cZ := kZE.cell
          have fZ := kZE.free
          have lZ := kZE.lt
          go_wp2
          refine bodyPost_ret (v := .agg #[.int .i64 N, .slice (some ⟨b, 0, none⟩) ds.length cv, .slice pa ps.length pc]) (by simp [results, Tryz.results30, go_sem, *]) rfl ?_
          exact ⟨_, ⟨N, ds.set q ⟨3 - 4 * z, x.pins, x.wd, x.len⟩, ps⟩, rfl, Lib.hid (nlv_set3 _ _ _ HDO.out HPO2.out), HSM, Lib.hid (((HDE.out.apart (by omega) (by omega)).apart (by omega) (by omega)).apart (by omega) (by omega)), Lib.hid (((HWE.out.new _ _ _ (by omega)).new _ _ _ (by omega)).new _ _ _ (by omega))⟩
      · have HDO : Hid (∃ lo hi, w.heap.size < lo ∧ OwnDs w5 lo hi (.slice av ds.length cv) ds) := Lib.hid ⟨lo, mid, by omega, HBL.out.own⟩
        have HPO2 : Hid (∃ lo hi, w.heap.size < lo ∧ OwnPs w5 lo hi (.slice pa ps.length pc) ps) := Lib.hid ⟨mid, hi, by omega, HPL.out.own⟩
        have kE := k35
        have HZE := HZ
        have HDE := HD5
        have HWE := HW
        have hdi : ¬ (0 : Int) < (ds.length : Int) := by omega
        have cT := kE.cell
        have lT := kE.lt
        have kZE := HZE.out
        have cZ := kZE.cell
        have fZ := kZE.free
        have lZ := kZE.lt
        go_wp2
        refine bodyPost_ret (v := .agg #[.int .i64 N, .slice av ds.length cv, .slice pa ps.length pc]) (by simp [results, Tryz.results30, go_sem, *]) rfl ?_
        exact ⟨_, ⟨N, ds, ps⟩, rfl, Lib.hid (nlv_set3 _ _ _ HDO.out HPO2.out), HSM, Lib.hid (((HDE.out.apart (by omega) (by omega)).apart (by omega) (by omega)).apart (by omega) (by omega)), Lib.hid (((HWE.out.new _ _ _ (by omega)).new _ _ _ (by omega)).new _ _ _ (by omega))⟩
/- The draw of a netlist, often a ring of resistors. -/
theorem Only.within9 {g : Nat} {w w' : World} (h : Only g w w') : Within g (g + 1) w w' := ⟨h.os, h.tape, h.output, Nat.le_of_eq h.size.symm, fun k _ hne => h.block k (by omega)⟩
structure L9 (W0 : World) (g : Nat) (sv : Value) (n : Nat) (w : World) (T : Nat) (N : Int) (s1 s2 : Value) (ds : List Dv) (ps : List Pt) (wx : World) : Prop where
  src : Src1 W0 g sv n wx
  t : Blk wx T #[.int .i64 N, s1, s2] 27
  r : Blk wx w.heap.size #[.int .i64 0, .slice none 0 0, .slice none 0 0] 27
  ds : ∃ lo hi, w.heap.size < lo ∧ OwnDs wx lo hi s1 ds
  ps : ∃ lo hi, w.heap.size < lo ∧ OwnPs wx lo hi s2 ps
  wi : Within g (g + 1) w wx
theorem L9.only {W0 w wx wy : World} {g n T : Nat} {sv s1 s2 : Value} {N : Int} {ds : List Dv} {ps : List Pt} (h : L9 W0 g sv n w T N s1 s2 ds ps wx) (ho : Only g wx wy) (hD : Src1 W0 g sv n wy) (hg : g < w.heap.size) (hT : w.heap.size < T) : L9 W0 g sv n w T N s1 s2 ds ps wy := by
  obtain ⟨l1, h1, a1, o1⟩ := h.ds
  obtain ⟨l2, h2, a2, o2⟩ := h.ps
  exact ⟨hD, ho.blk h.t (by omega), ho.blk h.r (by omega), ⟨l1, h1, a1, o1.past ho.within9 (.inr (by omega))⟩, ⟨l2, h2, a2, o2.past ho.within9 (.inr (by omega))⟩, h.wi.on ho.within9⟩
theorem BldD0 (w : World) : Bld w w.heap.size w.heap.size (.slice none 0 0) [] := Bld.nil w _
theorem Within.ofB {lo hi : Nat} {a w w' : World} (h : Within lo hi a w) (hb : Below w.heap.size w w') : Within lo hi a w' :=
  ⟨hb.os.trans h.os, hb.tape.trans h.tape, hb.output.trans h.output, Nat.le_trans h.size hb.size, fun k hk hne => (hb.block k (Nat.lt_of_lt_of_le hk h.size)).trans (h.block k hk hne)⟩
theorem Within.newerL {a w w' : World} {lo hi lo' hi' : Nat} (h : Within lo hi a w) (h' : Within lo' hi' w w') (hl : a.heap.size ≤ lo') : Within lo hi a w' :=
  ⟨h'.os.trans h.os, h'.tape.trans h.tape, h'.output.trans h.output, Nat.le_trans h.size h'.size, fun k hk hne => (h'.block k (Nat.lt_of_lt_of_le hk h.size) (.inl (by omega))).trans (h.block k hk hne)⟩
theorem L9.fin {W0 w wx : World} {g n T : Nat} {sv s1 s2 : Value} {N : Int} {ds : List Dv} {ps : List Pt} (h : L9 W0 g sv n w T N s1 s2 ds ps wx) (hg : g < w.heap.size) (h0 : W0.heap.size ≤ g) (v1 v2 v3 : Value) :
    NlO w.heap.size (((wx.setCell ⟨w.heap.size, 0, none⟩ v1).setCell ⟨w.heap.size, 1, none⟩ v2).setCell ⟨w.heap.size, 2, none⟩ v3) (.agg #[.int .i64 N, s1, s2]) ⟨N, ds, ps⟩ ∧ Src1 W0 g sv n (((wx.setCell ⟨w.heap.size, 0, none⟩ v1).setCell ⟨w.heap.size, 1, none⟩ v2).setCell ⟨w.heap.size, 2, none⟩ v3) ∧ Within g (g + 1) w (((wx.setCell ⟨w.heap.size, 0, none⟩ v1).setCell ⟨w.heap.size, 1, none⟩ v2).setCell ⟨w.heap.size, 2, none⟩ v3) :=
  ⟨nlv_set3 v1 v2 v3 h.ds h.ps, ((h.src.apart (by omega) (by omega)).apart (by omega) (by omega)).apart (by omega) (by omega), ((h.wi.new _ _ _ (by omega)).new _ _ _ (by omega)).new _ _ _ (by omega)⟩
set_option maxRecDepth 100000 in
set_option maxHeartbeats 16000000 in
theorem l29DrawNetlist_any (W0 : World) (g : Nat) (sv : Value) (n : Nat) (w : World) (hD : Src1 W0 g sv n w) :
    Calls Tryz.prog 27 #[.pointer (some ⟨g, 0, none⟩)] w fun e w' => ∃ (v : Value) (x : Nl), e = .returned v ∧ Hid (NlO w.heap.size w' v x) ∧ Hid (Small x) ∧ Hid (Src1 W0 g sv n w') ∧ Hid (Within g (g + 1) w w') := by
  have HN := Lib.hid (fun q w h hq => l01Next_any W0 g sv n q w h hq)
  have HDN := Lib.hid (fun w h => l27DrawNetlist_any W0 g sv n w h)
  have hgl := hD.lt
  have hg0 : W0.heap.size ≤ g := hD.1
  have kR0 : Blk (w.alloc (.cells #[.int .i64 0, .slice none 0 0, .slice none 0 0] 27)) w.heap.size #[.int .i64 0, .slice none 0 0, .slice none 0 0] 27 := Blk.new _ rfl
  have HD0 := Lib.hid (hD.by ((Below.refl _ w).alloc (Nat.le_refl _) (.cells #[.int .i64 0, .slice none 0 0, .slice none 0 0] 27)))
  have hW0 : Within g (g + 1) w (w.alloc (.cells #[.int .i64 0, .slice none 0 0, .slice none 0 0] 27)) := (Within.refl _ _ _).alloc _
  have hs0 : w.heap.size < (w.alloc (.cells #[.int .i64 0, .slice none 0 0, .slice none 0 0] 27)).heap.size := by simp
  clear hD
  go_enter Tryz.func27, Tryz.ntmps27
  go_wp2_with fail
  refine (HDN.out _ HD0.out).mono ?_
  rintro e w1 ⟨v, x, rfl, HO, HS, HD1, HW1⟩
  generalize w.alloc (.cells #[.int .i64 0, .slice none 0 0, .slice none 0 0] 27) = w0 at *
  obtain ⟨s1, s2, rfl, r1, r2⟩ := HO.out
  obtain ⟨a1, c1, rfl⟩ : ∃ a c, s1 = .slice a x.ds.length c := by obtain ⟨_, _, _, o⟩ := r1; exact o.sl.sized
  obtain ⟨a2, c2, rfl⟩ : ∃ a c, s2 = .slice a x.ps.length c := by obtain ⟨_, _, _, o⟩ := r2; exact o.sl.sized
  have hs1 := HW1.out.size
  have hal : Below w1.heap.size w1 (w1.alloc (.cells #[.int .i64 x.nets, .slice a1 x.ds.length c1, .slice a2 x.ps.length c2] 27)) := (Below.refl _ w1).alloc (Nat.le_refl _) _
  have HL2 : Hid (L9 W0 g sv n w w1.heap.size x.nets (.slice a1 x.ds.length c1) (.slice a2 x.ps.length c2) x.ds x.ps (w1.alloc (.cells #[.int .i64 x.nets, .slice a1 x.ds.length c1, .slice a2 x.ps.length c2] 27))) := Lib.hid ⟨HD1.out.by hal, Blk.new _ rfl, Blk.by hal (HW1.out.blk kR0 (by omega)), by obtain ⟨l, h, q, p⟩ := r1; exact ⟨l, h, by omega, p.by hal⟩, by obtain ⟨l, h, q, p⟩ := r2; exact ⟨l, h, by omega, p.by hal⟩, (hW0.on HW1.out).alloc _⟩
  obtain ⟨N, hN⟩ : ∃ N, x.nets = N := ⟨_, rfl⟩
  obtain ⟨L, hL⟩ : ∃ L, x.ds.length = L := ⟨_, rfl⟩
  obtain ⟨L2, hL2⟩ : ∃ L, x.ps.length = L := ⟨_, rfl⟩
  have HE := Lib.hid (And.intro hN (And.intro hL hL2))
  rw [hN, hL, hL2] at HL2 ⊢
  rw [hN, hL, hL2] at hal
  have qT := HL2.out.t.cell
  have lT := HL2.out.t.lt
  clear HO r1 r2 HD1 HW1 kR0 hW0 HD0 hal hN hL hL2
  go_wp2_with fail
  generalize w1.alloc (.cells #[.int .i64 N, .slice a1 L c1, .slice a2 L2 c2] 27) = w2 at *
  have hwT : w.heap.size < w1.heap.size := by omega
  generalize w1.heap.size = T at *
  refine (HN.out 2 _ HL2.out.src (by omega)).mono ?_
  rintro e w3 ⟨y, rfl, hy0, hy1, hD3, ho3⟩
  have HL3 := Lib.hid (HL2.out.only ho3 hD3 hgl hwT)
  clear hD3 ho3 HL2 qT lT
  have qT := HL3.out.t.cell
  have fT := HL3.out.t.free
  have lT := HL3.out.t.lt
  go_upto_if 9 with fail
  go_cut [9] (fun s9 wx => ∃ (b : Bool) (av : Option Addr) (l cv : Nat) (ps : List Pt), s9 = .bool b ∧ Hid (Small ⟨x.nets, x.ds, ps⟩) ∧ Hid (L9 W0 g sv n w T N (.slice a1 L c1) (.slice av l cv) x.ds ps wx))
  case first =>
    by_cases hy : y = 0
    · subst hy
      go_wp2
      go_meet
      exact ⟨_, none, 0, 0, [], rfl, Lib.hid ⟨HS.out.1, HS.out.2.1, HS.out.2.2.1, by simp, by simp⟩, Lib.hid ⟨HL3.out.src.apart (by omega) (by omega), by simpa using HL3.out.t.set 2 (.slice none 0 0), HL3.out.r.apart _ _ _ (by omega), by obtain ⟨l, h, q, p⟩ := HL3.out.ds; exact ⟨l, h, q, p.offN HL3.out.t⟩, ⟨w.heap.size + 1, w.heap.size + 2, by omega, .inl ⟨_, _, rfl, rfl⟩⟩, HL3.out.wi.new _ _ _ (by omega)⟩⟩
    · have hy' : (y == 0) = false := by simpa using hy
      go_wp2
      go_meet
      exact ⟨_, a2, L2, c2, x.ps, rfl, HS, HL3⟩
  case rest =>
    obtain ⟨b, av, l, cv, ps, rfl, HS4, HL4⟩ := hcut
    obtain ⟨w4, rfl⟩ : ∃ z : World, z = wc := ⟨_, rfl⟩
    clear HL3 qT fT lT HS
    go_wp2_with fail
    refine (HN.out 4 _ HL4.out.src (by omega)).mono ?_
    rintro e w5 ⟨y2, rfl, hz0, hz1, hD5, ho5⟩
    have HL5 := Lib.hid (HL4.out.only ho5 hD5 hgl hwT)
    clear hD5 ho5 HL4
    have qT := HL5.out.t.cell
    have fT := HL5.out.t.free
    have lT := HL5.out.t.lt
    have qR := HL5.out.r.cell
    have fR := HL5.out.r.free
    have lR := HL5.out.r.lt
    by_cases hy2 : y2 = 0
    · subst hy2
      clear qT fT qR fR lR
      go_wp2_with fail
      refine (HN.out 4 _ HL5.out.src (by omega)).mono ?_
      rintro e w6 ⟨r, rfl, hr0, hr1, hD6, ho6⟩
      have HL6 := Lib.hid (HL5.out.only ho6 hD6 hgl hwT)
      clear hD6 ho6 HL5 lT
      have wr3 : IntKind.i64.wrap (3 + r) = 3 + r := by simp [IntKind.wrap, IntKind.bits, IntKind.signed]; omega
      obtain ⟨M, hM⟩ : ∃ M, 3 + r = M := ⟨_, rfl⟩
      rw [hM] at wr3
      have hMb : 3 ≤ M ∧ M ≤ 6 := by omega
      have qT := HL6.out.t.cell
      have fT := HL6.out.t.free
      have lT := HL6.out.t.lt
      have HT7 := Lib.hid (show Blk (((w6.setCell ⟨T, 0, none⟩ (.int .i64 M)).setCell ⟨T, 1, none⟩ (.slice none 0 0)).setCell ⟨T, 2, none⟩ (.slice none 0 0)) T #[.int .i64 M, .slice none 0 0, .slice none 0 0] 27 from by simpa using ((HL6.out.t.set 0 (.int .i64 M)).set 1 (.slice none 0 0)).set 2 (.slice none 0 0))
      have HR7 := Lib.hid (show Blk (((w6.setCell ⟨T, 0, none⟩ (.int .i64 M)).setCell ⟨T, 1, none⟩ (.slice none 0 0)).setCell ⟨T, 2, none⟩ (.slice none 0 0)) w.heap.size _ 27 from ((HL6.out.r.apart T 0 _ (by omega)).apart T 1 _ (by omega)).apart T 2 _ (by omega))
      have HD7 := Lib.hid (show Src1 W0 g sv n (((w6.setCell ⟨T, 0, none⟩ (.int .i64 M)).setCell ⟨T, 1, none⟩ (.slice none 0 0)).setCell ⟨T, 2, none⟩ (.slice none 0 0)) from ((HL6.out.src.apart (by omega) (by omega)).apart (by omega) (by omega)).apart (by omega) (by omega))
      have HW7 := Lib.hid (show Within g (g + 1) w (((w6.setCell ⟨T, 0, none⟩ (.int .i64 M)).setCell ⟨T, 1, none⟩ (.slice none 0 0)).setCell ⟨T, 2, none⟩ (.slice none 0 0)) from ((HL6.out.wi.new _ _ _ (by omega)).new _ _ _ (by omega)).new _ _ _ (by omega))
      have hs7 : T < (((w6.setCell ⟨T, 0, none⟩ (.int .i64 M)).setCell ⟨T, 1, none⟩ (.slice none 0 0)).setCell ⟨T, 2, none⟩ (.slice none 0 0)).heap.size := HT7.out.lt
      go_wp2
      (try simp only [hM, wr3])
      generalize ((w6.setCell ⟨T, 0, none⟩ (.int .i64 M)).setCell ⟨T, 1, none⟩ (.slice none 0 0)).setCell ⟨T, 2, none⟩ (.slice none 0 0) = w7 at *
      clear HL6 qT fT lT hM hr0 hr1 hz0 hz1 hy0 hy1
      have HB7 := Lib.hid (BldD0 w7)
      go_loopw [4] (fun z wr => ∃ (k hi : Nat) (av : Option Addr) (cv : Nat) (ds : List Dv), z = .int .i64 (k : Int) ∧ (k : Int) ≤ M ∧ ds.length = k ∧ w7.heap.size ≤ hi ∧ Hid (Blk wr T #[.int .i64 M, .slice av k cv, .slice none 0 0] 27) ∧ Hid (Blk wr w.heap.size #[.int .i64 0, .slice none 0 0, .slice none 0 0] 27) ∧ Hid (Src1 W0 g sv n wr) ∧ Hid (Within g (g + 1) w wr) ∧ Hid (Bld wr w7.heap.size hi (.slice av k cv) ds) ∧ Hid (∀ d ∈ ds, d.pins.length = 2)) (fun z _ => (M - intOf z).toNat)
      case atStart => exact ⟨0, w7.heap.size, none, 0, [], by go_num, by omega, rfl, Nat.le_refl _, HT7, HR7, HD7, HW7, HB7, Lib.hid (by simp)⟩
      case round =>
        clear HT7 HR7 HD7 HW7 HB7
        obtain ⟨k, hi, av, cv, ds, rfl, hkM, hdk, hhi, HT, HR, HDr, HW, HB, HP⟩ := hrel
        have HDK := Lib.hid hdk
        clear hdk
        have cT0 : wr.cell? ⟨T, 0, none⟩ = some (.int .i64 M) := HT.out.cell 0
        have cT1 : wr.cell? ⟨T, 1, none⟩ = some (.slice av k cv) := HT.out.cell 1
        have lT := HT.out.lt
        have hhr := HB.out.1
        go_upto_region 7 with fail
        have hS : (fun w' : World => w'.cell? ⟨T, 0, none⟩ = some (.int .i64 M)) { wr with drawn := wr.drawn + 1 } := cT0
        refine wp_region_any (by kernel_rfl) (wpAny_of_E (S := (fun w' : World => w'.cell? ⟨T, 0, none⟩ = some (.int .i64 M))) (l := 6) _ _ _ _ ?_)
        change wpAnyE _ _ _ _ _ _ _ _ _ wr.drew
        refine wpAnyE_takeL (i := 0) (v := ?_) rfl (by kernel_rfl) (fun _ _ _ h => h) (Or.inl ⟨by rfl, ?_⟩) hS ?_
        rotate_left
        · intro w hSw; (try dsimp only at hSw); go_simp; (try with_reducible rfl)
        try simp only [Act.put, List.setIfInBounds_toArray, List.set_cons_zero, List.set_cons_succ]
        refine wpAnyE_takeL (i := 1) (v := ?_) rfl (by kernel_rfl) (fun _ _ _ h => h) (Or.inl ⟨by rfl, ?_⟩) hS ?_
        rotate_left
        · intro w hSw; (try dsimp only at hSw); go_simp; (try with_reducible rfl)
        try simp only [Act.put, List.setIfInBounds_toArray, List.set_cons_zero, List.set_cons_succ]
        refine wpAnyE_takeL (i := 2) (v := ?_) rfl (by kernel_rfl) (fun _ _ _ h => h) (Or.inl ⟨by rfl, ?_⟩) hS ?_
        rotate_left
        · intro w hSw; (try dsimp only at hSw); go_simp; (try with_reducible rfl)
        try simp only [Act.put, List.setIfInBounds_toArray, List.set_cons_zero, List.set_cons_succ]
        refine wpAnyE_takeL (i := 3) (v := ?_) rfl (by kernel_rfl) (fun _ _ _ h => h) (Or.inl ⟨by rfl, ?_⟩) hS ?_
        rotate_left
        · intro w hSw; (try dsimp only at hSw); go_simp; (try with_reducible rfl)
        try simp only [Act.put, List.setIfInBounds_toArray, List.set_cons_zero, List.set_cons_succ]
        refine wpAnyE_oneL (k := 4) (by kernel_rfl) rfl (fun K hK => ?_)
        go_simp
        go_at_call 32
        refine (HN.out 2 _ (HDr.out.by (below_of_drewN wr 1)) (by omega)).mono ?_
        rintro e w8 ⟨y, rfl, hy0, hy1, hD8, ho8⟩
        have HT8 : Hid (Blk w8 T _ 27) := Lib.hid (ho8.blk HT.out.drew (by omega))
        have HR8 : Hid (Blk w8 w.heap.size _ 27) := Lib.hid (ho8.blk HR.out.drew (by omega))
        have HD8 := Lib.hid hD8
        have HW8 : Hid (Within g (g + 1) w w8) := Lib.hid ((HW.out.drewN 1).on ho8.within9)
        have HB8 := Lib.hid (Bld.past ho8.within9 (Bld.by (below_of_drewN wr 1) HB.out) (.inl (by omega)))
        have hsz8 : wr.heap.size ≤ w8.heap.size := ho8.within9.size
        clear hD8 ho8 HT HR HDr HW HB hS
        have c80 : w8.cell? ⟨T, 0, none⟩ = some (.int .i64 M) := HT8.out.cell 0
        have c81 : w8.cell? ⟨T, 1, none⟩ = some (.slice av k cv) := HT8.out.cell 1
        have l8 := HT8.out.lt
        have wMy : IntKind.i64.wrap (M - y) = M - y := by simp [IntKind.wrap, IntKind.bits, IntKind.signed]; omega
        clear cT0 cT1 lT
        refine hK.out _ _ (fun _ => c80) ?_
        try simp only [Act.put, List.setIfInBounds_toArray, List.set_cons_zero, List.set_cons_succ]
        refine wpAnyE_oneL (k := 5) (by kernel_rfl) rfl (fun K hK => ?_)
        go_simp
        refine hK.out _ _ (fun _ => c80) ?_
        try simp only [Act.put, List.setIfInBounds_toArray, List.set_cons_zero, List.set_cons_succ]
        refine wpAnyE_oneL (k := 6) (by kernel_rfl) rfl (fun K hK => ?_)
        go_simp
        refine hK.out _ _ (fun h => absurd rfl h) ?_
        refine wpAnyE_done (by kernel_rfl) ?_ _
        by_cases hlt : (k : Int) < M - y
        · have wk1 : IntKind.i64.wrap ((k : Int) + 1) = (k : Int) + 1 := by simp [IntKind.wrap, IntKind.bits, IntKind.signed]; omega
          obtain ⟨z, hz⟩ : ∃ z, ((k : Int) + 1).tmod M = z := ⟨_, rfl⟩
          have hzb : -10 ≤ z ∧ z ≤ 10 := (by have h1 := Int.tmod_lt_of_pos ((k : Int) + 1) (show 0 < M by omega); have h2 := Int.tmod_nonneg M (show 0 ≤ (k : Int) + 1 by omega); omega)
          have wZ : IntKind.i64.wrap z = z := by simp [IntKind.wrap, IntKind.bits, IntKind.signed]; omega
          have hM0 : ¬ M = 0 := by omega
          go_upto_region 9 with fail
          have hS : (fun w' : World => w'.cell? ⟨T, 0, none⟩ = some (.int .i64 M) ∧ w'.cell? ⟨T, 1, none⟩ = some (.slice av k cv)) { w8 with drawn := w8.drawn + 1 } := ⟨c80, c81⟩
          refine wp_region_any (by kernel_rfl) (wpAny_of_E (S := (fun w' : World => w'.cell? ⟨T, 0, none⟩ = some (.int .i64 M) ∧ w'.cell? ⟨T, 1, none⟩ = some (.slice av k cv))) (l := 13) _ _ _ _ ?_)
          change wpAnyE _ _ _ _ _ _ _ _ _ w8.drew
          refine wpAnyE_takeL (i := 0) (v := ?_) rfl (by kernel_rfl) (fun _ _ _ h => h) (Or.inl ⟨by rfl, ?_⟩) hS ?_
          rotate_left
          · intro w hSw; (try dsimp only at hSw); obtain ⟨hSa, hSb⟩ := hSw; go_simp; (try with_reducible rfl)
          try simp only [Act.put, List.setIfInBounds_toArray, List.set_cons_zero, List.set_cons_succ]
          refine wpAnyE_takeL (i := 1) (v := ?_) rfl (by kernel_rfl) (fun _ _ _ h => h) (Or.inl ⟨by rfl, ?_⟩) hS ?_
          rotate_left
          · intro w hSw; (try dsimp only at hSw); obtain ⟨hSa, hSb⟩ := hSw; go_simp; (try with_reducible rfl)
          try simp only [Act.put, List.setIfInBounds_toArray, List.set_cons_zero, List.set_cons_succ]
          refine wpAnyE_takeL (i := 2) (v := ?_) rfl (by kernel_rfl) (fun _ _ _ h => h) (Or.inl ⟨by rfl, ?_⟩) hS ?_
          rotate_left
          · intro w hSw; (try dsimp only at hSw); obtain ⟨hSa, hSb⟩ := hSw; go_simp; (try with_reducible rfl)
          try simp only [Act.put, List.setIfInBounds_toArray, List.set_cons_zero, List.set_cons_succ]
          refine wpAnyE_takeL (i := 3) (v := ?_) rfl (by kernel_rfl) (fun _ _ _ h => h) (Or.inl ⟨by rfl, ?_⟩) hS ?_
          rotate_left
          · intro w hSw; (try dsimp only at hSw); obtain ⟨hSa, hSb⟩ := hSw; go_simp; (try with_reducible rfl)
          try simp only [Act.put, List.setIfInBounds_toArray, List.set_cons_zero, List.set_cons_succ]
          refine wpAnyE_takeL (i := 4) (v := ?_) rfl (by kernel_rfl) (fun _ _ _ h => h) (Or.inl ⟨by rfl, ?_⟩) hS ?_
          rotate_left
          · intro w hSw; (try dsimp only at hSw); obtain ⟨hSa, hSb⟩ := hSw; go_simp; (try with_reducible rfl)
          try simp only [Act.put, List.setIfInBounds_toArray, List.set_cons_zero, List.set_cons_succ]
          refine wpAnyE_takeL (i := 5) (v := ?_) rfl (by kernel_rfl) (fun _ _ _ h => h) (Or.inl ⟨by rfl, ?_⟩) hS ?_
          rotate_left
          · intro w hSw; (try dsimp only at hSw); obtain ⟨hSa, hSb⟩ := hSw; go_simp; (try with_reducible rfl)
          try simp only [Act.put, List.setIfInBounds_toArray, List.set_cons_zero, List.set_cons_succ]
          refine wpAnyE_takeL (i := 6) (v := ?_) rfl (by kernel_rfl) (fun _ _ _ h => h) (Or.inl ⟨by rfl, ?_⟩) hS ?_
          rotate_left
          · intro w hSw; (try dsimp only at hSw); obtain ⟨hSa, hSb⟩ := hSw; go_simp; (try with_reducible rfl)
          try simp only [Act.put, List.setIfInBounds_toArray, List.set_cons_zero, List.set_cons_succ]
          refine wpAnyE_takeL (i := 7) (v := ?_) rfl (by kernel_rfl) (fun _ _ _ h => h) (Or.inl ⟨by rfl, ?_⟩) hS ?_
          rotate_left
          · intro w hSw; (try dsimp only at hSw); obtain ⟨hSa, hSb⟩ := hSw; go_simp; (try with_reducible rfl)
          try simp only [Act.put, List.setIfInBounds_toArray, List.set_cons_zero, List.set_cons_succ]
          refine wpAnyE_oneL (k := 8) (by kernel_rfl) rfl (fun K hK => ?_)
          go_simp
          have hal1 : Below w8.heap.size w8 (w8.alloc (.cells #[.int .i64 (k : Int), .int .i64 z] 2)).drew := ((Below.refl _ w8).alloc (Nat.le_refl _) _).drew
          have kP : Blk (w8.alloc (.cells #[.int .i64 (k : Int), .int .i64 z] 2)).drew w8.heap.size #[.int .i64 (k : Int), .int .i64 z] 2 := (Blk.new _ rfl).drew
          refine hK.out _ _ (fun _ => ⟨cell_by' hal1 c80, cell_by' hal1 c81⟩) ?_
          try simp only [Act.put, List.setIfInBounds_toArray, List.set_cons_zero, List.set_cons_succ]
          have hS1 := And.intro (cell_by' hal1 c80) (cell_by' hal1 c81)
          generalize hw9 : (w8.alloc (.cells #[.int .i64 (k : Int), .int .i64 z] 2)).drew = w9 at *
          have hs9 : w8.heap.size < w9.heap.size := by rw [← hw9]; simp
          have HW9 := Lib.hid hw9
          clear hw9
          refine wpAnyE_takeL (i := 9) (v := ?_) rfl (by kernel_rfl) (fun _ _ _ h => h) (Or.inl ⟨by rfl, ?_⟩) hS1 ?_
          rotate_left
          · intro w hSw; (try dsimp only at hSw); obtain ⟨hSa, hSb⟩ := hSw; go_simp; (try with_reducible rfl)
          try simp only [Act.put, List.setIfInBounds_toArray, List.set_cons_zero, List.set_cons_succ]
          refine wpAnyE_oneL (k := 10) (by kernel_rfl) rfl (fun K hK => ?_)
          go_simp
          have hal2 : Below w9.heap.size w9 (w9.alloc (.cells #[.int .i64 2, .slice (some ⟨w8.heap.size, 0, none⟩) 2 2, .int .i64 1, .int .i64 1] 54)) := (Below.refl _ w9).alloc (Nat.le_refl _) _
          have kD : Blk (w9.alloc (.cells #[.int .i64 2, .slice (some ⟨w8.heap.size, 0, none⟩) 2 2, .int .i64 1, .int .i64 1] 54)) w9.heap.size #[.int .i64 2, .slice (some ⟨w8.heap.size, 0, none⟩) 2 2, .int .i64 1, .int .i64 1] 54 := Blk.new _ rfl
          have hS2 := And.intro (cell_by' hal2 hS1.1) (cell_by' hal2 hS1.2)
          have hs10 : w9.heap.size < (w9.alloc (.cells #[.int .i64 2, .slice (some ⟨w8.heap.size, 0, none⟩) 2 2, .int .i64 1, .int .i64 1] 54)).heap.size := by simp
          refine hK.out _ _ (fun _ => hS2) ?_
          try simp only [Act.put, List.setIfInBounds_toArray, List.set_cons_zero, List.set_cons_succ]
          have kP2 := Blk.by hal2 kP
          have HB10 := Lib.hid (Bld.by hal2 (Bld.by hal1 HB8.out))
          have HT10 := Lib.hid (Blk.by hal2 (Blk.by hal1 HT8.out))
          have HR10 := Lib.hid (Blk.by hal2 (Blk.by hal1 HR8.out))
          have HD10 := Lib.hid ((HD8.out.by hal1).by hal2)
          have HW10 := Lib.hid (((HW8.out.ofB hal1).ofB hal2))
          generalize w9.alloc (.cells #[.int .i64 2, .slice (some ⟨w8.heap.size, 0, none⟩) 2 2, .int .i64 1, .int .i64 1] 54) = w10 at *
          clear hal1 hal2 kP HB8 HT8 HR8 HD8 HW8
          refine wpAnyE_oneL (k := 11) (by kernel_rfl) rfl (fun K hK => ?_)
          refine step_push (by rfl) _ _ (by rfl) w7.heap.size hi (.slice av k cv) ds (by rfl) HB10.out w9.heap.size ⟨2, [(k : Int), z], 1, 1⟩ (.slice (some ⟨w8.heap.size, 0, none⟩) 2 2) w8.heap.size (by rfl) kD (BldI.lit (zs := [(k : Int), z]) kP2 rfl (by simp) (Nat.le_refl _) (by omega) (by omega)).own hhi (by omega) (by omega) (by have := HDK.out; omega) ?_
          intro a' c' w11 hB11 hw11
          rw [HDK.out] at hB11 ⊢
          have HT11 := Lib.hid (hw11.blk HT10.out (by omega))
          have HR11 := Lib.hid (hw11.blk HR10.out (by omega))
          have HD11 := Lib.hid (Src1.within hw11 HD10.out (by omega) (by have := HW10.out.size; omega))
          have HW11 := Lib.hid (HW10.out.newerL hw11 (by have := HW10.out.size; omega))
          have HB11 := Lib.hid hB11
          have hs11 := hw11.size
          have c110 : w11.cell? ⟨T, 0, none⟩ = some (.int .i64 M) := HT11.out.cell 0
          have c111 : w11.cell? ⟨T, 1, none⟩ = some (.slice av k cv) := HT11.out.cell 1
          have f111 := HT11.out.free 1
          have l11 := HT11.out.lt
          clear hB11 hw11 HB10 HT10 HR10 HD10 HW10 kD kP2 hS hS1 hS2 c80 c81 HW9
          refine hK.out _ _ (fun _ => ⟨c110, c111⟩) ?_
          try simp only [Act.put, List.setIfInBounds_toArray, List.set_cons_zero, List.set_cons_succ]
          refine wpAnyE_oneL (k := 12) (by kernel_rfl) rfl (fun K hK => ?_)
          go_simp
          refine hK.out _ _ (fun _ => ⟨c110, c111⟩) ?_
          try simp only [Act.put, List.setIfInBounds_toArray, List.set_cons_zero, List.set_cons_succ]
          refine wpAnyE_oneL (k := 13) (by kernel_rfl) rfl (fun K hK => ?_)
          go_simp
          refine hK.out _ _ (fun h => absurd rfl h) ?_
          refine wpAnyE_done (by kernel_rfl) ?_ _
          go_wp2
          exact ⟨⟨k + 1, w11.heap.size, a', c', ds ++ [⟨2, [(k : Int), z], 1, 1⟩], by go_num, by omega, by rw [List.length_append, HDK.out]; rfl, by omega, Lib.hid (by simpa using HT11.out.set 1 (.slice a' (k + 1) c')), Lib.hid (HR11.out.apart T 1 _ (by omega)), Lib.hid (HD11.out.apart (by omega) (by omega)), Lib.hid (HW11.out.new _ _ _ (by omega)), Lib.hid (Bld.past (Within.off (g := T) _) HB11.out (.inl (by omega))), Lib.hid (fun d hd => by
            rcases List.mem_append.1 hd with h | h
            · exact HP.out d h
            · rw [List.mem_singleton] at h; subst h; rfl)⟩, by simp [intOf]; omega⟩
        · have hlt' : ¬ (k : Int) < M - y := hlt
          have c82 : w8.cell? ⟨T, 2, none⟩ = some (.slice none 0 0) := HT8.out.cell 2
          have qR := HR8.out.cell
          have fR := HR8.out.free
          have lR := HR8.out.lt
          go_wp2
          have HLf : L9 W0 g sv n w T M (.slice av k cv) (.slice none 0 0) ds [] w8 := ⟨HD8.out, HT8.out, HR8.out, ⟨w7.heap.size, hi, by omega, HB8.out.own⟩, ⟨w.heap.size + 1, w.heap.size + 2, by omega, .inl ⟨_, _, rfl, rfl⟩⟩, HW8.out⟩
          obtain ⟨f1, f2, f3⟩ := L9.fin HLf hgl hg0 (.int .i64 M) (.slice av k cv) (.slice none 0 0)
          refine bodyPost_ret (v := .agg #[.int .i64 M, .slice av k cv, .slice none 0 0]) (by simp [results, Tryz.results27, go_sem, *]) rfl ⟨_, rfl, ⟨M, ds, []⟩, Lib.hid f1, Lib.hid ⟨⟨by dsimp only; omega, by dsimp only; omega⟩, by dsimp only; rw [HDK.out]; omega, fun d hd => by rw [HP.out d hd]; omega, by simp, by simp⟩, Lib.hid f2, Lib.hid f3⟩
    · have hy2' : (y2 == 0) = false := by simpa using hy2
      have HX := HE.out.1
      go_wp2
      obtain ⟨f1, f2, f3⟩ := L9.fin HL5.out hgl hg0 (.int .i64 N) (.slice a1 L c1) (.slice av l cv)
      refine bodyPost_ret (v := .agg #[.int .i64 N, .slice a1 L c1, .slice av l cv]) (by simp [results, Tryz.results27, go_sem, *]) rfl ⟨_, ⟨N, x.ds, ps⟩, rfl, Lib.hid f1, Lib.hid (by rw [← HX]; exact HS4.out), Lib.hid f2, Lib.hid f3⟩
section
variable {w w' : World} {lo hi lo' hi' : Nat} {sv : Value} {L : Nat}
theorem OwnR.offTy {B o : Nat} {cs : Array Value} {T : TypeId} {v : Value} {zs : List Int} (h : OwnR w lo hi sv zs) (hT : Blk w B cs T) (hne : 2 ≠ T) : OwnR (w.setCell ⟨B, o, none⟩ v) lo hi sv zs := by
  rcases h with h | ⟨g, cap, c2, h1, h2, h3, h4, h5, h6, h7⟩
  · exact .inl h
  · exact .inr ⟨g, cap, c2, h1, h2, h3, h4, h5, h6.apart B o v (fun e => by subst e; exact hne (h6.differ2 hT)), h7⟩
theorem OwnDs.offTy {B o : Nat} {cs : Array Value} {T : TypeId} {v : Value} {ds : List Dv} (h : OwnDs w lo hi sv ds) (hT : Blk w B cs T) (hne : 2 ≠ T) (hne2 : 54 ≠ T) : OwnDs (w.setCell ⟨B, o, none⟩ v) lo hi sv ds := by
  rcases h with h | ⟨g, cap, c2, f, h1, h2, h3, h4, h5, h6, h7⟩
  · exact .inl h
  · refine .inr ⟨g, cap, c2, f, h1, h2, h3, h4, h5.apart B o v (fun e => by subst e; exact hne2 (h5.differ2 hT)), fun i x hx => ?_, h7⟩
    obtain ⟨⟨pv, hC, hR⟩, hf⟩ := h6 i x hx
    exact ⟨⟨pv, hC, hR.offTy hT hne⟩, hf⟩
theorem OwnPs.offTy {B o : Nat} {cs : Array Value} {T : TypeId} {v : Value} {ps : List Pt} (h : OwnPs w lo hi sv ps) (hT : Blk w B cs T) (hne : 52 ≠ T) : OwnPs (w.setCell ⟨B, o, none⟩ v) lo hi sv ps := by
  rcases h with h | ⟨g, cap, c2, h1, h2, h3, h4, h5, h6⟩
  · exact .inl h
  · exact .inr ⟨g, cap, c2, h1, h2, h3, h4, h5.apart B o v (fun e => by subst e; exact hne (h5.differ2 hT)), h6⟩
def DsA (w : World) (lo hi : Nat) (sv : Value) (L : Nat) : Prop := ∃ ds : List Dv, ds.length = L ∧ OwnDs w lo hi sv ds ∧ ∀ d ∈ ds, 2 ≤ d.pins.length ∧ d.pins.length ≤ 3
def PsA (w : World) (lo hi : Nat) (sv : Value) (L : Nat) : Prop := ∃ ps : List Pt, ps.length = L ∧ OwnPs w lo hi sv ps ∧ ∀ p ∈ ps, p.ok
theorem DsA.past (hW : Within lo' hi' w w') (h : DsA w lo hi sv L) (hd : hi ≤ lo' ∨ hi' ≤ lo) : DsA w' lo hi sv L := by
  obtain ⟨ds, e, h, hp⟩ := h; exact ⟨ds, e, h.past hW hd, hp⟩
theorem PsA.past (hW : Within lo' hi' w w') (h : PsA w lo hi sv L) (hd : hi ≤ lo' ∨ hi' ≤ lo) : PsA w' lo hi sv L := by
  obtain ⟨ds, e, h, hp⟩ := h; exact ⟨ds, e, h.past hW hd, hp⟩
theorem DsA.by (hW : Below w.heap.size w w') (h : DsA w lo hi sv L) : DsA w' lo hi sv L := by
  obtain ⟨ds, e, h, hp⟩ := h; exact ⟨ds, e, h.by hW, hp⟩
theorem PsA.by (hW : Below w.heap.size w w') (h : PsA w lo hi sv L) : PsA w' lo hi sv L := by
  obtain ⟨ds, e, h, hp⟩ := h; exact ⟨ds, e, h.by hW, hp⟩
theorem DsA.offTy {B o : Nat} {cs : Array Value} {T : TypeId} {v : Value} (h : DsA w lo hi sv L) (hT : Blk w B cs T) (hne : 2 ≠ T) (hne2 : 54 ≠ T) : DsA (w.setCell ⟨B, o, none⟩ v) lo hi sv L := by
  obtain ⟨ds, e, h, hp⟩ := h; exact ⟨ds, e, h.offTy hT hne hne2, hp⟩
theorem PsA.offTy {B o : Nat} {cs : Array Value} {T : TypeId} {v : Value} (h : PsA w lo hi sv L) (hT : Blk w B cs T) (hne : 52 ≠ T) : PsA (w.setCell ⟨B, o, none⟩ v) lo hi sv L := by
  obtain ⟨ds, e, h, hp⟩ := h; exact ⟨ds, e, h.offTy hT hne, hp⟩
theorem DsA.setI {F j : Nat} {cs : Array Value} {v : Int} (h : DsA w lo hi sv L) (hF : Blk w F cs 2) : DsA (w.setCell ⟨F, j, none⟩ (.int .i64 v)) lo hi sv L := by
  obtain ⟨ds, hL, h, hp⟩ := h
  rcases h with ⟨a, c, e, rfl⟩ | ⟨g, cap, cs2, f, h1, h2, h3, h4, h5, h6, h7⟩
  · exact ⟨[], hL, .inl ⟨a, c, e, rfl⟩, by simp⟩
  have hgF : g ≠ F := fun e => by subst e; exact absurd (h5.differ2 hF) (by decide)
  have hlen : (ds.mapIdx fun i d => if f i = F then (⟨d.kind, d.pins.set j v, d.wd, d.len⟩ : Dv) else d).length = ds.length := by simp
  have hget : ∀ (i : Nat) y, (ds.mapIdx fun i d => if f i = F then (⟨d.kind, d.pins.set j v, d.wd, d.len⟩ : Dv) else d)[i]? = some y → ∃ d, ds[i]? = some d ∧ y = if f i = F then (⟨d.kind, d.pins.set j v, d.wd, d.len⟩ : Dv) else d := by
    intro i y hy
    rw [List.getElem?_mapIdx] at hy
    cases e : ds[i]? with
    | none => rw [e] at hy; cases hy
    | some d => rw [e] at hy; exact ⟨d, rfl, (Option.some.inj hy).symm⟩
  refine ⟨ds.mapIdx fun i d => if f i = F then (⟨d.kind, d.pins.set j v, d.wd, d.len⟩ : Dv) else d, by rw [hlen]; exact hL, .inr ⟨g, cap, cs2, f, by rw [hlen]; exact h1, h2, by rw [hlen]; exact h3, h4, h5.apart F j _ hgF, fun i y hy => ?_, fun i i' hi hi' hne => h7 i i' (by omega) (by omega) hne⟩, fun y hy => ?_⟩
  · obtain ⟨d, hd, rfl⟩ := hget i y hy
    obtain ⟨⟨pv, c4, hR⟩, hf⟩ := h6 i d hd
    by_cases e : f i = F
    · rw [if_pos e]
      refine ⟨⟨pv, c4, ?_⟩, hf⟩
      rcases hR with ⟨a, c, e1, e0⟩ | ⟨g', cap', cs', r1, r2, r3, r4, r5, r6, r7⟩
      · exact .inl ⟨a, c, e1, by show d.pins.set j v = []; rw [e0]; rfl⟩
      · obtain rfl : g' = F := by omega
        refine .inr ⟨g', cap', cs'.setIfInBounds j (.int .i64 v), by show _ = Value.slice _ (d.pins.set j v).length _; rw [List.length_set]; exact r1, r2, r3, by show (d.pins.set j v).length ≤ _; rw [List.length_set]; exact r4, r5, r6.set j _, fun i2 x hx => ?_⟩
        have hx' : (d.pins.set j v)[i2]? = some x := hx
        rw [List.getElem?_set] at hx'
        rw [Array.getElem?_setIfInBounds]
        by_cases e2 : j = i2
        · rw [if_pos e2] at hx' ⊢
          by_cases e3 : j < d.pins.length
          · rw [if_pos e3] at hx'
            have h9 := (Array.getElem?_eq_some_iff.1 (r7 j _ (List.getElem?_eq_getElem e3))).1
            rw [if_pos h9, Option.some.inj hx']
          · rw [if_neg e3] at hx'; cases hx'
        · rw [if_neg e2] at hx' ⊢
          exact r7 i2 x hx'
    · rw [if_neg e]
      exact ⟨⟨pv, c4, hR.past (Within.off _) (by omega)⟩, hf⟩
  · obtain ⟨i, hi, e⟩ := List.getElem_of_mem hy
    obtain ⟨d, hd, rfl⟩ := hget i y (by rw [List.getElem?_eq_getElem hi, e])
    have := hp d (List.mem_of_getElem? hd)
    by_cases e : f i = F
    · rw [if_pos e]
      show 2 ≤ (d.pins.set j v).length ∧ (d.pins.set j v).length ≤ 3
      rw [List.length_set]; exact this
    · rw [if_neg e]; exact this
theorem DsA.cap {n c : Nat} {a : Option Addr} (h : DsA w lo hi (.slice a n c) n) : n = 0 ∨ n ≤ c := by
  obtain ⟨ds, hL, h, hp⟩ := h
  rcases h with ⟨_, _, e, rfl⟩ | ⟨g, cap, cs2, f, h1, h2, h3, h4, h5, h6, h7⟩
  · exact .inl hL.symm
  · injection h1 with _ e1 e2
    exact .inr (by omega)
theorem DsA.row {k n c : Nat} {a : Option Addr} (h : DsA w lo hi (.slice a n c) L) (hk : k < L) : ∃ (b f p cap : Nat) (kind wd len : Int) (cs cs' : Array Value), a = some ⟨b, 0, none⟩ ∧ ((lo ≤ b ∧ b < hi) ∧ (lo ≤ f ∧ f < hi) ∧ f ≠ b ∧ (p = 0 ∨ p = 1)) ∧ Blk w b cs 54 ∧ Blk w f cs' 2 ∧
    w.cell? ⟨b, k * 4, none⟩ = some (.int .i64 kind) ∧ w.cell? ⟨b, k * 4 + 1, none⟩ = some (.slice (some ⟨f, 0, none⟩) (p + 2) cap) ∧ w.cell? ⟨b, k * 4 + 2, none⟩ = some (.int .i64 wd) ∧ w.cell? ⟨b, k * 4 + 3, none⟩ = some (.int .i64 len) ∧ ∀ j, j < p + 2 → ∃ q : Int, w.cell? ⟨f, j, none⟩ = some (.int .i64 q) := by
  obtain ⟨ds, rfl, h, hp⟩ := h
  rcases h with ⟨_, _, _, rfl⟩ | ⟨g, cap, cs2, f, h1, h2, h3, h4, h5, h6, h7⟩
  · simp at hk
  have hd : ds[k]? = some ds[k] := List.getElem?_eq_getElem hk
  obtain ⟨⟨pv, ⟨q0, q1, q2, q3⟩, hR⟩, hf⟩ := h6 k _ hd
  have hpl := hp _ (List.mem_of_getElem? hd)
  have hc := h5.cell
  rcases hR with ⟨_, _, _, e0⟩ | ⟨g', cap', cs', r1, r2, r3, r4, r5, r6, r7⟩
  · rw [e0] at hpl; simp at hpl
  obtain rfl : g' = f k := by omega
  have hl : ds[k].pins.length = (ds[k].pins.length - 2) + 2 := by omega
  rw [hl] at r1
  subst r1
  injection h1 with h1
  refine ⟨g, f k, ds[k].pins.length - 2, cap', _, _, _, cs2, cs', h1, ⟨h2, ⟨hf.1, hf.2.1⟩, hf.2.2, by omega⟩, h5, r6, (hc _).trans q0, (hc _).trans q1, (hc _).trans q2, (hc _).trans q3, fun j hj => ?_⟩
  have hjl : j < ds[k].pins.length := by omega
  exact ⟨ds[k].pins[j], (r6.cell j).trans (r7 j _ (List.getElem?_eq_getElem hjl))⟩
theorem DsA.setW {b n c k : Nat} {u : Int} (h : DsA w lo hi (.slice (some ⟨b, 0, none⟩) n c) L) (hk : k < L) : DsA (w.setCell ⟨b, k * 4 + 2, none⟩ (.int .i64 u)) lo hi (.slice (some ⟨b, 0, none⟩) n c) L := by
  obtain ⟨ds, hL, h, hp⟩ := h
  have hkl : k < ds.length := by omega
  have hd : ds[k]? = some ds[k] := List.getElem?_eq_getElem hkl
  refine ⟨_, ?_, h.setNum k _ hd 2 u ⟨ds[k].kind, ds[k].pins, u, ds[k].len⟩ (.inr (.inl ⟨rfl, rfl⟩)), fun d hm => ?_⟩
  · rw [List.length_set]; exact hL
  · rcases List.mem_or_eq_of_mem_set hm with h | h
    · exact hp d h
    · subst h
      exact hp ds[k] (List.mem_of_getElem? hd)
theorem DsA.take {m n c : Nat} {a : Option Addr} (h : DsA w lo hi (.slice a n c) n) (hm : m ≤ n) : DsA w lo hi (.slice a m c) m := by
  obtain ⟨ds, hL, h, hp⟩ := h
  refine ⟨ds.take m, by rw [List.length_take]; omega, ?_, fun d hd => hp d (List.mem_of_mem_take hd)⟩
  have hl : (ds.take m).length = m := by rw [List.length_take]; omega
  rcases h with ⟨a', c', e, rfl⟩ | ⟨g, cap, cs2, f, h1, h2, h3, h4, h5, h6, h7⟩
  · simp at hL
    obtain rfl : m = 0 := by omega
    exact .inl ⟨a, c, rfl, by simp⟩
  · injection h1 with e1 e2 e3
    subst e1 e3
    refine .inr ⟨g, c, cs2, f, by rw [hl], h2, by omega, h4, h5, fun i x hx => h6 i x ?_, fun i j hi hj hne => h7 i j (by omega) (by omega) hne⟩
    have hi : i < m := by
      have := (List.getElem?_eq_some_iff.1 hx).1; omega
    rwa [List.getElem?_take_of_lt hi] at hx
theorem PsA.row0 {n c : Nat} {a : Option Addr} (h : PsA w lo hi (.slice a n c) L) (hk : 0 < L) : ∃ (P : Nat) (cs : Array Value), a = some ⟨P, 0, none⟩ ∧ (lo ≤ P ∧ P < hi) ∧ Blk w P cs 52 ∧ (∃ nm0 z0, w.cell? ⟨P, 0, none⟩ = some (.string nm0) ∧ w.cell? ⟨P, 1, none⟩ = some (.int .i64 z0)) ∧
    (∀ nm : ByteArray, nm.size ≤ 9223372036854775807 → PsA (w.setCell ⟨P, 0, none⟩ (.string nm)) lo hi (.slice a n c) L) ∧ ∀ z : Int, Fits z → PsA (w.setCell ⟨P, 1, none⟩ (.int .i64 z)) lo hi (.slice a n c) L := by
  obtain ⟨ps, rfl, h, hp⟩ := h
  rcases h with ⟨_, _, _, rfl⟩ | ⟨g, cap, cs2, h1, h2, h3, h4, h5, h6⟩
  · simp at hk
  have hd : ps[0]? = some ps[0] := List.getElem?_eq_getElem hk
  have key : ∀ (o : Nat) (v : Value) (x : Pt), o < 2 → Cs2 (cs2.setIfInBounds o v) 0 (.string x.name) (.int .i64 x.net) → x.ok → PsA (w.setCell ⟨g, o, none⟩ v) lo hi (.slice a n c) ps.length := by
    intro o v x ho hx hok
    refine ⟨ps.set 0 x, by rw [List.length_set], .inr ⟨g, cap, _, by rw [List.length_set]; exact h1, h2, by rw [List.length_set]; exact h3, h4, h5.set o v, fun i y hy => ?_⟩, fun p hm => ?_⟩
    · by_cases e : 0 = i
      · subst e
        rw [List.getElem?_set_self hk] at hy
        cases hy
        exact hx
      · rw [List.getElem?_set_ne e] at hy
        obtain ⟨r0, r1⟩ := h6 i y hy
        refine ⟨?_, ?_⟩ <;> simp only [Array.getElem?_setIfInBounds]
        · rw [if_neg (by omega)]; exact r0
        · rw [if_neg (by omega)]; exact r1
    · rcases List.mem_or_eq_of_mem_set hm with h | h
      · exact hp p h
      · subst h; exact hok
  obtain ⟨q0, q1⟩ := h6 0 _ hd
  have hs := (Array.getElem?_eq_some_iff.1 q1).1
  have hok := hp _ (List.mem_of_getElem? hd)
  refine ⟨g, cs2, (by injection h1), h2, h5, ⟨ps[0].name, ps[0].net, (h5.cell 0).trans q0, (h5.cell 1).trans q1⟩, fun nm hn => key 0 _ ⟨nm, ps[0].net⟩ (by decide) ⟨?_, ?_⟩ ⟨hn, hok.2⟩, fun z hz => key 1 _ ⟨ps[0].name, z⟩ (by decide) ⟨?_, ?_⟩ ⟨hok.1, hz⟩⟩
  all_goals simp only [Array.getElem?_setIfInBounds]
  · rw [if_pos (by decide), if_pos (by omega)]
  · rw [if_neg (by decide)]; exact q1
  · rw [if_neg (by decide)]; exact q0
  · rw [if_pos (by decide), if_pos (by omega)]
end
def NlA (m : Nat) (w : World) (v : Value) : Prop := ∃ x : Nl, NlO m w v x ∧ (∀ p ∈ x.ps, p.ok) ∧ Fits x.nets
theorem NlA.mk {w : World} {m lo hi L L4 : Nat} {N : Int} {sd sp : Value} (hd : DsA w lo hi sd L) (hp : PsA w lo hi sp L4) (hm : m ≤ lo) (hN : Fits N) : NlA m w (.agg #[.int .i64 N, sd, sp]) := by
  obtain ⟨ds, _, h1, _⟩ := hd
  obtain ⟨ps, _, h2, h3⟩ := hp
  exact ⟨⟨N, ds, ps⟩, ⟨sd, sp, rfl, ⟨lo, hi, hm, h1⟩, lo, hi, hm, h2⟩, h3, hN⟩
theorem NlA.past {w w' : World} {m lo hi : Nat} {v : Value} (hW : Within lo hi w w') (h : NlA m w v) (hh : hi ≤ m) : NlA m w' v := by
  obtain ⟨x, h, h1⟩ := h; exact ⟨x, h.past hW hh, h1⟩
theorem NlA.by {w w' : World} {m : Nat} {v : Value} (hW : Below w.heap.size w w') (h : NlA m w v) : NlA m w' v := by
  obtain ⟨x, h, h1⟩ := h; exact ⟨x, h.by hW, h1⟩
theorem NlA.low {w : World} {m m' : Nat} {v : Value} (h : NlA m w v) (hm : m' ≤ m) : NlA m' w v := by
  obtain ⟨x, h, h1⟩ := h; exact ⟨x, h.low hm, h1⟩
theorem NlA.nets {w : World} {m : Nat} {N N' : Int} {sd sp : Value} (h : NlA m w (.agg #[.int .i64 N, sd, sp])) (hN : Fits N') : NlA m w (.agg #[.int .i64 N', sd, sp]) := by
  obtain ⟨x, ⟨s1, s2, e, h1, h2⟩, h3, h4⟩ := h
  simp only [Value.agg.injEq] at e
  have e' := congrArg Array.toList e
  simp at e'
  obtain ⟨_, rfl, rfl⟩ := e'
  exact ⟨⟨N', x.ds, x.ps⟩, ⟨_, _, rfl, h1, h2⟩, h3, hN⟩
def Dr (w w' : World) : Prop := ∃ n, w' = w.drewN n
theorem Dr.refl (w : World) : Dr w w := ⟨0, rfl⟩
theorem Dr.drewN {w w' : World} (h : Dr w w') (m : Nat) : Dr w (w'.drewN m) := by obtain ⟨n, rfl⟩ := h; exact ⟨n + m, World.drewN_drewN _ _ _⟩
theorem Dr.cell {w w' : World} (h : Dr w w') (p : Addr) : w'.cell? p = w.cell? p := by obtain ⟨n, rfl⟩ := h; rfl
theorem Dr.out {w w' : World} (h : Dr w w') : ∃ n, w' = w.drewN n := h
def sgn (a b : Int) : Int := if a < b then -1 else if b < a then 1 else 0
def lcmp : List Int → List Int → Int
  | [], [] => 0
  | [], _ :: _ => -1
  | _ :: _, [] => 1
  | a :: r, b :: s => if sgn a b = 0 then lcmp r s else sgn a b
def or2 (a b : Int) : Int := if a = 0 then b else a
def devcmp (k1 k2 : Int) (p1 p2 : List Int) (w1 w2 l1 l2 : Int) : Int := or2 (sgn k1 k2) (or2 (lcmp p1 p2) (or2 (sgn w1 w2) (sgn l1 l2)))
theorem sgn_lt {a b : Int} (h : a < b) : sgn a b = -1 := by simp [sgn, h]
theorem sgn_gt {a b : Int} (h : b < a) : sgn a b = 1 := by
  have : ¬ a < b := by omega
  simp [sgn, h, this]
theorem sgn_eq {a b : Int} (h : a = b) : sgn a b = 0 := by subst h; simp [sgn]
theorem drop_of {l : List Int} {k : Nat} {x : Int} (h : l[k]? = some x) : l.drop k = x :: l.drop (k + 1) := by
  obtain ⟨hlt, e⟩ := List.getElem?_eq_some_iff.1 h
  rw [List.drop_eq_getElem_cons hlt, e]
theorem lcmp_step {a b : List Int} {k : Nat} {x y : Int} (hx : a[k]? = some x) (hy : b[k]? = some y) : lcmp (a.drop k) (b.drop k) = if sgn x y = 0 then lcmp (a.drop (k + 1)) (b.drop (k + 1)) else sgn x y := by
  rw [drop_of hx, drop_of hy]; rfl
theorem lcmp_end1 {a b : List Int} {k : Nat} (ha : a.length ≤ k) : lcmp (a.drop k) (b.drop k) = if k < b.length then -1 else 0 := by
  rw [List.drop_eq_nil_of_le ha]
  split
  · rename_i h
    rw [List.drop_eq_getElem_cons h]; rfl
  · rw [List.drop_eq_nil_of_le (by omega)]; rfl
theorem lcmp_end2 {a b : List Int} {k : Nat} (ha : k < a.length) (hb : b.length ≤ k) : lcmp (a.drop k) (b.drop k) = 1 := by
  rw [List.drop_eq_nil_of_le hb, List.drop_eq_getElem_cons ha]; rfl
theorem IntSl.cells {w : World} {a : Option Addr} {n c : Nat} {zs : List Int} (h : IntSl w (.slice a n c) zs) : n = zs.length ∧ ∀ (i : Nat) (x : Int), zs[i]? = some x → ∃ b off, a = some ⟨b, off, none⟩ ∧ w.cell? ⟨b, off + i, none⟩ = some (.int .i64 x) := by
  rcases h with ⟨_, _, e, rfl⟩ | ⟨b, off, cap, e, h2, h3, h4⟩
  · simp at e
    exact ⟨e.2.1, by simp⟩
  · simp at e
    exact ⟨e.2.1, fun i x hx => ⟨b, off, e.1, h4 i x hx⟩⟩
theorem l27Sign_any (a b : Int) (w : World) :
    Calls Tryz.prog 80 #[.int .i64 a, .int .i64 b] w fun e w' => e = .returned (.int .i64 (sgn a b)) ∧ w = w' := by
  by_cases h1 : a < b
  · rw [sgn_lt h1]
    go_enter Tryz.func80, Tryz.ntmps80
    go_wp2
    go_ret
    exact ⟨rfl, rfl⟩
  · by_cases h2 : b < a
    · rw [sgn_gt h2]
      go_enter Tryz.func80, Tryz.ntmps80
      go_wp2
      go_ret
      exact ⟨rfl, rfl⟩
    · rw [sgn_eq (by omega)]
      go_enter Tryz.func80, Tryz.ntmps80
      go_wp2
      go_ret
      exact ⟨rfl, rfl⟩
theorem cmpCompare_any (a b : Int) (w : World) :
    Calls Tryz.prog 48 #[.int .i64 a, .int .i64 b] w fun e w' => e = .returned (.int .i64 (sgn a b)) ∧ w = w' := by
  by_cases h1 : a < b
  · rw [sgn_lt h1]
    go_enter Tryz.func48, Tryz.ntmps48
    go_wp2
    go_ret
    exact ⟨rfl, rfl⟩
  · by_cases h2 : b < a
    · rw [sgn_gt h2]
      go_enter Tryz.func48, Tryz.ntmps48
      go_wp2
      go_ret
      exact ⟨rfl, rfl⟩
    · rw [sgn_eq (by omega)]
      go_enter Tryz.func48, Tryz.ntmps48
      go_wp2
      go_ret
      exact ⟨rfl, rfl⟩
set_option maxRecDepth 100000 in
set_option maxHeartbeats 1000000 in
theorem l27List_any (s1 s2 : Value) (xs ys : List Int) (w : World) (h : IntSl w s1 xs) (h' : IntSl w s2 ys) :
    Calls Tryz.prog 81 #[s1, s2] w fun e w' => e = .returned (.int .i64 (lcmp xs ys)) ∧ ∃ n, w' = w.drewN n := by
  have hl1 := h.le
  have hl2 := h'.le
  obtain ⟨a, c, rfl⟩ := h.len
  obtain ⟨a', c', rfl⟩ := h'.len
  have HC := Lib.hid h.cells.2
  have HC' := Lib.hid h'.cells.2
  clear h h'
  obtain ⟨r, hr⟩ : ∃ r, lcmp xs ys = r := ⟨_, rfl⟩
  rw [hr]
  go_enter Tryz.func81, Tryz.ntmps81
  go_wp2
  go_loopw [5] (fun i wr => ∃ k : Nat, k ≤ xs.length ∧ k ≤ ys.length ∧ i = .int .i64 k ∧ Dr w wr ∧ lcmp (xs.drop k) (ys.drop k) = r) (fun i _ => xs.length - (intOf i).toNat)
  case atStart => exact ⟨0, Nat.zero_le _, Nat.zero_le _, rfl, Dr.refl _, by simpa using hr⟩
  case round =>
    obtain ⟨k, hk, hk', rfl, hdr, he⟩ := hrel
    have HE := Lib.hid he
    clear he hr
    by_cases h1 : k < xs.length
    · by_cases h2 : k < ys.length
      · obtain ⟨x, hx⟩ : ∃ x, xs[k]? = some x := ⟨xs[k], List.getElem?_eq_getElem h1⟩
        obtain ⟨y, hy⟩ : ∃ y, ys[k]? = some y := ⟨ys[k], List.getElem?_eq_getElem h2⟩
        obtain ⟨b, off, rfl, c1⟩ := HC.out k x hx
        rw [← hdr.cell] at c1
        obtain ⟨b', off', rfl, c2⟩ := HC'.out k y hy
        rw [← hdr.cell] at c2
        have HT := Lib.hid (lcmp_step hx hy)
        clear hx hy
        obtain ⟨z, hz⟩ : ∃ z, sgn x y = z := ⟨_, rfl⟩
        have hcall := fun w => l27Sign_any x y w
        rw [hz] at hcall
        have HS := Lib.hid hcall
        have HZ := Lib.hid hz
        clear hcall hz
        have i1 : (0 : Int) ≤ (k : Int) := by omega
        have i2 : (k : Int) < (xs.length : Int) := by omega
        have i3 : (k : Int) < (ys.length : Int) := by omega
        by_cases h0 : z = 0
        · subst h0
          go_wp2
          go_quiet ((go_at_call 80; exact Calls.quiet_of_same ((HS.out _).mono fun _ _ h => ⟨h.1, h.2.symm⟩)))
          go_wp2
          exact ⟨⟨k + 1, by omega, by omega, by go_num, by first | exact hdr | exact hdr.drewN _, by rw [← HE.out, HT.out, if_pos HZ.out]⟩, by simp [intOf]; omega⟩
        · have hz1 : (z == 0) = false := by simpa using h0
          have hz2 : (z != 0) = true := by simpa using h0
          go_wp2
          go_quiet ((go_at_call 80; exact Calls.quiet_of_same ((HS.out _).mono fun _ _ h => ⟨h.1, h.2.symm⟩)))
          go_wp2
          go_ret
          exact ⟨ret_i64 (by rw [← HE.out, HT.out, if_neg (by rw [HZ.out]; exact h0), HZ.out]), by first | exact hdr.out | exact (hdr.drewN _).out⟩
      · have hle : ys.length ≤ k := by omega
        have HT := Lib.hid (lcmp_end2 (b := ys) h1 hle)
        have HG := Lib.hid (sgn_gt (a := xs.length) (b := ys.length) (by omega))
        go_wp2_with fail
        refine (l27Sign_any _ _ _).mono ?_
        rintro e w' ⟨rfl, rfl⟩
        go_wp2
        go_ret
        exact ⟨ret_i64 (by rw [HG.out, ← HE.out, HT.out]), by first | exact hdr.out | exact (hdr.drewN _).out⟩
    · have hle : xs.length ≤ k := by omega
      have HT := Lib.hid (lcmp_end1 (b := ys) hle)
      go_wp2_with fail
      refine (l27Sign_any _ _ _).mono ?_
      rintro e w' ⟨rfl, rfl⟩
      go_wp2
      go_ret
      refine ⟨ret_i64 ?_, by first | exact hdr.out | exact (hdr.drewN _).out⟩
      rw [← HE.out, HT.out]
      split
      · exact sgn_lt (by omega)
      · exact sgn_eq (by omega)
set_option maxRecDepth 100000 in
set_option maxHeartbeats 1000000 in
theorem slicesCompare_any (s1 s2 : Value) (xs ys : List Int) (w : World) (h : IntSl w s1 xs) (h' : IntSl w s2 ys) :
    Calls Tryz.prog 49 #[s1, s2] w fun e w' => e = .returned (.int .i64 (lcmp xs ys)) ∧ ∃ n, w' = w.drewN n := by
  have hl1 := h.le
  have hl2 := h'.le
  obtain ⟨a, c, rfl⟩ := h.len
  obtain ⟨a', c', rfl⟩ := h'.len
  have HC := Lib.hid h.cells.2
  have HC' := Lib.hid h'.cells.2
  clear h h'
  obtain ⟨r, hr⟩ : ∃ r, lcmp xs ys = r := ⟨_, rfl⟩
  rw [hr]
  go_enter Tryz.func49, Tryz.ntmps49
  go_wp2
  go_loopw [11] (fun i wr => ∃ k : Nat, k ≤ xs.length ∧ k ≤ ys.length ∧ i = .int .i64 k ∧ Dr w wr ∧ lcmp (xs.drop k) (ys.drop k) = r) (fun i _ => xs.length - (intOf i).toNat)
  case atStart => exact ⟨0, Nat.zero_le _, Nat.zero_le _, rfl, Dr.refl _, by simpa using hr⟩
  case round =>
    obtain ⟨k, hk, hk', rfl, hdr, he⟩ := hrel
    have HE := Lib.hid he
    clear he hr
    by_cases h1 : k < xs.length
    · obtain ⟨x, hx⟩ : ∃ x, xs[k]? = some x := ⟨xs[k], List.getElem?_eq_getElem h1⟩
      obtain ⟨b, off, rfl, c1⟩ := HC.out k x hx
      rw [← hdr.cell] at c1
      have i1 : (0 : Int) ≤ (k : Int) := by omega
      have i2 : (k : Int) < (xs.length : Int) := by omega
      by_cases h2 : k < ys.length
      · obtain ⟨y, hy⟩ : ∃ y, ys[k]? = some y := ⟨ys[k], List.getElem?_eq_getElem h2⟩
        obtain ⟨b', off', rfl, c2⟩ := HC'.out k y hy
        rw [← hdr.cell] at c2
        have HT := Lib.hid (lcmp_step hx hy)
        clear hx hy
        obtain ⟨z, hz⟩ : ∃ z, sgn x y = z := ⟨_, rfl⟩
        have hcall := fun w => cmpCompare_any x y w
        rw [hz] at hcall
        have HS := Lib.hid hcall
        have HZ := Lib.hid hz
        clear hcall hz
        have i3 : (k : Int) < (ys.length : Int) := by omega
        by_cases h0 : z = 0
        · subst h0
          go_wp2_with (go_at_call 48; refine (HS.out _).mono ?_; rintro e w' ⟨rfl, rfl⟩)
          exact ⟨⟨k + 1, by omega, by omega, by go_num, by first | exact hdr | exact hdr.drewN _, by rw [← HE.out, HT.out, if_pos HZ.out]⟩, by simp [intOf]; omega⟩
        · have hz1 : (z == 0) = false := by simpa using h0
          have hz2 : (z != 0) = true := by simpa using h0
          go_wp2_with (go_at_call 48; refine (HS.out _).mono ?_; rintro e w' ⟨rfl, rfl⟩)
          go_ret
          exact ⟨ret_i64 (by rw [← HE.out, HT.out, if_neg (by rw [HZ.out]; exact h0), HZ.out]), by first | exact hdr.out | exact (hdr.drewN _).out⟩
      · have hle : ys.length ≤ k := by omega
        have HT := Lib.hid (lcmp_end2 (b := ys) h1 hle)
        clear hx
        go_wp2
        go_ret
        exact ⟨ret_i64 (by rw [← HE.out, HT.out]), by first | exact hdr.out | exact (hdr.drewN _).out⟩
    · have hle : xs.length ≤ k := by omega
      have HT := Lib.hid (lcmp_end1 (b := ys) hle)
      have hkx : k = xs.length := by omega
      subst hkx
      by_cases h2 : xs.length < ys.length
      · go_wp2
        go_ret
        exact ⟨ret_i64 (by rw [← HE.out, HT.out, if_pos h2]), by first | exact hdr.out | exact (hdr.drewN _).out⟩
      · go_wp2
        go_ret
        exact ⟨ret_i64 (by rw [← HE.out, HT.out, if_neg h2]), by first | exact hdr.out | exact (hdr.drewN _).out⟩
theorem cmpOr_any (g : Nat) (a b c d : Int) (w : World) (h : Blk w g #[.int .i64 a, .int .i64 b, .int .i64 c, .int .i64 d] 3) :
    Calls Tryz.prog 47 #[.slice (some ⟨g, 0, none⟩) 4 4] w fun e w' => e = .returned (.int .i64 (or2 a (or2 b (or2 c d)))) ∧ w = w' := by
  obtain ⟨r, hr⟩ : ∃ r, or2 a (or2 b (or2 c d)) = r := ⟨_, rfl⟩
  rw [hr]
  have HR := Lib.hid hr
  clear hr
  have hc := h.cell
  by_cases h1 : a = 0
  · have e1 : (a == 0) = true := by simpa using h1
    have f1 : (a != 0) = false := by simpa using h1
    subst h1
    by_cases h2 : b = 0
    · subst h2
      by_cases h3 : c = 0
      · subst h3
        by_cases h4 : d = 0
        · subst h4
          go_enter Tryz.func47, Tryz.ntmps47
          go_wp2
          refine wp_loop_rounds 5 ?_
          repeat any_goals (rw [rounds_succ]; go_wp2)
          go_ret
          exact ⟨ret_i64 (by rw [← HR.out]; simp [or2]), rfl⟩
        · have f4 : (d != 0) = true := by simpa using h4
          have e4 : (d == 0) = false := by simpa using h4
          go_enter Tryz.func47, Tryz.ntmps47
          go_wp2
          refine wp_loop_rounds 5 ?_
          repeat any_goals (rw [rounds_succ]; go_wp2)
          go_ret
          exact ⟨ret_i64 (by rw [← HR.out]; simp [or2]), rfl⟩
      · have f3 : (c != 0) = true := by simpa using h3
        have e3 : (c == 0) = false := by simpa using h3
        go_enter Tryz.func47, Tryz.ntmps47
        go_wp2
        refine wp_loop_rounds 5 ?_
        repeat any_goals (rw [rounds_succ]; go_wp2)
        go_ret
        exact ⟨ret_i64 (by rw [← HR.out]; simp [or2, h3]), rfl⟩
    · have f2 : (b != 0) = true := by simpa using h2
      have e2 : (b == 0) = false := by simpa using h2
      go_enter Tryz.func47, Tryz.ntmps47
      go_wp2
      refine wp_loop_rounds 5 ?_
      repeat any_goals (rw [rounds_succ]; go_wp2)
      go_ret
      exact ⟨ret_i64 (by rw [← HR.out]; simp [or2, h2]), rfl⟩
  · have f1 : (a != 0) = true := by simpa using h1
    have e1 : (a == 0) = false := by simpa using h1
    go_enter Tryz.func47, Tryz.ntmps47
    go_wp2
    refine wp_loop_rounds 5 ?_
    repeat any_goals (rw [rounds_succ]; go_wp2)
    go_ret
    exact ⟨ret_i64 (by rw [← HR.out]; simp [or2, h1]), rfl⟩
/- Contracts of the functions that compare two devices. -/
theorem or2_ne {a b : Int} (h : a ≠ 0) : or2 a b = a := by simp [or2, h]
theorem or2_z (b : Int) : or2 0 b = b := by simp [or2]
set_option maxRecDepth 100000 in
set_option maxHeartbeats 2000000 in
theorem specCompareDevices_any (k1 w1 l1 k2 w2 l2 : Int) (s1 s2 : Value) (xs ys : List Int) (w : World) (h : IntSl w s1 xs) (h' : IntSl w s2 ys) :
    Calls Tryz.prog 55 #[.agg #[.int .i64 k1, s1, .int .i64 w1, .int .i64 l1], .agg #[.int .i64 k2, s2, .int .i64 w2, .int .i64 l2]] w fun e w' => e = .returned (.int .i64 (devcmp k1 k2 xs ys w1 w2 l1 l2)) ∧ Below w.heap.size w w' := by
  obtain ⟨r, hr⟩ : ∃ r, devcmp k1 k2 xs ys w1 w2 l1 l2 = r := ⟨_, rfl⟩
  rw [hr]
  unfold devcmp at hr
  have hw := (((Below.refl _ w).alloc (Nat.le_refl _) (.cells #[.int .i64 k1, s1, .int .i64 w1, .int .i64 l1] 54)).alloc (by simp) (.cells #[.int .i64 k2, s2, .int .i64 w2, .int .i64 l2] 54))
  have h1 := h.by hw
  have h2 := h'.by hw
  obtain ⟨a, c, rfl⟩ := h.len
  obtain ⟨a', c', rfl⟩ := h'.len
  clear h h' hw
  have g1 := fun w => l27Sign_any k1 k2 w
  have g2 := fun w h h' => l27List_any (.slice a xs.length c) (.slice a' ys.length c') xs ys w h h'
  have g3 := fun w => l27Sign_any w1 w2 w
  have g4 := fun w => l27Sign_any l1 l2 w
  generalize sgn k1 k2 = z1 at *
  generalize lcmp xs ys = z2 at *
  generalize sgn w1 w2 = z3 at *
  generalize sgn l1 l2 = z4 at *
  have HR := Lib.hid hr
  have H1 := Lib.hid g1
  have H2 := Lib.hid g2
  have H3 := Lib.hid g3
  have H4 := Lib.hid g4
  clear hr g1 g2 g3 g4
  by_cases e1 : z1 = 0
  · subst e1
    by_cases e2 : z2 = 0
    · subst e2
      by_cases e3 : z3 = 0
      · subst e3
        go_enter Tryz.func55, Tryz.ntmps55
        go_wp2_with fail
        refine (H1.out _).mono ?_
        rintro e w' ⟨rfl, rfl⟩
        go_wp2_with fail
        refine (H2.out _ h1 h2).mono ?_
        rintro e w' ⟨rfl, m, rfl⟩
        go_wp2_with fail
        refine (H3.out _).mono ?_
        rintro e w' ⟨rfl, rfl⟩
        go_wp2_with fail
        refine (H4.out _).mono ?_
        rintro e w' ⟨rfl, rfl⟩
        go_wp2
        go_ret
        exact ⟨ret_i64 (by rw [← HR.out]; simp [or2]), blwT⟩
      · have f3 : (z3 != 0) = true := by simpa using e3
        have d3 : (z3 == 0) = false := by simpa using e3
        go_enter Tryz.func55, Tryz.ntmps55
        go_wp2_with fail
        refine (H1.out _).mono ?_
        rintro e w' ⟨rfl, rfl⟩
        go_wp2_with fail
        refine (H2.out _ h1 h2).mono ?_
        rintro e w' ⟨rfl, m, rfl⟩
        go_wp2_with fail
        refine (H3.out _).mono ?_
        rintro e w' ⟨rfl, rfl⟩
        go_wp2
        go_ret
        exact ⟨ret_i64 (by rw [← HR.out]; simp [or2, e3]), blwT⟩
    · have f2 : (z2 != 0) = true := by simpa using e2
      have d2 : (z2 == 0) = false := by simpa using e2
      go_enter Tryz.func55, Tryz.ntmps55
      go_wp2_with fail
      refine (H1.out _).mono ?_
      rintro e w' ⟨rfl, rfl⟩
      go_wp2_with fail
      refine (H2.out _ h1 h2).mono ?_
      rintro e w' ⟨rfl, m, rfl⟩
      go_wp2
      go_ret
      exact ⟨ret_i64 (by rw [← HR.out]; simp [or2, e2]), blwT⟩
  · have f1 : (z1 != 0) = true := by simpa using e1
    have d1 : (z1 == 0) = false := by simpa using e1
    go_enter Tryz.func55, Tryz.ntmps55
    go_wp2_with fail
    refine (H1.out _).mono ?_
    rintro e w' ⟨rfl, rfl⟩
    go_wp2
    go_ret
    exact ⟨ret_i64 (by rw [← HR.out]; simp [or2, e1]), blwT⟩
set_option maxRecDepth 100000 in
set_option maxHeartbeats 2000000 in
theorem compareDevices_any (k1 w1 l1 k2 w2 l2 : Int) (s1 s2 : Value) (xs ys : List Int) (w : World) (h : IntSl w s1 xs) (h' : IntSl w s2 ys) :
    Calls Tryz.prog 20 #[.agg #[.int .i64 k1, s1, .int .i64 w1, .int .i64 l1], .agg #[.int .i64 k2, s2, .int .i64 w2, .int .i64 l2]] w fun e w' => e = .returned (.int .i64 (devcmp k1 k2 xs ys w1 w2 l1 l2)) ∧ Below w.heap.size w w' := by
  obtain ⟨r, hr⟩ : ∃ r, devcmp k1 k2 xs ys w1 w2 l1 l2 = r := ⟨_, rfl⟩
  rw [hr]
  unfold devcmp at hr
  have hw := (((Below.refl _ w).alloc (Nat.le_refl _) (.cells #[.int .i64 k1, s1, .int .i64 w1, .int .i64 l1] 54)).alloc (by simp) (.cells #[.int .i64 k2, s2, .int .i64 w2, .int .i64 l2] 54))
  have h1 := h.by hw
  have h2 := h'.by hw
  obtain ⟨a, c, rfl⟩ := h.len
  obtain ⟨a', c', rfl⟩ := h'.len
  clear h h' hw
  have g1 := fun w => cmpCompare_any k1 k2 w
  have g2 := fun w h h' => slicesCompare_any (.slice a xs.length c) (.slice a' ys.length c') xs ys w h h'
  have g3 := fun w => cmpCompare_any w1 w2 w
  have g4 := fun w => cmpCompare_any l1 l2 w
  generalize sgn k1 k2 = z1 at *
  generalize lcmp xs ys = z2 at *
  generalize sgn w1 w2 = z3 at *
  generalize sgn l1 l2 = z4 at *
  have HR := Lib.hid hr
  have H1 := Lib.hid g1
  have H2 := Lib.hid g2
  have H3 := Lib.hid g3
  have H4 := Lib.hid g4
  clear hr g1 g2 g3 g4
  go_enter Tryz.func20, Tryz.ntmps20
  go_wp2_with fail
  go_region_held3 (fun w' => (Blk w' (w.heap.size) #[.int .i64 k1, .slice a xs.length c, .int .i64 w1, .int .i64 l1] 54 ∧ ∀ o, w'.cell? ⟨w.heap.size, o, none⟩ = (#[.int .i64 k1, .slice a xs.length c, .int .i64 w1, .int .i64 l1] : Array Value)[o]?) ∧ (Blk w' (w.heap.size + 1) #[.int .i64 k2, .slice a' ys.length c', .int .i64 w2, .int .i64 l2] 54 ∧ ∀ o, w'.cell? ⟨w.heap.size + 1, o, none⟩ = (#[.int .i64 k2, .slice a' ys.length c', .int .i64 w2, .int .i64 l2] : Array Value)[o]?) ∧ Below w.heap.size w w') (((try (obtain ⟨⟨hS0, _⟩, ⟨hS1, _⟩, hSB⟩ := hHeld)); refine ⟨Blk.both ?_, Blk.both ?_, ?_⟩ <;> first | ((repeat (first | (with_reducible assumption) | (with_reducible refine Blk.drewN ?_ _) | (with_reducible refine Blk.drew ?_) | ((with_reducible refine Blk.new _ ?_); focus (first | omega | (simp; done) | (simp; omega))) | (with_reducible refine Blk.past ?_ _) | ((with_reducible refine Blk.apart ?_ _ _ _ ?_); rotate_left; focus (first | omega | (simp; done) | (simp; omega))) | (with_reducible refine Blk.by (by assumption) ?_))); done) | ((repeat (first | (with_reducible exact Below.refl _ _) | (with_reducible refine below_drewN ?_ _) | (with_reducible refine Below.drew ?_) | (with_reducible refine below_al ?_ _) | (with_reducible refine below_on (by assumption) ?_) | ((with_reducible refine Below.setCell ?_ ?_ _); rotate_left; focus (first | omega | (simp; done) | (simp; omega))) | (with_reducible assumption))); done)))
    (first | (go_at_call_of 48 (Value.int .i64 k1); refine (H1.out _).mono ?_; rintro e w' ⟨rfl, rfl⟩) | (go_at_call_of 48 (Value.int .i64 w1); refine (H3.out _).mono ?_; rintro e w' ⟨rfl, rfl⟩) | (go_at_call_of 48 (Value.int .i64 l1); refine (H4.out _).mono ?_; rintro e w' ⟨rfl, rfl⟩) | (go_at_call 49; refine (H2.out _ (h1.by (below_of_drewN _ 1)) (h2.by (below_of_drewN _ 1))).mono ?_; rintro e w' ⟨rfl, m, rfl⟩) | (go_at_call 47; refine (cmpOr_any _ z1 z2 z3 z4 _ (Blk.new _ (by simp))).mono ?_; rintro e w' ⟨rfl, rfl⟩))
  all_goals go_wp2
  all_goals go_ret
  exact ⟨ret_i64 HR.out, blwT⟩
/- Parallel devices, devices in series, first pairs: plain. -/
def curP : List Int → Int
  | [p, _] => p
  | [_, p, _] => p
  | _ => 0
def curQ : List Int → Int
  | [_, q] => q
  | [_, _, q] => q
  | _ => 0
def gateOf : List Int → Int
  | [g, _, _] => g
  | _ => 0
def Shp (x : Dv) : Prop := (x.kind = 2 ∧ ∃ p q, x.pins = [p, q]) ∨ ((x.kind = 0 ∨ x.kind = 1) ∧ ∃ g p q, x.pins = [g, p, q])
theorem shp_of {nets : Int} {x : Dv} (h : dvB nets x = true) : Shp x := by
  obtain ⟨h1, h2, _⟩ := dvB_all h
  have hk := inB_iff.1 h1
  by_cases h2' : x.kind = 2
  · left
    refine ⟨h2', ?_⟩
    simp only [pinsOf, h2', if_pos] at h2
    match hp : x.pins, h2 with
    | [p, q], _ => exact ⟨p, q, rfl⟩
  · right
    refine ⟨by omega, ?_⟩
    simp only [pinsOf, if_neg h2'] at h2
    match hp : x.pins, h2 with
    | [g, p, q], _ => exact ⟨g, p, q, rfl⟩
theorem lcmp_zero : ∀ (a b : List Int), lcmp a b = 0 ↔ a = b
  | [], [] => by simp [lcmp]
  | [], _ :: _ => by simp [lcmp]
  | _ :: _, [] => by simp [lcmp]
  | a :: r, b :: s => by
    have ih := lcmp_zero r s
    unfold lcmp
    by_cases h : sgn a b = 0
    · rw [if_pos h, ih]
      have hab : a = b := by
        unfold sgn at h
        split at h
        · omega
        · split at h
          · omega
          · omega
      simp [hab]
    · rw [if_neg h]
      have hab : a ≠ b := fun e => h (sgn_eq e)
      simp [hab, h]
/- Current pins, gates: contracts. -/
theorem IntSl.two {w : World} {sv : Value} {p q : Int} (h : IntSl w sv [p, q]) : ∃ b off cap, sv = .slice (some ⟨b, off, none⟩) 2 cap ∧ w.cell? ⟨b, off, none⟩ = some (.int .i64 p) ∧ w.cell? ⟨b, off + 1, none⟩ = some (.int .i64 q) ∧ b < w.heap.size := by
  rcases h with ⟨_, _, _, h2⟩ | ⟨b, off, cap, hsv, h2, h3, h4⟩
  · simp at h2
  simp only [List.length_cons, List.length_nil, Nat.zero_add, Nat.reduceAdd] at hsv
  have hp : w.cell? ⟨b, off, none⟩ = some (.int .i64 p) := by have := h4 0 p rfl; simpa using this
  have hq : w.cell? ⟨b, off + 1, none⟩ = some (.int .i64 q) := by have := h4 1 q rfl; simpa using this
  refine ⟨b, off, cap, hsv, hp, hq, ?_⟩
  rcases Nat.lt_or_ge b w.heap.size with h' | h'
  · exact h'
  · simp [World.cell?, Array.getElem?_eq_none h'] at hp
theorem IntSl.three {w : World} {sv : Value} {g p q : Int} (h : IntSl w sv [g, p, q]) : ∃ b off cap, sv = .slice (some ⟨b, off, none⟩) 3 cap ∧ w.cell? ⟨b, off, none⟩ = some (.int .i64 g) ∧ w.cell? ⟨b, off + 1, none⟩ = some (.int .i64 p) ∧ w.cell? ⟨b, off + 2, none⟩ = some (.int .i64 q) ∧ b < w.heap.size := by
  rcases h with ⟨_, _, _, h2⟩ | ⟨b, off, cap, hsv, h2, h3, h4⟩
  · simp at h2
  simp only [List.length_cons, List.length_nil, Nat.zero_add, Nat.reduceAdd] at hsv
  have hg : w.cell? ⟨b, off, none⟩ = some (.int .i64 g) := by have := h4 0 g rfl; simpa using this
  have hp : w.cell? ⟨b, off + 1, none⟩ = some (.int .i64 p) := by have := h4 1 p rfl; simpa using this
  have hq : w.cell? ⟨b, off + 2, none⟩ = some (.int .i64 q) := by have := h4 2 q rfl; simpa using this
  refine ⟨b, off, cap, hsv, hg, hp, hq, ?_⟩
  rcases Nat.lt_or_ge b w.heap.size with h' | h'
  · exact h'
  · simp [World.cell?, Array.getElem?_eq_none h'] at hp
set_option maxRecDepth 100000 in
set_option maxHeartbeats 1000000 in
theorem currentPins_any (x : Dv) (sv : Value) (w : World) (h : IntSl w sv x.pins) (hs : Shp x) :
    Calls Tryz.prog 108 #[.agg #[.int .i64 x.kind, sv, .int .i64 x.wd, .int .i64 x.len]] w fun e w' => e = .returned (.tuple #[.int .i64 (curP x.pins), .int .i64 (curQ x.pins)]) ∧ Below w.heap.size w w' := by
  obtain ⟨kind, pins, wd, len⟩ := x
  dsimp only at h ⊢
  rcases hs with ⟨_, p, q, hp⟩ | ⟨_, g, p, q, hp⟩
  · dsimp only at hp; subst hp
    obtain ⟨b, off, cap, rfl, c0, c1, hb⟩ := h.two
    clear h
    simp only [curP, curQ]
    go_enter Tryz.func108, Tryz.ntmps108
    go_wp2
    go_quiet (fail)
    go_wp2
    go_ret2
    exact ⟨rfl, blwT⟩
  · dsimp only at hp; subst hp
    obtain ⟨b, off, cap, rfl, c0, c1, c2, hb⟩ := h.three
    clear h
    simp only [curP, curQ]
    go_enter Tryz.func108, Tryz.ntmps108
    go_wp2
    go_quiet (fail)
    go_wp2
    go_ret2
    exact ⟨rfl, blwT⟩
/- Parallel devices: contracts. -/
end Go.Proofs.YtehmiekendkjmaaGreat
