/- The reference's MergePair. -/
import Derived.Test.YtjanifoipbmkhaaGreatMrgs
import Derived.Test.YtjanifoipbmkhaaGreatBldM
import Derived.Test.YtjanifoipbmkhaaGreatSpecNl
import Derived.Test.YtjanifoipbmkhaaGreatSerX
import Derived.Test.YtjanifoipbmkhaaGreatCopies
import Derived.Deep.RegionHeldLaw
import Derived.BigRegion
namespace Go.Proofs.YtjanifoipbmkhaaGreat
open Go.RowKit
set_option linter.unusedVariables false
set_option linter.unusedSimpArgs false

set_option maxRecDepth 100000 in
set_option maxHeartbeats 1000000 in
theorem specMp_no (x : Nl) (i j : Int) (v : Value) (w : World) (h : NlV w v x) (hok : ∀ p ∈ x.ps, p.ok) (hnn : Fits x.nets) (hv : nlB x = false) :
    Calls Tryz.prog 16 #[v, .int .i64 i, .int .i64 j] w fun e w' => ∃ v', e = .returned (.tuple #[v', .int .i64 (mgC x i j)]) ∧ OwnNlX w' w.heap.size w'.heap.size v' (mgR x i j) ∧ Below w.heap.size w w' := by
  have hc := mgC_valid (i := i) (j := j) hv
  rw [mgR_no (by rw [hc]; decide), hc]
  have HV := Lib.hid (fun v w h => specNl_any x v w h hok hnn)
  rw [hv] at HV
  have HN := Lib.hid h
  obtain ⟨a, c, a', c', rfl⟩ := h.sized
  clear h hok hv hc
  go_enter Tryz.func16, Tryz.ntmps16
  go_wp2_with (go_at_call 13; refine (HV.out _ _ (HN.out.by (by ((repeat (first | (with_reducible exact Below.refl _ _) | (with_reducible refine below_drewN ?_ _) | (with_reducible refine Below.drew ?_) | (with_reducible refine below_al ?_ _) | (with_reducible refine below_on (by assumption) ?_) | ((with_reducible refine Below.setCell ?_ ?_ _); rotate_left; focus (first | omega | (simp; done) | (simp; omega))) | (with_reducible assumption))); done)))).mono ?_; rintro e w1 ⟨rfl, hb1⟩; have k1 : Blk w1 (w.heap.size + 1) #[.int .i64 0, .slice none 0 0, .slice none 0 0] 30 := (by ((repeat (first | (with_reducible assumption) | (with_reducible refine Blk.drewN ?_ _) | (with_reducible refine Blk.drew ?_) | ((with_reducible refine Blk.new _ ?_); focus (first | omega | (simp; done) | (simp; omega))) | (with_reducible refine Blk.past ?_ _) | ((with_reducible refine Blk.apart ?_ _ _ _ ?_); rotate_left; focus (first | omega | (simp; done) | (simp; omega))) | (with_reducible refine Blk.by (by assumption) ?_))); done)); have f1 := k1.free; have c1 := k1.cell; have l1 := k1.lt)
  exact bodyPost_ret (v := .tuple #[.agg #[.int .i64 0, .slice none 0 0, .slice none 0 0], .int .i64 1]) (by simp [results, Tryz.results16, go_sem, *]) rfl ⟨_, rfl, nlZeroX _ _ _ (by simp; omega), (by ((repeat (first | (with_reducible exact Below.refl _ _) | (with_reducible refine below_drewN ?_ _) | (with_reducible refine Below.drew ?_) | (with_reducible refine below_al ?_ _) | (with_reducible refine below_on (by assumption) ?_) | ((with_reducible refine Below.setCell ?_ ?_ _); rotate_left; focus (first | omega | (simp; done) | (simp; omega))) | (with_reducible assumption))); done))⟩

set_option maxRecDepth 100000 in
set_option maxHeartbeats 1000000 in
theorem specMp_range (x : Nl) (i j : Int) (v : Value) (w : World) (h : NlV w v x) (hok : ∀ p ∈ x.ps, p.ok) (hnn : Fits x.nets) (hv : nlB x = true) (hr : ¬ (0 ≤ i ∧ i < j ∧ j < x.ds.length)) :
    Calls Tryz.prog 16 #[v, .int .i64 i, .int .i64 j] w fun e w' => ∃ v', e = .returned (.tuple #[v', .int .i64 (mgC x i j)]) ∧ OwnNlX w' w.heap.size w'.heap.size v' (mgR x i j) ∧ Below w.heap.size w w' := by
  have hc := mgC_range (i := i) (j := j) hv hr
  rw [mgR_no (by rw [hc]; decide), hc]
  have HV := Lib.hid (fun v w h => specNl_any x v w h hok hnn)
  rw [hv] at HV
  have HN := Lib.hid h
  obtain ⟨a, c, a', c', rfl⟩ := h.sized
  have h3 : i < 0 ∨ (¬ i < 0 ∧ j ≤ i) ∨ (¬ i < 0 ∧ ¬ j ≤ i ∧ (x.ds.length : Int) ≤ j) := by omega
  clear h hok hv hc hr
  rcases h3 with r1 | ⟨r1, r2⟩ | ⟨r1, r2, r3⟩
  rotate_left 2
  have r4 : decide (j ≥ (x.ds.length : Int)) = true := decide_eq_true r3
  rotate_left
  all_goals
    go_enter Tryz.func16, Tryz.ntmps16
    go_wp2_with (go_at_call 13; refine (HV.out _ _ (HN.out.by (by ((repeat (first | (with_reducible exact Below.refl _ _) | (with_reducible refine below_drewN ?_ _) | (with_reducible refine Below.drew ?_) | (with_reducible refine below_al ?_ _) | (with_reducible refine below_on (by assumption) ?_) | ((with_reducible refine Below.setCell ?_ ?_ _); rotate_left; focus (first | omega | (simp; done) | (simp; omega))) | (with_reducible assumption))); done)))).mono ?_; rintro e w1 ⟨rfl, hb1⟩; have k1 : Blk w1 (w.heap.size + 1) #[.int .i64 0, .slice none 0 0, .slice none 0 0] 30 := (by ((repeat (first | (with_reducible assumption) | (with_reducible refine Blk.drewN ?_ _) | (with_reducible refine Blk.drew ?_) | ((with_reducible refine Blk.new _ ?_); focus (first | omega | (simp; done) | (simp; omega))) | (with_reducible refine Blk.past ?_ _) | ((with_reducible refine Blk.apart ?_ _ _ _ ?_); rotate_left; focus (first | omega | (simp; done) | (simp; omega))) | (with_reducible refine Blk.by (by assumption) ?_))); done)); have k0 : Blk w1 w.heap.size #[.int .i64 x.nets, .slice a x.ds.length c, .slice a' x.ps.length c'] 30 := (by ((repeat (first | (with_reducible assumption) | (with_reducible refine Blk.drewN ?_ _) | (with_reducible refine Blk.drew ?_) | ((with_reducible refine Blk.new _ ?_); focus (first | omega | (simp; done) | (simp; omega))) | (with_reducible refine Blk.past ?_ _) | ((with_reducible refine Blk.apart ?_ _ _ _ ?_); rotate_left; focus (first | omega | (simp; done) | (simp; omega))) | (with_reducible refine Blk.by (by assumption) ?_))); done)); have f1 := k1.free; have c1 := k1.cell; have l1 := k1.lt; have c0 := k0.cell)
    exact bodyPost_ret (v := .tuple #[.agg #[.int .i64 0, .slice none 0 0, .slice none 0 0], .int .i64 2]) (by simp [results, Tryz.results16, go_sem, *]) rfl ⟨_, rfl, nlZeroX _ _ _ (by simp; omega), (by ((repeat (first | (with_reducible exact Below.refl _ _) | (with_reducible refine below_drewN ?_ _) | (with_reducible refine Below.drew ?_) | (with_reducible refine below_al ?_ _) | (with_reducible refine below_on (by assumption) ?_) | ((with_reducible refine Below.setCell ?_ ?_ _); rotate_left; focus (first | omega | (simp; done) | (simp; omega))) | (with_reducible assumption))); done))⟩

set_option maxRecDepth 100000 in
set_option maxHeartbeats 8000000 in
theorem specMp_in (x : Nl) (i j : Nat) (A B : Dv) (v : Value) (w : World) (h : NlV w v x) (hok : ∀ p ∈ x.ps, p.ok) (hnn : Fits x.nets) (hv : nlB x = true) (hij : i < j) (hA : x.ds[i]? = some A) (hB : x.ds[j]? = some B) :
    Calls Tryz.prog 16 #[v, .int .i64 i, .int .i64 j] w fun e w' => ∃ v', e = .returned (.tuple #[v', .int .i64 (mgC x i j)]) ∧ OwnNlX w' w.heap.size w'.heap.size v' (mgR x i j) ∧ Below w.heap.size w w' := by
  have HC := Lib.hid (mgC_in hv hij hA hB)
  have HR := Lib.hid (mgR_in hv hij hA hB)
  have HRN := Lib.hid (@mgR_no x i j)
  have HV := Lib.hid (fun v w h => specNl_any x v w h hok hnn)
  rw [hv] at HV
  have HN := Lib.hid h
  obtain ⟨hn24, hl24, hp8, hdv, _⟩ := nlB_facts hv
  have mA := List.mem_of_getElem? hA
  have mB := List.mem_of_getElem? hB
  have sA' := shp_of (hdv A mA)
  have sB' := shp_of (hdv B mB)
  have HPN := Lib.hid (fun d (hd : d ∈ x.ds) => dvB_pins (hdv d hd))
  have HPL := Lib.hid (fun s t w h h' => by have := l28Parallel_any A B s t w h h' (by have := (HPN.out A mA).1; omega) (by have := (HPN.out B mB).1; omega); rwa [parS_parB sA' sB'] at this)
  have HS := Lib.hid (fun v sx sy w h1 h2 h3 => l28Series_any x A B v sx sy w hv mA mB h1 h2 h3)
  have cA := cur_in (hdv A mA)
  have cB := cur_in (hdv B mB)
  have bA := dvB_nums (hdv A mA)
  have bB := dvB_nums (hdv B mB)
  have HM := Lib.hid (fun par net sx sy w h h' hs => l28Merge_any A B par net sx sy w h h' sA' sB' ⟨⟨cA.1.1, by omega⟩, cA.2.1, by omega⟩ ⟨⟨cB.1.1, by omega⟩, cB.2.1, by omega⟩ bA.1 bA.2 bB.1 bB.2 hs)
  have HMP := Lib.hid (fun ser => @mgD_pins A B ser sA')
  have hj := (List.getElem?_eq_some_iff.1 hB).1
  obtain ⟨s1, s2, rfl, hd, hp⟩ := h
  obtain ⟨nets, ds, ps⟩ := x
  dsimp only at hA hB hd hp hl24 hp8 hj HN HC HR HRN HPN
  rcases hd with ⟨_, _, _, h2⟩ | ⟨G, off, cap, rfl, hcap, hmx, hel⟩
  · rw [h2] at hj; simp at hj
  have HEL := Lib.hid hel
  obtain ⟨sA, a0, a1, a2, a3, hSA⟩ := hel i A hA
  obtain ⟨sB, b0, b1, b2, b3, hSB⟩ := hel j B hB
  have HP := Lib.hid hp
  obtain ⟨a', c', rfl⟩ := hp.sized
  have HSA := Lib.hid hSA
  have HSB := Lib.hid hSB
  have lG := lt_of_cell a0
  dsimp only at lG
  obtain ⟨aA, pcA, rfl⟩ := hSA.len
  obtain ⟨aB, pcB, rfl⟩ := hSB.len
  have r1 : ¬ (i : Int) < 0 := by omega
  have r2 : ¬ (j : Int) ≤ (i : Int) := by omega
  have r3 : ¬ (ds.length : Int) ≤ (j : Int) := by omega
  have q1 : (0 : Int) ≤ (i : Int) := by omega
  have q2 : (0 : Int) ≤ (j : Int) := by omega
  have q3 : (j : Int) < (ds.length : Int) := by omega
  have q4 : (i : Int) < (ds.length : Int) := by omega
  clear hok hnn hv hA hB hp hel hSA hSB hdv mA mB cA cB bA bB hn24 sA' sB'
  go_enter Tryz.func16, Tryz.ntmps16
  go_wp2_with fail
  refine (HV.out _ _ (HN.out.by (by ((repeat (first | (with_reducible exact Below.refl _ _) | (with_reducible refine below_drewN ?_ _) | (with_reducible refine Below.drew ?_) | (with_reducible refine below_al ?_ _) | (with_reducible refine below_on (by assumption) ?_) | ((with_reducible refine Below.setCell ?_ ?_ _); rotate_left; focus (first | omega | (simp; done) | (simp; omega))) | (with_reducible assumption))); done)))).mono ?_
  rintro e w1 ⟨rfl, hb1⟩
  have k1 : Blk w1 (w.heap.size + 1) #[.int .i64 0, .slice none 0 0, .slice none 0 0] 30 := (by ((repeat (first | (with_reducible assumption) | (with_reducible refine Blk.drewN ?_ _) | (with_reducible refine Blk.drew ?_) | ((with_reducible refine Blk.new _ ?_); focus (first | omega | (simp; done) | (simp; omega))) | (with_reducible refine Blk.past ?_ _) | ((with_reducible refine Blk.apart ?_ _ _ _ ?_); rotate_left; focus (first | omega | (simp; done) | (simp; omega))) | (with_reducible refine Blk.by (by assumption) ?_))); done))
  have k0 : Blk w1 w.heap.size #[.int .i64 nets, .slice (some ⟨G, off, none⟩) ds.length cap, .slice a' ps.length c'] 30 := (by ((repeat (first | (with_reducible assumption) | (with_reducible refine Blk.drewN ?_ _) | (with_reducible refine Blk.drew ?_) | ((with_reducible refine Blk.new _ ?_); focus (first | omega | (simp; done) | (simp; omega))) | (with_reducible refine Blk.past ?_ _) | ((with_reducible refine Blk.apart ?_ _ _ _ ?_); rotate_left; focus (first | omega | (simp; done) | (simp; omega))) | (with_reducible refine Blk.by (by assumption) ?_))); done))
  have hB1 : Below w.heap.size w w1 := (by ((repeat (first | (with_reducible exact Below.refl _ _) | (with_reducible refine below_drewN ?_ _) | (with_reducible refine Below.drew ?_) | (with_reducible refine below_al ?_ _) | (with_reducible refine below_on (by assumption) ?_) | ((with_reducible refine Below.setCell ?_ ?_ _); rotate_left; focus (first | omega | (simp; done) | (simp; omega))) | (with_reducible assumption))); done))
  have c0 := k0.cell
  have l0 := k0.lt
  have l1 := k1.lt
  replace a0 := (hB1.cell lG).trans a0
  replace a1 := (hB1.cell lG).trans a1
  replace a2 := (hB1.cell lG).trans a2
  replace a3 := (hB1.cell lG).trans a3
  replace b0 := (hB1.cell lG).trans b0
  replace b1 := (hB1.cell lG).trans b1
  replace b2 := (hB1.cell lG).trans b2
  replace b3 := (hB1.cell lG).trans b3
  have lG1 : G < w1.heap.size := by omega
  go_upto_region 5 with fail
  go_cut [8, 9] (fun s8 s9 wx => ∃ p q : Nat, s8 = .pointer (some ⟨p, 0, none⟩) ∧ s9 = .pointer (some ⟨q, 0, none⟩) ∧ Blk wx p #[.int .i64 A.kind, .slice aA A.pins.length pcA, .int .i64 A.wd, .int .i64 A.len] 46 ∧ Blk wx q #[.int .i64 B.kind, .slice aB B.pins.length pcB, .int .i64 B.wd, .int .i64 B.len] 46 ∧
    Blk wx (w.heap.size + 1) #[.int .i64 0, .slice none 0 0, .slice none 0 0] 30 ∧ Blk wx w.heap.size #[.int .i64 nets, .slice (some ⟨G, off, none⟩) ds.length cap, .slice a' ps.length c'] 30 ∧ (w.heap.size + 1 < p ∧ w.heap.size + 1 < q ∧ p ≠ q) ∧ Below w.heap.size w wx)
  case first =>
    go_region
    all_goals (go_wp2_with fail; go_meet)
    · exact ⟨_, _, rfl, rfl, ((Blk.new _ rfl).past _).drew, (Blk.new _ (by simp)).drew, (by ((repeat (first | (with_reducible assumption) | (with_reducible refine Blk.drewN ?_ _) | (with_reducible refine Blk.drew ?_) | ((with_reducible refine Blk.new _ ?_); focus (first | omega | (simp; done) | (simp; omega))) | (with_reducible refine Blk.past ?_ _) | ((with_reducible refine Blk.apart ?_ _ _ _ ?_); rotate_left; focus (first | omega | (simp; done) | (simp; omega))) | (with_reducible refine Blk.by (by assumption) ?_))); done)), (by ((repeat (first | (with_reducible assumption) | (with_reducible refine Blk.drewN ?_ _) | (with_reducible refine Blk.drew ?_) | ((with_reducible refine Blk.new _ ?_); focus (first | omega | (simp; done) | (simp; omega))) | (with_reducible refine Blk.past ?_ _) | ((with_reducible refine Blk.apart ?_ _ _ _ ?_); rotate_left; focus (first | omega | (simp; done) | (simp; omega))) | (with_reducible refine Blk.by (by assumption) ?_))); done)), ⟨by omega, by simp <;> omega, by simp <;> omega⟩, (by ((repeat (first | (with_reducible exact Below.refl _ _) | (with_reducible refine below_drewN ?_ _) | (with_reducible refine Below.drew ?_) | (with_reducible refine below_al ?_ _) | (with_reducible refine below_on (by assumption) ?_) | ((with_reducible refine Below.setCell ?_ ?_ _); rotate_left; focus (first | omega | (simp; done) | (simp; omega))) | (with_reducible assumption))); done))⟩
    · exact ⟨_, _, rfl, rfl, (Blk.new _ (by simp)).drew, ((Blk.new _ rfl).past _).drew, (by ((repeat (first | (with_reducible assumption) | (with_reducible refine Blk.drewN ?_ _) | (with_reducible refine Blk.drew ?_) | ((with_reducible refine Blk.new _ ?_); focus (first | omega | (simp; done) | (simp; omega))) | (with_reducible refine Blk.past ?_ _) | ((with_reducible refine Blk.apart ?_ _ _ _ ?_); rotate_left; focus (first | omega | (simp; done) | (simp; omega))) | (with_reducible refine Blk.by (by assumption) ?_))); done)), (by ((repeat (first | (with_reducible assumption) | (with_reducible refine Blk.drewN ?_ _) | (with_reducible refine Blk.drew ?_) | ((with_reducible refine Blk.new _ ?_); focus (first | omega | (simp; done) | (simp; omega))) | (with_reducible refine Blk.past ?_ _) | ((with_reducible refine Blk.apart ?_ _ _ _ ?_); rotate_left; focus (first | omega | (simp; done) | (simp; omega))) | (with_reducible refine Blk.by (by assumption) ?_))); done)), ⟨by simp <;> omega, by omega, by simp <;> omega⟩, (by ((repeat (first | (with_reducible exact Below.refl _ _) | (with_reducible refine below_drewN ?_ _) | (with_reducible refine Below.drew ?_) | (with_reducible refine below_al ?_ _) | (with_reducible refine below_on (by assumption) ?_) | ((with_reducible refine Below.setCell ?_ ?_ _); rotate_left; focus (first | omega | (simp; done) | (simp; omega))) | (with_reducible assumption))); done))⟩
  case rest =>
    clear k0 k1 c0 l0 l1 a0 a1 a2 a3 b0 b1 b2 b3 lG1 hB1 hb1
    obtain ⟨p, q, rfl, rfl, kA, kB, k1, k0, ⟨hp, hq, hpq⟩, hBc⟩ := hcut
    have lA := kA.lt
    have lB := kB.lt
    have l0 := k0.lt
    have cA := kA.cell
    have cB := kB.cell
    have c0 := k0.cell
    go_wp2_with fail
    refine (HPL.out _ _ _ (HSA.out.by (by ((repeat (first | (with_reducible exact Below.refl _ _) | (with_reducible refine below_drewN ?_ _) | (with_reducible refine Below.drew ?_) | (with_reducible refine below_al ?_ _) | (with_reducible refine below_on (by assumption) ?_) | ((with_reducible refine Below.setCell ?_ ?_ _); rotate_left; focus (first | omega | (simp; done) | (simp; omega))) | (with_reducible assumption))); done))) (HSB.out.by (by ((repeat (first | (with_reducible exact Below.refl _ _) | (with_reducible refine below_drewN ?_ _) | (with_reducible refine Below.drew ?_) | (with_reducible refine below_al ?_ _) | (with_reducible refine below_on (by assumption) ?_) | ((with_reducible refine Below.setCell ?_ ?_ _); rotate_left; focus (first | omega | (simp; done) | (simp; omega))) | (with_reducible assumption))); done)))).mono ?_
    rintro e w2 ⟨rfl, hb2⟩
    replace kA := Blk.by hb2 kA
    replace kB := Blk.by hb2 kB
    replace k0 := Blk.by hb2 k0
    replace k1 := Blk.by hb2 k1
    replace hBc := below_on hb2 hBc
    replace lA := kA.lt
    replace lB := kB.lt
    replace l0 := k0.lt
    replace cA := kA.cell
    replace cB := kB.cell
    replace c0 := k0.cell
    clear hb2
    go_wp2_with fail
    refine (HS.out _ _ _ _ (HN.out.by (by ((repeat (first | (with_reducible exact Below.refl _ _) | (with_reducible refine below_drewN ?_ _) | (with_reducible refine Below.drew ?_) | (with_reducible refine below_al ?_ _) | (with_reducible refine below_on (by assumption) ?_) | ((with_reducible refine Below.setCell ?_ ?_ _); rotate_left; focus (first | omega | (simp; done) | (simp; omega))) | (with_reducible assumption))); done))) (HSA.out.by (by ((repeat (first | (with_reducible exact Below.refl _ _) | (with_reducible refine below_drewN ?_ _) | (with_reducible refine Below.drew ?_) | (with_reducible refine below_al ?_ _) | (with_reducible refine below_on (by assumption) ?_) | ((with_reducible refine Below.setCell ?_ ?_ _); rotate_left; focus (first | omega | (simp; done) | (simp; omega))) | (with_reducible assumption))); done))) (HSB.out.by (by ((repeat (first | (with_reducible exact Below.refl _ _) | (with_reducible refine below_drewN ?_ _) | (with_reducible refine Below.drew ?_) | (with_reducible refine below_al ?_ _) | (with_reducible refine below_on (by assumption) ?_) | ((with_reducible refine Below.setCell ?_ ?_ _); rotate_left; focus (first | omega | (simp; done) | (simp; omega))) | (with_reducible assumption))); done)))).mono ?_
    rintro e w3 ⟨rN, rfl, hrN, hb3⟩
    replace kA := Blk.by hb3 kA
    replace kB := Blk.by hb3 kB
    replace k0 := Blk.by hb3 k0
    replace k1 := Blk.by hb3 k1
    replace hBc := below_on hb3 hBc
    replace lA := kA.lt
    replace lB := kB.lt
    replace l0 := k0.lt
    replace cA := kA.cell
    replace cB := kB.cell
    replace c0 := k0.cell
    have l1 := k1.lt
    have c1 := k1.cell
    have f1 := k1.free
    clear hb3
    go_upto_region 8 with fail
    go_cut [10, 47, 60] (fun s10 s47 s wx => s10 = .bool (parB A B) ∧ s47 = .bool (parB A B) ∧ s = .bool (!parB A B && !serB ⟨nets, ds, ps⟩ A B) ∧ wx = w3)
    case first =>
      cases hPB : parB A B with
      | false =>
        go_wp2_with fail
        go_meet
        exact ⟨by rw [hPB], by rw [hPB], by rw [hPB]; rfl, rfl⟩
      | true =>
        go_wp2_with fail
        go_meet
        exact ⟨by rw [hPB], by rw [hPB], by rw [hPB]; rfl, rfl⟩
    case rest =>
      obtain ⟨rfl, rfl, rfl, rfl⟩ := hcut
      generalize hq : (!parB A B && !serB ⟨nets, ds, ps⟩ A B) = q0
      cases q0 with
      | true =>
        have e6 : mgE ⟨nets, ds, ps⟩ A B = 6 := by unfold mgE; rw [if_pos (by simpa [and_comm] using hq)]
        have e6' := HC.out.trans e6
        have z6 := HRN.out (by rw [e6']; decide)
        go_wp2_with fail
        refine bodyPost_ret (v := .tuple #[.agg #[.int .i64 0, .slice none 0 0, .slice none 0 0], .int .i64 6]) (by simp [results, Tryz.results16, go_sem, *]) rfl ?_
        rw [z6, e6']
        exact ⟨_, rfl, nlZeroX _ _ _ (by simp; omega), (by ((repeat (first | (with_reducible exact Below.refl _ _) | (with_reducible refine below_drewN ?_ _) | (with_reducible refine Below.drew ?_) | (with_reducible refine below_al ?_ _) | (with_reducible refine below_on (by assumption) ?_) | ((with_reducible refine Below.setCell ?_ ?_ _); rotate_left; focus (first | omega | (simp; done) | (simp; omega))) | (with_reducible assumption))); done))⟩
      | false =>
        have hps : serB ⟨nets, ds, ps⟩ A B = !parB A B := by
          cases hpb : parB A B with
          | false =>
            cases hsb : serB ⟨nets, ds, ps⟩ A B with
            | false => rw [hpb, hsb] at hq; simp at hq
            | true => rfl
          | true =>
            have := preB_par hpb
            simp [serB, this]
        have hst : ¬ (serB ⟨nets, ds, ps⟩ A B = false ∧ parB A B = false) := by
          rintro ⟨h1, h2⟩
          rw [h1, h2] at hq
          simp at hq
        have hsr : parB A B = false → oneB A B = true ∧ rN = serN A B := fun h => by
          have : serB ⟨nets, ds, ps⟩ A B = true := by rw [hps, h]; rfl
          exact ⟨(serB_oneB this).2, hrN this⟩
        have HE : mgE ⟨nets, ds, ps⟩ A B = if (mgD A B (serB ⟨nets, ds, ps⟩ A B)).wd > 1000000 ∨ (mgD A B (serB ⟨nets, ds, ps⟩ A B)).len > 1000000 then 3 else 0 := by unfold mgE; rw [if_neg hst]
        have HM1 := Lib.hid (fun sx sy w h h' => HM.out (parB A B) rN sx sy w h h' hsr)
        have hpn := (HMP.out (serB ⟨nets, ds, ps⟩ A B)).1
        have HRR := HR.out
        rw [hps] at HE hpn HRR
        obtain ⟨d, hd⟩ : ∃ d, mgD A B (!parB A B) = d := ⟨_, rfl⟩
        rw [hd] at HM1 HE hpn HRR
        generalize mgE ⟨nets, ds, ps⟩ A B = me at *
        replace HE := Lib.hid HE
        replace HRR := Lib.hid HRR
        replace hpn := Lib.hid hpn
        clear hd hst hsr hq hrN hps
        have lc1 := l1
        go_wp2_with fail
        refine (HM1.out _ _ _ (HSA.out.by (by ((repeat (first | (with_reducible exact Below.refl _ _) | (with_reducible refine below_drewN ?_ _) | (with_reducible refine Below.drew ?_) | (with_reducible refine below_al ?_ _) | (with_reducible refine below_on (by assumption) ?_) | ((with_reducible refine Below.setCell ?_ ?_ _); rotate_left; focus (first | omega | (simp; done) | (simp; omega))) | (with_reducible assumption))); done))) (HSB.out.by (by ((repeat (first | (with_reducible exact Below.refl _ _) | (with_reducible refine below_drewN ?_ _) | (with_reducible refine Below.drew ?_) | (with_reducible refine below_al ?_ _) | (with_reducible refine below_on (by assumption) ?_) | ((with_reducible refine Below.setCell ?_ ?_ _); rotate_left; focus (first | omega | (simp; done) | (simp; omega))) | (with_reducible assumption))); done)))).mono ?_
        rintro e w4 ⟨pv, rfl, hRd, hb4⟩
        obtain ⟨aP, cP, rfl⟩ := hRd.sl.len
        replace k0 := Blk.by hb4 k0
        replace k1 := Blk.by hb4 k1
        have hs4 := hb4.size
        have hB4 := below_on hb4 hBc
        have HRd := Lib.hid hRd
        clear cA cB c0 c1 f1 kA kB hRd hb4
        replace l0 := k0.lt
        replace l1 := k1.lt
        have c0 := k0.cell
        have c1 := k1.cell
        have f1 := k1.free
        rcases (by omega : 1000000 < d.wd ∨ (¬ 1000000 < d.wd ∧ 1000000 < d.len) ∨ (¬ 1000000 < d.wd ∧ ¬ 1000000 < d.len)) with g1 | ⟨g1, g2⟩ | ⟨g1, g2⟩
        rotate_left 2
        · have e0 : me = 0 := by rw [HE.out, if_neg (by omega)]
          have z0 := HRR.out e0
          have e0' := HC.out.trans e0
          replace z0 := Lib.hid z0
          replace e0' := Lib.hid e0'
          go_upto_region 13 with fail
          have kD0 : Blk (w4.alloc (.cells #[.int .i64 d.kind, .slice aP d.pins.length cP, .int .i64 d.wd, .int .i64 d.len] 46)) w4.heap.size #[.int .i64 d.kind, .slice aP d.pins.length cP, .int .i64 d.wd, .int .i64 d.len] 46 := Blk.new _ rfl
          have k05 := k0.past (.cells #[.int .i64 d.kind, .slice aP d.pins.length cP, .int .i64 d.wd, .int .i64 d.len] 46)
          have k15 := k1.past (.cells #[.int .i64 d.kind, .slice aP d.pins.length cP, .int .i64 d.wd, .int .i64 d.len] 46)
          have hRd5 := OwnR.by ((Below.refl _ w4).alloc (Nat.le_refl _) (.cells #[.int .i64 d.kind, .slice aP d.pins.length cP, .int .i64 d.wd, .int .i64 d.len] 46)) HRd.out
          have hB5 := below_al hB4 (.cells #[.int .i64 d.kind, .slice aP d.pins.length cP, .int .i64 d.wd, .int .i64 d.len] 46)
          have hs5 : (w4.alloc (.cells #[.int .i64 d.kind, .slice aP d.pins.length cP, .int .i64 d.wd, .int .i64 d.len] 46)).heap.size = w4.heap.size + 1 := by simp
          clear c0 c1 f1 k0 k1 l0 l1 hB4
          generalize w4.alloc (.cells #[.int .i64 d.kind, .slice aP d.pins.length cP, .int .i64 d.wd, .int .i64 d.len] 46) = w5 at *
          obtain ⟨mb, hRm, hm1, hm2⟩ := hRd5.atBlk hpn.out
          have HRm := Lib.hid hRm
          have c01 : w5.cell? ⟨w.heap.size, 0, none⟩ = some (.int .i64 nets) := k05.cell 0
          have c02 : w5.cell? ⟨w.heap.size, 2, none⟩ = some (.slice a' ps.length c') := k05.cell 2
          have lN := k05.lt
          have l15 := k15.lt
          have HPW := Lib.hid (HP.out.by hB5)
          replace hs5 : Hid (w5.heap.size = w4.heap.size + 1) := Lib.hid hs5
          clear hRm hRd5
          go_cut [14] (fun s14 wx => ∃ (p : Nat) (a3 : Option Addr) (c3 lo2 hi2 : Nat), s14 = .pointer (some ⟨p, 0, none⟩) ∧ Blk wx p #[.int .i64 nets, .slice none 0 0, .slice a3 ps.length c3] 30 ∧ OwnPs wx lo2 hi2 (.slice a3 ps.length c3) ps ∧ (w5.heap.size ≤ p ∧ w5.heap.size ≤ lo2 ∧ hi2 ≤ wx.heap.size ∧ (p < lo2 ∨ hi2 ≤ p)) ∧ Below w5.heap.size w5 wx)
          case first =>
            go_region_held_law ((fun w' => (Blk w' (w.heap.size) #[.int .i64 nets, .slice (some ⟨G, off, none⟩) ds.length cap, .slice a' ps.length c'] 30 ∧ ∀ o, w'.cell? ⟨w.heap.size, o, none⟩ = (#[.int .i64 nets, .slice (some ⟨G, off, none⟩) ds.length cap, .slice a' ps.length c'] : Array Value)[o]?) ∧ Below w.heap.size w w')) (((try (obtain ⟨⟨hS0, _⟩, hSB⟩ := hHeld)); refine ⟨Blk.both ?_, ?_⟩ <;> first | ((repeat (first | (with_reducible assumption) | (with_reducible refine Blk.drewN ?_ _) | (with_reducible refine Blk.drew ?_) | ((with_reducible refine Blk.new _ ?_); focus (first | omega | (simp; done) | (simp; omega))) | (with_reducible refine Blk.past ?_ _) | ((with_reducible refine Blk.apart ?_ _ _ _ ?_); rotate_left; focus (first | omega | (simp; done) | (simp; omega))) | (with_reducible refine Blk.by (by assumption) ?_))); done) | ((repeat (first | (with_reducible exact Below.refl _ _) | (with_reducible refine below_drewN ?_ _) | (with_reducible refine Below.drew ?_) | (with_reducible refine below_al ?_ _) | (with_reducible refine below_on (by assumption) ?_) | ((with_reducible refine Below.setCell ?_ ?_ _); rotate_left; focus (first | omega | (simp; done) | (simp; omega))) | (with_reducible assumption))); done)))
              (first | (refine step_cloneP (by rfl) _ _ (by rfl) _ (by rfl) _ ps (by rfl) (HPW.out.by (by ((repeat (first | (with_reducible exact Below.refl _ _) | (with_reducible refine below_drewN ?_ _) | (with_reducible refine Below.drew ?_) | (with_reducible refine below_al ?_ _) | (with_reducible refine below_on (by assumption) ?_) | ((with_reducible refine Below.setCell ?_ ?_ _); rotate_left; focus (first | omega | (simp; done) | (simp; omega))) | (with_reducible assumption))); done))) (by omega) _ (Nat.le_refl _) ?_; intro v3 w6 hO hb3; have HO := Lib.hid hO; obtain ⟨a3, c3, rfl⟩ := hO.sl.sized; clear hO; (refine with_fact (p := Blk w6 w.heap.size #[.int .i64 nets, .slice (some ⟨G, off, none⟩) ds.length cap, .slice a' ps.length c'] 30) (Blk.by hb3 ?_) ?_; (focus ((repeat (first | (with_reducible assumption) | (with_reducible refine Blk.drewN ?_ _) | (with_reducible refine Blk.drew ?_) | ((with_reducible refine Blk.new _ ?_); focus (first | omega | (simp; done) | (simp; omega))) | (with_reducible refine Blk.past ?_ _) | ((with_reducible refine Blk.apart ?_ _ _ _ ?_); rotate_left; focus (first | omega | (simp; done) | (simp; omega))) | (with_reducible refine Blk.by (by assumption) ?_))); done)); intro kN3; have lN3 := kN3.lt; have q0 : w6.cell? ⟨w.heap.size, 0, none⟩ = some (.int .i64 nets) := kN3.cell 0; have q2 : w6.cell? ⟨w.heap.size, 2, none⟩ = some (.slice a' ps.length c') := kN3.cell 2); (try (refine with_fact (p := Blk w6 (w5.heap.size) #[.int .i64 0, .slice none 0 0, .slice none 0 0] 30) (Blk.by hb3 ?_) ?_; (focus ((repeat (first | (with_reducible assumption) | (with_reducible refine Blk.drewN ?_ _) | (with_reducible refine Blk.drew ?_) | ((with_reducible refine Blk.new _ ?_); focus (first | omega | (simp; done) | (simp; omega))) | (with_reducible refine Blk.past ?_ _) | ((with_reducible refine Blk.apart ?_ _ _ _ ?_); rotate_left; focus (first | omega | (simp; done) | (simp; omega))) | (with_reducible refine Blk.by (by assumption) ?_))); done)); intro k3; have q30 : w6.cell? ⟨w5.heap.size, 0, none⟩ = some (.int .i64 0) := k3.cell 0; have q31 : w6.cell? ⟨w5.heap.size, 1, none⟩ = some (.slice none 0 0) := k3.cell 1; have q32 : w6.cell? ⟨w5.heap.size, 2, none⟩ = some (.slice none 0 0) := k3.cell 2; have f30 : w6.frozen? ⟨w5.heap.size, 0, none⟩ = false := k3.free 0; have f31 : w6.frozen? ⟨w5.heap.size, 1, none⟩ = false := k3.free 1; have f32 : w6.frozen? ⟨w5.heap.size, 2, none⟩ = false := k3.free 2)); (try (refine with_fact (p := Blk w6 (w5.heap.size + 1) #[.int .i64 0, .slice none 0 0, .slice none 0 0] 30) (Blk.by hb3 ?_) ?_; (focus ((repeat (first | (with_reducible assumption) | (with_reducible refine Blk.drewN ?_ _) | (with_reducible refine Blk.drew ?_) | ((with_reducible refine Blk.new _ ?_); focus (first | omega | (simp; done) | (simp; omega))) | (with_reducible refine Blk.past ?_ _) | ((with_reducible refine Blk.apart ?_ _ _ _ ?_); rotate_left; focus (first | omega | (simp; done) | (simp; omega))) | (with_reducible refine Blk.by (by assumption) ?_))); done)); intro k3; have q30 : w6.cell? ⟨w5.heap.size + 1, 0, none⟩ = some (.int .i64 0) := k3.cell 0; have q31 : w6.cell? ⟨w5.heap.size + 1, 1, none⟩ = some (.slice none 0 0) := k3.cell 1; have q32 : w6.cell? ⟨w5.heap.size + 1, 2, none⟩ = some (.slice none 0 0) := k3.cell 2; have f30 : w6.frozen? ⟨w5.heap.size + 1, 0, none⟩ = false := k3.free 0; have f31 : w6.frozen? ⟨w5.heap.size + 1, 1, none⟩ = false := k3.free 1; have f32 : w6.frozen? ⟨w5.heap.size + 1, 2, none⟩ = false := k3.free 2))))
            all_goals (go_wp2_with fail; go_meet)
            all_goals have hlw := hb3.size
            all_goals simp only [World.size_alloc, World.size_drew] at hlw
            · refine ⟨w6.heap.size, a3, c3, w5.heap.size + 1, w6.heap.size, rfl, Blk.new _ rfl, ?_, ⟨by omega, by omega, by simp, by omega⟩, (by ((repeat (first | (with_reducible exact Below.refl _ _) | (with_reducible refine below_drewN ?_ _) | (with_reducible refine Below.drew ?_) | (with_reducible refine below_al ?_ _) | (with_reducible refine below_on (by assumption) ?_) | ((with_reducible refine Below.setCell ?_ ?_ _); rotate_left; focus (first | omega | (simp; done) | (simp; omega))) | (with_reducible assumption))); done))⟩
              exact (HO.out.by ((Below.refl _ w6).alloc (Nat.le_refl _) _)).wide (by simp) (by simp)
            · refine ⟨w5.heap.size + 1, a3, c3, w5.heap.size + 1 + 1, w6.heap.size, rfl, (((k3.set 0 _).set 1 _).set 2 _), ?_, ⟨by omega, by omega, by simp, by omega⟩, (by ((repeat (first | (with_reducible exact Below.refl _ _) | (with_reducible refine below_drewN ?_ _) | (with_reducible refine Below.drew ?_) | (with_reducible refine below_al ?_ _) | (with_reducible refine below_on (by assumption) ?_) | ((with_reducible refine Below.setCell ?_ ?_ _); rotate_left; focus (first | omega | (simp; done) | (simp; omega))) | (with_reducible assumption))); done))⟩
              exact (((HO.out.past (Within.off _) (by simp)).past (Within.off _) (by simp)).past (Within.off _) (by simp)).wide (by simp) (by simp)
            · refine ⟨w5.heap.size, a3, c3, w5.heap.size + 1 + 1, w6.heap.size, rfl, (((k3.set 0 _).set 1 _).set 2 _), ?_, ⟨by omega, by omega, by simp, by omega⟩, (by ((repeat (first | (with_reducible exact Below.refl _ _) | (with_reducible refine below_drewN ?_ _) | (with_reducible refine Below.drew ?_) | (with_reducible refine below_al ?_ _) | (with_reducible refine below_on (by assumption) ?_) | ((with_reducible refine Below.setCell ?_ ?_ _); rotate_left; focus (first | omega | (simp; done) | (simp; omega))) | (with_reducible assumption))); done))⟩
              exact (((HO.out.past (Within.off _) (by simp)).past (Within.off _) (by simp)).past (Within.off _) (by simp)).wide (by simp) (by simp)
          case rest =>
            clear c01 c02 lN l15
            obtain ⟨p1, a3, c3, lo2, hi2, rfl, kP, hO, ⟨hp1, hp2, hp3, hp4⟩, hb6⟩ := hcut
            have hs5 := hs5.out
            have kN := Blk.by hb6 k05
            have k16 := Blk.by hb6 k15
            have kD6 := Blk.by hb6 kD0
            have hRm6 := OwnR.by hb6 HRm.out
            have hB6 := below_on hb6 hB5
            have hs6 := hb6.size
            have lP := kP.lt
            have hs4' := hs4
            have hm3 : w.heap.size + 1 < mb := by omega
            have hm4 : mb < w4.heap.size := by omega
            clear k05 k15 kD0 hb6 hB5 hs4
            generalize hBq : wc.heap.size = B at *
            have hBl : BldM mb (0 ≤ i) wc B B (.slice none 0 0) (mgTo ds i j d 0) := by
              rw [mgTo_zero, ← hBq]
              exact BldM.nil mb (0 ≤ i) wc wc.heap.size
            have HBL0 := Lib.hid hBl
            have HBQ := Lib.hid hBq
            have HRM := Lib.hid hRm6
            have HO1 := Lib.hid hO
            have HW0 := Lib.hid (Within.refl p1 (p1 + 1) wc)
            have HB6 := Lib.hid hB6
            clear hBl hBq hRm6 hO hB6
            go_wp2
            go_loopw [15] (fun i1 wr => ∃ (k : Nat) (v : Value) (hi : Nat), k ≤ ds.length ∧ B ≤ hi ∧ i1 = .int .i64 k ∧ Hid (BldM mb (k ≤ i) wr B hi v (mgTo ds i j d k)) ∧ Hid (Blk wr p1 #[.int .i64 nets, v, .slice a3 ps.length c3] 30) ∧ Hid (Within p1 (p1 + 1) wc wr)) (fun i1 _ => ds.length - (intOf i1).toNat)
            case atStart => exact ⟨0, .slice none 0 0, B, Nat.zero_le _, Nat.le_refl _, rfl, HBL0, Lib.hid kP, HW0⟩
            case round =>
              clear kP HBL0 HW0
              obtain ⟨k, v, hi, hk, hBhi, rfl, HBL, HKP, HWr⟩ := hrel
              have kP := HKP.out
              have hWr := HWr.out
              have kNr := hWr.blk kN (by omega)
              have kDr := hWr.blk kD6 (by omega)
              have k1r := hWr.blk k16 (by omega)
              have HRr := Lib.hid (OwnR.past hWr HRM.out (by omega))
              have HOr := Lib.hid (OwnPs.past hWr HO1.out (by omega))
              have hbr := hWr.below HB6.out (by omega)
              have hsr := hWr.size
              rw [HBQ.out] at hsr
              have hhi := HBL.out.1
              have hml := mgTo_len ds i j d k
              obtain ⟨av, cv, rfl⟩ := HBL.out.sized
              have lPr := kP.lt
              have cP1 : wr.cell? ⟨p1, 1, none⟩ = some (.slice av (mgTo ds i j d k).length cv) := kP.cell 1
              have cN1 : wr.cell? ⟨w.heap.size, 1, none⟩ = some (.slice (some ⟨G, off, none⟩) ds.length cap) := kNr.cell 1
              have lNr := kNr.lt
              by_cases hlt : k < ds.length
              · have i2 : (k : Int) < (ds.length : Int) := by omega
                have i1 : (0 : Int) ≤ (k : Int) := by omega
                by_cases hki : k = i
                · obtain rfl : i = k := hki.symm
                  have cD := kDr.cell
                  have lD := kDr.lt
                  have HMI := Lib.hid (mgTo_i ds i j d hij (by omega))
                  obtain ⟨M, hM⟩ : ∃ M, mgTo ds i j d i = M := ⟨_, rfl⟩
                  rw [hM] at HBL HMI HKP kP cP1 hml
                  clear hM
                  go_wp2_with (refine list_pushM (by rfl) _ _ (by rfl) mb (i ≤ i) (i + 1 ≤ i) B hi (.slice av M.length cv) M (by rfl) (HBL.out.by (by ((repeat (first | (with_reducible exact Below.refl _ _) | (with_reducible refine below_drewN ?_ _) | (with_reducible refine Below.drew ?_) | (with_reducible refine below_al ?_ _) | (with_reducible refine below_on (by assumption) ?_) | ((with_reducible refine Below.setCell ?_ ?_ _); rotate_left; focus (first | omega | (simp; done) | (simp; omega))) | (with_reducible assumption))); done))) wr.heap.size d _ mb (by rfl) (Blk.new _ rfl) (OwnR.by ((Below.refl _ wr).alloc (Nat.le_refl _) _) HRr.out) hBhi (by omega) (by omega) (.inl ⟨rfl, Nat.le_refl _, by omega⟩) (by simp; omega) (by omega) ?_; intro a5 c5 w6 hB5 hw5; have HB5 := Lib.hid hB5; have kP6 := hw5.blk (kP.past (.cells #[.int .i64 d.kind, .slice aP d.pins.length cP, .int .i64 d.wd, .int .i64 d.len] 46)) (by omega); have f6 := kP6.free; have c6 := kP6.cell; have l6 := kP6.lt; clear hB5)
                  have hs6 := hw5.size
                  simp only [World.size_alloc] at hs6
                  refine ⟨⟨i + 1, .slice a5 (M.length + 1) c5, w6.heap.size, by omega, by omega, by go_num, Lib.hid ?_, Lib.hid (kP6.set 1 _), Lib.hid ?_⟩, by simp [intOf]; omega⟩
                  · rw [HMI.out]
                    exact HB5.out.past (Within.off _) (by omega) (by omega)
                  · exact ((hWr.alloc _).newerM hw5 (by rw [HBQ.out]; exact Nat.le_refl _)).on (Within.off _)
                by_cases hkj : k = j
                · obtain rfl : j = k := hkj.symm
                  have hne : ¬ (j : Int) = (i : Int) := by omega
                  have HMJ := Lib.hid (mgTo_j ds i j d hij (by omega))
                  go_wp2
                  refine ⟨⟨j + 1, _, hi, by omega, hBhi, by go_num, Lib.hid ?_, HKP, HWr⟩, by simp [intOf]; omega⟩
                  rw [HMJ.out]
                  exact HBL.out.sub (by omega)
                · obtain ⟨x, hx⟩ : ∃ x, ds[k]? = some x := ⟨ds[k], List.getElem?_eq_getElem hlt⟩
                  obtain ⟨hx3, hx2, _⟩ := HPN.out x (List.mem_of_getElem? hx)
                  have hxl : x.pins.length ≤ 1048576 := by omega
                  have hxn : x.pins ≠ [] := by intro e; rw [e] at hx2; simp at hx2
                  obtain ⟨sx, e1, e2, e3, e4, hSx0⟩ := HEL.out k x hx
                  have HCD := Lib.hid (fun w h => own_any x.kind x.wd x.len sx x.pins w h hxl)
                  have HSX := Lib.hid hSx0
                  have HXN := Lib.hid hxn
                  obtain ⟨ax, cx, rfl⟩ := hSx0.len
                  have d1 := cell_by' hbr e1
                  have d2 := cell_by' hbr e2
                  have d3 := cell_by' hbr e3
                  have d4 := cell_by' hbr e4
                  have lX := lt_of_cell d1
                  dsimp only at lX
                  have n1 : ¬ (k : Int) = (i : Int) := by omega
                  have n2 : ¬ (k : Int) = (j : Int) := by omega
                  have HMK := Lib.hid (mgTo_k ds i j d k x hx hki hkj)
                  have HKI := Lib.hid hki
                  obtain ⟨M, hM⟩ : ∃ M, mgTo ds i j d k = M := ⟨_, rfl⟩
                  rw [hM] at HBL HMK HKP kP cP1 hml
                  have HBL2 := HBL
                  clear hM hx hxn hSx0 e1 e2 e3 e4 hki hkj
                  go_wp2
                  go_region_law
                    (first | (go_simp; go_at_call 42; refine (HCD.out _ ((HSX.out.by hbr).by (below_of_drewN wr 1))).mono ?_; rintro e w4 ⟨v1, rfl, hOI, hb4⟩; obtain ⟨fb, hf1, hf2, hOR⟩ := hOI.pin HXN.out; have HOR := Lib.hid hOR; obtain ⟨a1', c1', rfl⟩ := hOR.sl.len; clear hOR hOI; (try simp at hf1); have kP4 := Blk.by hb4 kP.drew; have cP4 : w4.cell? ⟨p1, 1, none⟩ = some (.slice av M.length cv) := kP4.cell 1; have lP4 := kP4.lt; dsimp only) | (refine step_pushM (by rfl) _ _ (by rfl) mb (k ≤ i) (k + 1 ≤ i) B hi _ M (by rfl) (HBL2.out.by (by ((repeat (first | (with_reducible exact Below.refl _ _) | (with_reducible refine below_drewN ?_ _) | (with_reducible refine Below.drew ?_) | (with_reducible refine below_al ?_ _) | (with_reducible refine below_on (by assumption) ?_) | ((with_reducible refine Below.setCell ?_ ?_ _); rotate_left; focus (first | omega | (simp; done) | (simp; omega))) | (with_reducible assumption))); done))) w4.heap.size x _ fb (by rfl) (Blk.new _ rfl) (HOR.out.by ((Below.refl _ w4).alloc (Nat.le_refl _) _)) (by omega) (by omega) (by omega) (.inr (by omega)) (by simp; omega) (by omega) ?_; intro a' c' w3 hBl3 hw3; have HBL3 := Lib.hid hBl3; have kP3 := hw3.blk ((Blk.by hb4 kP.drew).past (.cells #[.int .i64 x.kind, .slice a1' x.pins.length c1', .int .i64 x.wd, .int .i64 x.len] 46)) (by omega); have cP3 : w3.cell? ⟨p1, 1, none⟩ = some (.slice av M.length cv) := kP3.cell 1; have fP3 : w3.frozen? ⟨p1, 1, none⟩ = false := kP3.free 1; have lP3 := kP3.lt; clear hBl3))
                  all_goals
                    have hsz3 := hw3.size
                    simp only [World.size_alloc] at hsz3
                    have hl1 : wr.heap.size ≤ w4.heap.size := hb4.size
                    have hW3 : Within p1 (p1 + 1) wc w3 := (((show Within p1 (p1 + 1) wc wr.drew from ⟨hWr.os, hWr.tape, hWr.output, hWr.size, hWr.block⟩).on (Within.ofBelow p1 (p1 + 1) hb4)).alloc _).newerM hw3 (by rw [HBQ.out]; exact Nat.le_refl _)
                    have HW3 := Lib.hid hW3
                    clear hW3
                    go_wp2
                    refine ⟨⟨k + 1, .slice a' (M.length + 1) c', w3.heap.size, by omega, by omega, by go_num, Lib.hid ?_, Lib.hid (kP3.set 1 _), Lib.hid (HW3.out.on (Within.off _))⟩, by simp [intOf]; omega⟩
                    rw [HMK.out]
                    exact HBL3.out.past (Within.off _) (by omega) (by omega)
              · obtain rfl : k = ds.length := by omega
                have i2 : ¬ (ds.length : Int) < (ds.length : Int) := by omega
                obtain ⟨P, hPP, hPr⟩ := HOr.out.spot w.heap.size
                have hX := HBL.out.ownX (lo0 := w.heap.size + 2) (P := P) (by omega) (by omega) (by omega) (by omega) (by omega)
                rw [mgTo_all] at hX kP cP1
                have HX := Lib.hid hX
                have HPP := Lib.hid hPP
                have c1' := kP.cell
                have c2' := k1r.cell
                have f2' := k1r.free
                have l2' := k1r.lt
                clear hX hPP cP1 HBL HKP
                generalize hL : ((ds.set i d).eraseIdx j).length = L at *
                go_wp2
                refine bodyPost_ret (v := .tuple #[.agg #[.int .i64 nets, .slice av L cv, .slice a3 ps.length c3], .int .i64 0]) (by simp [results, Tryz.results16, go_sem, *]) rfl ?_
                rw [z0.out, e0'.out]
                refine ⟨_, rfl, ⟨_, _, P, rfl, ?_, ?_, ?_⟩, ?_⟩
                · exact (((HX.out.past (Within.off _) (by omega)).past (Within.off _) (by omega)).past (Within.off _) (by omega)).wide (by omega) (by simp; omega)
                · exact (((HPP.out.past (Within.off _) (by omega)).past (Within.off _) (by omega)).past (Within.off _) (by omega))
                · simp; omega
                · repeat (first | (with_reducible exact hbr) | ((with_reducible refine Below.setCell ?_ ?_ _); rotate_left; focus (simp; try omega)))
        all_goals
          have e3 : me = 3 := by rw [HE.out, if_pos (by omega)]
          have e3' := HC.out.trans e3
          have z3 := HRN.out (by rw [e3']; decide)
          go_wp2_with fail
          refine bodyPost_ret (v := .tuple #[.agg #[.int .i64 0, .slice none 0 0, .slice none 0 0], .int .i64 3]) (by simp [results, Tryz.results16, go_sem, *]) rfl ?_
          rw [z3, e3']
          exact ⟨_, rfl, nlZeroX _ _ _ (by simp; omega), (by ((repeat (first | (with_reducible exact Below.refl _ _) | (with_reducible refine below_drewN ?_ _) | (with_reducible refine Below.drew ?_) | (with_reducible refine below_al ?_ _) | (with_reducible refine below_on (by assumption) ?_) | ((with_reducible refine Below.setCell ?_ ?_ _); rotate_left; focus (first | omega | (simp; done) | (simp; omega))) | (with_reducible assumption))); done))⟩
end Go.Proofs.YtjanifoipbmkhaaGreat
