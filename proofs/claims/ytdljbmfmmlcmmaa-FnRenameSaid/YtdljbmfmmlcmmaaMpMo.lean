/- The reference's MergePair. -/
import Derived.Test.YtdljbmfmmlcmmaaMrgs
import Derived.Test.YtdljbmfmmlcmmaaBldMs
import Derived.Test.YtdljbmfmmlcmmaaSpecNl
import Derived.Test.YtdljbmfmmlcmmaaSerX
import Derived.Test.YtdljbmfmmlcmmaaCopies
import Derived.Deep.RegionHeldLaw
import Derived.BigRegion
import Derived.Test.YtdljbmfmmlcmmaaImplNl
import Derived.Test.YtdljbmfmmlcmmaaSerB
import Derived.Test.YtdljbmfmmlcmmaaMarks
namespace Go.Proofs.Ytdljbmfmmlcmmaa
open Go.RowKit
set_option linter.unusedVariables false
set_option linter.unusedSimpArgs false

end Go.Proofs.Ytdljbmfmmlcmmaa

/- The program's MergePair. -/
namespace Go.Proofs.Ytdljbmfmmlcmmaa
open Go.RowKit
set_option linter.unusedVariables false
set_option linter.unusedSimpArgs false

theorem ownNlX_zero (w : World) (lo hi : Nat) (h : lo < hi) : OwnNlX w lo hi (.agg #[.int .i64 0, .slice none 0 0, .slice none 0 0]) ⟨0, [], []⟩ :=
  ⟨_, _, lo, rfl, .inl ⟨_, _, rfl, rfl⟩, .inl ⟨_, _, rfl, rfl⟩, Nat.le_refl _, h⟩

set_option maxRecDepth 100000 in
set_option maxHeartbeats 1000000 in
theorem implMp_no (x : Nl) (i j : Int) (v : Value) (w : World) (h : NlV w v x) (hok : ∀ p ∈ x.ps, p.ok) (hnn : Fits x.nets) (hv : nlB x = false) :
    Calls Try.prog 34 #[v, .int .i64 i, .int .i64 j] w fun e w' => ∃ v', e = .returned (.tuple #[v', .int .i64 (mgC x i j)]) ∧ OwnNlX w' w.heap.size w'.heap.size v' (mgR x i j) ∧ Below w.heap.size w w' := by
  have hc := mgC_valid (i := i) (j := j) hv
  rw [mgR_no (by rw [hc]; decide), hc]
  have HV := Lib.hid (fun v w h => implNl_any x v w h hok hnn)
  rw [hv] at HV
  have HN := Lib.hid h
  obtain ⟨a, c, a', c', rfl⟩ := h.sized
  clear h hok hv hc
  go_enter Try.func34, Try.ntmps34
  go_wp2_with (go_at_call 19; refine (HV.out _ _ (HN.out.by (by ((repeat (first | (with_reducible exact Below.refl _ _) | (with_reducible refine below_drewN ?_ _) | (with_reducible refine Below.drew ?_) | (with_reducible refine below_al ?_ _) | (with_reducible refine below_on (by assumption) ?_) | ((with_reducible refine Below.setCell ?_ ?_ _); rotate_left; focus (first | omega | (simp; done) | (simp; omega))) | (with_reducible assumption))); done)))).mono ?_; rintro e w1 ⟨rfl, hb1⟩; have k1 : Blk w1 (w.heap.size + 1) #[.int .i64 0, .slice none 0 0, .slice none 0 0] 27 := (by ((repeat (first | (with_reducible assumption) | (with_reducible refine Blk.drewN ?_ _) | (with_reducible refine Blk.drew ?_) | ((with_reducible refine Blk.new _ ?_); focus (first | omega | (simp; done) | (simp; omega))) | (with_reducible refine Blk.past ?_ _) | ((with_reducible refine Blk.apart ?_ _ _ _ ?_); rotate_left; focus (first | omega | (simp; done) | (simp; omega))) | (with_reducible refine Blk.by (by assumption) ?_))); done)); have f1 := k1.free; have c1 := k1.cell; have l1 := k1.lt)
  exact bodyPost_ret (v := .tuple #[.agg #[.int .i64 0, .slice none 0 0, .slice none 0 0], .int .i64 1]) (by simp [results, Try.results34, go_sem, *]) rfl ⟨_, rfl, ownNlX_zero _ _ _ (by simp; omega), (by ((repeat (first | (with_reducible exact Below.refl _ _) | (with_reducible refine below_drewN ?_ _) | (with_reducible refine Below.drew ?_) | (with_reducible refine below_al ?_ _) | (with_reducible refine below_on (by assumption) ?_) | ((with_reducible refine Below.setCell ?_ ?_ _); rotate_left; focus (first | omega | (simp; done) | (simp; omega))) | (with_reducible assumption))); done))⟩

set_option maxRecDepth 100000 in
set_option maxHeartbeats 1000000 in
theorem implMp_range (x : Nl) (i j : Int) (v : Value) (w : World) (h : NlV w v x) (hok : ∀ p ∈ x.ps, p.ok) (hnn : Fits x.nets) (hv : nlB x = true) (hr : ¬ (0 ≤ i ∧ i < j ∧ j < x.ds.length)) :
    Calls Try.prog 34 #[v, .int .i64 i, .int .i64 j] w fun e w' => ∃ v', e = .returned (.tuple #[v', .int .i64 (mgC x i j)]) ∧ OwnNlX w' w.heap.size w'.heap.size v' (mgR x i j) ∧ Below w.heap.size w w' := by
  have hc := mgC_range (i := i) (j := j) hv hr
  rw [mgR_no (by rw [hc]; decide), hc]
  have HV := Lib.hid (fun v w h => implNl_any x v w h hok hnn)
  rw [hv] at HV
  have HN := Lib.hid h
  obtain ⟨a, c, a', c', rfl⟩ := h.sized
  have h3 : ¬ (0 : Int) ≤ i ∨ (0 ≤ i ∧ ¬ i < j) ∨ (0 ≤ i ∧ i < j ∧ ¬ j < (x.ds.length : Int)) := by omega
  clear h hok hv hc hr
  rcases h3 with r1 | ⟨r1, r2⟩ | ⟨r1, r2, r3⟩
  rotate_left 2
  have r4 : decide (j < (x.ds.length : Int)) = false := decide_eq_false r3
  have r5 : (!decide (j < (x.ds.length : Int))) = true := by rw [r4]; rfl
  rotate_left
  all_goals
    go_enter Try.func34, Try.ntmps34
    go_wp2_with (go_at_call 19; refine (HV.out _ _ (HN.out.by (by ((repeat (first | (with_reducible exact Below.refl _ _) | (with_reducible refine below_drewN ?_ _) | (with_reducible refine Below.drew ?_) | (with_reducible refine below_al ?_ _) | (with_reducible refine below_on (by assumption) ?_) | ((with_reducible refine Below.setCell ?_ ?_ _); rotate_left; focus (first | omega | (simp; done) | (simp; omega))) | (with_reducible assumption))); done)))).mono ?_; rintro e w1 ⟨rfl, hb1⟩; have k1 : Blk w1 (w.heap.size + 1) #[.int .i64 0, .slice none 0 0, .slice none 0 0] 27 := (by ((repeat (first | (with_reducible assumption) | (with_reducible refine Blk.drewN ?_ _) | (with_reducible refine Blk.drew ?_) | ((with_reducible refine Blk.new _ ?_); focus (first | omega | (simp; done) | (simp; omega))) | (with_reducible refine Blk.past ?_ _) | ((with_reducible refine Blk.apart ?_ _ _ _ ?_); rotate_left; focus (first | omega | (simp; done) | (simp; omega))) | (with_reducible refine Blk.by (by assumption) ?_))); done)); have k0 : Blk w1 w.heap.size #[.int .i64 x.nets, .slice a x.ds.length c, .slice a' x.ps.length c'] 27 := (by ((repeat (first | (with_reducible assumption) | (with_reducible refine Blk.drewN ?_ _) | (with_reducible refine Blk.drew ?_) | ((with_reducible refine Blk.new _ ?_); focus (first | omega | (simp; done) | (simp; omega))) | (with_reducible refine Blk.past ?_ _) | ((with_reducible refine Blk.apart ?_ _ _ _ ?_); rotate_left; focus (first | omega | (simp; done) | (simp; omega))) | (with_reducible refine Blk.by (by assumption) ?_))); done)); have f1 := k1.free; have c1 := k1.cell; have l1 := k1.lt; have c0 := k0.cell)
    exact bodyPost_ret (v := .tuple #[.agg #[.int .i64 0, .slice none 0 0, .slice none 0 0], .int .i64 2]) (by simp [results, Try.results34, go_sem, *]) rfl ⟨_, rfl, ownNlX_zero _ _ _ (by simp; omega), (by ((repeat (first | (with_reducible exact Below.refl _ _) | (with_reducible refine below_drewN ?_ _) | (with_reducible refine Below.drew ?_) | (with_reducible refine below_al ?_ _) | (with_reducible refine below_on (by assumption) ?_) | ((with_reducible refine Below.setCell ?_ ?_ _); rotate_left; focus (first | omega | (simp; done) | (simp; omega))) | (with_reducible assumption))); done))⟩

set_option maxRecDepth 100000 in
set_option maxHeartbeats 4000000 in
theorem implMp_in (x : Nl) (i j : Nat) (A B : Dv) (v : Value) (w : World) (h : NlV w v x) (hok : ∀ p ∈ x.ps, p.ok) (hnn : Fits x.nets) (hv : nlB x = true) (hij : i < j) (hA : x.ds[i]? = some A) (hB : x.ds[j]? = some B) :
    Calls Try.prog 34 #[v, .int .i64 i, .int .i64 j] w fun e w' => ∃ v', e = .returned (.tuple #[v', .int .i64 (mgC x i j)]) ∧ OwnNlX w' w.heap.size w'.heap.size v' (mgR x i j) ∧ Below w.heap.size w w' := by
  have HC := Lib.hid (mgC_in hv hij hA hB)
  have HR := Lib.hid (mgR_in hv hij hA hB)
  have HRN := Lib.hid (@mgR_no x i j)
  have HV := Lib.hid (fun v w h => implNl_any x v w h hok hnn)
  rw [hv] at HV
  have HN := Lib.hid h
  obtain ⟨hn24, hl24, hp8, hdv, _⟩ := nlB_facts hv
  have mA := List.mem_of_getElem? hA
  have mB := List.mem_of_getElem? hB
  obtain ⟨nn, hnn'⟩ : ∃ nn : Nat, x.nets = nn := ⟨x.nets.toNat, by omega⟩
  have hnn24 : nn ≤ 24 := by omega
  have HD := Lib.hid (fun v w h => degrees_any x nn v w h hnn' (by omega) (by omega) (fun d hd => (dvB_pins (hdv d hd)).1) (fun d hd => (dvB_pins (hdv d hd)).2.2))
  have HS := Lib.hid (fun v su sx sy w h1 h2 h3 h4 => serial_any x nn A B v su sx sy w hv hnn' mA mB h1 h2 h3 h4)
  have HPL := Lib.hid (fun s t w h h' => parallel_any A B s t w h h' (shp_of (hdv A mA)) (shp_of (hdv B mB)))
  have cA := cur_in (hdv A mA)
  have cB := cur_in (hdv B mB)
  have bA := dvB_nums (hdv A mA)
  have bB := dvB_nums (hdv B mB)
  have HM := Lib.hid (fun ser net sx sy w h h' hs => merged_any A B ser net sx sy w h h' (shp_of (hdv A mA)) (shp_of (hdv B mB)) ⟨⟨cA.1.1, by omega⟩, cA.2.1, by omega⟩ ⟨⟨cB.1.1, by omega⟩, cB.2.1, by omega⟩ bA.1 bA.2 bB.1 bB.2 hs)
  have HCP := Lib.hid (fun v w h => copyNetlist_any x v w h (by omega) (by omega) (fun d hd => by have h1 := (dvB_pins (hdv d hd)).1; have h2 := (dvB_pins (hdv d hd)).2.1; exact ⟨by omega, fun e => by rw [e] at h2; simp at h2⟩))
  have HMP := Lib.hid (fun ser => @mgD_pins A B ser (shp_of (hdv A mA)))
  have hj := (List.getElem?_eq_some_iff.1 hB).1
  obtain ⟨s1, s2, rfl, hd, hp⟩ := h
  obtain ⟨nets, ds, ps⟩ := x
  dsimp only at hA hB hd hp hl24 hp8 hj HN HCP HC HR HRN
  rcases hd with ⟨_, _, _, h2⟩ | ⟨G, off, cap, rfl, hcap, hmx, hel⟩
  · rw [h2] at hj; simp at hj
  obtain ⟨sA, a0, a1, a2, a3, hSA⟩ := hel i A hA
  obtain ⟨sB, b0, b1, b2, b3, hSB⟩ := hel j B hB
  obtain ⟨a', c', rfl⟩ := hp.sized
  have HSA := Lib.hid hSA
  have HSB := Lib.hid hSB
  have lG := lt_of_cell a0
  dsimp only at lG
  obtain ⟨aA, pcA, rfl⟩ := hSA.len
  obtain ⟨aB, pcB, rfl⟩ := hSB.len
  have r1 : (0 : Int) ≤ (i : Int) := by omega
  have r2 : (i : Int) < (j : Int) := by omega
  have r3 : (j : Int) < (ds.length : Int) := by omega
  have r4 : (i : Int) < (ds.length : Int) := by omega
  have r5 : (0 : Int) ≤ (j : Int) := by omega
  clear hok hnn hv hA hB hp hel hSA hSB hdv mA mB cA cB bA bB hn24 hnn'
  go_enter Try.func34, Try.ntmps34
  go_wp2_with fail
  refine (HV.out _ _ (HN.out.by (by ((repeat (first | (with_reducible exact Below.refl _ _) | (with_reducible refine below_drewN ?_ _) | (with_reducible refine Below.drew ?_) | (with_reducible refine below_al ?_ _) | (with_reducible refine below_on (by assumption) ?_) | ((with_reducible refine Below.setCell ?_ ?_ _); rotate_left; focus (first | omega | (simp; done) | (simp; omega))) | (with_reducible assumption))); done)))).mono ?_
  rintro e w1 ⟨rfl, hb1⟩
  have k1 : Blk w1 (w.heap.size + 1) #[.int .i64 0, .slice none 0 0, .slice none 0 0] 27 := (by ((repeat (first | (with_reducible assumption) | (with_reducible refine Blk.drewN ?_ _) | (with_reducible refine Blk.drew ?_) | ((with_reducible refine Blk.new _ ?_); focus (first | omega | (simp; done) | (simp; omega))) | (with_reducible refine Blk.past ?_ _) | ((with_reducible refine Blk.apart ?_ _ _ _ ?_); rotate_left; focus (first | omega | (simp; done) | (simp; omega))) | (with_reducible refine Blk.by (by assumption) ?_))); done))
  have k0 : Blk w1 w.heap.size #[.int .i64 nets, .slice (some ⟨G, off, none⟩) ds.length cap, .slice a' ps.length c'] 27 := (by ((repeat (first | (with_reducible assumption) | (with_reducible refine Blk.drewN ?_ _) | (with_reducible refine Blk.drew ?_) | ((with_reducible refine Blk.new _ ?_); focus (first | omega | (simp; done) | (simp; omega))) | (with_reducible refine Blk.past ?_ _) | ((with_reducible refine Blk.apart ?_ _ _ _ ?_); rotate_left; focus (first | omega | (simp; done) | (simp; omega))) | (with_reducible refine Blk.by (by assumption) ?_))); done))
  have hB1 : Below w.heap.size w w1 := (by ((repeat (first | (with_reducible exact Below.refl _ _) | (with_reducible refine below_drewN ?_ _) | (with_reducible refine Below.drew ?_) | (with_reducible refine below_al ?_ _) | (with_reducible refine below_on (by assumption) ?_) | ((with_reducible refine Below.setCell ?_ ?_ _); rotate_left; focus (first | omega | (simp; done) | (simp; omega))) | (with_reducible assumption))); done))
  have c0 := k0.cell
  have l0 := k0.lt
  have l1 := k1.lt
  replace a0 := (hB1.cell lG).trans a0
  replace a1 := (hB1.cell lG).trans a1
  replace a2 := (hB1.cell lG).trans a2
  replace a3 := (hB1.cell lG).trans a3
  replace b0 := (hB1.cell lG).trans b0
  replace b1 := (hB1.cell lG).trans b1
  replace b2 := (hB1.cell lG).trans b2
  replace b3 := (hB1.cell lG).trans b3
  have lG1 : G < w1.heap.size := by omega
  go_upto_region 5 with fail
  go_cut [8, 9] (fun s8 s9 wx => ∃ p q : Nat, s8 = .pointer (some ⟨p, 0, none⟩) ∧ s9 = .pointer (some ⟨q, 0, none⟩) ∧ Blk wx p #[.int .i64 A.kind, .slice aA A.pins.length pcA, .int .i64 A.wd, .int .i64 A.len] 35 ∧ Blk wx q #[.int .i64 B.kind, .slice aB B.pins.length pcB, .int .i64 B.wd, .int .i64 B.len] 35 ∧
    Blk wx (w.heap.size + 1) #[.int .i64 0, .slice none 0 0, .slice none 0 0] 27 ∧ Blk wx w.heap.size #[.int .i64 nets, .slice (some ⟨G, off, none⟩) ds.length cap, .slice a' ps.length c'] 27 ∧ (w.heap.size + 1 < p ∧ w.heap.size + 1 < q ∧ p ≠ q) ∧ Below w.heap.size w wx)
  case first =>
    go_region
    all_goals (go_wp2_with fail; go_meet)
    · exact ⟨_, _, rfl, rfl, ((Blk.new _ rfl).past _).drew, (Blk.new _ (by simp)).drew, (by ((repeat (first | (with_reducible assumption) | (with_reducible refine Blk.drewN ?_ _) | (with_reducible refine Blk.drew ?_) | ((with_reducible refine Blk.new _ ?_); focus (first | omega | (simp; done) | (simp; omega))) | (with_reducible refine Blk.past ?_ _) | ((with_reducible refine Blk.apart ?_ _ _ _ ?_); rotate_left; focus (first | omega | (simp; done) | (simp; omega))) | (with_reducible refine Blk.by (by assumption) ?_))); done)), (by ((repeat (first | (with_reducible assumption) | (with_reducible refine Blk.drewN ?_ _) | (with_reducible refine Blk.drew ?_) | ((with_reducible refine Blk.new _ ?_); focus (first | omega | (simp; done) | (simp; omega))) | (with_reducible refine Blk.past ?_ _) | ((with_reducible refine Blk.apart ?_ _ _ _ ?_); rotate_left; focus (first | omega | (simp; done) | (simp; omega))) | (with_reducible refine Blk.by (by assumption) ?_))); done)), ⟨by omega, by simp <;> omega, by simp <;> omega⟩, (by ((repeat (first | (with_reducible exact Below.refl _ _) | (with_reducible refine below_drewN ?_ _) | (with_reducible refine Below.drew ?_) | (with_reducible refine below_al ?_ _) | (with_reducible refine below_on (by assumption) ?_) | ((with_reducible refine Below.setCell ?_ ?_ _); rotate_left; focus (first | omega | (simp; done) | (simp; omega))) | (with_reducible assumption))); done))⟩
    · exact ⟨_, _, rfl, rfl, (Blk.new _ (by simp)).drew, ((Blk.new _ rfl).past _).drew, (by ((repeat (first | (with_reducible assumption) | (with_reducible refine Blk.drewN ?_ _) | (with_reducible refine Blk.drew ?_) | ((with_reducible refine Blk.new _ ?_); focus (first | omega | (simp; done) | (simp; omega))) | (with_reducible refine Blk.past ?_ _) | ((with_reducible refine Blk.apart ?_ _ _ _ ?_); rotate_left; focus (first | omega | (simp; done) | (simp; omega))) | (with_reducible refine Blk.by (by assumption) ?_))); done)), (by ((repeat (first | (with_reducible assumption) | (with_reducible refine Blk.drewN ?_ _) | (with_reducible refine Blk.drew ?_) | ((with_reducible refine Blk.new _ ?_); focus (first | omega | (simp; done) | (simp; omega))) | (with_reducible refine Blk.past ?_ _) | ((with_reducible refine Blk.apart ?_ _ _ _ ?_); rotate_left; focus (first | omega | (simp; done) | (simp; omega))) | (with_reducible refine Blk.by (by assumption) ?_))); done)), ⟨by simp <;> omega, by omega, by simp <;> omega⟩, (by ((repeat (first | (with_reducible exact Below.refl _ _) | (with_reducible refine below_drewN ?_ _) | (with_reducible refine Below.drew ?_) | (with_reducible refine below_al ?_ _) | (with_reducible refine below_on (by assumption) ?_) | ((with_reducible refine Below.setCell ?_ ?_ _); rotate_left; focus (first | omega | (simp; done) | (simp; omega))) | (with_reducible assumption))); done))⟩
  case rest =>
    clear k0 k1 c0 l0 l1 a0 a1 a2 a3 b0 b1 b2 b3 lG1 hB1 hb1
    obtain ⟨p, q, rfl, rfl, kA, kB, k1, k0, ⟨hp, hq, hpq⟩, hBc⟩ := hcut
    have lA := kA.lt
    have lB := kB.lt
    have l0 := k0.lt
    have cA := kA.cell
    have cB := kB.cell
    have c0 := k0.cell
    go_upto_region 6 with fail
    go_region_held3 ((fun w' => (Blk w' (w.heap.size) #[.int .i64 nets, .slice (some ⟨G, off, none⟩) ds.length cap, .slice a' ps.length c'] 27 ∧ ∀ o, w'.cell? ⟨w.heap.size, o, none⟩ = (#[.int .i64 nets, .slice (some ⟨G, off, none⟩) ds.length cap, .slice a' ps.length c'] : Array Value)[o]?) ∧ (Blk w' (p) #[.int .i64 A.kind, .slice aA A.pins.length pcA, .int .i64 A.wd, .int .i64 A.len] 35 ∧ ∀ o, w'.cell? ⟨p, o, none⟩ = (#[.int .i64 A.kind, .slice aA A.pins.length pcA, .int .i64 A.wd, .int .i64 A.len] : Array Value)[o]?) ∧ (Blk w' (q) #[.int .i64 B.kind, .slice aB B.pins.length pcB, .int .i64 B.wd, .int .i64 B.len] 35 ∧ ∀ o, w'.cell? ⟨q, o, none⟩ = (#[.int .i64 B.kind, .slice aB B.pins.length pcB, .int .i64 B.wd, .int .i64 B.len] : Array Value)[o]?) ∧ Below w.heap.size w w')) (((try (obtain ⟨⟨hS0, _⟩, ⟨hS1, _⟩, ⟨hS2, _⟩, hSB⟩ := hHeld)); refine ⟨Blk.both ?_, Blk.both ?_, Blk.both ?_, ?_⟩ <;> first | ((repeat (first | (with_reducible assumption) | (with_reducible refine Blk.drewN ?_ _) | (with_reducible refine Blk.drew ?_) | ((with_reducible refine Blk.new _ ?_); focus (first | omega | (simp; done) | (simp; omega))) | (with_reducible refine Blk.past ?_ _) | ((with_reducible refine Blk.apart ?_ _ _ _ ?_); rotate_left; focus (first | omega | (simp; done) | (simp; omega))) | (with_reducible refine Blk.by (by assumption) ?_))); done) | ((repeat (first | (with_reducible exact Below.refl _ _) | (with_reducible refine below_drewN ?_ _) | (with_reducible refine Below.drew ?_) | (with_reducible refine below_al ?_ _) | (with_reducible refine below_on (by assumption) ?_) | ((with_reducible refine Below.setCell ?_ ?_ _); rotate_left; focus (first | omega | (simp; done) | (simp; omega))) | (with_reducible assumption))); done)))
      (first | (go_at_call 28; refine (HD.out _ _ (HN.out.by (by ((repeat (first | (with_reducible exact Below.refl _ _) | (with_reducible refine below_drewN ?_ _) | (with_reducible refine Below.drew ?_) | (with_reducible refine below_al ?_ _) | (with_reducible refine below_on (by assumption) ?_) | ((with_reducible refine Below.setCell ?_ ?_ _); rotate_left; focus (first | omega | (simp; done) | (simp; omega))) | (with_reducible assumption))); done)))).mono ?_; rintro e w2 ⟨gd, rfl, hI, hgl, hb2⟩; have HI := Lib.hid hI) | (go_at_call 55; refine (HS.out _ _ _ _ _ (HN.out.by (by ((repeat (first | (with_reducible exact Below.refl _ _) | (with_reducible refine below_drewN ?_ _) | (with_reducible refine Below.drew ?_) | (with_reducible refine below_al ?_ _) | (with_reducible refine below_on (by assumption) ?_) | ((with_reducible refine Below.setCell ?_ ?_ _); rotate_left; focus (first | omega | (simp; done) | (simp; omega))) | (with_reducible assumption))); done))) (by have h := HI.out.sl (by rw [length_degs]; omega); rw [length_degs] at h; exact h) (HSA.out.by (by ((repeat (first | (with_reducible exact Below.refl _ _) | (with_reducible refine below_drewN ?_ _) | (with_reducible refine Below.drew ?_) | (with_reducible refine below_al ?_ _) | (with_reducible refine below_on (by assumption) ?_) | ((with_reducible refine Below.setCell ?_ ?_ _); rotate_left; focus (first | omega | (simp; done) | (simp; omega))) | (with_reducible assumption))); done))) (HSB.out.by (by ((repeat (first | (with_reducible exact Below.refl _ _) | (with_reducible refine below_drewN ?_ _) | (with_reducible refine Below.drew ?_) | (with_reducible refine below_al ?_ _) | (with_reducible refine below_on (by assumption) ?_) | ((with_reducible refine Below.setCell ?_ ?_ _); rotate_left; focus (first | omega | (simp; done) | (simp; omega))) | (with_reducible assumption))); done)))).mono ?_; rintro e w3 ⟨rN, rfl, hrN, hb3⟩))
    rename_i hH3
    have k13 : Blk w3 (w.heap.size + 1) #[.int .i64 0, .slice none 0 0, .slice none 0 0] 27 := by first | with_reducible exact Blk.by hb3 (Blk.by hb2 k1.drew) | with_reducible exact Blk.by hb3 (Blk.by hb2 k1)
    obtain ⟨⟨kN3, -⟩, ⟨kA3, -⟩, ⟨kB3, -⟩, hB3⟩ := hH3
    clear kA kB k0 k1 cA cB c0 lA lB l0 hBc hb2 hb3 HI hgl
    have lA := kA3.lt
    have lB := kB3.lt
    have l0 := kN3.lt
    have cA := kA3.cell
    have cB := kB3.cell
    have c0 := kN3.cell
    go_upto_region 7 with fail
    go_cut [11, 46, 54, 62] (fun s11 s46 s54 s wx => s11 = .bool (serB ⟨nets, ds, ps⟩ A B) ∧ s46 = .tuple #[.int .i64 rN, .bool (serB ⟨nets, ds, ps⟩ A B)] ∧ s54 = .bool (serB ⟨nets, ds, ps⟩ A B) ∧ s = .bool (!serB ⟨nets, ds, ps⟩ A B && !parB A B) ∧ Blk wx p #[.int .i64 A.kind, .slice aA A.pins.length pcA, .int .i64 A.wd, .int .i64 A.len] 35 ∧ Blk wx q #[.int .i64 B.kind, .slice aB B.pins.length pcB, .int .i64 B.wd, .int .i64 B.len] 35 ∧
      Blk wx (w.heap.size + 1) #[.int .i64 0, .slice none 0 0, .slice none 0 0] 27 ∧ Blk wx w.heap.size #[.int .i64 nets, .slice (some ⟨G, off, none⟩) ds.length cap, .slice a' ps.length c'] 27 ∧ Below w.heap.size w wx)
    case first =>
      cases hS : serB ⟨nets, ds, ps⟩ A B with
      | false =>
        go_wp2_with (go_at_call 56; refine (HPL.out _ _ _ (HSA.out.by (by ((repeat (first | (with_reducible exact Below.refl _ _) | (with_reducible refine below_drewN ?_ _) | (with_reducible refine Below.drew ?_) | (with_reducible refine below_al ?_ _) | (with_reducible refine below_on (by assumption) ?_) | ((with_reducible refine Below.setCell ?_ ?_ _); rotate_left; focus (first | omega | (simp; done) | (simp; omega))) | (with_reducible assumption))); done))) (HSB.out.by (by ((repeat (first | (with_reducible exact Below.refl _ _) | (with_reducible refine below_drewN ?_ _) | (with_reducible refine Below.drew ?_) | (with_reducible refine below_al ?_ _) | (with_reducible refine below_on (by assumption) ?_) | ((with_reducible refine Below.setCell ?_ ?_ _); rotate_left; focus (first | omega | (simp; done) | (simp; omega))) | (with_reducible assumption))); done)))).mono ?_; rintro e w4 ⟨rfl, hb4⟩)
        go_meet
        exact ⟨by rw [hS], by rw [hS], by rw [hS], by rw [hS]; rfl, Blk.by hb4 kA3, Blk.by hb4 kB3, Blk.by hb4 k13, Blk.by hb4 kN3, below_on hb4 hB3⟩
      | true =>
        go_wp2_with fail
        go_meet
        exact ⟨by rw [hS], by rw [hS], by rw [hS], by rw [hS]; rfl, kA3, kB3, k13, kN3, hB3⟩
    case rest =>
      clear kA3 kB3 k13 kN3 lA lB l0 cA cB c0 hB3
      obtain ⟨rfl, rfl, rfl, rfl, kA, kB, k1, k0, hBc⟩ := hcut
      have lA := kA.lt
      have lB := kB.lt
      have l0 := k0.lt
      have l1 := k1.lt
      have cA := kA.cell
      have cB := kB.cell
      have c0 := k0.cell
      have c1 := k1.cell
      have f1 := k1.free
      generalize hq : (!serB ⟨nets, ds, ps⟩ A B && !parB A B) = q0
      cases q0 with
      | true =>
        have e6 : mgE ⟨nets, ds, ps⟩ A B = 6 := by unfold mgE; rw [if_pos (by simpa using hq)]
        have e6' := HC.out.trans e6
        have z6 := HRN.out (by rw [e6']; decide)
        go_wp2_with fail
        refine bodyPost_ret (v := .tuple #[.agg #[.int .i64 0, .slice none 0 0, .slice none 0 0], .int .i64 6]) (by simp [results, Try.results34, go_sem, *]) rfl ?_
        rw [z6, e6']
        exact ⟨_, rfl, ownNlX_zero _ _ _ (by simp; omega), (by ((repeat (first | (with_reducible exact Below.refl _ _) | (with_reducible refine below_drewN ?_ _) | (with_reducible refine Below.drew ?_) | (with_reducible refine below_al ?_ _) | (with_reducible refine below_on (by assumption) ?_) | ((with_reducible refine Below.setCell ?_ ?_ _); rotate_left; focus (first | omega | (simp; done) | (simp; omega))) | (with_reducible assumption))); done))⟩
      | false =>
        have hst : ¬ (serB ⟨nets, ds, ps⟩ A B = false ∧ parB A B = false) := by
          rintro ⟨h1, h2⟩
          rw [h1, h2] at hq
          simp at hq
        have hsr : serB ⟨nets, ds, ps⟩ A B = true → oneB A B = true ∧ rN = serN A B := fun h => ⟨(serB_oneB h).2, hrN h⟩
        have HE : mgE ⟨nets, ds, ps⟩ A B = if (mgD A B (serB ⟨nets, ds, ps⟩ A B)).wd > 1000000 ∨ (mgD A B (serB ⟨nets, ds, ps⟩ A B)).len > 1000000 then 3 else 0 := by unfold mgE; rw [if_neg hst]
        have HM1 := Lib.hid (fun sx sy w h h' => HM.out (serB ⟨nets, ds, ps⟩ A B) rN sx sy w h h' hsr)
        have hpn := (HMP.out (serB ⟨nets, ds, ps⟩ A B)).1
        have HRR := HR.out
        obtain ⟨d, hd⟩ : ∃ d, mgD A B (serB ⟨nets, ds, ps⟩ A B) = d := ⟨_, rfl⟩
        rw [hd] at HM1 HE hpn HRR
        generalize mgE ⟨nets, ds, ps⟩ A B = me at *
        replace HE := Lib.hid HE
        replace HRR := Lib.hid HRR
        replace hpn := Lib.hid hpn
        clear hd hst hsr hq hrN
        have lc1 := l1
        go_wp2_with fail
        refine (HM1.out _ _ _ (HSA.out.by (by ((repeat (first | (with_reducible exact Below.refl _ _) | (with_reducible refine below_drewN ?_ _) | (with_reducible refine Below.drew ?_) | (with_reducible refine below_al ?_ _) | (with_reducible refine below_on (by assumption) ?_) | ((with_reducible refine Below.setCell ?_ ?_ _); rotate_left; focus (first | omega | (simp; done) | (simp; omega))) | (with_reducible assumption))); done))) (HSB.out.by (by ((repeat (first | (with_reducible exact Below.refl _ _) | (with_reducible refine below_drewN ?_ _) | (with_reducible refine Below.drew ?_) | (with_reducible refine below_al ?_ _) | (with_reducible refine below_on (by assumption) ?_) | ((with_reducible refine Below.setCell ?_ ?_ _); rotate_left; focus (first | omega | (simp; done) | (simp; omega))) | (with_reducible assumption))); done)))).mono ?_
        rintro e w4 ⟨pv, rfl, hRd, hb4⟩
        obtain ⟨aP, cP, rfl⟩ := hRd.sl.len
        replace k0 := Blk.by hb4 k0
        replace k1 := Blk.by hb4 k1
        have hs4 := hb4.size
        have hB4 := below_on hb4 hBc
        have HRd := Lib.hid hRd
        clear cA cB c0 c1 f1 kA kB hRd hb4
        replace l0 := k0.lt
        replace l1 := k1.lt
        have c0 := k0.cell
        have c1 := k1.cell
        have f1 := k1.free
        rcases (by omega : 1000000 < d.wd ∨ (¬ 1000000 < d.wd ∧ 1000000 < d.len) ∨ (¬ 1000000 < d.wd ∧ ¬ 1000000 < d.len)) with g1 | ⟨g1, g2⟩ | ⟨g1, g2⟩
        rotate_left 2
        · have e0 : me = 0 := by rw [HE.out, if_neg (by omega)]
          have z0 := HRR.out e0
          have e0' := HC.out.trans e0
          replace z0 := Lib.hid z0
          replace e0' := Lib.hid e0'
          go_wp2_with fail
          have kD0 : Blk (w4.alloc (.cells #[.int .i64 d.kind, .slice aP d.pins.length cP, .int .i64 d.wd, .int .i64 d.len] 35)) w4.heap.size #[.int .i64 d.kind, .slice aP d.pins.length cP, .int .i64 d.wd, .int .i64 d.len] 35 := Blk.new _ rfl
          refine (HCP.out _ _ (HN.out.by (by ((repeat (first | (with_reducible exact Below.refl _ _) | (with_reducible refine below_drewN ?_ _) | (with_reducible refine Below.drew ?_) | (with_reducible refine below_al ?_ _) | (with_reducible refine below_on (by assumption) ?_) | ((with_reducible refine Below.setCell ?_ ?_ _); rotate_left; focus (first | omega | (simp; done) | (simp; omega))) | (with_reducible assumption))); done)))).mono ?_
          rintro e w5 ⟨v5, rfl, hO, hb5⟩
          obtain ⟨t1, t2, lo1, hi1, lo2, hi2, rfl, hOD, hOP, hi1', hi2', hap⟩ := hO
          dsimp only at hOD hOP
          have hs5 := hb5.size
          simp only [World.size_alloc] at hs5 hi1' hi2'
          have kD := Blk.by hb5 kD0
          have k15 := Blk.by hb5 (k1.past _)
          have hRd5 := OwnR.by hb5 (OwnR.by ((Below.refl _ w4).alloc (Nat.le_refl _) (.cells #[.int .i64 d.kind, .slice aP d.pins.length cP, .int .i64 d.wd, .int .i64 d.len] 35)) HRd.out)
          have hB5 := below_on hb5 (below_al hB4 (.cells #[.int .i64 d.kind, .slice aP d.pins.length cP, .int .i64 d.wd, .int .i64 d.len] 35))
          obtain ⟨P, hPP, hPr⟩ := hOP.spot w.heap.size
          obtain ⟨g, cap5, cs, rfl, kG, hg, hsz, HX⟩ := hOD.setDev (P := P) (k := i) (by omega) d _ hRd5 hpn.out (by omega) (by omega) (by omega)
          obtain ⟨a2', c2', rfl⟩ := hOP.sl.sized
          have HX := Lib.hid HX
          have HPP := Lib.hid hPP
          clear c0 c1 f1 k0 k1 l0 l1 kD0 hRd5 hb5 hOD hOP hB4
          have lD := kD.lt
          have cD := kD.cell
          have lG5 := kG.lt
          have l15 := k15.lt
          have fG := kG.free
          obtain ⟨u0, hu0⟩ : ∃ u, cs[i * 4]? = some u := ⟨cs[i * 4]'(by omega), Array.getElem?_eq_getElem _⟩
          obtain ⟨u1, hu1⟩ : ∃ u, cs[i * 4 + 1]? = some u := ⟨cs[i * 4 + 1]'(by omega), Array.getElem?_eq_getElem _⟩
          obtain ⟨u2, hu2⟩ : ∃ u, cs[i * 4 + 2]? = some u := ⟨cs[i * 4 + 2]'(by omega), Array.getElem?_eq_getElem _⟩
          obtain ⟨u3, hu3⟩ : ∃ u, cs[i * 4 + 3]? = some u := ⟨cs[i * 4 + 3]'(by omega), Array.getElem?_eq_getElem _⟩
          rw [← kG.cell] at hu0 hu1 hu2 hu3
          go_wp2_with fail
          have hW6 : Within g (g + 1) w5 (((((w5.setCell ⟨g, i * 4, none⟩ (.int .i64 d.kind)).setCell ⟨g, i * 4 + 1, none⟩ (.slice aP d.pins.length cP)).setCell ⟨g, i * 4 + 2, none⟩ (.int .i64 d.wd)).setCell ⟨g, i * 4 + 3, none⟩ (.int .i64 d.len)).alloc (.cells #[.int .i64 nets, .slice (some ⟨g, 0, none⟩) ds.length cap5, .slice a2' ps.length c2'] 27)) := ((((Within.off _).on (Within.off _)).on (Within.off _)).on (Within.off _)).alloc _
          have hX6 := HX.out _ hW6 (((((kG.set _ _).set _ _).set _ _).set _ _).past _)
          have kN6 : Blk (((((w5.setCell ⟨g, i * 4, none⟩ (.int .i64 d.kind)).setCell ⟨g, i * 4 + 1, none⟩ (.slice aP d.pins.length cP)).setCell ⟨g, i * 4 + 2, none⟩ (.int .i64 d.wd)).setCell ⟨g, i * 4 + 3, none⟩ (.int .i64 d.len)).alloc (.cells #[.int .i64 nets, .slice (some ⟨g, 0, none⟩) ds.length cap5, .slice a2' ps.length c2'] 27)) w5.heap.size #[.int .i64 nets, .slice (some ⟨g, 0, none⟩) ds.length cap5, .slice a2' ps.length c2'] 27 := Blk.new _ (by simp)
          have k16 := hW6.blk k15 (by omega)
          have hPP6 := OwnPs.past hW6 HPP.out (by omega)
          have hB6 := hW6.below hB5 (by omega)
          have hs6 : (((((w5.setCell ⟨g, i * 4, none⟩ (.int .i64 d.kind)).setCell ⟨g, i * 4 + 1, none⟩ (.slice aP d.pins.length cP)).setCell ⟨g, i * 4 + 2, none⟩ (.int .i64 d.wd)).setCell ⟨g, i * 4 + 3, none⟩ (.int .i64 d.len)).alloc (.cells #[.int .i64 nets, .slice (some ⟨g, 0, none⟩) ds.length cap5, .slice a2' ps.length c2'] 27)).heap.size = w5.heap.size + 1 := by simp
          clear lD cD lG5 l15 fG hu0 hu1 hu2 hu3 kG kD k15 hW6
          generalize (((((w5.setCell ⟨g, i * 4, none⟩ (.int .i64 d.kind)).setCell ⟨g, i * 4 + 1, none⟩ (.slice aP d.pins.length cP)).setCell ⟨g, i * 4 + 2, none⟩ (.int .i64 d.wd)).setCell ⟨g, i * 4 + 3, none⟩ (.int .i64 d.len)).alloc (.cells #[.int .i64 nets, .slice (some ⟨g, 0, none⟩) ds.length cap5, .slice a2' ps.length c2'] 27)) = w6 at *
          refine (removeX_any wc.heap.size hi1 P _ (ds.set i d) w6 hX6 j (by simp; omega) (by simp; omega)).mono ?_
          rintro e w7 ⟨v7, rfl, hO7, hW7⟩
          obtain ⟨a7, c7, rfl⟩ := hO7.ods.sl.sized
          have kN7 := hW7.within.blk kN6 (by omega)
          have k17 := hW7.within.blk k16 (by omega)
          have hPP7 := hPP6.pastX hW7
          have hB7 := hW7.within.below hB6 (by omega)
          have hs7 := hW7.within.size
          have cN7 := kN7.cell
          have fN7 := kN7.free
          have lN7 := kN7.lt
          have c17 := k17.cell
          have f17 := k17.free
          have l17 := k17.lt
          have hne : ¬ w5.heap.size = w.heap.size + 1 := by omega
          have hne' : ¬ w.heap.size + 1 = w5.heap.size := by omega
          have HO7 := Lib.hid hO7
          have HPP7 := Lib.hid hPP7
          clear kN6 k16 hPP6 hB6 hX6 hO7 hPP7 hW7
          generalize hL : ((ds.set i d).eraseIdx j).length = L at *
          go_wp2_with fail
          refine bodyPost_ret (v := .tuple #[.agg #[.int .i64 nets, .slice a7 L c7, .slice a2' ps.length c2'], .int .i64 0]) (by simp [results, Try.results34, go_sem, *]) rfl ?_
          rw [z0.out, e0'.out]
          refine ⟨_, rfl, ⟨_, _, P, rfl, ?_, ?_, ?_⟩, ?_⟩
          · exact (((((HO7.out.past (Within.off _) (by omega)).past (Within.off _) (by omega)).past (Within.off _) (by omega)).past (Within.off _) (by omega))).wide (by omega) (by simp; omega)
          · exact (((((HPP7.out.past (Within.off _) (by omega)).past (Within.off _) (by omega)).past (Within.off _) (by omega)).past (Within.off _) (by omega)))
          · simp; omega
          · repeat (first | (with_reducible exact hB7) | ((with_reducible refine Below.setCell ?_ ?_ _); rotate_left; focus (simp; try omega)))
        all_goals
          have e3 : me = 3 := by rw [HE.out, if_pos (by omega)]
          have e3' := HC.out.trans e3
          have z3 := HRN.out (by rw [e3']; decide)
          go_wp2_with fail
          refine bodyPost_ret (v := .tuple #[.agg #[.int .i64 0, .slice none 0 0, .slice none 0 0], .int .i64 3]) (by simp [results, Try.results34, go_sem, *]) rfl ?_
          rw [z3, e3']
          exact ⟨_, rfl, ownNlX_zero _ _ _ (by simp; omega), (by ((repeat (first | (with_reducible exact Below.refl _ _) | (with_reducible refine below_drewN ?_ _) | (with_reducible refine Below.drew ?_) | (with_reducible refine below_al ?_ _) | (with_reducible refine below_on (by assumption) ?_) | ((with_reducible refine Below.setCell ?_ ?_ _); rotate_left; focus (first | omega | (simp; done) | (simp; omega))) | (with_reducible assumption))); done))⟩
end Go.Proofs.Ytdljbmfmmlcmmaa

/- MergePair: both contracts for all arguments; the netlist's bounds. -/
namespace Go.Proofs.Ytdljbmfmmlcmmaa
open Go.RowKit
set_option linter.unusedVariables false
set_option linter.unusedSimpArgs false

theorem implMp_any (x : Nl) (i j : Int) (v : Value) (w : World) (h : NlV w v x) (hok : ∀ p ∈ x.ps, p.ok) (hnn : Fits x.nets) :
    Calls Try.prog 34 #[v, .int .i64 i, .int .i64 j] w fun e w' => ∃ v', e = .returned (.tuple #[v', .int .i64 (mgC x i j)]) ∧ OwnNlX w' w.heap.size w'.heap.size v' (mgR x i j) ∧ Below w.heap.size w w' := by
  by_cases hv : nlB x = true
  · by_cases hr : 0 ≤ i ∧ i < j ∧ j < x.ds.length
    · obtain ⟨h1, h2, h3⟩ := hr
      obtain ⟨a, rfl⟩ := Int.eq_ofNat_of_zero_le h1
      obtain ⟨b, rfl⟩ := Int.eq_ofNat_of_zero_le (show 0 ≤ j by omega)
      exact implMp_in x a b (x.ds[a]'(by omega)) (x.ds[b]'(by omega)) v w h hok hnn hv (by omega) (List.getElem?_eq_getElem _) (List.getElem?_eq_getElem _)
    · exact implMp_range x i j v w h hok hnn hv hr
  · exact implMp_no x i j v w h hok hnn (by simpa using hv)
theorem dsum_three (ds : List Dv) (h : ∀ d ∈ ds, d.pins.length ≤ 3) : dsum ds ≤ 6 * ds.length := by
  induction ds with
  | nil => simp [dsum]
  | cons d ds ih =>
    have h1 := ih (fun e he => h e (by simp [he]))
    have h2 := h d (by simp)
    simp only [dsum, List.length_cons]
    omega
theorem mgR_bounds (x : Nl) (i j : Int) : (∀ d ∈ (mgR x i j).ds, d.pins.length ≤ 1048576) ∧ nsum (mgR x i j) ≤ 4000000 := by
  by_cases hc : mgC x i j = 0
  · have hv : nlB x = true := by
      cases h : nlB x with
      | true => rfl
      | false => rw [mgC_valid h] at hc; exact absurd hc (by decide)
    have hr : 0 ≤ i ∧ i < j ∧ j < x.ds.length := by
      by_cases hr : 0 ≤ i ∧ i < j ∧ j < x.ds.length
      · exact hr
      · rw [mgC_range hv hr] at hc; exact absurd hc (by decide)
    obtain ⟨h1, h2, h3⟩ := hr
    obtain ⟨a, rfl⟩ := Int.eq_ofNat_of_zero_le h1
    obtain ⟨b, rfl⟩ := Int.eq_ofNat_of_zero_le (show 0 ≤ j by omega)
    have ha : x.ds[a]? = some (x.ds[a]'(by omega)) := List.getElem?_eq_getElem _
    have hb : x.ds[b]? = some (x.ds[b]'(by omega)) := List.getElem?_eq_getElem _
    rw [mgC_in hv (by omega) ha hb] at hc
    rw [mgR_in hv (by omega) ha hb hc]
    obtain ⟨_, hd24, hp8, hdv, _⟩ := nlB_facts hv
    generalize hdd : mgD (x.ds[a]'(by omega)) (x.ds[b]'(by omega)) (serB x (x.ds[a]'(by omega)) (x.ds[b]'(by omega))) = d at *
    have hd3 : d.pins.length ≤ 3 := by rw [← hdd]; exact (mgD_pins (shp_of (hdv _ (List.getElem_mem _)))).2
    have hs3 : ∀ e ∈ (x.ds.set a d).eraseIdx b, e.pins.length ≤ 3 := by
      intro e he
      have he := (List.eraseIdx_sublist _ _).subset he
      rcases List.mem_or_eq_of_mem_set he with h | rfl
      · exact (dvB_pins (hdv e h)).1
      · exact hd3
    refine ⟨fun e he => by have := hs3 e he; omega, ?_⟩
    have hs := dsum_three _ hs3
    have hl := List.length_eraseIdx_le (x.ds.set a d) b
    rw [List.length_set] at hl
    simp only [nsum]
    omega
  · rw [mgR_no hc]
    simp [nsum, dsum]
end Go.Proofs.Ytdljbmfmmlcmmaa

/- FnMergeOne's plain part: a merged netlist is valid; what becomes of the sizes. -/
namespace Go.Proofs.Ytdljbmfmmlcmmaa
open Go.RowKit
set_option linter.unusedVariables false
set_option linter.unusedSimpArgs false

theorem red_facts {n d : Int} (hn : 1 ≤ n) (hd : 1 ≤ d) : 1 ≤ redN n d ∧ 1 ≤ redD n d ∧ Int.gcd (redN n d) (redD n d) = 1 ∧ redN n d * d = redD n d * n := by
  have h1 : redN n d = n / (Int.gcd n d : Nat) := by rw [redN_ge n (by omega), Int.tdiv_eq_ediv_of_nonneg (by omega)]
  have h2 : redD n d = d / (Int.gcd n d : Nat) := by rw [redD_ge n (by omega), Int.tdiv_eq_ediv_of_nonneg (by omega)]
  have hg : 0 < Int.gcd n d := Nat.pos_of_ne_zero (fun h => by rw [Int.gcd_eq_zero_iff] at h; omega)
  obtain ⟨a, ha⟩ := Int.gcd_dvd_left (a := n) (b := d)
  obtain ⟨b, hb⟩ := Int.gcd_dvd_right (a := n) (b := d)
  generalize hG : Int.gcd n d = G at *
  have hg' : (0 : Int) < (G : Int) := by omega
  have e1 : redN n d = a := by rw [h1, ha]; exact Int.mul_ediv_cancel_left a (by omega)
  have e2 : redD n d = b := by rw [h2, hb]; exact Int.mul_ediv_cancel_left b (by omega)
  have pa : 1 ≤ a := by
    by_cases h : 1 ≤ a
    · exact h
    · have : (G : Int) * a ≤ 0 := Int.mul_nonpos_of_nonneg_of_nonpos (by omega) (by omega)
      omega
  have pb : 1 ≤ b := by
    by_cases h : 1 ≤ b
    · exact h
    · have : (G : Int) * b ≤ 0 := Int.mul_nonpos_of_nonneg_of_nonpos (by omega) (by omega)
      omega
  have hgg : Int.gcd a b = 1 := by
    have h3 : Int.gcd ((G : Int) * a) ((G : Int) * b) = G * Int.gcd a b := by rw [Int.gcd_mul_left]; simp
    rw [← ha, ← hb, hG] at h3
    have h4 : G * 1 = G * Int.gcd a b := by omega
    exact (Nat.eq_of_mul_eq_mul_left hg h4).symm
  rw [e1, e2]
  refine ⟨pa, pb, hgg, ?_⟩
  rw [ha, hb]
  rw [← Int.mul_assoc, ← Int.mul_assoc, Int.mul_comm a, Int.mul_comm b, Int.mul_assoc, Int.mul_assoc, Int.mul_comm a b]

/-- The merged device is valid where its sizes are within bounds. -/
theorem mgD_valid {nets : Int} {x y : Dv} {ser : Bool} (hx : dvB nets x = true) (hy : dvB nets y = true) (hk : x.kind = y.kind) (hs : ser = true → oneB x y = true)
    (hw : (mgD x y ser).wd ≤ 1000000) (hl : (mgD x y ser).len ≤ 1000000) : dvB nets (mgD x y ser) = true := by
  obtain ⟨a1, a2, a3, a4, a5, a6⟩ := dvB_all hx
  obtain ⟨b1, b2, b3, b4, b5, b6⟩ := dvB_all hy
  have w1 := inB_iff.1 a3
  have w2 := inB_iff.1 a4
  have w3 := inB_iff.1 b3
  have w4 := inB_iff.1 b4
  have m1 : 1 ≤ x.wd * y.len := Int.le_trans (by decide) (Int.mul_le_mul w1.1 w4.1 (by decide) (by omega))
  have m2 : 1 ≤ y.wd * x.len := Int.le_trans (by decide) (Int.mul_le_mul w3.1 w2.1 (by decide) (by omega))
  have m3 : 1 ≤ x.len * y.len := Int.le_trans (by decide) (Int.mul_le_mul w2.1 w4.1 (by decide) (by omega))
  have m4 : 1 ≤ x.wd * y.wd := Int.le_trans (by decide) (Int.mul_le_mul w1.1 w3.1 (by decide) (by omega))
  have r1 := red_facts (show 1 ≤ x.wd * y.len + y.wd * x.len by omega) m3
  have r2 := red_facts m4 (show 1 ≤ x.wd * y.len + y.wd * x.len by omega)
  have hwl : 1 ≤ (mgD x y ser).wd ∧ 1 ≤ (mgD x y ser).len ∧ ((mgD x y ser).kind ≠ 2 ∨ Int.gcd (mgD x y ser).wd (mgD x y ser).len = 1) := by
    show 1 ≤ mgW x y ser ∧ 1 ≤ mgL x y ser ∧ (x.kind ≠ 2 ∨ Int.gcd (mgW x y ser) (mgL x y ser) = 1)
    unfold mgW mgL
    by_cases hk2 : x.kind = 2
    · rw [if_pos hk2, if_pos hk2]
      cases ser with
      | true => simp only [if_true]; exact ⟨r1.1, r1.2.1, .inr r1.2.2.1⟩
      | false => simp only [Bool.false_eq_true, if_false]; exact ⟨r2.1, r2.2.1, .inr r2.2.2.1⟩
    · rw [if_neg hk2, if_neg hk2]
      cases ser with
      | true => simp only [if_true]; exact ⟨w1.1, by omega, .inl hk2⟩
      | false => simp only [Bool.false_eq_true, if_false]; exact ⟨by omega, w2.1, .inl hk2⟩
  have cx := cur_in hx
  have cy := cur_in hy
  have hpins : (mgD x y ser).pins.length = pinsOf x.kind ∧ ∀ p ∈ (mgD x y ser).pins, inB p 0 (nets - 1) = true := by
    show (mgPins x y ser).length = pinsOf x.kind ∧ ∀ p ∈ mgPins x y ser, inB p 0 (nets - 1) = true
    unfold mgPins
    cases ser with
    | false => simp only [Bool.false_eq_true, if_false]; exact ⟨a2, a5⟩
    | true =>
      simp only [if_true]
      have o1 : inB (otherN (curP x.pins) (curQ x.pins) (serN x y)) 0 (nets - 1) = true := by
        unfold otherN; split <;> (rw [inB_iff]; omega)
      have o2 : inB (otherN (curP y.pins) (curQ y.pins) (serN x y)) 0 (nets - 1) = true := by
        unfold otherN; split <;> (rw [inB_iff]; omega)
      by_cases hk2 : x.kind = 2
      · rw [if_pos hk2]
        refine ⟨by simp [pinsOf, hk2], fun p hp => ?_⟩
        simp at hp
        rcases hp with rfl | rfl
        · exact o1
        · exact o2
      · rw [if_neg hk2]
        have hg : gateOf x.pins ∈ x.pins := by
          have hsx := shp_of hx
          rcases hsx with ⟨h, _⟩ | ⟨h, g, p, q, e⟩
          · exact absurd h hk2
          · rw [e]; simp [gateOf]
        refine ⟨by simp [pinsOf, hk2], fun p hp => ?_⟩
        simp at hp
        rcases hp with rfl | rfl | rfl
        · exact a5 _ hg
        · exact o1
        · exact o2
  unfold dvB
  rw [show (mgD x y ser).kind = x.kind from rfl, a1, show decide ((mgD x y ser).pins.length = pinsOf x.kind) = true from decide_eq_true hpins.1, inB_iff.2 ⟨hwl.1, hw⟩, inB_iff.2 ⟨hwl.2.1, hl⟩, List.all_eq_true.2 hpins.2]
  have h3 := hwl.2.2
  simp only [Bool.true_and, Bool.or_eq_true, decide_eq_true_eq]
  exact h3
end Go.Proofs.Ytdljbmfmmlcmmaa
