/- The reference's RemoveShorted. -/
import Derived.Test.YtjanifoipbmkhaaGreatCopies
import Derived.Test.YtjanifoipbmkhaaGreatSerB
import Derived.Test.YtjanifoipbmkhaaGreatSpecNl
import Derived.Deep.RegionHeldLaw
import Derived.Test.YtjanifoipbmkhaaGreatDelM
import Derived.Shelf.Abstract
import Derived.Test.YtjanifoipbmkhaaGreatImplNl
import Derived.Test.YtjanifoipbmkhaaGreatParB
import Derived.Test.YtjanifoipbmkhaaGreatNls
import Derived.Test.YtjanifoipbmkhaaGreatNlOwns
namespace Go.Proofs.YtjanifoipbmkhaaGreat
open Go.RowKit
set_option linter.unusedVariables false
set_option linter.unusedSimpArgs false

/-- The devices that are not shorted. -/
def okD (d : Dv) : Bool := !decide (curP d.pins = curQ d.pins)
def rmS (x : Nl) : Nl := if nlB x = true then ⟨x.nets, x.ds.filter okD, x.ps⟩ else ⟨0, [], []⟩
theorem rmS_no {x : Nl} (h : nlB x = false) : rmS x = ⟨0, [], []⟩ := by simp [rmS, h]
theorem rmS_yes {x : Nl} (h : nlB x = true) : rmS x = ⟨x.nets, x.ds.filter okD, x.ps⟩ := by simp [rmS, h]
theorem filter_yes (ds : List Dv) (k : Nat) (x : Dv) (h : ds[k]? = some x) (hx : okD x = true) : (ds.take (k + 1)).filter okD = (ds.take k).filter okD ++ [x] := by
  rw [take_snoc_of ds k x h, List.filter_append]; simp [hx]
theorem filter_no (ds : List Dv) (k : Nat) (x : Dv) (h : ds[k]? = some x) (hx : okD x = false) : (ds.take (k + 1)).filter okD = (ds.take k).filter okD := by
  rw [take_snoc_of ds k x h, List.filter_append]; simp [hx]
theorem ownNl_zero (w : World) (lo hi : Nat) (h : lo ≤ hi) : OwnNl w lo hi (.agg #[.int .i64 0, .slice none 0 0, .slice none 0 0]) ⟨0, [], []⟩ :=
  ⟨_, _, lo, hi, hi, hi, rfl, .inl ⟨_, _, rfl, rfl⟩, .inl ⟨_, _, rfl, rfl⟩, ⟨Nat.le_refl _, Nat.le_refl _⟩, ⟨h, Nat.le_refl _⟩, .inl (Nat.le_refl _)⟩

set_option maxRecDepth 100000 in
set_option maxHeartbeats 1000000 in
theorem specRm_no (x : Nl) (v : Value) (w : World) (h : NlV w v x) (hok : ∀ p ∈ x.ps, p.ok) (hnn : Fits x.nets) (hv : nlB x = false) :
    Calls Tryz.prog 14 #[v] w fun e w' => ∃ v', e = .returned v' ∧ OwnNl w' w.heap.size w'.heap.size v' (rmS x) ∧ Below w.heap.size w w' := by
  rw [rmS_no hv]
  have HV := Lib.hid (fun v w h => specNl_any x v w h hok hnn)
  rw [hv] at HV
  have HN := Lib.hid h
  obtain ⟨a, c, a', c', rfl⟩ := h.sized
  clear h hok hv
  go_enter Tryz.func14, Tryz.ntmps14
  go_wp2_with (go_at_call 13; refine (HV.out _ _ (HN.out.by (by ((repeat (first | (with_reducible exact Below.refl _ _) | (with_reducible refine below_drewN ?_ _) | (with_reducible refine Below.drew ?_) | (with_reducible refine below_al ?_ _) | (with_reducible refine below_on (by assumption) ?_) | ((with_reducible refine Below.setCell ?_ ?_ _); rotate_left; focus (first | omega | (simp; done) | (simp; omega))) | (with_reducible assumption))); done)))).mono ?_; rintro e w1 ⟨rfl, hb1⟩; have k1 : Blk w1 (w.heap.size + 1) #[.int .i64 0, .slice none 0 0, .slice none 0 0] 30 := (by ((repeat (first | (with_reducible assumption) | (with_reducible refine Blk.drewN ?_ _) | (with_reducible refine Blk.drew ?_) | ((with_reducible refine Blk.new _ ?_); focus (first | omega | (simp; done) | (simp; omega))) | (with_reducible refine Blk.past ?_ _) | ((with_reducible refine Blk.apart ?_ _ _ _ ?_); rotate_left; focus (first | omega | (simp; done) | (simp; omega))) | (with_reducible refine Blk.by (by assumption) ?_))); done)); have f1 := k1.free; have c1 := k1.cell; have l1 := k1.lt)
  exact bodyPost_ret (v := .agg #[.int .i64 0, .slice none 0 0, .slice none 0 0]) (by simp [results, Tryz.results14, go_sem, *]) rfl ⟨_, rfl, ownNl_zero _ _ _ (by simp; omega), (by ((repeat (first | (with_reducible exact Below.refl _ _) | (with_reducible refine below_drewN ?_ _) | (with_reducible refine Below.drew ?_) | (with_reducible refine below_al ?_ _) | (with_reducible refine below_on (by assumption) ?_) | ((with_reducible refine Below.setCell ?_ ?_ _); rotate_left; focus (first | omega | (simp; done) | (simp; omega))) | (with_reducible assumption))); done))⟩

set_option maxRecDepth 100000 in
set_option maxHeartbeats 8000000 in
theorem specRm_yes (x : Nl) (v : Value) (w : World) (h : NlV w v x) (hok : ∀ p ∈ x.ps, p.ok) (hnn : Fits x.nets) (hv : nlB x = true) :
    Calls Tryz.prog 14 #[v] w fun e w' => ∃ v', e = .returned v' ∧ OwnNl w' w.heap.size w'.heap.size v' (rmS x) ∧ Below w.heap.size w w' := by
  rw [rmS_yes hv]
  have HV := Lib.hid (fun v w h => specNl_any x v w h hok hnn)
  rw [hv] at HV
  have HN := Lib.hid h
  obtain ⟨_, hl24, hp8, hdv, _⟩ := nlB_facts hv
  have HSH := Lib.hid (fun d (hd : d ∈ x.ds) => shp_of (hdv d hd))
  have HPN := Lib.hid (fun d (hd : d ∈ x.ds) => dvB_pins (hdv d hd))
  obtain ⟨s1, s2, rfl, hd, hp⟩ := h
  obtain ⟨nets, ds, ps⟩ := x
  dsimp only at hd hp HN HV HSH HPN hl24 hp8 ⊢
  have HD := Lib.hid hd
  have HP := Lib.hid hp
  obtain ⟨a1, c1, rfl⟩ := hd.sized
  obtain ⟨a2, c2, rfl⟩ := hp.sized
  clear hd hp hok hv hdv
  go_enter Tryz.func14, Tryz.ntmps14
  go_wp2_with fail
  refine (HV.out _ _ (HN.out.by (by ((repeat (first | (with_reducible exact Below.refl _ _) | (with_reducible refine below_drewN ?_ _) | (with_reducible refine Below.drew ?_) | (with_reducible refine below_al ?_ _) | (with_reducible refine below_on (by assumption) ?_) | ((with_reducible refine Below.setCell ?_ ?_ _); rotate_left; focus (first | omega | (simp; done) | (simp; omega))) | (with_reducible assumption))); done)))).mono ?_
  rintro e w1 ⟨rfl, hb1⟩
  have kN : Blk w1 w.heap.size #[.int .i64 nets, .slice a1 ds.length c1, .slice a2 ps.length c2] 30 := (by ((repeat (first | (with_reducible assumption) | (with_reducible refine Blk.drewN ?_ _) | (with_reducible refine Blk.drew ?_) | ((with_reducible refine Blk.new _ ?_); focus (first | omega | (simp; done) | (simp; omega))) | (with_reducible refine Blk.past ?_ _) | ((with_reducible refine Blk.apart ?_ _ _ _ ?_); rotate_left; focus (first | omega | (simp; done) | (simp; omega))) | (with_reducible refine Blk.by (by assumption) ?_))); done))
  have kZ : Blk w1 (w.heap.size + 1) #[.int .i64 0, .slice none 0 0, .slice none 0 0] 30 := (by ((repeat (first | (with_reducible assumption) | (with_reducible refine Blk.drewN ?_ _) | (with_reducible refine Blk.drew ?_) | ((with_reducible refine Blk.new _ ?_); focus (first | omega | (simp; done) | (simp; omega))) | (with_reducible refine Blk.past ?_ _) | ((with_reducible refine Blk.apart ?_ _ _ _ ?_); rotate_left; focus (first | omega | (simp; done) | (simp; omega))) | (with_reducible refine Blk.by (by assumption) ?_))); done))
  have hb : Below w.heap.size w w1 := (by ((repeat (first | (with_reducible exact Below.refl _ _) | (with_reducible refine below_drewN ?_ _) | (with_reducible refine Below.drew ?_) | (with_reducible refine below_al ?_ _) | (with_reducible refine below_on (by assumption) ?_) | ((with_reducible refine Below.setCell ?_ ?_ _); rotate_left; focus (first | omega | (simp; done) | (simp; omega))) | (with_reducible assumption))); done))
  have c01 : w1.cell? ⟨w.heap.size, 0, none⟩ = some (.int .i64 nets) := kN.cell 0
  have c02 : w1.cell? ⟨w.heap.size, 2, none⟩ = some (.slice a2 ps.length c2) := kN.cell 2
  have lN := kN.lt
  have lZ := kZ.lt
  have HPW := Lib.hid (HP.out.by hb)
  clear hb1
  go_upto_region 3 with fail
  go_cut [3] (fun s3 wx => ∃ (p : Nat) (a3 : Option Addr) (c3 lo2 hi2 : Nat), s3 = .pointer (some ⟨p, 0, none⟩) ∧ Blk wx p #[.int .i64 nets, .slice none 0 0, .slice a3 ps.length c3] 30 ∧ Blk wx w.heap.size #[.int .i64 nets, .slice a1 ds.length c1, .slice a2 ps.length c2] 30 ∧ Blk wx (w.heap.size + 1) #[.int .i64 0, .slice none 0 0, .slice none 0 0] 30 ∧ OwnPs wx lo2 hi2 (.slice a3 ps.length c3) ps ∧ (w.heap.size + 1 < p ∧ w.heap.size + 1 < lo2 ∧ hi2 ≤ wx.heap.size ∧ (p < lo2 ∨ hi2 ≤ p)) ∧ Below w.heap.size w wx)
  case first =>
    go_region_held_law ((fun w' => (Blk w' (w.heap.size) #[.int .i64 nets, .slice a1 ds.length c1, .slice a2 ps.length c2] 30 ∧ ∀ o, w'.cell? ⟨w.heap.size, o, none⟩ = (#[.int .i64 nets, .slice a1 ds.length c1, .slice a2 ps.length c2] : Array Value)[o]?) ∧ Below w.heap.size w w')) (((try (obtain ⟨⟨hS0, _⟩, hSB⟩ := hHeld)); refine ⟨Blk.both ?_, ?_⟩ <;> first | ((repeat (first | (with_reducible assumption) | (with_reducible refine Blk.drewN ?_ _) | (with_reducible refine Blk.drew ?_) | ((with_reducible refine Blk.new _ ?_); focus (first | omega | (simp; done) | (simp; omega))) | (with_reducible refine Blk.past ?_ _) | ((with_reducible refine Blk.apart ?_ _ _ _ ?_); rotate_left; focus (first | omega | (simp; done) | (simp; omega))) | (with_reducible refine Blk.by (by assumption) ?_))); done) | ((repeat (first | (with_reducible exact Below.refl _ _) | (with_reducible refine below_drewN ?_ _) | (with_reducible refine Below.drew ?_) | (with_reducible refine below_al ?_ _) | (with_reducible refine below_on (by assumption) ?_) | ((with_reducible refine Below.setCell ?_ ?_ _); rotate_left; focus (first | omega | (simp; done) | (simp; omega))) | (with_reducible assumption))); done)))
      (first | (refine step_cloneP (by rfl) _ _ (by rfl) _ (by rfl) _ ps (by rfl) (HPW.out.by (by ((repeat (first | (with_reducible exact Below.refl _ _) | (with_reducible refine below_drewN ?_ _) | (with_reducible refine Below.drew ?_) | (with_reducible refine below_al ?_ _) | (with_reducible refine below_on (by assumption) ?_) | ((with_reducible refine Below.setCell ?_ ?_ _); rotate_left; focus (first | omega | (simp; done) | (simp; omega))) | (with_reducible assumption))); done))) (by omega) _ (Nat.le_refl _) ?_; intro v3 w3 hO hb3; have HO := Lib.hid hO; obtain ⟨a3, c3, rfl⟩ := hO.sl.sized; clear hO; (refine with_fact (p := Blk w3 w.heap.size #[.int .i64 nets, .slice a1 ds.length c1, .slice a2 ps.length c2] 30) (Blk.by hb3 ?_) ?_; (focus ((repeat (first | (with_reducible assumption) | (with_reducible refine Blk.drewN ?_ _) | (with_reducible refine Blk.drew ?_) | ((with_reducible refine Blk.new _ ?_); focus (first | omega | (simp; done) | (simp; omega))) | (with_reducible refine Blk.past ?_ _) | ((with_reducible refine Blk.apart ?_ _ _ _ ?_); rotate_left; focus (first | omega | (simp; done) | (simp; omega))) | (with_reducible refine Blk.by (by assumption) ?_))); done)); intro kN3; have lN3 := kN3.lt; have q0 : w3.cell? ⟨w.heap.size, 0, none⟩ = some (.int .i64 nets) := kN3.cell 0; have q2 : w3.cell? ⟨w.heap.size, 2, none⟩ = some (.slice a2 ps.length c2) := kN3.cell 2); (try (refine with_fact (p := Blk w3 (w1.heap.size) #[.int .i64 0, .slice none 0 0, .slice none 0 0] 30) (Blk.by hb3 ?_) ?_; (focus ((repeat (first | (with_reducible assumption) | (with_reducible refine Blk.drewN ?_ _) | (with_reducible refine Blk.drew ?_) | ((with_reducible refine Blk.new _ ?_); focus (first | omega | (simp; done) | (simp; omega))) | (with_reducible refine Blk.past ?_ _) | ((with_reducible refine Blk.apart ?_ _ _ _ ?_); rotate_left; focus (first | omega | (simp; done) | (simp; omega))) | (with_reducible refine Blk.by (by assumption) ?_))); done)); intro k3; have q30 : w3.cell? ⟨w1.heap.size, 0, none⟩ = some (.int .i64 0) := k3.cell 0; have q31 : w3.cell? ⟨w1.heap.size, 1, none⟩ = some (.slice none 0 0) := k3.cell 1; have q32 : w3.cell? ⟨w1.heap.size, 2, none⟩ = some (.slice none 0 0) := k3.cell 2; have f30 : w3.frozen? ⟨w1.heap.size, 0, none⟩ = false := k3.free 0; have f31 : w3.frozen? ⟨w1.heap.size, 1, none⟩ = false := k3.free 1; have f32 : w3.frozen? ⟨w1.heap.size, 2, none⟩ = false := k3.free 2)); (try (refine with_fact (p := Blk w3 (w1.heap.size + 1) #[.int .i64 0, .slice none 0 0, .slice none 0 0] 30) (Blk.by hb3 ?_) ?_; (focus ((repeat (first | (with_reducible assumption) | (with_reducible refine Blk.drewN ?_ _) | (with_reducible refine Blk.drew ?_) | ((with_reducible refine Blk.new _ ?_); focus (first | omega | (simp; done) | (simp; omega))) | (with_reducible refine Blk.past ?_ _) | ((with_reducible refine Blk.apart ?_ _ _ _ ?_); rotate_left; focus (first | omega | (simp; done) | (simp; omega))) | (with_reducible refine Blk.by (by assumption) ?_))); done)); intro k3; have q30 : w3.cell? ⟨w1.heap.size + 1, 0, none⟩ = some (.int .i64 0) := k3.cell 0; have q31 : w3.cell? ⟨w1.heap.size + 1, 1, none⟩ = some (.slice none 0 0) := k3.cell 1; have q32 : w3.cell? ⟨w1.heap.size + 1, 2, none⟩ = some (.slice none 0 0) := k3.cell 2; have f30 : w3.frozen? ⟨w1.heap.size + 1, 0, none⟩ = false := k3.free 0; have f31 : w3.frozen? ⟨w1.heap.size + 1, 1, none⟩ = false := k3.free 1; have f32 : w3.frozen? ⟨w1.heap.size + 1, 2, none⟩ = false := k3.free 2))))
    all_goals (go_wp2_with fail; go_meet)
    all_goals have hlw := hb3.size
    all_goals simp only [World.size_alloc, World.size_drew] at hlw
    · refine ⟨w3.heap.size, a3, c3, w1.heap.size + 1, w3.heap.size, rfl, Blk.new _ rfl, (by ((repeat (first | (with_reducible assumption) | (with_reducible refine Blk.drewN ?_ _) | (with_reducible refine Blk.drew ?_) | ((with_reducible refine Blk.new _ ?_); focus (first | omega | (simp; done) | (simp; omega))) | (with_reducible refine Blk.past ?_ _) | ((with_reducible refine Blk.apart ?_ _ _ _ ?_); rotate_left; focus (first | omega | (simp; done) | (simp; omega))) | (with_reducible refine Blk.by (by assumption) ?_))); done)), (by ((repeat (first | (with_reducible assumption) | (with_reducible refine Blk.drewN ?_ _) | (with_reducible refine Blk.drew ?_) | ((with_reducible refine Blk.new _ ?_); focus (first | omega | (simp; done) | (simp; omega))) | (with_reducible refine Blk.past ?_ _) | ((with_reducible refine Blk.apart ?_ _ _ _ ?_); rotate_left; focus (first | omega | (simp; done) | (simp; omega))) | (with_reducible refine Blk.by (by assumption) ?_))); done)), ?_, ⟨by omega, by omega, by simp, by omega⟩, (by ((repeat (first | (with_reducible exact Below.refl _ _) | (with_reducible refine below_drewN ?_ _) | (with_reducible refine Below.drew ?_) | (with_reducible refine below_al ?_ _) | (with_reducible refine below_on (by assumption) ?_) | ((with_reducible refine Below.setCell ?_ ?_ _); rotate_left; focus (first | omega | (simp; done) | (simp; omega))) | (with_reducible assumption))); done))⟩
      exact (HO.out.by ((Below.refl _ w3).alloc (Nat.le_refl _) _)).wide (by simp) (by simp)
    · refine ⟨w1.heap.size + 1, a3, c3, w1.heap.size + 1 + 1, w3.heap.size, rfl, (((k3.set 0 _).set 1 _).set 2 _), (by ((repeat (first | (with_reducible assumption) | (with_reducible refine Blk.drewN ?_ _) | (with_reducible refine Blk.drew ?_) | ((with_reducible refine Blk.new _ ?_); focus (first | omega | (simp; done) | (simp; omega))) | (with_reducible refine Blk.past ?_ _) | ((with_reducible refine Blk.apart ?_ _ _ _ ?_); rotate_left; focus (first | omega | (simp; done) | (simp; omega))) | (with_reducible refine Blk.by (by assumption) ?_))); done)), (by ((repeat (first | (with_reducible assumption) | (with_reducible refine Blk.drewN ?_ _) | (with_reducible refine Blk.drew ?_) | ((with_reducible refine Blk.new _ ?_); focus (first | omega | (simp; done) | (simp; omega))) | (with_reducible refine Blk.past ?_ _) | ((with_reducible refine Blk.apart ?_ _ _ _ ?_); rotate_left; focus (first | omega | (simp; done) | (simp; omega))) | (with_reducible refine Blk.by (by assumption) ?_))); done)), ?_, ⟨by omega, by omega, by simp, by omega⟩, (by ((repeat (first | (with_reducible exact Below.refl _ _) | (with_reducible refine below_drewN ?_ _) | (with_reducible refine Below.drew ?_) | (with_reducible refine below_al ?_ _) | (with_reducible refine below_on (by assumption) ?_) | ((with_reducible refine Below.setCell ?_ ?_ _); rotate_left; focus (first | omega | (simp; done) | (simp; omega))) | (with_reducible assumption))); done))⟩
      exact (((HO.out.past (Within.off _) (by simp)).past (Within.off _) (by simp)).past (Within.off _) (by simp)).wide (by simp) (by simp)
    · refine ⟨w1.heap.size, a3, c3, w1.heap.size + 1 + 1, w3.heap.size, rfl, (((k3.set 0 _).set 1 _).set 2 _), (by ((repeat (first | (with_reducible assumption) | (with_reducible refine Blk.drewN ?_ _) | (with_reducible refine Blk.drew ?_) | ((with_reducible refine Blk.new _ ?_); focus (first | omega | (simp; done) | (simp; omega))) | (with_reducible refine Blk.past ?_ _) | ((with_reducible refine Blk.apart ?_ _ _ _ ?_); rotate_left; focus (first | omega | (simp; done) | (simp; omega))) | (with_reducible refine Blk.by (by assumption) ?_))); done)), (by ((repeat (first | (with_reducible assumption) | (with_reducible refine Blk.drewN ?_ _) | (with_reducible refine Blk.drew ?_) | ((with_reducible refine Blk.new _ ?_); focus (first | omega | (simp; done) | (simp; omega))) | (with_reducible refine Blk.past ?_ _) | ((with_reducible refine Blk.apart ?_ _ _ _ ?_); rotate_left; focus (first | omega | (simp; done) | (simp; omega))) | (with_reducible refine Blk.by (by assumption) ?_))); done)), ?_, ⟨by omega, by omega, by simp, by omega⟩, (by ((repeat (first | (with_reducible exact Below.refl _ _) | (with_reducible refine below_drewN ?_ _) | (with_reducible refine Below.drew ?_) | (with_reducible refine below_al ?_ _) | (with_reducible refine below_on (by assumption) ?_) | ((with_reducible refine Below.setCell ?_ ?_ _); rotate_left; focus (first | omega | (simp; done) | (simp; omega))) | (with_reducible assumption))); done))⟩
      exact (((HO.out.past (Within.off _) (by simp)).past (Within.off _) (by simp)).past (Within.off _) (by simp)).wide (by simp) (by simp)
  case rest =>
    clear kN kZ hb c01 c02 lN lZ
    obtain ⟨p, a3, c3, lo2, hi2, rfl, kP, kN, kZ, hO, ⟨hp1, hp2, hp3, hp4⟩, hb⟩ := hcut
    have lP := kP.lt
    have hbl := hb.size
    obtain ⟨B, hB⟩ : ∃ B, wc.heap.size = B := ⟨_, rfl⟩
    rw [hB] at lP hbl
    have hBl := Bld.nil wc wc.heap.size
    rw [hB] at hBl hp3
    have HO1 := Lib.hid hO
    have lPB : p < B := lP
    have HB := Lib.hid hB
    clear hO hB
    go_wp2
    go_loopw [4] (fun i wr => ∃ (k : Nat) (v : Value) (hi : Nat), k ≤ ds.length ∧ B ≤ hi ∧ i = .int .i64 k ∧ Bld wr B hi v ((ds.take k).filter okD) ∧ Blk wr p #[.int .i64 nets, v, .slice a3 ps.length c3] 30 ∧ Blk wr w.heap.size #[.int .i64 nets, .slice a1 ds.length c1, .slice a2 ps.length c2] 30 ∧ Blk wr (w.heap.size + 1) #[.int .i64 0, .slice none 0 0, .slice none 0 0] 30 ∧ OwnPs wr lo2 hi2 (.slice a3 ps.length c3) ps ∧ Below w.heap.size w wr) (fun i _ => ds.length - (intOf i).toNat)
    case atStart => exact ⟨0, .slice none 0 0, B, Nat.zero_le _, Nat.le_refl _, rfl, hBl, kP, kN, kZ, HO1.out, hb⟩
    case round =>
      clear kP kZ kN hb hBl
      obtain ⟨k, v, hi, hk, hBhi, rfl, hBl, kP, kN, kZ, hO, hb⟩ := hrel
      have HO := Lib.hid hO
      have HBL := Lib.hid hBl
      have lP := kP.lt
      obtain ⟨av, cv, rfl⟩ := hBl.sized
      have hhi := hBl.1
      have hfl : ((ds.take k).filter okD).length ≤ 24 := by
        have h1 := List.length_filter_le okD (ds.take k)
        have h2 : (ds.take k).length ≤ ds.length := by rw [List.length_take]; omega
        omega
      have cN1 : wr.cell? ⟨w.heap.size, 1, none⟩ = some (.slice a1 ds.length c1) := kN.cell 1
      have lN := kN.lt
      clear hO hBl
      by_cases hlt : k < ds.length
      · obtain ⟨x, hx⟩ : ∃ x, ds[k]? = some x := ⟨ds[k], List.getElem?_eq_getElem hlt⟩
        have HDS := HD.out
        rcases HDS with ⟨_, _, _, h2⟩ | ⟨b, off, cap, he, h2, h3, h4⟩
        · rw [h2] at hlt; simp at hlt
        obtain ⟨rfl, rfl⟩ : a1 = some ⟨b, off, none⟩ ∧ c1 = cap := by simpa using he
        obtain ⟨hx3, hx2, _⟩ := HPN.out x (List.mem_of_getElem? hx)
        have hxl : x.pins.length ≤ 1048576 := by omega
        have hxn : x.pins ≠ [] := by intro e; rw [e] at hx2; simp at hx2
        obtain ⟨sx, e1, e2, e3, e4, hSx0⟩ := h4 k x hx
        have d1 := cell_by' hb e1
        have d2 := cell_by' hb e2
        have d3 := cell_by' hb e3
        have d4 := cell_by' hb e4
        have HSS := Lib.hid (fun w h => l28Shorted_any x sx w h (HSH.out x (List.mem_of_getElem? hx)))
        have HCD := Lib.hid (fun w h => own_any x.kind x.wd x.len sx x.pins w h hxl)
        have HSX := Lib.hid hSx0
        have HX := Lib.hid hx
        have HXN := Lib.hid hxn
        obtain ⟨ax, cx, rfl⟩ := hSx0.len
        have i1 : (0 : Int) ≤ (k : Int) := by omega
        have i2 : (k : Int) < (ds.length : Int) := by omega
        have HFY := Lib.hid (filter_yes ds k x hx)
        have HFN := Lib.hid (filter_no ds k x hx)
        have HOK := Lib.hid (show okD x = !decide (curP x.pins = curQ x.pins) from rfl)
        generalize decide (curP x.pins = curQ x.pins) = sh at *
        generalize okD x = okx at *
        generalize hfk : (ds.take k).filter okD = fk at *
        have HFK := Lib.hid hfk
        clear h4 hx hxn he hSx0 hfk
        cases sh with
        | true =>
          have hokx := HOK.out
          simp at hokx
          go_wp2_with fail
          refine (HSS.out _ (HSX.out.by hb)).mono ?_
          rintro e w2 ⟨rfl, hb2⟩
          go_wp2
          exact ⟨⟨k + 1, .slice av fk.length cv, hi, by omega, hBhi, by go_num, by rw [HFN.out hokx]; exact HBL.out.by hb2, Blk.by hb2 kP, Blk.by hb2 kN, Blk.by hb2 kZ, HO.out.by hb2, below_on hb2 hb⟩, by simp [intOf]; omega⟩
        | false =>
          have hokx := HOK.out
          simp at hokx
          have hFY := HFY.out hokx
          replace HFY := Lib.hid hFY
          clear hFY hokx
          go_wp2_with fail
          refine (HSS.out _ (HSX.out.by hb)).mono ?_
          rintro e w2 ⟨rfl, hb2⟩
          have HBL2 := Lib.hid (HBL.out.by hb2)
          replace HO := Lib.hid (HO.out.by hb2)
          replace kP := Blk.by hb2 kP
          replace kN := Blk.by hb2 kN
          replace kZ := Blk.by hb2 kZ
          replace hb := below_on hb2 hb
          replace lP := kP.lt
          have hhi2 : hi ≤ w2.heap.size := by have := hb2.size; omega
          clear d1 d2 d3 d4 cN1 lN hb2 HBL
          have d1 := cell_by' hb e1
          have d2 := cell_by' hb e2
          have d3 := cell_by' hb e3
          have d4 := cell_by' hb e4
          have lX := lt_of_cell d1
          dsimp only at lX
          have cN1 : w2.cell? ⟨w.heap.size, 1, none⟩ = some (.slice (some ⟨b, off, none⟩) ds.length c1) := kN.cell 1
          have cP1 : w2.cell? ⟨p, 1, none⟩ = some (.slice av fk.length cv) := kP.cell 1
          have lN := kN.lt
          go_wp2
          go_region_law
            (first | (go_simp; go_at_call 42; refine (HCD.out _ ((HSX.out.by hb).by (below_of_drewN w2 1))).mono ?_; rintro e w4 ⟨v1, rfl, hOI, hb4⟩; obtain ⟨fb, hf1, hf2, hOR⟩ := hOI.pin HXN.out; have HOR := Lib.hid hOR; obtain ⟨a1', c1', rfl⟩ := hOR.sl.len; clear hOR hOI; (try simp at hf1); have kP4 := Blk.by hb4 kP.drew; have cP4 : w4.cell? ⟨p, 1, none⟩ = some (.slice av fk.length cv) := kP4.cell 1; have lP4 := kP4.lt; dsimp only) | (refine step_push (by rfl) _ _ (by rfl) B hi _ fk (by rfl) (HBL2.out.by (by ((repeat (first | (with_reducible exact Below.refl _ _) | (with_reducible refine below_drewN ?_ _) | (with_reducible refine Below.drew ?_) | (with_reducible refine below_al ?_ _) | (with_reducible refine below_on (by assumption) ?_) | ((with_reducible refine Below.setCell ?_ ?_ _); rotate_left; focus (first | omega | (simp; done) | (simp; omega))) | (with_reducible assumption))); done))) w4.heap.size x _ fb (by rfl) (Blk.new _ rfl) (HOR.out.by ((Below.refl _ w4).alloc (Nat.le_refl _) _)) (by omega) (by omega) (by simp; omega) (by omega) ?_; intro a' c' w3 hBl3 hw3; have HBL3 := Lib.hid hBl3; have kP3 := hw3.blk ((Blk.by hb4 kP.drew).past (.cells #[.int .i64 x.kind, .slice a1' x.pins.length c1', .int .i64 x.wd, .int .i64 x.len] 46)) (by omega); have cP3 : w3.cell? ⟨p, 1, none⟩ = some (.slice av fk.length cv) := kP3.cell 1; have fP3 : w3.frozen? ⟨p, 1, none⟩ = false := kP3.free 1; have lP3 := kP3.lt; clear hBl3))
          all_goals
            have hsz3 := hw3.size
            simp only [World.size_alloc] at hsz3
            have hb3 := hw3.below (below_al (below_on hb4 hb.drew) (.cells #[.int .i64 x.kind, .slice a1' x.pins.length c1', .int .i64 x.wd, .int .i64 x.len] 46)) (by omega)
            have kZ3 := hw3.blk ((Blk.by hb4 (kZ.drew)).past (.cells #[.int .i64 x.kind, .slice a1' x.pins.length c1', .int .i64 x.wd, .int .i64 x.len] 46)) (by omega)
            have kN3 := hw3.blk ((Blk.by hb4 (kN.drew)).past (.cells #[.int .i64 x.kind, .slice a1' x.pins.length c1', .int .i64 x.wd, .int .i64 x.len] 46)) (by omega)
            have hO3 := (((HO.out.by (below_of_drewN _ 1)).by hb4).by ((Below.refl _ w4).alloc (Nat.le_refl _) (.cells #[.int .i64 x.kind, .slice a1' x.pins.length c1', .int .i64 x.wd, .int .i64 x.len] 46))).past hw3 (by omega)
            have hl1 : w2.heap.size ≤ w4.heap.size := hb4.size
            go_wp2
            have hW4 : Within p (p + 1) w3 (w3.setCell ⟨p, 1, none⟩ (.slice a' (fk.length + 1) c')) := Within.off _
            have hO4 := OwnPs.past (lo := lo2) (hi := hi2) hW4 hO3 (by omega)
            refine ⟨⟨k + 1, .slice a' (fk.length + 1) c', w3.heap.size, by omega, by omega, by go_num, ?_, kP3.set 1 _, kN3.apart p 1 _ (by omega), kZ3.apart p 1 _ (by omega), hO4, hb3.setCell (by simp; omega) _⟩, by simp [intOf]; omega⟩
            rw [HFY.out]
            exact HBL3.out.past hW4 (by omega)
      · obtain rfl : k = ds.length := by omega
        have hBL2 := HBL.out
        rw [List.take_length] at hBL2 kP
        have HOD := Lib.hid hBL2.own
        have c1' := kP.cell
        have c2' := kZ.cell
        have f2' := kZ.free
        have l2' := kZ.lt
        clear HBL hBL2
        go_wp2
        refine bodyPost_ret (v := .agg #[.int .i64 nets, .slice av (ds.filter okD).length cv, .slice a3 ps.length c3]) (by simp [results, Tryz.results14, go_sem, *]) rfl ⟨_, rfl, ⟨_, _, B, hi, lo2, hi2, rfl, ?_, ?_, ⟨hbl, by simp; omega⟩, ⟨by omega, by simp; omega⟩, .inr hp3⟩, ?_⟩
        · exact (((HOD.out.past (Within.off _) (by omega)).past (Within.off _) (by omega)).past (Within.off _) (by omega))
        · exact (((HO.out.past (Within.off _) (by omega)).past (Within.off _) (by omega)).past (Within.off _) (by omega))
        · repeat (first | (with_reducible exact hb) | ((with_reducible refine Below.setCell ?_ ?_ _); rotate_left; focus (simp; try omega)))
end Go.Proofs.YtjanifoipbmkhaaGreat

/- slices.DeleteFunc on a slice of devices of the call's own. -/
namespace Go.Proofs.YtjanifoipbmkhaaGreat
open Go.RowKit
set_option linter.unusedVariables false
set_option linter.unusedSimpArgs false

set_option maxRecDepth 100000 in
set_option maxHeartbeats 4000000 in
theorem deleteFuncD_any (gf : Nat) (lb : Array Value) (eg : ∀ args w, (callFunc gf args).run Tryz.prog w = .ok (.enter gf args) w) (p : Dv → Bool) (lo hi : Nat) (sv : Value) (xs : List Dv) (w : World) (h : OwnDs w lo hi sv xs)
    (hp : ∀ (W : World) (x : Dv) (sv : Value), x ∈ xs → IntSl W sv x.pins → Calls Tryz.prog gf (#[.agg #[.int .i64 x.kind, sv, .int .i64 x.wd, .int .i64 x.len]] ++ lb) W fun e w' => e = .returned (.bool (p x)) ∧ Below W.heap.size W w') :
    Calls Tryz.prog 61 #[sv, .func (.func gf) #[] lb] w fun e w' => ∃ v', e = .returned v' ∧ OwnDs w' lo hi v' (xs.filter fun x => !p x) ∧ Within lo hi w w' := by
  have HI := Lib.hid (indexFuncD_any gf lb eg p sv xs w h.sl (fun W x sv _ hx hs => hp W x sv hx hs))
  rcases first_hit p xs with hno | ⟨k0, x0, hx0, hp0, hbf⟩
  · have hf : xs.filter (fun x => !p x) = xs := List.filter_eq_self.2 (fun x hx => by rw [hno x hx]; rfl)
    rw [hf]
    rw [fidx_miss (fun j y hy => hno y (List.mem_of_getElem? hy))] at HI
    have HO := Lib.hid h
    obtain ⟨a, c, rfl⟩ := h.sl.sized
    clear h hp hno hf
    go_enter Tryz.func61, Tryz.ntmps61
    go_wp2_with fail
    refine HI.out.mono ?_
    rintro e w1 ⟨rfl, hb1⟩
    go_wp2
    go_ret
    exact ⟨_, rfl, HO.out.by hb1, ⟨hb1.os, hb1.tape, hb1.output, hb1.size, fun k hk _ => hb1.block k hk⟩⟩
  · rw [fidx_hit hx0 hp0 hbf] at HI
    have hst := filter_first hx0 hp0 hbf
    have hk0 : k0 < xs.length := (List.getElem?_eq_some_iff.1 hx0).1
    rcases h with ⟨a, c, rfl, rfl⟩ | ⟨g, cap, cs0, f, rfl, hg, hcap, hmax, hB0, hel, hinj⟩
    · simp at hk0
    have HSZ := Lib.hid (show xs.length * 4 ≤ cs0.size by
      obtain ⟨m, hm⟩ : ∃ m, xs.length = m + 1 := ⟨xs.length - 1, by omega⟩
      obtain ⟨⟨_, q, _⟩, _⟩ := hel m xs[m] (List.getElem?_eq_getElem (by omega))
      have := (Array.getElem?_eq_some_iff.1 q.2.2.2).1
      omega)
    have HS := Lib.hid (DelSt.start (w := w) (lo := lo) (hi := hi) (g := g) (cs := cs0) (xs := xs) (f := f) (fun i x hx => hel i x hx) k0 hk0)
    rw [← hst] at HS
    have HST := Lib.hid (show ((xs.take (k0 + 1)).filter fun x => !p x).length = k0 by rw [hst, List.length_take]; omega)
    have HINJ := Lib.hid hinj
    have HP := Lib.hid hp
    have HFA := Lib.hid (fun k x (h : xs[k]? = some x) => @filter_at Dv p xs k x h)
    have HFL := Lib.hid (fun k => List.length_filter_le (fun x => !p x) (xs.take k))
    have HFD := Lib.hid (show (xs.take xs.length).filter (fun x => !p x) = xs.filter (fun x => !p x) by rw [List.take_length])
    have hmx := hmax
    unfold maxLen at hmax
    clear hp hel hinj hst hx0 hp0 hbf
    go_enter Tryz.func61, Tryz.ntmps61
    go_wp2_with fail
    refine HI.out.mono ?_
    rintro e w1 ⟨rfl, hb1⟩
    have hB1 := Blk.by hb1 hB0
    have W1 : Within g (g + 1) w w1 := ⟨hb1.os, hb1.tape, hb1.output, hb1.size, fun k hk _ => hb1.block k hk⟩
    have i0 : ((k0 : Int) == -1) = false := by simp
    clear hb1 HI
    go_wp2
    go_loopw [5, 6, 7] (fun j i _ wr => ∃ k n : Nat, k0 < k ∧ k ≤ xs.length ∧ i = .int .i64 k ∧ j = .int .i64 n ∧ Hid (n = ((xs.take k).filter fun x => !p x).length) ∧ n < k ∧ (∃ cs : Array Value, Blk wr g cs 46 ∧ Hid (xs.length * 4 ≤ cs.size) ∧ Hid (DelSt w lo hi g f xs ((xs.take k).filter fun x => !p x) k cs)) ∧ Within g (g + 1) w wr) (fun _ i _ _ => xs.length - (intOf i).toNat)
    case atStart => exact ⟨k0 + 1, k0, by omega, by omega, by go_num, rfl, Lib.hid HST.out.symm, by omega, ⟨cs0, hB1, HSZ, HS⟩, W1⟩
    case round =>
      obtain ⟨k, n, hk0k, hkl, rfl, rfl, HN, hnk, ⟨cs, hB, HZ, HD⟩, hW⟩ := hrel
      clear HS HST W1
      by_cases hlt : k < xs.length
      · obtain ⟨x, hx⟩ : ∃ x, xs[k]? = some x := ⟨xs[k], List.getElem?_eq_getElem hlt⟩
        obtain ⟨⟨pv, hC, hO⟩, _⟩ := HD.out.2 k x (Nat.le_refl _) hx
        have hfk := (HD.out.2 k x (Nat.le_refl _) hx).2
        have HC := Lib.hid hC
        have HO := Lib.hid hO
        have HX := Lib.hid hx
        obtain ⟨c0, c1, c2, c3⟩ := hC
        have hsz := (Array.getElem?_eq_some_iff.1 c3).1
        obtain ⟨d0, u0⟩ : ∃ d, cs[n * 4]? = some d := ⟨_, Array.getElem?_eq_getElem (by omega)⟩
        obtain ⟨d1, u1⟩ : ∃ d, cs[n * 4 + 1]? = some d := ⟨_, Array.getElem?_eq_getElem (by omega)⟩
        obtain ⟨d2, u2⟩ : ∃ d, cs[n * 4 + 2]? = some d := ⟨_, Array.getElem?_eq_getElem (by omega)⟩
        obtain ⟨d3, u3⟩ : ∃ d, cs[n * 4 + 3]? = some d := ⟨_, Array.getElem?_eq_getElem (by omega)⟩
        have HSZ := Lib.hid hsz
        clear hsz
        have hcall := HP.out
        have HCL := Lib.hid (fun W h => HP.out W x pv (List.mem_of_getElem? hx) h)
        have hBc := hB.cell
        have hBl := hB.lt
        obtain ⟨a1, c1', rfl⟩ := hO.sl.len
        have i1 : (0 : Int) ≤ (k : Int) := by omega
        have i2 : (k : Int) < (xs.length : Int) := by omega
        have i3 : (0 : Int) ≤ (n : Int) := by omega
        have i4 : (n : Int) < (xs.length : Int) := by omega
        have HFX := Lib.hid (HFA.out k x hx)
        have hS := Lib.hid (show IntSl wr (.slice a1 x.pins.length c1') x.pins from (HO.out.past hW (by omega)).sl)
        clear hx hO hcall
        cases hq : p x with
        | true =>
          rw [hq] at HCL HFX
          simp only [if_true, List.append_nil] at HFX
          clear hq
          go_wp2_with (go_at_fn gf; refine (HCL.out _ (hS.out.by (by ((repeat (first | (with_reducible exact Below.refl _ _) | (with_reducible refine below_drewN ?_ _) | (with_reducible refine Below.drew ?_) | (with_reducible refine below_al ?_ _) | (with_reducible refine below_on (by assumption) ?_) | ((with_reducible refine Below.setCell ?_ ?_ _); rotate_left; focus (first | omega | (simp; done) | (simp; omega))) | (with_reducible assumption))); done)))).mono ?_; rintro e w2 ⟨rfl, hb2⟩; have hb3 : Below wr.heap.size wr w2 := (by ((repeat (first | (with_reducible exact Below.refl _ _) | (with_reducible refine below_drewN ?_ _) | (with_reducible refine Below.drew ?_) | (with_reducible refine below_al ?_ _) | (with_reducible refine below_on (by assumption) ?_) | ((with_reducible refine Below.setCell ?_ ?_ _); rotate_left; focus (first | omega | (simp; done) | (simp; omega))) | (with_reducible assumption))); done)))
          exact ⟨⟨k + 1, n, by omega, by omega, by go_num, rfl, Lib.hid (by rw [HFX.out]; exact HN.out), by omega, ⟨cs, Blk.by hb3 hB, HZ, Lib.hid (by rw [HFX.out]; exact HD.out.skip)⟩, hW.on ⟨hb3.os, hb3.tape, hb3.output, hb3.size, fun k hk _ => hb3.block k hk⟩⟩, by simp [intOf]; omega⟩
        | false =>
          rw [hq] at HCL HFX
          simp only [Bool.false_eq_true, if_false] at HFX
          have HQ := Lib.hid hq
          clear hq
          go_wp2_with (go_at_fn gf; refine (HCL.out _ (hS.out.by (by ((repeat (first | (with_reducible exact Below.refl _ _) | (with_reducible refine below_drewN ?_ _) | (with_reducible refine Below.drew ?_) | (with_reducible refine below_al ?_ _) | (with_reducible refine below_on (by assumption) ?_) | ((with_reducible refine Below.setCell ?_ ?_ _); rotate_left; focus (first | omega | (simp; done) | (simp; omega))) | (with_reducible assumption))); done)))).mono ?_; rintro e w2 ⟨rfl, hb2⟩; have hb3 : Below wr.heap.size wr w2 := (by ((repeat (first | (with_reducible exact Below.refl _ _) | (with_reducible refine below_drewN ?_ _) | (with_reducible refine Below.drew ?_) | (with_reducible refine below_al ?_ _) | (with_reducible refine below_on (by assumption) ?_) | ((with_reducible refine Below.setCell ?_ ?_ _); rotate_left; focus (first | omega | (simp; done) | (simp; omega))) | (with_reducible assumption))); done)); have kB : Blk w2 wr.heap.size #[.int .i64 x.kind, .slice a1 x.pins.length c1', .int .i64 x.wd, .int .i64 x.len] 46 := Blk.by hb2 (Blk.new _ rfl); have kBc := kB.cell; have kG := Blk.by hb3 hB; have kGc := kG.cell; have kGf := kG.free)
          have hW2 : Within g (g + 1) w w2 := hW.on ⟨hb3.os, hb3.tape, hb3.output, hb3.size, fun k hk _ => hb3.block k hk⟩
          exact ⟨⟨k + 1, n + 1, by omega, by omega, by go_num, by go_num, Lib.hid (by rw [HFX.out, List.length_append]; have := HN.out; simp; omega), by omega, ⟨set4 cs n (.int .i64 x.kind) (.slice a1 x.pins.length c1') (.int .i64 x.wd) (.int .i64 x.len), (((kG.set _ _).set _ _).set _ _).set _ _, Lib.hid (by have := HZ.out; simp [set4]; omega), Lib.hid (by
            rw [HFX.out]
            have hh := HD.out.push (by have := HN.out; omega) HX.out HC.out HO.out
            rw [← HN.out] at hh
            exact hh)⟩, (((hW2.on (Within.off _)).on (Within.off _)).on (Within.off _)).on (Within.off _)⟩, by simp [intOf]; omega⟩
      · obtain rfl : k = xs.length := by omega
        rw [HFD.out] at HN HD
        have hBl := hB.lt
        have hBc := hB.cell
        have hBf := hB.free
        have i3 : (0 : Int) ≤ (n : Int) := by omega
        have i4 : (n : Int) ≤ (xs.length : Int) := by omega
        have i5 : (n : Int) ≤ (cap : Int) := by omega
        obtain ⟨vs, hvl, hcl⟩ : ∃ vs : List Value, vs.length = (xs.length - n) * 4 ∧ ∀ ty, (Builtin.clear_ #[27] ty #[.slice (some ⟨g, n * 4, none⟩) (xs.length - n) (cap - n)]).run Tryz.prog wr = .ok (.tuple #[]) (wr.setCells g (n * 4) vs) := by
          obtain ⟨vs, h1, h2⟩ := run_clear_dev wr 0 g (n * 4) (xs.length - n) (cap - n) (by omega) (fun j hj => by rw [hBc]; rw [Array.getElem?_eq_getElem (by have := HZ.out; omega)]; rfl) (fun j => hBf j)
          exact ⟨vs, h1, fun ty => h2⟩
        obtain ⟨cs', hB', he', hW'⟩ := Blk.setCells g vs (n * 4) wr cs hB
        generalize wr.setCells g (n * 4) vs = w9 at *
        clear hBc hBf hvl
        go_wp2
        go_ret
        have hN := HN.out
        have hres := HD.out.done HINJ.out (hW.on hW') hB' (by rw [← hN]; exact he') hg (cap := cap) (by omega) hmx
        rw [← hN] at hres
        exact ⟨.slice (some ⟨g, 0, none⟩) n cap, by rfl, hres, (hW.on hW').sub hg.1 (by omega)⟩
end Go.Proofs.YtjanifoipbmkhaaGreat

/- The program's RemoveShorted. -/
namespace Go.Proofs.YtjanifoipbmkhaaGreat
open Go.RowKit
set_option linter.unusedVariables false
set_option linter.unusedSimpArgs false

set_option maxRecDepth 100000 in
set_option maxHeartbeats 1000000 in
theorem implRm_no (x : Nl) (v : Value) (w : World) (h : NlV w v x) (hok : ∀ p ∈ x.ps, p.ok) (hnn : Fits x.nets) (hv : nlB x = false) :
    Calls Tryz.prog 24 #[v] w fun e w' => ∃ v', e = .returned v' ∧ OwnNl w' w.heap.size w'.heap.size v' (rmS x) ∧ Below w.heap.size w w' := by
  rw [rmS_no hv]
  have HV := Lib.hid (fun v w h => implNl_any x v w h hok hnn)
  rw [hv] at HV
  have HN := Lib.hid h
  obtain ⟨a, c, a', c', rfl⟩ := h.sized
  clear h hok hv
  go_enter Tryz.func24, Tryz.ntmps24
  go_wp2_with (go_at_call 22; refine (HV.out _ _ (HN.out.by (by ((repeat (first | (with_reducible exact Below.refl _ _) | (with_reducible refine below_drewN ?_ _) | (with_reducible refine Below.drew ?_) | (with_reducible refine below_al ?_ _) | (with_reducible refine below_on (by assumption) ?_) | ((with_reducible refine Below.setCell ?_ ?_ _); rotate_left; focus (first | omega | (simp; done) | (simp; omega))) | (with_reducible assumption))); done)))).mono ?_; rintro e w1 ⟨rfl, hb1⟩; have k1 : Blk w1 (w.heap.size + 1) #[.int .i64 0, .slice none 0 0, .slice none 0 0] 30 := (by ((repeat (first | (with_reducible assumption) | (with_reducible refine Blk.drewN ?_ _) | (with_reducible refine Blk.drew ?_) | ((with_reducible refine Blk.new _ ?_); focus (first | omega | (simp; done) | (simp; omega))) | (with_reducible refine Blk.past ?_ _) | ((with_reducible refine Blk.apart ?_ _ _ _ ?_); rotate_left; focus (first | omega | (simp; done) | (simp; omega))) | (with_reducible refine Blk.by (by assumption) ?_))); done)); have f1 := k1.free; have c1 := k1.cell; have l1 := k1.lt)
  exact bodyPost_ret (v := .agg #[.int .i64 0, .slice none 0 0, .slice none 0 0]) (by simp [results, Tryz.results24, go_sem, *]) rfl ⟨_, rfl, ownNl_zero _ _ _ (by simp; omega), (by ((repeat (first | (with_reducible exact Below.refl _ _) | (with_reducible refine below_drewN ?_ _) | (with_reducible refine Below.drew ?_) | (with_reducible refine below_al ?_ _) | (with_reducible refine below_on (by assumption) ?_) | ((with_reducible refine Below.setCell ?_ ?_ _); rotate_left; focus (first | omega | (simp; done) | (simp; omega))) | (with_reducible assumption))); done))⟩

set_option maxRecDepth 100000 in
set_option maxHeartbeats 4000000 in
theorem implRm_yes (x : Nl) (v : Value) (w : World) (h : NlV w v x) (hok : ∀ p ∈ x.ps, p.ok) (hnn : Fits x.nets) (hv : nlB x = true) :
    Calls Tryz.prog 24 #[v] w fun e w' => ∃ v', e = .returned v' ∧ OwnNl w' w.heap.size w'.heap.size v' (rmS x) ∧ Below w.heap.size w w' := by
  rw [rmS_yes hv]
  have HV := Lib.hid (fun v w h => implNl_any x v w h hok hnn)
  rw [hv] at HV
  have HN := Lib.hid h
  obtain ⟨_, hl24, hp8, hdv, _⟩ := nlB_facts hv
  have HCP := Lib.hid (fun v w h => copyNetlist_any x v w h (by omega) (by omega) (fun d hd => by have h1 := (dvB_pins (hdv d hd)).1; have h2 := (dvB_pins (hdv d hd)).2.1; exact ⟨by omega, fun e => by rw [e] at h2; simp at h2⟩))
  have HSH := Lib.hid (fun d (hd : d ∈ x.ds) => shp_of (hdv d hd))
  have HDL := Lib.hid (fun lo hi sv w (h : OwnDs w lo hi sv x.ds) => deleteFuncD_any 62 #[] (fun _ _ => rfl) shB lo hi sv x.ds w h (fun W y sv hy hs => shorted_any y sv W hs (HSH.out y hy)))
  obtain ⟨a, c, a', c', rfl⟩ := h.sized
  obtain ⟨nets, ds, ps⟩ := x
  dsimp only at HN HV HCP HDL hl24 hp8 ⊢
  have hfo : ds.filter (fun x => !shB x) = ds.filter okD := rfl
  rw [hfo] at HDL
  clear h hok hv hdv hfo
  go_enter Tryz.func24, Tryz.ntmps24
  go_wp2_with fail
  refine (HV.out _ _ (HN.out.by (by ((repeat (first | (with_reducible exact Below.refl _ _) | (with_reducible refine below_drewN ?_ _) | (with_reducible refine Below.drew ?_) | (with_reducible refine below_al ?_ _) | (with_reducible refine below_on (by assumption) ?_) | ((with_reducible refine Below.setCell ?_ ?_ _); rotate_left; focus (first | omega | (simp; done) | (simp; omega))) | (with_reducible assumption))); done)))).mono ?_
  rintro e w1 ⟨rfl, hb1⟩
  have k0 : Blk w1 w.heap.size #[.int .i64 nets, .slice a ds.length c, .slice a' ps.length c'] 30 := (by ((repeat (first | (with_reducible assumption) | (with_reducible refine Blk.drewN ?_ _) | (with_reducible refine Blk.drew ?_) | ((with_reducible refine Blk.new _ ?_); focus (first | omega | (simp; done) | (simp; omega))) | (with_reducible refine Blk.past ?_ _) | ((with_reducible refine Blk.apart ?_ _ _ _ ?_); rotate_left; focus (first | omega | (simp; done) | (simp; omega))) | (with_reducible refine Blk.by (by assumption) ?_))); done))
  have k1 : Blk w1 (w.heap.size + 1) #[.int .i64 0, .slice none 0 0, .slice none 0 0] 30 := (by ((repeat (first | (with_reducible assumption) | (with_reducible refine Blk.drewN ?_ _) | (with_reducible refine Blk.drew ?_) | ((with_reducible refine Blk.new _ ?_); focus (first | omega | (simp; done) | (simp; omega))) | (with_reducible refine Blk.past ?_ _) | ((with_reducible refine Blk.apart ?_ _ _ _ ?_); rotate_left; focus (first | omega | (simp; done) | (simp; omega))) | (with_reducible refine Blk.by (by assumption) ?_))); done))
  have hB1 : Below w.heap.size w w1 := (by ((repeat (first | (with_reducible exact Below.refl _ _) | (with_reducible refine below_drewN ?_ _) | (with_reducible refine Below.drew ?_) | (with_reducible refine below_al ?_ _) | (with_reducible refine below_on (by assumption) ?_) | ((with_reducible refine Below.setCell ?_ ?_ _); rotate_left; focus (first | omega | (simp; done) | (simp; omega))) | (with_reducible assumption))); done))
  have l1 := k1.lt
  have c0 := k0.cell
  clear hb1
  go_wp2_with fail
  refine (HCP.out _ _ (HN.out.by hB1)).mono ?_
  rintro e w2 ⟨v2, rfl, hO, hb2⟩
  obtain ⟨s1, s2, lo1, hi1, lo2, hi2, rfl, hOD, hOP, hi1', hi2', hap⟩ := hO
  replace k1 := Blk.by hb2 k1
  have hB2 := below_on hb2 hB1
  have hsz2 := hb2.size
  obtain ⟨a1, c1, rfl⟩ := hOD.sl.sized
  obtain ⟨a2, c2, rfl⟩ := hOP.sl.sized
  dsimp only at hOD hOP
  have HOD := Lib.hid hOD
  have HOP := Lib.hid hOP
  clear c0 k0 hb2 hOD hOP HN HV HCP
  have c1' := k1.cell
  go_wp2_with (go_at_call 61; refine (HDL.out lo1 hi1 _ _ (HOD.out.by (by ((repeat (first | (with_reducible exact Below.refl _ _) | (with_reducible refine below_drewN ?_ _) | (with_reducible refine Below.drew ?_) | (with_reducible refine below_al ?_ _) | (with_reducible refine below_on (by assumption) ?_) | ((with_reducible refine Below.setCell ?_ ?_ _); rotate_left; focus (first | omega | (simp; done) | (simp; omega))) | (with_reducible assumption))); done)))).mono ?_; rintro e w3 ⟨v3, rfl, hO3, hw3⟩; obtain ⟨a3, c3, rfl⟩ := hO3.sl.sized; have k3 : Blk w3 w2.heap.size #[.int .i64 nets, .slice a1 ds.length c1, .slice a2 ps.length c2] 30 := hw3.blk (Blk.new _ rfl) (by omega); have k1' := hw3.blk (k1.past _) (by omega); have c3' := k3.cell; have f3' := k3.free; have c1'' := k1'.cell; have f1'' := k1'.free; have hne : ¬ w2.heap.size = w.heap.size + 1 := (by omega))
  have hsz3 := hw3.size
  simp only [World.size_alloc] at hsz3
  have hB3 : Below w.heap.size w w3 := hw3.below (below_al hB2 (.cells #[.int .i64 nets, .slice a1 ds.length c1, .slice a2 ps.length c2] 30)) (by omega)
  have hOP3 := (HOP.out.by ((Below.refl _ w2).alloc (Nat.le_refl _) (.cells #[.int .i64 nets, .slice a1 ds.length c1, .slice a2 ps.length c2] 30))).past hw3 (by omega)
  refine bodyPost_ret (v := .agg #[.int .i64 nets, .slice a3 (ds.filter okD).length c3, .slice a2 ps.length c2]) (by simp [results, Tryz.results24, go_sem, *]) rfl ⟨_, rfl, ⟨_, _, lo1, hi1, lo2, hi2, rfl, ?_, ?_, ⟨by omega, by simp; omega⟩, ⟨by omega, by simp; omega⟩, hap⟩, ?_⟩
  · exact ((((hO3.past (Within.off _) (by omega)).past (Within.off _) (by omega)).past (Within.off _) (by omega)).past (Within.off _) (by omega))
  · exact ((((hOP3.past (Within.off _) (by omega)).past (Within.off _) (by omega)).past (Within.off _) (by omega)).past (Within.off _) (by omega))
  · repeat (first | (with_reducible exact hB3) | ((with_reducible refine Below.setCell ?_ ?_ _); rotate_left; focus (simp; try omega)))
end Go.Proofs.YtjanifoipbmkhaaGreat

/- Bounds of what RemoveShorted answers; both contracts. -/
namespace Go.Proofs.YtjanifoipbmkhaaGreat
open Go.RowKit
set_option linter.unusedVariables false
theorem namesAll_nn (ps : List Pt) : 0 ≤ namesAll ps := namesAll_nonneg ps
theorem rmS_bounds {x : Nl} (h : ∀ d ∈ x.ds, d.pins.length ≤ 1048576) (hb : nlSize x.ds x.ps ≤ 1048576) : (∀ d ∈ (rmS x).ds, d.pins.length ≤ 1048576) ∧ nsum (rmS x) ≤ 4000000 := by
  have hx := nsum_le hb
  cases hv : nlB x with
  | false => rw [rmS_no hv]; exact ⟨fun d hd => by simp at hd, by simp [nsum, dsum]⟩
  | true =>
    rw [rmS_yes hv]
    refine ⟨fun d hd => h d (List.mem_filter.1 hd).1, ?_⟩
    have := dsum_filter okD x.ds
    unfold nsum at hx ⊢
    dsimp only
    omega
theorem implRm_any (x : Nl) (v : Value) (w : World) (h : NlV w v x) (hok : ∀ p ∈ x.ps, p.ok) (hnn : Fits x.nets) :
    Calls Tryz.prog 24 #[v] w fun e w' => ∃ v', e = .returned v' ∧ OwnNl w' w.heap.size w'.heap.size v' (rmS x) ∧ Below w.heap.size w w' := by
  cases hv : nlB x with
  | false => exact implRm_no x v w h hok hnn hv
  | true => exact implRm_yes x v w h hok hnn hv
theorem specRmS_any (x : Nl) (v : Value) (w : World) (h : NlV w v x) (hok : ∀ p ∈ x.ps, p.ok) (hnn : Fits x.nets) :
    Calls Tryz.prog 14 #[v] w fun e w' => ∃ v', e = .returned v' ∧ OwnNl w' w.heap.size w'.heap.size v' (rmS x) ∧ Below w.heap.size w w' := by
  cases hv : nlB x with
  | false => exact specRm_no x v w h hok hnn hv
  | true => exact specRm_yes x v w h hok hnn hv
end Go.Proofs.YtjanifoipbmkhaaGreat
