/- Contracts of the functions of package laws over netlists. -/
import Derived.Test.YtjanifoipbmkhaaGreatPorts
import Derived.Test.YtjanifoipbmkhaaGreatDevs
import Derived.Deep.Slices
namespace Go.Proofs.YtjanifoipbmkhaaGreat
open Go.RowKit
set_option linter.unusedVariables false
set_option linter.unusedSimpArgs false

def nlSize (ds : List Dv) (ps : List Pt) : Int := ds.length + pinsAll ds + ps.length + namesAll ps

set_option maxRecDepth 100000 in
set_option maxHeartbeats 1000000 in
theorem szNetlist_any (nets : Int) (s1 s2 : Value) (ds : List Dv) (ps : List Pt) (l : Int) (w : World) (h : DvSl w s1 ds) (h' : PtSl w s2 ps) (hok : ∀ x ∈ ps, x.ok) (hl : 0 ≤ l) (hl' : l ≤ 1048576) :
    Calls Tryz.prog 4 #[.agg #[.int .i64 nets, s1, s2], .int .i64 l] w fun e w' => e = .returned (.int .i64 (if l < nlSize ds ps then -1 else l - nlSize ds ps)) ∧ Below w.heap.size w w' := by
  obtain ⟨r, hr⟩ : ∃ r : Int, (if l < nlSize ds ps then (-1 : Int) else l - nlSize ds ps) = r := ⟨_, rfl⟩
  rw [hr]
  have hw := (Below.refl _ w).alloc (Nat.le_refl _) (.cells #[.int .i64 nets, s1, s2] 25)
  have h1 := h.by hw
  have h2 := h'.by hw
  have hSD := fun w h => szDeviceS_any s1 ds l w h hl hl'
  obtain ⟨a, c, rfl⟩ := h.sized
  obtain ⟨a', c', rfl⟩ := h'.sized
  have hn1 := pinsAll_nonneg ds
  have hn2 := namesAll_nonneg ps
  by_cases hb : l < ds.length + pinsAll ds
  · simp only [if_pos hb] at hSD
    have HS := Lib.hid hSD
    have HR := Lib.hid (show (-1 : Int) = r by rw [← hr, if_pos (by unfold nlSize; omega)])
    clear hr hSD
    go_enter Tryz.func4, Tryz.ntmps4
    go_wp2_with fail
    refine (HS.out _ h1).mono ?_
    rintro e w1 ⟨rfl, hb1⟩
    go_wp2
    go_ret
    exact ⟨ret_i64 HR.out, (by ((repeat (first | (with_reducible exact Below.refl _ _) | (with_reducible refine below_drewN ?_ _) | (with_reducible refine Below.drew ?_) | (with_reducible refine below_al ?_ _) | (with_reducible refine below_on (by assumption) ?_) | ((with_reducible refine Below.setCell ?_ ?_ _); rotate_left; focus (first | omega | (simp; done) | (simp; omega))) | (with_reducible assumption))); done))⟩
  · simp only [if_neg hb] at hSD
    obtain ⟨m, hm⟩ : ∃ m : Int, l - ds.length - pinsAll ds = m := ⟨_, rfl⟩
    have hm0 : 0 ≤ m := by omega
    have hm1 : m ≤ 1048576 := by omega
    rw [hm] at hSD
    have HS := Lib.hid hSD
    have hSP := fun w h => szPortS_any (.slice a' ps.length c') ps m w h hok hm0 hm1
    by_cases hb' : m < ps.length + namesAll ps
    · simp only [if_pos hb'] at hSP
      have HP := Lib.hid hSP
      have HR := Lib.hid (show (-1 : Int) = r by rw [← hr, if_pos (by unfold nlSize; omega)])
      clear hr hSD hSP hm hb'
      go_enter Tryz.func4, Tryz.ntmps4
      go_wp2_with fail
      refine (HS.out _ h1).mono ?_
      rintro e w1 ⟨rfl, hb1⟩
      have k0 : Blk w1 w.heap.size #[.int .i64 nets, .slice a ds.length c, .slice a' ps.length c'] 25 := (by ((repeat (first | (with_reducible assumption) | (with_reducible refine Blk.drewN ?_ _) | (with_reducible refine Blk.drew ?_) | ((with_reducible refine Blk.new _ ?_); focus (first | omega | (simp; done) | (simp; omega))) | (with_reducible refine Blk.past ?_ _) | ((with_reducible refine Blk.apart ?_ _ _ _ ?_); rotate_left; focus (first | omega | (simp; done) | (simp; omega))) | (with_reducible refine Blk.by (by assumption) ?_))); done))
      have c0 := k0.cell
      go_wp2_with fail
      refine (HP.out _ (h2.by hb1)).mono ?_
      rintro e w2 ⟨rfl, hb2⟩
      go_wp2
      go_ret
      exact ⟨ret_i64 HR.out, (by ((repeat (first | (with_reducible exact Below.refl _ _) | (with_reducible refine below_drewN ?_ _) | (with_reducible refine Below.drew ?_) | (with_reducible refine below_al ?_ _) | (with_reducible refine below_on (by assumption) ?_) | ((with_reducible refine Below.setCell ?_ ?_ _); rotate_left; focus (first | omega | (simp; done) | (simp; omega))) | (with_reducible assumption))); done))⟩
    · simp only [if_neg hb'] at hSP
      have HR := Lib.hid (show m - ps.length - namesAll ps = r by rw [← hr, if_neg (by unfold nlSize; omega)]; unfold nlSize; omega)
      obtain ⟨q, hq⟩ : ∃ q : Int, m - ps.length - namesAll ps = q := ⟨_, rfl⟩
      have hq0 : 0 ≤ q := by omega
      rw [hq] at hSP HR
      have HP := Lib.hid hSP
      clear hr hSD hSP hm hb' hq
      go_enter Tryz.func4, Tryz.ntmps4
      go_wp2_with fail
      refine (HS.out _ h1).mono ?_
      rintro e w1 ⟨rfl, hb1⟩
      have k0 : Blk w1 w.heap.size #[.int .i64 nets, .slice a ds.length c, .slice a' ps.length c'] 25 := (by ((repeat (first | (with_reducible assumption) | (with_reducible refine Blk.drewN ?_ _) | (with_reducible refine Blk.drew ?_) | ((with_reducible refine Blk.new _ ?_); focus (first | omega | (simp; done) | (simp; omega))) | (with_reducible refine Blk.past ?_ _) | ((with_reducible refine Blk.apart ?_ _ _ _ ?_); rotate_left; focus (first | omega | (simp; done) | (simp; omega))) | (with_reducible refine Blk.by (by assumption) ?_))); done))
      have c0 := k0.cell
      go_wp2_with fail
      refine (HP.out _ (h2.by hb1)).mono ?_
      rintro e w2 ⟨rfl, hb2⟩
      go_wp2
      go_ret
      exact ⟨ret_i64 HR.out, (by ((repeat (first | (with_reducible exact Below.refl _ _) | (with_reducible refine below_drewN ?_ _) | (with_reducible refine Below.drew ?_) | (with_reducible refine below_al ?_ _) | (with_reducible refine below_on (by assumption) ?_) | ((with_reducible refine Below.setCell ?_ ?_ _); rotate_left; focus (first | omega | (simp; done) | (simp; omega))) | (with_reducible assumption))); done))⟩
end Go.Proofs.YtjanifoipbmkhaaGreat

/- toNetlist and eqNetlist. -/
namespace Go.Proofs.YtjanifoipbmkhaaGreat
open Go.RowKit
set_option linter.unusedVariables false
set_option linter.unusedSimpArgs false

theorem DvBlk.past {w : World} {g : Nat} {xs : List Dv} (h : DvBlk w g xs) (o : Obj) : DvBlk (w.alloc o) g xs := h.by ((Below.refl _ w).alloc (Nat.le_refl _) o)
theorem DvBlk.off {w : World} {g : Nat} {xs : List Dv} (h : DvBlk w g xs) (b o : Nat) (v : Value) (hb : b < g) : DvBlk (w.setCell ⟨b, o, none⟩ v) g xs := h.apart b o v hb

set_option maxRecDepth 100000 in
set_option maxHeartbeats 2000000 in
theorem toNetlist_any (nets : Int) (s1 s2 : Value) (ds : List Dv) (ps : List Pt) (w : World) (h : DvSl w s1 ds) (h' : PtSl w s2 ps) (hn : ds.length ≤ 1048576) (hpn : ∀ x ∈ ds, x.pins.length ≤ 1048576) (hn' : ps.length ≤ 1048576) :
    Calls Tryz.prog 6 #[.agg #[.int .i64 nets, s1, s2]] w fun e w' => ∃ g f, e = .returned (.agg #[.int .i64 nets, .slice (some ⟨g, 0, none⟩) ds.length ds.length, .slice (some ⟨f, 0, none⟩) ps.length ps.length]) ∧ DvBlk w' g ds ∧ PtBlk w' f ps ∧ w.heap.size ≤ g ∧ g < f ∧ Below w.heap.size w w' := by
  have HD := Lib.hid (fun w h => toDeviceS_any s1 ds w h hn hpn)
  have HP := Lib.hid (fun w h => toPortS_any s2 ps w h hn')
  obtain ⟨a, c, rfl⟩ := h.sized
  obtain ⟨a', c', rfl⟩ := h'.sized
  go_enter Tryz.func6, Tryz.ntmps6
  go_wp2_with fail
  refine (HD.out _ (h.by (by ((repeat (first | (with_reducible exact Below.refl _ _) | (with_reducible refine below_drewN ?_ _) | (with_reducible refine Below.drew ?_) | (with_reducible refine below_al ?_ _) | (with_reducible refine below_on (by assumption) ?_) | ((with_reducible refine Below.setCell ?_ ?_ _); rotate_left; focus (first | omega | (simp; done) | (simp; omega))) | (with_reducible assumption))); done)))).mono ?_
  rintro e w1 ⟨g, rfl, hG, hge, hb1⟩
  have k0 : Blk w1 w.heap.size #[.int .i64 nets, .slice a ds.length c, .slice a' ps.length c'] 25 := (by ((repeat (first | (with_reducible assumption) | (with_reducible refine Blk.drewN ?_ _) | (with_reducible refine Blk.drew ?_) | ((with_reducible refine Blk.new _ ?_); focus (first | omega | (simp; done) | (simp; omega))) | (with_reducible refine Blk.past ?_ _) | ((with_reducible refine Blk.apart ?_ _ _ _ ?_); rotate_left; focus (first | omega | (simp; done) | (simp; omega))) | (with_reducible refine Blk.by (by assumption) ?_))); done))
  have k1 : Blk w1 (w.heap.size + 1) #[.int .i64 0, .slice none 0 0, .slice none 0 0] 30 := (by ((repeat (first | (with_reducible assumption) | (with_reducible refine Blk.drewN ?_ _) | (with_reducible refine Blk.drew ?_) | ((with_reducible refine Blk.new _ ?_); focus (first | omega | (simp; done) | (simp; omega))) | (with_reducible refine Blk.past ?_ _) | ((with_reducible refine Blk.apart ?_ _ _ _ ?_); rotate_left; focus (first | omega | (simp; done) | (simp; omega))) | (with_reducible refine Blk.by (by assumption) ?_))); done))
  have k2 : Blk w1 (w.heap.size + 1 + 1) #[.int .i64 nets, .slice none 0 0, .slice none 0 0] 30 := (by ((repeat (first | (with_reducible assumption) | (with_reducible refine Blk.drewN ?_ _) | (with_reducible refine Blk.drew ?_) | ((with_reducible refine Blk.new _ ?_); focus (first | omega | (simp; done) | (simp; omega))) | (with_reducible refine Blk.past ?_ _) | ((with_reducible refine Blk.apart ?_ _ _ _ ?_); rotate_left; focus (first | omega | (simp; done) | (simp; omega))) | (with_reducible refine Blk.by (by assumption) ?_))); done))
  have l2 := k2.lt
  have c0 := k0.cell
  have c2 := k2.cell
  have f2 := k2.free
  simp at hge
  go_wp2_with fail
  have hbw : Below w.heap.size w (w1.setCell ⟨w.heap.size + 1 + 1, 1, none⟩ (.slice (some ⟨g, 0, none⟩) ds.length ds.length)) := (by ((repeat (first | (with_reducible exact Below.refl _ _) | (with_reducible refine below_drewN ?_ _) | (with_reducible refine Below.drew ?_) | (with_reducible refine below_al ?_ _) | (with_reducible refine below_on (by assumption) ?_) | ((with_reducible refine Below.setCell ?_ ?_ _); rotate_left; focus (first | omega | (simp; done) | (simp; omega))) | (with_reducible assumption))); done))
  refine (HP.out _ (h'.by hbw)).mono ?_
  rintro e w2 ⟨f, rfl, hF, hfe, hb2⟩
  replace k1 : Blk w2 (w.heap.size + 1) #[.int .i64 0, .slice none 0 0, .slice none 0 0] 30 := (by ((repeat (first | (with_reducible assumption) | (with_reducible refine Blk.drewN ?_ _) | (with_reducible refine Blk.drew ?_) | ((with_reducible refine Blk.new _ ?_); focus (first | omega | (simp; done) | (simp; omega))) | (with_reducible refine Blk.past ?_ _) | ((with_reducible refine Blk.apart ?_ _ _ _ ?_); rotate_left; focus (first | omega | (simp; done) | (simp; omega))) | (with_reducible refine Blk.by (by assumption) ?_))); done))
  replace k2 : Blk w2 (w.heap.size + 1 + 1) #[.int .i64 nets, .slice (some ⟨g, 0, none⟩) ds.length ds.length, .slice none 0 0] 30 := Blk.by hb2 (k2.set 1 _)
  have hgl := hG.lt
  replace hG := (hG.apart (w.heap.size + 1 + 1) 1 (.slice (some ⟨g, 0, none⟩) ds.length ds.length) (by omega)).by hb2
  replace hbw := below_on hb2 hbw
  have hgf : g < f := by simp at hfe; omega
  clear c0 k0 c2 f2 hb1 hb2
  have c1 := k1.cell
  have f1 := k1.free
  have c2 := k2.cell
  have f2 := k2.free
  have l1 := k1.lt
  have l2 := k2.lt
  go_wp2
  refine bodyPost_ret (v := .agg #[.int .i64 nets, .slice (some ⟨g, 0, none⟩) ds.length ds.length, .slice (some ⟨f, 0, none⟩) ps.length ps.length]) (by simp [results, Tryz.results6, go_sem, *]) rfl ⟨g, f, rfl, ?_, ?_, by omega, hgf, ?_⟩
  · repeat (first | (with_reducible exact hG) | ((with_reducible refine DvBlk.apart ?_ _ _ _ ?_); rotate_left; focus omega))
  · repeat (first | (with_reducible exact hF) | ((with_reducible refine PtBlk.apart ?_ _ _ _ ?_); rotate_left; focus omega))
  · repeat (first | (with_reducible exact hbw) | ((with_reducible refine Below.setCell ?_ ?_ _); rotate_left; focus (simp; try omega)))
end Go.Proofs.YtjanifoipbmkhaaGreat

/- eqNetlist over two netlists that read alike. -/
namespace Go.Proofs.YtjanifoipbmkhaaGreat
open Go.RowKit
set_option linter.unusedVariables false
set_option linter.unusedSimpArgs false

/-- A netlist by value. -/
structure Nl where
  nets : Int
  ds : List Dv
  ps : List Pt
/-- A value that reads as this netlist. -/
def NlV (w : World) (v : Value) (x : Nl) : Prop := ∃ s1 s2, v = .agg #[.int .i64 x.nets, s1, s2] ∧ DvSl w s1 x.ds ∧ PtSl w s2 x.ps
theorem NlV.by {w w1 : World} {v : Value} {x : Nl} (hb : Below w.heap.size w w1) (h : NlV w v x) : NlV w1 v x := by
  obtain ⟨s1, s2, h1, h2, h3⟩ := h; exact ⟨s1, s2, h1, h2.by hb, h3.by hb⟩

set_option maxRecDepth 100000 in
set_option maxHeartbeats 2000000 in
theorem eqNetlist_refl (v1 v2 : Value) (x : Nl) (w : World) (h1 : NlV w v1 x) (h2 : NlV w v2 x) :
    Calls Tryz.prog 8 #[v1, v2] w fun e w' => e = .returned (.bool true) ∧ Below w.heap.size w w' := by
  obtain ⟨s1, s2, rfl, hd, hp⟩ := h1
  obtain ⟨t1, t2, rfl, hd', hp'⟩ := h2
  obtain ⟨nets, ds, ps⟩ := x
  dsimp only at hd hp hd' hp' ⊢
  have HD := Lib.hid (fun s1 s2 w h h' => eqDeviceS_refl s1 s2 ds w h h')
  have HP := Lib.hid (fun s1 s2 w h h' => eqPortS_refl s1 s2 ps w h h')
  obtain ⟨a, c, rfl⟩ := hd.sized
  obtain ⟨a', c', rfl⟩ := hp.sized
  obtain ⟨b, d, rfl⟩ := hd'.sized
  obtain ⟨b', d', rfl⟩ := hp'.sized
  go_enter Tryz.func8, Tryz.ntmps8
  go_wp2_with fail
  refine (HD.out _ _ _ (hd.by (by ((repeat (first | (with_reducible exact Below.refl _ _) | (with_reducible refine below_drewN ?_ _) | (with_reducible refine Below.drew ?_) | (with_reducible refine below_al ?_ _) | (with_reducible refine below_on (by assumption) ?_) | ((with_reducible refine Below.setCell ?_ ?_ _); rotate_left; focus (first | omega | (simp; done) | (simp; omega))) | (with_reducible assumption))); done))) (hd'.by (by ((repeat (first | (with_reducible exact Below.refl _ _) | (with_reducible refine below_drewN ?_ _) | (with_reducible refine Below.drew ?_) | (with_reducible refine below_al ?_ _) | (with_reducible refine below_on (by assumption) ?_) | ((with_reducible refine Below.setCell ?_ ?_ _); rotate_left; focus (first | omega | (simp; done) | (simp; omega))) | (with_reducible assumption))); done)))).mono ?_
  rintro e w1 ⟨rfl, hb1⟩
  have k0 : Blk w1 w.heap.size #[.int .i64 nets, .slice a ds.length c, .slice a' ps.length c'] 30 := (by ((repeat (first | (with_reducible assumption) | (with_reducible refine Blk.drewN ?_ _) | (with_reducible refine Blk.drew ?_) | ((with_reducible refine Blk.new _ ?_); focus (first | omega | (simp; done) | (simp; omega))) | (with_reducible refine Blk.past ?_ _) | ((with_reducible refine Blk.apart ?_ _ _ _ ?_); rotate_left; focus (first | omega | (simp; done) | (simp; omega))) | (with_reducible refine Blk.by (by assumption) ?_))); done))
  have k1 : Blk w1 (w.heap.size + 1) #[.int .i64 nets, .slice b ds.length d, .slice b' ps.length d'] 30 := (by ((repeat (first | (with_reducible assumption) | (with_reducible refine Blk.drewN ?_ _) | (with_reducible refine Blk.drew ?_) | ((with_reducible refine Blk.new _ ?_); focus (first | omega | (simp; done) | (simp; omega))) | (with_reducible refine Blk.past ?_ _) | ((with_reducible refine Blk.apart ?_ _ _ _ ?_); rotate_left; focus (first | omega | (simp; done) | (simp; omega))) | (with_reducible refine Blk.by (by assumption) ?_))); done))
  have hbw : Below w.heap.size w w1 := (by ((repeat (first | (with_reducible exact Below.refl _ _) | (with_reducible refine below_drewN ?_ _) | (with_reducible refine Below.drew ?_) | (with_reducible refine below_al ?_ _) | (with_reducible refine below_on (by assumption) ?_) | ((with_reducible refine Below.setCell ?_ ?_ _); rotate_left; focus (first | omega | (simp; done) | (simp; omega))) | (with_reducible assumption))); done))
  clear hb1
  have c0 := k0.cell
  have c1 := k1.cell
  go_wp2_with fail
  refine (HP.out _ _ _ (hp.by hbw) (hp'.by hbw)).mono ?_
  rintro e w2 ⟨rfl, hb2⟩
  go_wp2
  go_ret
  exact ⟨rfl, below_on hb2 hbw⟩

/-- toNetlist, to a value that reads as the netlist. -/
theorem toNetlist_nl (v : Value) (x : Nl) (w : World) (h : NlV w v x) (hn : x.ds.length ≤ 1048576) (hpn : ∀ d ∈ x.ds, d.pins.length ≤ 1048576) (hn' : x.ps.length ≤ 1048576) :
    Calls Tryz.prog 6 #[v] w fun e w' => ∃ v', e = .returned v' ∧ NlV w' v' x ∧ Below w.heap.size w w' := by
  obtain ⟨s1, s2, rfl, hd, hp⟩ := h
  refine (toNetlist_any x.nets s1 s2 x.ds x.ps w hd hp hn hpn hn').mono ?_
  rintro e w' ⟨g, f, rfl, hG, hF, _, _, hb⟩
  exact ⟨_, rfl, ⟨_, _, rfl, hG.sl (by unfold maxLen; omega) (fun d hd => by have := hpn d hd; omega), hF.sl (by unfold maxLen; omega)⟩, hb⟩
end Go.Proofs.YtjanifoipbmkhaaGreat

/- The opener of a netlist that came in. -/
namespace Go.Proofs.YtjanifoipbmkhaaGreat
open Go.ChangeShapes Go.WideShapes Go.ChangeAt Go.RowKit Go.Joins Go.Deep

theorem pick_list {α : Type} (At : Nat → α → Prop) (ok : α → Prop) (len : Nat) (each : ∀ i, i < len → ∃ x, At i x ∧ ok x) : ∃ xs : List α, xs.length = len ∧ (∀ (i : Nat) x, xs[i]? = some x → At i x) ∧ ∀ r ∈ xs, ok r := by
  induction len with
  | zero => exact ⟨[], rfl, by simp, by simp⟩
  | succ n ih =>
    obtain ⟨xs, h1, h2, h3⟩ := ih (fun i hi => each i (by omega))
    obtain ⟨x, ha, ho⟩ := each n (by omega)
    refine ⟨xs ++ [x], by simp [h1], ?_, ?_⟩
    · intro i y hy
      by_cases hi : i < n
      · rw [List.getElem?_append_left (by omega)] at hy; exact h2 i y hy
      · have : i < (xs ++ [x]).length := (List.getElem?_eq_some_iff.1 hy).1
        simp [h1] at this
        obtain rfl : i = n := by omega
        rw [List.getElem?_append_right (by omega)] at hy
        simp [h1] at hy
        subst hy; exact ha
    · intro r hr
      rcases List.mem_append.1 hr with hr | hr
      · exact h3 r hr
      · simp at hr; subst hr; exact ho

/-- A netlist of package laws that came in, by value. -/
def IsNlV (W : World) (v : Value) (x : Nl) : Prop := NlV W v x ∧ Fits x.nets ∧ (∀ d ∈ x.ds, d.ok) ∧ ∀ p ∈ x.ps, p.ok
theorem cellsNl : Tryz.prog.cellsOf 25 = 3 := by kernel_rfl
theorem cellsPt : Tryz.prog.cellsOf 59 = 2 := by kernel_rfl
theorem cellsIs : Tryz.prog.cellsOf 44 = 1 := by kernel_rfl
theorem cellsI : Tryz.prog.cellsOf 2 = 1 := by kernel_rfl
theorem cellsStr : Tryz.prog.cellsOf 9 = 1 := by kernel_rfl

section
variable {H : Type} {enc : TypeId × Value → H} {W : World} {base : Nat} {spare : Nat → Bool} {held : Bool}
theorem i64_of_cell {fuel : Nat} {c : Value} {y : Option (DataW H × List MemPlace)} (h : DataW.trod enc Tryz.prog W base spare held fuel 2 [c] = y) (hy : y.isSome = true) : ∃ n : Int, c = .int .i64 n ∧ Fits n := by
  obtain ⟨z, rfl⟩ := Option.isSome_iff_exists.1 hy
  obtain ⟨n, e, _, wn⟩ := DataW.trod_int Tryz.underlying2 h
  simp at e
  exact ⟨n, e, wf_i64 wn⟩
theorem str_of_cell {fuel : Nat} {c : Value} {y : Option (DataW H × List MemPlace)} (h : DataW.trod enc Tryz.prog W base spare held fuel 9 [c] = y) (hy : y.isSome = true) : ∃ s : ByteArray, c = .string s ∧ s.size ≤ 9223372036854775807 := by
  obtain ⟨z, rfl⟩ := Option.isSome_iff_exists.1 hy
  obtain ⟨n, e, _, wn⟩ := DataW.trod_string Tryz.underlying9 h
  simp at e
  exact ⟨n, e, by unfold maxLen at wn; omega⟩
theorem isSome_of_len {α : Type} {xs : List α} {n i : Nat} (h : xs.length = n) (hi : i < n) : (xs[i]?).isSome = true := by
  rw [List.getElem?_eq_getElem (by omega)]; rfl

set_option maxRecDepth 100000 in
/-- Four cells that read as a device. -/
theorem dev_of_cells {fuel : Nat} {cs : List Value} {x : DataW H × List MemPlace}
    (h : DataW.trod enc Tryz.prog W base spare held fuel 56 cs = some x) : ∃ (d : Dv) (sv : Value), cs = [.int .i64 d.kind, sv, .int .i64 d.wd, .int .i64 d.len] ∧ IntSl W sv d.pins ∧ d.ok := by
  obtain ⟨xs, n, _, hx, hlen, hl, hg⟩ := DataW.trod_struct Tryz.underlying56 h
  rw [cellsDev] at hlen
  match cs, hlen with
  | [c0, c1, c2, c3], _ =>
    have g0 : DataW.trod enc Tryz.prog W base spare held n 2 (([c0, c1, c2, c3].drop 0).take (Tryz.prog.cellsOf 2)) = xs[0]? := hg 0 _ rfl
    have g1 : DataW.trod enc Tryz.prog W base spare held n 44 (([c0, c1, c2, c3].drop 1).take (Tryz.prog.cellsOf 44)) = xs[1]? := hg 1 _ rfl
    have g2 : DataW.trod enc Tryz.prog W base spare held n 2 (([c0, c1, c2, c3].drop 2).take (Tryz.prog.cellsOf 2)) = xs[2]? := hg 2 _ rfl
    have g3 : DataW.trod enc Tryz.prog W base spare held n 2 (([c0, c1, c2, c3].drop 3).take (Tryz.prog.cellsOf 2)) = xs[3]? := hg 3 _ rfl
    rw [cellsI] at g0 g2 g3
    rw [cellsIs] at g1
    obtain ⟨a, rfl, b0⟩ := i64_of_cell g0 (isSome_of_len hl (by decide))
    obtain ⟨b, rfl, b2⟩ := i64_of_cell g2 (isSome_of_len hl (by decide))
    obtain ⟨c, rfl, b3⟩ := i64_of_cell g3 (isSome_of_len hl (by decide))
    obtain ⟨z, hz⟩ := Option.isSome_iff_exists.1 (isSome_of_len hl (i := 1) (by decide))
    rw [hz] at g1
    obtain ⟨zs, h1, h2⟩ := ints_of_cell g1
    exact ⟨⟨a, zs, b, c⟩, c1, rfl, h1, b0, b2, b3, h2⟩

set_option maxRecDepth 100000 in
/-- Two cells that read as a port. -/
theorem port_of_cells {fuel : Nat} {cs : List Value} {x : DataW H × List MemPlace}
    (h : DataW.trod enc Tryz.prog W base spare held fuel 59 cs = some x) : ∃ p : Pt, cs = [.string p.name, .int .i64 p.net] ∧ p.ok := by
  obtain ⟨xs, n, _, hx, hlen, hl, hg⟩ := DataW.trod_struct Tryz.underlying59 h
  rw [cellsPt] at hlen
  match cs, hlen with
  | [c0, c1], _ =>
    have g0 : DataW.trod enc Tryz.prog W base spare held n 9 (([c0, c1].drop 0).take (Tryz.prog.cellsOf 9)) = xs[0]? := hg 0 _ rfl
    have g1 : DataW.trod enc Tryz.prog W base spare held n 2 (([c0, c1].drop 1).take (Tryz.prog.cellsOf 2)) = xs[1]? := hg 1 _ rfl
    rw [cellsStr] at g0
    rw [cellsI] at g1
    obtain ⟨s, rfl, b0⟩ := str_of_cell g0 (isSome_of_len hl (by decide))
    obtain ⟨a, rfl, b1⟩ := i64_of_cell g1 (isSome_of_len hl (by decide))
    exact ⟨⟨s, a⟩, rfl, b0, b1⟩

set_option maxRecDepth 100000 in
theorem devs_of_cell {fuel : Nat} {c : Value} {y : DataW H × List MemPlace} (h : DataW.trod enc Tryz.prog W base spare held fuel 22 [c] = some y) : ∃ ds : List Dv, DvSl W c ds ∧ ∀ d ∈ ds, d.ok := by
  rcases open_slice Tryz.underlying22 h with h0 | ⟨a0, len, cap, m', n', D, Pl, hcs, hb, hl, hm, hmm, hx, hi⟩
  · simp at h0
    obtain ⟨rfl, _⟩ := h0
    exact ⟨[], .inl ⟨_, _, rfl, rfl⟩, by simp⟩
  · simp at hcs
    subst hcs
    by_cases h0 : len = 0
    · subst h0
      exact ⟨[], .inl ⟨_, _, rfl, rfl⟩, by simp⟩
    · have hlm : len ≤ m' := by rw [hmm]; split <;> omega
      rw [cellsDev] at hi
      obtain ⟨b, o, spot⟩ := a0
      have hspot : spot = none := by
        obtain ⟨cs', hc, ht⟩ := hi 0 (by omega)
        obtain ⟨x, sv, rfl, _⟩ := dev_of_cells ht
        obtain ⟨_, _, hcell⟩ := World.cells?_some hc
        have e0 := World.cell?_spot (hcell 0 (by omega))
        simpa [Addr.add] using e0
      subst hspot
      have each : ∀ i, i < len → ∃ x : Dv, DvAt W b (o + i * 4) x ∧ x.ok := by
        intro i hil
        obtain ⟨cs', hc, ht⟩ := hi i (by omega)
        obtain ⟨x, sv, rfl, hS, hxok⟩ := dev_of_cells ht
        obtain ⟨_, _, hcell⟩ := World.cells?_some hc
        have e0 := hcell 0 (by omega)
        have e1 := hcell 1 (by omega)
        have e2 := hcell 2 (by omega)
        have e3 := hcell 3 (by omega)
        rw [addr_add, addr_add] at e0 e1 e2 e3
        exact ⟨x, ⟨sv, e0, e1, e2, e3, hS⟩, hxok⟩
      obtain ⟨xs, x1, x2, x3⟩ := pick_list (fun i => DvAt W b (o + i * 4)) Dv.ok len each
      exact ⟨xs, .inr ⟨b, o, cap, by rw [x1], by rw [x1]; exact hl, hm, x2⟩, x3⟩

set_option maxRecDepth 100000 in
theorem ports_of_cell {fuel : Nat} {c : Value} {y : DataW H × List MemPlace} (h : DataW.trod enc Tryz.prog W base spare held fuel 23 [c] = some y) : ∃ ps : List Pt, PtSl W c ps ∧ ∀ d ∈ ps, d.ok := by
  rcases open_slice Tryz.underlying23 h with h0 | ⟨a0, len, cap, m', n', D, Pl, hcs, hb, hl, hm, hmm, hx, hi⟩
  · simp at h0
    obtain ⟨rfl, _⟩ := h0
    exact ⟨[], .inl ⟨_, _, rfl, rfl⟩, by simp⟩
  · simp at hcs
    subst hcs
    by_cases h0 : len = 0
    · subst h0
      exact ⟨[], .inl ⟨_, _, rfl, rfl⟩, by simp⟩
    · have hlm : len ≤ m' := by rw [hmm]; split <;> omega
      rw [cellsPt] at hi
      obtain ⟨b, o, spot⟩ := a0
      have hspot : spot = none := by
        obtain ⟨cs', hc, ht⟩ := hi 0 (by omega)
        obtain ⟨x, rfl, _⟩ := port_of_cells ht
        obtain ⟨_, _, hcell⟩ := World.cells?_some hc
        have e0 := World.cell?_spot (hcell 0 (by omega))
        simpa [Addr.add] using e0
      subst hspot
      have each : ∀ i, i < len → ∃ x : Pt, PtAt W b (o + i * 2) x ∧ x.ok := by
        intro i hil
        obtain ⟨cs', hc, ht⟩ := hi i (by omega)
        obtain ⟨x, rfl, hxok⟩ := port_of_cells ht
        obtain ⟨_, _, hcell⟩ := World.cells?_some hc
        have e0 := hcell 0 (by omega)
        have e1 := hcell 1 (by omega)
        rw [addr_add, addr_add] at e0 e1
        exact ⟨x, ⟨e0, e1⟩, hxok⟩
      obtain ⟨xs, x1, x2, x3⟩ := pick_list (fun i => PtAt W b (o + i * 2)) Pt.ok len each
      exact ⟨xs, .inr ⟨b, o, cap, by rw [x1], by rw [x1]; exact hl, hm, x2⟩, x3⟩
end

set_option maxRecDepth 100000 in
theorem opened_nl {H : Type} {enc : TypeId × Value → H} {W : World} {base b0 : Nat} {r : Reach} {spare : Nat → Bool} {held : Bool} {v : Value} {d : DataW H} {p : List MemPlace}
    (hv : Value.okWide Tryz.prog W r b0 25 v) (h : DataW.Trod enc Tryz.prog W base spare held 25 v d p) : ∃ x, IsNlV W v x := by
  obtain ⟨c0, c1, c2, y0, y1, y2, m, rfl, rfl, rfl, hy0, hy1, hy2⟩ := open_agg3 Tryz.underlying25 (by kernel_rfl) cellsNl hv h
  obtain ⟨a, e0, _, wa⟩ := DataW.trod_int Tryz.underlying2 hy0
  simp at e0
  subst e0
  obtain ⟨ds, h1, h2⟩ := devs_of_cell hy1
  obtain ⟨ps, h3, h4⟩ := ports_of_cell hy2
  exact ⟨⟨a, ds, ps⟩, ⟨_, _, rfl, h1, h3⟩, wf_i64 wa, h2, h4⟩
end Go.Proofs.YtjanifoipbmkhaaGreat

/- Small laws on netlists for the walks of the statements. -/
namespace Go.Proofs.YtjanifoipbmkhaaGreat
open Go.RowKit
theorem mem_pinsAll (xs : List Dv) (d : Dv) (h : d ∈ xs) : (d.pins.length : Int) ≤ pinsAll xs := by
  induction xs with
  | nil => simp at h
  | cons y ys ih =>
    have h0 := pinsAll_nonneg ys
    rcases List.mem_cons.1 h with rfl | h
    · simp only [pinsAll]; omega
    · have := ih h; simp only [pinsAll]; omega
theorem nlSize_bounds {x : Nl} (h : ¬ (1048576 : Int) < nlSize x.ds x.ps) : x.ds.length ≤ 1048576 ∧ (∀ d ∈ x.ds, d.pins.length ≤ 1048576) ∧ x.ps.length ≤ 1048576 := by
  unfold nlSize at h
  have h1 := pinsAll_nonneg x.ds
  have h2 := namesAll_nonneg x.ps
  refine ⟨by omega, fun d hd => ?_, by omega⟩
  have := mem_pinsAll x.ds d hd
  omega
theorem nlSize_nonneg (x : Nl) : 0 ≤ nlSize x.ds x.ps := by
  unfold nlSize
  have h1 := pinsAll_nonneg x.ds
  have h2 := namesAll_nonneg x.ps
  omega
theorem NlV.sized {w : World} {v : Value} {x : Nl} (h : NlV w v x) : ∃ a c a' c', v = .agg #[.int .i64 x.nets, .slice a x.ds.length c, .slice a' x.ps.length c'] := by
  obtain ⟨s1, s2, rfl, hd, hp⟩ := h
  obtain ⟨a, c, rfl⟩ := hd.sized
  obtain ⟨a', c', rfl⟩ := hp.sized
  exact ⟨a, c, a', c', rfl⟩
/-- szNetlist of a netlist as it came in. -/
theorem szNl_any (v : Value) (x : Nl) (l : Int) (w : World) (h : NlV w v x) (hok : ∀ p ∈ x.ps, p.ok) (hl : 0 ≤ l) (hl' : l ≤ 1048576) :
    Calls Tryz.prog 4 #[v, .int .i64 l] w fun e w' => e = .returned (.int .i64 (if l < nlSize x.ds x.ps then -1 else l - nlSize x.ds x.ps)) ∧ Below w.heap.size w w' := by
  obtain ⟨s1, s2, rfl, hd, hp⟩ := h
  exact szNetlist_any x.nets s1 s2 x.ds x.ps l w hd hp hok hl hl'
end Go.Proofs.YtjanifoipbmkhaaGreat
