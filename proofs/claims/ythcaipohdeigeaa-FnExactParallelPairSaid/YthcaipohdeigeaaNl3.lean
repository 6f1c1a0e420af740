/- eqNetlist over two netlists that read alike. -/
import Derived.Test.YthcaipohdeigeaaNl2
namespace Go.Proofs.Ythcaipohdeigeaa
open Go.RowKit
set_option linter.unusedVariables false
set_option linter.unusedSimpArgs false

/-- A netlist by value. -/
structure Nl where
  nets : Int
  ds : List Dv
  ps : List Pt
/-- A value that reads as this netlist. -/
def NlV (w : World) (v : Value) (x : Nl) : Prop := ∃ s1 s2, v = .agg #[.int .i64 x.nets, s1, s2] ∧ DvSl w s1 x.ds ∧ PtSl w s2 x.ps
theorem NlV.by {w w1 : World} {v : Value} {x : Nl} (hb : Below w.heap.size w w1) (h : NlV w v x) : NlV w1 v x := by
  obtain ⟨s1, s2, h1, h2, h3⟩ := h; exact ⟨s1, s2, h1, h2.by hb, h3.by hb⟩

set_option maxRecDepth 100000 in
set_option maxHeartbeats 2000000 in
theorem eqNetlist_refl (v1 v2 : Value) (x : Nl) (w : World) (h1 : NlV w v1 x) (h2 : NlV w v2 x) :
    Calls Try.prog 28 #[v1, v2] w fun e w' => e = .returned (.bool true) ∧ Below w.heap.size w w' := by
  obtain ⟨s1, s2, rfl, hd, hp⟩ := h1
  obtain ⟨t1, t2, rfl, hd', hp'⟩ := h2
  obtain ⟨nets, ds, ps⟩ := x
  dsimp only at hd hp hd' hp' ⊢
  have HD := Lib.hid (fun s1 s2 w h h' => eqDeviceS_refl s1 s2 ds w h h')
  have HP := Lib.hid (fun s1 s2 w h h' => eqPortS_refl s1 s2 ps w h h')
  obtain ⟨a, c, rfl⟩ := hd.sized
  obtain ⟨a', c', rfl⟩ := hp.sized
  obtain ⟨b, d, rfl⟩ := hd'.sized
  obtain ⟨b', d', rfl⟩ := hp'.sized
  go_enter Try.func28, Try.ntmps28
  go_wp2_with fail
  refine (HD.out _ _ _ (hd.by (by ((repeat (first | (with_reducible exact Below.refl _ _) | (with_reducible refine below_drewN ?_ _) | (with_reducible refine Below.drew ?_) | (with_reducible refine below_al ?_ _) | (with_reducible refine below_on (by assumption) ?_) | ((with_reducible refine Below.setCell ?_ ?_ _); rotate_left; focus (first | omega | (simp; done) | (simp; omega))) | (with_reducible assumption))); done))) (hd'.by (by ((repeat (first | (with_reducible exact Below.refl _ _) | (with_reducible refine below_drewN ?_ _) | (with_reducible refine Below.drew ?_) | (with_reducible refine below_al ?_ _) | (with_reducible refine below_on (by assumption) ?_) | ((with_reducible refine Below.setCell ?_ ?_ _); rotate_left; focus (first | omega | (simp; done) | (simp; omega))) | (with_reducible assumption))); done)))).mono ?_
  rintro e w1 ⟨rfl, hb1⟩
  have k0 : Blk w1 w.heap.size #[.int .i64 nets, .slice a ds.length c, .slice a' ps.length c'] 43 := (by ((repeat (first | (with_reducible assumption) | (with_reducible refine Blk.drewN ?_ _) | (with_reducible refine Blk.drew ?_) | ((with_reducible refine Blk.new _ ?_); focus (first | omega | (simp; done) | (simp; omega))) | (with_reducible refine Blk.past ?_ _) | ((with_reducible refine Blk.apart ?_ _ _ _ ?_); rotate_left; focus (first | omega | (simp; done) | (simp; omega))) | (with_reducible refine Blk.by (by assumption) ?_))); done))
  have k1 : Blk w1 (w.heap.size + 1) #[.int .i64 nets, .slice b ds.length d, .slice b' ps.length d'] 43 := (by ((repeat (first | (with_reducible assumption) | (with_reducible refine Blk.drewN ?_ _) | (with_reducible refine Blk.drew ?_) | ((with_reducible refine Blk.new _ ?_); focus (first | omega | (simp; done) | (simp; omega))) | (with_reducible refine Blk.past ?_ _) | ((with_reducible refine Blk.apart ?_ _ _ _ ?_); rotate_left; focus (first | omega | (simp; done) | (simp; omega))) | (with_reducible refine Blk.by (by assumption) ?_))); done))
  have hbw : Below w.heap.size w w1 := (by ((repeat (first | (with_reducible exact Below.refl _ _) | (with_reducible refine below_drewN ?_ _) | (with_reducible refine Below.drew ?_) | (with_reducible refine below_al ?_ _) | (with_reducible refine below_on (by assumption) ?_) | ((with_reducible refine Below.setCell ?_ ?_ _); rotate_left; focus (first | omega | (simp; done) | (simp; omega))) | (with_reducible assumption))); done))
  clear hb1
  have c0 := k0.cell
  have c1 := k1.cell
  go_wp2_with fail
  refine (HP.out _ _ _ (hp.by hbw) (hp'.by hbw)).mono ?_
  rintro e w2 ⟨rfl, hb2⟩
  go_wp2
  go_ret
  exact ⟨rfl, below_on hb2 hbw⟩

/-- toNetlist, to a value that reads as the netlist. -/
theorem toNetlist_nl (v : Value) (x : Nl) (w : World) (h : NlV w v x) (hn : x.ds.length ≤ 1048576) (hpn : ∀ d ∈ x.ds, d.pins.length ≤ 1048576) (hn' : x.ps.length ≤ 1048576) :
    Calls Try.prog 26 #[v] w fun e w' => ∃ v', e = .returned v' ∧ NlV w' v' x ∧ Below w.heap.size w w' := by
  obtain ⟨s1, s2, rfl, hd, hp⟩ := h
  refine (toNetlist_any x.nets s1 s2 x.ds x.ps w hd hp hn hpn hn').mono ?_
  rintro e w' ⟨g, f, rfl, hG, hF, _, _, hb⟩
  exact ⟨_, rfl, ⟨_, _, rfl, hG.sl (by unfold maxLen; omega) (fun d hd => by have := hpn d hd; omega), hF.sl (by unfold maxLen; omega)⟩, hb⟩
end Go.Proofs.Ythcaipohdeigeaa
