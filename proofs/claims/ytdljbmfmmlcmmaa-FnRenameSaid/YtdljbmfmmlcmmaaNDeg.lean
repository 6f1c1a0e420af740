/- Both NetDegree. -/
import Derived.Test.YtdljbmfmmlcmmaaSerB
import Derived.Test.YtdljbmfmmlcmmaaSpecNl
import Derived.Test.YtdljbmfmmlcmmaaNls
namespace Go.Proofs.Ytdljbmfmmlcmmaa
open Go.RowKit
set_option linter.unusedVariables false
set_option linter.unusedSimpArgs false

/-- What NetDegree answers. -/
def ndeg (x : Nl) (net : Int) : Int := if nlB x = true ∧ inB net 0 (x.nets - 1) = true then (degN x.ds net : Nat) else -1
theorem ndeg_no (x : Nl) (net : Int) (h : nlB x = false) : ndeg x net = -1 := by simp [ndeg, h]
theorem ndeg_out (x : Nl) (net : Int) (h : inB net 0 (x.nets - 1) = false) : ndeg x net = -1 := by simp [ndeg, h]
theorem ndeg_in (x : Nl) (net : Int) (h : nlB x = true) (h' : inB net 0 (x.nets - 1) = true) : ndeg x net = (degN x.ds net : Nat) := by simp [ndeg, h, h']

set_option maxRecDepth 100000 in
set_option maxHeartbeats 2000000 in
theorem implNetDegree_any (x : Nl) (net : Int) (v : Value) (w : World) (h : NlV w v x) (hok : ∀ p ∈ x.ps, p.ok) (hnn : Fits x.nets) :
    Calls Try.prog 10 #[v, .int .i64 net] w fun e w' => e = .returned (.int .i64 (ndeg x net)) ∧ Below w.heap.size w w' := by
  have HV := Lib.hid (fun v w h => implNl_any x v w h hok hnn)
  have HN := Lib.hid h
  obtain ⟨a, c, a', c', rfl⟩ := h.sized
  cases hv : nlB x with
  | false =>
    rw [hv] at HV
    have hr := Lib.hid (ndeg_no x net hv)
    generalize ndeg x net = r at *
    clear hv h hok
    go_enter Try.func10, Try.ntmps10
    go_wp2_with (go_at_call 19; refine (HV.out _ _ (HN.out.by (by ((repeat (first | (with_reducible exact Below.refl _ _) | (with_reducible refine below_drewN ?_ _) | (with_reducible refine Below.drew ?_) | (with_reducible refine below_al ?_ _) | (with_reducible refine below_on (by assumption) ?_) | ((with_reducible refine Below.setCell ?_ ?_ _); rotate_left; focus (first | omega | (simp; done) | (simp; omega))) | (with_reducible assumption))); done)))).mono ?_; rintro e w1 ⟨rfl, hb1⟩)
    go_ret
    exact ⟨ret_i64 hr.out.symm, (by ((repeat (first | (with_reducible exact Below.refl _ _) | (with_reducible refine below_drewN ?_ _) | (with_reducible refine Below.drew ?_) | (with_reducible refine below_al ?_ _) | (with_reducible refine below_on (by assumption) ?_) | ((with_reducible refine Below.setCell ?_ ?_ _); rotate_left; focus (first | omega | (simp; done) | (simp; omega))) | (with_reducible assumption))); done))⟩
  | true =>
    rw [hv] at HV
    obtain ⟨⟨n0, n24⟩, hl, hp, hdv, _⟩ := nlB_facts hv
    obtain ⟨n, hn⟩ : ∃ n : Nat, x.nets = (n : Int) := ⟨x.nets.toNat, by omega⟩
    have HG := Lib.hid (fun v w h => degrees_any x n v w h hn (by omega) hl (fun d hd => (dvB_pins (hdv d hd)).1) (fun d hd => (dvB_pins (hdv d hd)).2.2))
    clear hdv h hok
    rcases Bool.eq_false_or_eq_true (inB net 0 (x.nets - 1)) with hi | hi
    · have hr := Lib.hid (ndeg_in x net hv hi)
      have hi' := inB_iff.1 hi
      obtain ⟨q, rfl⟩ : ∃ q : Nat, net = (q : Int) := ⟨net.toNat, by omega⟩
      have hq : q < n := by omega
      have HQ := Lib.hid (degs_get n x.ds q hq)
      have HLN := Lib.hid (length_degs n x.ds)
      generalize ndeg x (q : Int) = r at *
      have HNN := Lib.hid hn
      have q2 : (q : Int) < (n : Int) := by omega
      clear hv hn
      go_enter Try.func10, Try.ntmps10
      go_wp2_with (first | (go_at_call 19; refine (HV.out _ _ (HN.out.by (by ((repeat (first | (with_reducible exact Below.refl _ _) | (with_reducible refine below_drewN ?_ _) | (with_reducible refine Below.drew ?_) | (with_reducible refine below_al ?_ _) | (with_reducible refine below_on (by assumption) ?_) | ((with_reducible refine Below.setCell ?_ ?_ _); rotate_left; focus (first | omega | (simp; done) | (simp; omega))) | (with_reducible assumption))); done)))).mono ?_; rintro e w1 ⟨rfl, hb1⟩; have k0 : Blk w1 w.heap.size #[.int .i64 x.nets, .slice a x.ds.length c, .slice a' x.ps.length c'] 27 := (by ((repeat (first | (with_reducible assumption) | (with_reducible refine Blk.drewN ?_ _) | (with_reducible refine Blk.drew ?_) | ((with_reducible refine Blk.new _ ?_); focus (first | omega | (simp; done) | (simp; omega))) | (with_reducible refine Blk.past ?_ _) | ((with_reducible refine Blk.apart ?_ _ _ _ ?_); rotate_left; focus (first | omega | (simp; done) | (simp; omega))) | (with_reducible refine Blk.by (by assumption) ?_))); done)); have c0 := k0.cell; have hbw : Below w.heap.size w w1 := (by ((repeat (first | (with_reducible exact Below.refl _ _) | (with_reducible refine below_drewN ?_ _) | (with_reducible refine Below.drew ?_) | (with_reducible refine below_al ?_ _) | (with_reducible refine below_on (by assumption) ?_) | ((with_reducible refine Below.setCell ?_ ?_ _); rotate_left; focus (first | omega | (simp; done) | (simp; omega))) | (with_reducible assumption))); done))) | (go_at_call 27; refine (within_any _ _ _ _).mono ?_; rintro e w' ⟨rfl, rfl⟩) | (go_at_call 28; refine (HG.out _ _ (HN.out.by hbw)).mono ?_; rintro e w2 ⟨g, rfl, hG, hge, hb2⟩; obtain ⟨cs, hgb, hgs, hgc⟩ := hG; have hcq := hgc q _ HQ.out; have HGC := Lib.hid hgc; have HGS := Lib.hid hgs; have HCQ := Lib.hid hcq; have cq := (hgb.cell q).trans hcq; clear hgc hgs hcq))
      go_ret
      exact ⟨ret_i64 hr.out.symm, below_on hb2 hbw⟩
    · have hr := Lib.hid (ndeg_out x net hi)
      generalize ndeg x net = r at *
      have HNN := Lib.hid hn
      clear hv hn
      go_enter Try.func10, Try.ntmps10
      go_wp2_with (first | (go_at_call 19; refine (HV.out _ _ (HN.out.by (by ((repeat (first | (with_reducible exact Below.refl _ _) | (with_reducible refine below_drewN ?_ _) | (with_reducible refine Below.drew ?_) | (with_reducible refine below_al ?_ _) | (with_reducible refine below_on (by assumption) ?_) | ((with_reducible refine Below.setCell ?_ ?_ _); rotate_left; focus (first | omega | (simp; done) | (simp; omega))) | (with_reducible assumption))); done)))).mono ?_; rintro e w1 ⟨rfl, hb1⟩; have k0 : Blk w1 w.heap.size #[.int .i64 x.nets, .slice a x.ds.length c, .slice a' x.ps.length c'] 27 := (by ((repeat (first | (with_reducible assumption) | (with_reducible refine Blk.drewN ?_ _) | (with_reducible refine Blk.drew ?_) | ((with_reducible refine Blk.new _ ?_); focus (first | omega | (simp; done) | (simp; omega))) | (with_reducible refine Blk.past ?_ _) | ((with_reducible refine Blk.apart ?_ _ _ _ ?_); rotate_left; focus (first | omega | (simp; done) | (simp; omega))) | (with_reducible refine Blk.by (by assumption) ?_))); done)); have c0 := k0.cell; have hbw : Below w.heap.size w w1 := (by ((repeat (first | (with_reducible exact Below.refl _ _) | (with_reducible refine below_drewN ?_ _) | (with_reducible refine Below.drew ?_) | (with_reducible refine below_al ?_ _) | (with_reducible refine below_on (by assumption) ?_) | ((with_reducible refine Below.setCell ?_ ?_ _); rotate_left; focus (first | omega | (simp; done) | (simp; omega))) | (with_reducible assumption))); done))) | (go_at_call 27; refine (within_any _ _ _ _).mono ?_; rintro e w' ⟨rfl, rfl⟩))
      go_ret
      exact ⟨ret_i64 hr.out.symm, hbw⟩
end Go.Proofs.Ytdljbmfmmlcmmaa
