/- Contracts of the functions of package laws over netlists. -/
import Derived.Test.YthcaipohdeigeaaEqPortS
namespace Go.Proofs.Ythcaipohdeigeaa
open Go.RowKit
set_option linter.unusedVariables false
set_option linter.unusedSimpArgs false

def nlSize (ds : List Dv) (ps : List Pt) : Int := ds.length + pinsAll ds + ps.length + namesAll ps

set_option maxRecDepth 100000 in
set_option maxHeartbeats 1000000 in
theorem szNetlist_any (nets : Int) (s1 s2 : Value) (ds : List Dv) (ps : List Pt) (l : Int) (w : World) (h : DvSl w s1 ds) (h' : PtSl w s2 ps) (hok : ∀ x ∈ ps, x.ok) (hl : 0 ≤ l) (hl' : l ≤ 1048576) :
    Calls Try.prog 24 #[.agg #[.int .i64 nets, s1, s2], .int .i64 l] w fun e w' => e = .returned (.int .i64 (if l < nlSize ds ps then -1 else l - nlSize ds ps)) ∧ Below w.heap.size w w' := by
  obtain ⟨r, hr⟩ : ∃ r : Int, (if l < nlSize ds ps then (-1 : Int) else l - nlSize ds ps) = r := ⟨_, rfl⟩
  rw [hr]
  have hw := (Below.refl _ w).alloc (Nat.le_refl _) (.cells #[.int .i64 nets, s1, s2] 37)
  have h1 := h.by hw
  have h2 := h'.by hw
  have hSD := fun w h => szDeviceS_any s1 ds l w h hl hl'
  obtain ⟨a, c, rfl⟩ := h.sized
  obtain ⟨a', c', rfl⟩ := h'.sized
  have hn1 := pinsAll_nonneg ds
  have hn2 := namesAll_nonneg ps
  by_cases hb : l < ds.length + pinsAll ds
  · simp only [if_pos hb] at hSD
    have HS := Lib.hid hSD
    have HR := Lib.hid (show (-1 : Int) = r by rw [← hr, if_pos (by unfold nlSize; omega)])
    clear hr hSD
    go_enter Try.func24, Try.ntmps24
    go_wp2_with fail
    refine (HS.out _ h1).mono ?_
    rintro e w1 ⟨rfl, hb1⟩
    go_wp2
    go_ret
    exact ⟨ret_i64 HR.out, (by ((repeat (first | (with_reducible exact Below.refl _ _) | (with_reducible refine below_drewN ?_ _) | (with_reducible refine Below.drew ?_) | (with_reducible refine below_al ?_ _) | (with_reducible refine below_on (by assumption) ?_) | ((with_reducible refine Below.setCell ?_ ?_ _); rotate_left; focus (first | omega | (simp; done) | (simp; omega))) | (with_reducible assumption))); done))⟩
  · simp only [if_neg hb] at hSD
    obtain ⟨m, hm⟩ : ∃ m : Int, l - ds.length - pinsAll ds = m := ⟨_, rfl⟩
    have hm0 : 0 ≤ m := by omega
    have hm1 : m ≤ 1048576 := by omega
    rw [hm] at hSD
    have HS := Lib.hid hSD
    have hSP := fun w h => szPortS_any (.slice a' ps.length c') ps m w h hok hm0 hm1
    by_cases hb' : m < ps.length + namesAll ps
    · simp only [if_pos hb'] at hSP
      have HP := Lib.hid hSP
      have HR := Lib.hid (show (-1 : Int) = r by rw [← hr, if_pos (by unfold nlSize; omega)])
      clear hr hSD hSP hm hb'
      go_enter Try.func24, Try.ntmps24
      go_wp2_with fail
      refine (HS.out _ h1).mono ?_
      rintro e w1 ⟨rfl, hb1⟩
      have k0 : Blk w1 w.heap.size #[.int .i64 nets, .slice a ds.length c, .slice a' ps.length c'] 37 := (by ((repeat (first | (with_reducible assumption) | (with_reducible refine Blk.drewN ?_ _) | (with_reducible refine Blk.drew ?_) | ((with_reducible refine Blk.new _ ?_); focus (first | omega | (simp; done) | (simp; omega))) | (with_reducible refine Blk.past ?_ _) | ((with_reducible refine Blk.apart ?_ _ _ _ ?_); rotate_left; focus (first | omega | (simp; done) | (simp; omega))) | (with_reducible refine Blk.by (by assumption) ?_))); done))
      have c0 := k0.cell
      go_wp2_with fail
      refine (HP.out _ (h2.by hb1)).mono ?_
      rintro e w2 ⟨rfl, hb2⟩
      go_wp2
      go_ret
      exact ⟨ret_i64 HR.out, (by ((repeat (first | (with_reducible exact Below.refl _ _) | (with_reducible refine below_drewN ?_ _) | (with_reducible refine Below.drew ?_) | (with_reducible refine below_al ?_ _) | (with_reducible refine below_on (by assumption) ?_) | ((with_reducible refine Below.setCell ?_ ?_ _); rotate_left; focus (first | omega | (simp; done) | (simp; omega))) | (with_reducible assumption))); done))⟩
    · simp only [if_neg hb'] at hSP
      have HR := Lib.hid (show m - ps.length - namesAll ps = r by rw [← hr, if_neg (by unfold nlSize; omega)]; unfold nlSize; omega)
      obtain ⟨q, hq⟩ : ∃ q : Int, m - ps.length - namesAll ps = q := ⟨_, rfl⟩
      have hq0 : 0 ≤ q := by omega
      rw [hq] at hSP HR
      have HP := Lib.hid hSP
      clear hr hSD hSP hm hb' hq
      go_enter Try.func24, Try.ntmps24
      go_wp2_with fail
      refine (HS.out _ h1).mono ?_
      rintro e w1 ⟨rfl, hb1⟩
      have k0 : Blk w1 w.heap.size #[.int .i64 nets, .slice a ds.length c, .slice a' ps.length c'] 37 := (by ((repeat (first | (with_reducible assumption) | (with_reducible refine Blk.drewN ?_ _) | (with_reducible refine Blk.drew ?_) | ((with_reducible refine Blk.new _ ?_); focus (first | omega | (simp; done) | (simp; omega))) | (with_reducible refine Blk.past ?_ _) | ((with_reducible refine Blk.apart ?_ _ _ _ ?_); rotate_left; focus (first | omega | (simp; done) | (simp; omega))) | (with_reducible refine Blk.by (by assumption) ?_))); done))
      have c0 := k0.cell
      go_wp2_with fail
      refine (HP.out _ (h2.by hb1)).mono ?_
      rintro e w2 ⟨rfl, hb2⟩
      go_wp2
      go_ret
      exact ⟨ret_i64 HR.out, (by ((repeat (first | (with_reducible exact Below.refl _ _) | (with_reducible refine below_drewN ?_ _) | (with_reducible refine Below.drew ?_) | (with_reducible refine below_al ?_ _) | (with_reducible refine below_on (by assumption) ?_) | ((with_reducible refine Below.setCell ?_ ?_ _); rotate_left; focus (first | omega | (simp; done) | (simp; omega))) | (with_reducible assumption))); done))⟩
end Go.Proofs.Ythcaipohdeigeaa
