/- Both ParallelPair. -/
import Derived.Test.YthcaipohdeigeaaFirstPair
namespace Go.Proofs.Ythcaipohdeigeaa
open Go.RowKit
set_option linter.unusedVariables false
set_option linter.unusedSimpArgs false

/-- What ParallelPair answers. -/
noncomputable def parPair (x : Nl) : Int × Int × Bool := if nlB x = true then firstP parB x.ds else (0, 0, false)
theorem parPair_no {x : Nl} (h : nlB x = false) : parPair x = (0, 0, false) := by simp [parPair, h]
theorem parPair_yes {x : Nl} (h : nlB x = true) : parPair x = firstP parB x.ds := by simp [parPair, h]
theorem firstP_par {x : Nl} (h : nlB x = true) : firstP parS x.ds = firstP parB x.ds := by
  obtain ⟨_, _, _, hdv, _⟩ := nlB_facts h
  exact firstP_congr (fun a ha b hb => parS_parB (shp_of (hdv a ha)) (shp_of (hdv b hb)))

set_option maxRecDepth 100000 in
set_option maxHeartbeats 2000000 in
theorem specParallelPair_any (x : Nl) (v : Value) (w : World) (h : NlV w v x) (hok : ∀ p ∈ x.ps, p.ok) (hnn : Fits x.nets) :
    Calls Try.prog 43 #[v] w fun e w' => e = .returned (.tuple #[.int .i64 (parPair x).1, .int .i64 (parPair x).2.1, .bool (parPair x).2.2]) ∧ Below w.heap.size w w' := by
  have HV := Lib.hid (fun v w h => specNl_any x v w h hok hnn)
  have HN := Lib.hid h
  obtain ⟨a, c, a', c', rfl⟩ := h.sized
  cases hv : nlB x with
  | false =>
    rw [hv] at HV
    rw [parPair_no hv]
    clear hv h hok
    go_enter Try.func43, Try.ntmps43
    go_wp2_with (go_at_call 25; refine (HV.out _ _ (HN.out.by (by ((repeat (first | (with_reducible exact Below.refl _ _) | (with_reducible refine below_drewN ?_ _) | (with_reducible refine Below.drew ?_) | (with_reducible refine below_al ?_ _) | (with_reducible refine below_on (by assumption) ?_) | ((with_reducible refine Below.setCell ?_ ?_ _); rotate_left; focus (first | omega | (simp; done) | (simp; omega))) | (with_reducible assumption))); done)))).mono ?_; rintro e w1 ⟨rfl, hb1⟩)
    go_ret3
    exact ⟨rfl, (by ((repeat (first | (with_reducible exact Below.refl _ _) | (with_reducible refine below_drewN ?_ _) | (with_reducible refine Below.drew ?_) | (with_reducible refine below_al ?_ _) | (with_reducible refine below_on (by assumption) ?_) | ((with_reducible refine Below.setCell ?_ ?_ _); rotate_left; focus (first | omega | (simp; done) | (simp; omega))) | (with_reducible assumption))); done))⟩
  | true =>
    rw [hv] at HV
    rw [parPair_yes hv, ← firstP_par hv]
    obtain ⟨_, _, _, hdv, _⟩ := nlB_facts hv
    have HP := Lib.hid (fun v w h => l28PairP_any x v w h (fun d hd => by have := (dvB_pins (hdv d hd)).1; omega))
    generalize firstP parS x.ds = r at *
    clear hv h hok hdv
    go_enter Try.func43, Try.ntmps43
    go_wp2_with (first | (go_at_call 25; refine (HV.out _ _ (HN.out.by (by ((repeat (first | (with_reducible exact Below.refl _ _) | (with_reducible refine below_drewN ?_ _) | (with_reducible refine Below.drew ?_) | (with_reducible refine below_al ?_ _) | (with_reducible refine below_on (by assumption) ?_) | ((with_reducible refine Below.setCell ?_ ?_ _); rotate_left; focus (first | omega | (simp; done) | (simp; omega))) | (with_reducible assumption))); done)))).mono ?_; rintro e w1 ⟨rfl, hb1⟩; have k0 : Blk w1 w.heap.size #[.int .i64 x.nets, .slice a x.ds.length c, .slice a' x.ps.length c'] 43 := (by ((repeat (first | (with_reducible assumption) | (with_reducible refine Blk.drewN ?_ _) | (with_reducible refine Blk.drew ?_) | ((with_reducible refine Blk.new _ ?_); focus (first | omega | (simp; done) | (simp; omega))) | (with_reducible refine Blk.past ?_ _) | ((with_reducible refine Blk.apart ?_ _ _ _ ?_); rotate_left; focus (first | omega | (simp; done) | (simp; omega))) | (with_reducible refine Blk.by (by assumption) ?_))); done)); have c0 := k0.cell; have hbw : Below w.heap.size w w1 := (by ((repeat (first | (with_reducible exact Below.refl _ _) | (with_reducible refine below_drewN ?_ _) | (with_reducible refine Below.drew ?_) | (with_reducible refine below_al ?_ _) | (with_reducible refine below_on (by assumption) ?_) | ((with_reducible refine Below.setCell ?_ ?_ _); rotate_left; focus (first | omega | (simp; done) | (simp; omega))) | (with_reducible assumption))); done))) | (go_at_call 88; refine (HP.out _ _ (HN.out.by hbw)).mono ?_; rintro e w2 ⟨rfl, hb2⟩))
    go_ret3
    exact ⟨rfl, below_on hb2 hbw⟩

set_option maxRecDepth 100000 in
set_option maxHeartbeats 2000000 in
theorem implParallelPair_any (x : Nl) (v : Value) (w : World) (h : NlV w v x) (hok : ∀ p ∈ x.ps, p.ok) (hnn : Fits x.nets) :
    Calls Try.prog 44 #[v] w fun e w' => e = .returned (.tuple #[.int .i64 (parPair x).1, .int .i64 (parPair x).2.1, .bool (parPair x).2.2]) ∧ Below w.heap.size w w' := by
  have HN := Lib.hid h
  obtain ⟨a, c, a', c', rfl⟩ := h.sized
  cases hv : nlB x with
  | false =>
    have HP := Lib.hid (fun v f w h => firstPair_no x v f w h hok hnn hv)
    rw [parPair_no hv]
    clear hv h hok
    go_enter Try.func44, Try.ntmps44
    go_wp2_with (go_at_call 89; refine (HP.out _ _ _ (HN.out.by (by ((repeat (first | (with_reducible exact Below.refl _ _) | (with_reducible refine below_drewN ?_ _) | (with_reducible refine Below.drew ?_) | (with_reducible refine below_al ?_ _) | (with_reducible refine below_on (by assumption) ?_) | ((with_reducible refine Below.setCell ?_ ?_ _); rotate_left; focus (first | omega | (simp; done) | (simp; omega))) | (with_reducible assumption))); done)))).mono ?_; rintro e w1 ⟨rfl, hb1⟩)
    go_ret3
    exact ⟨rfl, (by ((repeat (first | (with_reducible exact Below.refl _ _) | (with_reducible refine below_drewN ?_ _) | (with_reducible refine Below.drew ?_) | (with_reducible refine below_al ?_ _) | (with_reducible refine below_on (by assumption) ?_) | ((with_reducible refine Below.setCell ?_ ?_ _); rotate_left; focus (first | omega | (simp; done) | (simp; omega))) | (with_reducible assumption))); done))⟩
  | true =>
    rw [parPair_yes hv]
    obtain ⟨_, _, _, hdv, _⟩ := nlB_facts hv
    have eg : ∀ args w, (callFunc 90 args).run Try.prog w = .ok (.enter 90 args) w := enters_of Try.func90 (by kernel_rfl) rfl
    have hcl : ∀ (W : World) (x' y' : Dv) (sx sy : Value), x' ∈ x.ds → y' ∈ x.ds → IntSl W sx x'.pins → IntSl W sy y'.pins → Calls Try.prog 90 (#[.agg #[.int .i64 x'.kind, sx, .int .i64 x'.wd, .int .i64 x'.len], .agg #[.int .i64 y'.kind, sy, .int .i64 y'.wd, .int .i64 y'.len]] ++ #[]) W fun e w' => e = .returned (.bool (parB x' y')) ∧ Below W.heap.size W w' := by
      intro W x' y' sx sy hx hy hsx hsy
      show Calls Try.prog 90 #[.agg #[.int .i64 x'.kind, sx, .int .i64 x'.wd, .int .i64 x'.len], .agg #[.int .i64 y'.kind, sy, .int .i64 y'.wd, .int .i64 y'.len]] W _
      exact parallel_any x' y' sx sy W hsx hsy (shp_of (hdv x' hx)) (shp_of (hdv y' hy))
    have HP := Lib.hid (fun v w h => firstPair_yes 90 #[] eg parB x v w h hok hnn hv (fun W x' y' sx sy _ hx hy h1 h2 => hcl W x' y' sx sy hx hy h1 h2))
    generalize firstP parB x.ds = r at *
    clear hv h hok hdv eg hcl
    go_enter Try.func44, Try.ntmps44
    go_wp2_with (go_at_call 89; refine (HP.out _ _ (HN.out.by (by ((repeat (first | (with_reducible exact Below.refl _ _) | (with_reducible refine below_drewN ?_ _) | (with_reducible refine Below.drew ?_) | (with_reducible refine below_al ?_ _) | (with_reducible refine below_on (by assumption) ?_) | ((with_reducible refine Below.setCell ?_ ?_ _); rotate_left; focus (first | omega | (simp; done) | (simp; omega))) | (with_reducible assumption))); done)))).mono ?_; rintro e w1 ⟨rfl, hb1⟩)
    go_ret3
    exact ⟨rfl, (by ((repeat (first | (with_reducible exact Below.refl _ _) | (with_reducible refine below_drewN ?_ _) | (with_reducible refine Below.drew ?_) | (with_reducible refine below_al ?_ _) | (with_reducible refine below_on (by assumption) ?_) | ((with_reducible refine Below.setCell ?_ ?_ _); rotate_left; focus (first | omega | (simp; done) | (simp; omega))) | (with_reducible assumption))); done))⟩
end Go.Proofs.Ythcaipohdeigeaa
