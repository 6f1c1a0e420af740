/- Both IsReduced. -/
import Derived.Test.YtjanifoipbmkhaaGreatRems
import Derived.Test.YtjanifoipbmkhaaGreatPair5
import Derived.Test.YtjanifoipbmkhaaGreatFidxs
import Derived.Deep.RegionWith
namespace Go.Proofs.YtjanifoipbmkhaaGreat
open Go.RowKit
set_option linter.unusedVariables false
set_option linter.unusedSimpArgs false

theorem specRm_any (x : Nl) (v : Value) (w : World) (h : NlV w v x) (hok : ∀ p ∈ x.ps, p.ok) (hnn : Fits x.nets) :
    Calls Tryz.prog 14 #[v] w fun e w' => ∃ v', e = .returned v' ∧ OwnNl w' w.heap.size w'.heap.size v' (rmS x) ∧ Below w.heap.size w w' := by
  cases hv : nlB x with
  | false => exact specRm_no x v w h hok hnn hv
  | true => exact specRm_yes x v w h hok hnn hv

/-- What IsReduced answers. -/
noncomputable def redB (x : Nl) : Bool := nlB x && (!(x.ds.any shB) && (!(firstP parB x.ds).2.2 && !(firstP (serB x) x.ds).2.2))
theorem redB_no {x : Nl} (h : nlB x = false) : redB x = false := by simp [redB, h]
theorem redB_sh {x : Nl} (h : x.ds.any shB = true) : redB x = false := by simp [redB, h]
theorem redB_of {x : Nl} (h : nlB x = true) (h' : x.ds.any shB = false) : redB x = (!(firstP parB x.ds).2.2 && !(firstP (serB x) x.ds).2.2) := by simp [redB, h, h']
theorem filter_lt (ds : List Dv) : decide ((ds.filter okD).length < ds.length) = ds.any shB := by
  induction ds with
  | nil => rfl
  | cons d ds ih =>
    have hle := List.length_filter_le okD ds
    have e : okD d = !shB d := rfl
    cases hs : shB d with
    | true =>
      rw [hs] at e
      simp only [List.filter_cons, e, List.any_cons, hs]
      simp; omega
    | false =>
      rw [hs] at e
      simp only [List.filter_cons, e, List.any_cons, hs, Bool.false_or]
      rw [← ih]
      simp

set_option maxRecDepth 100000 in
set_option maxHeartbeats 2000000 in
theorem nextPair_any (x : Nl) (v : Value) (w : World) (h : NlV w v x) (hok : ∀ p ∈ x.ps, p.ok) (hnn : Fits x.nets) (hv : nlB x = true) :
    Calls Tryz.prog 25 #[v] w fun e w' => (if (firstP parB x.ds).2.2 = true then e = .returned (.tuple #[.int .i64 (firstP parB x.ds).1, .int .i64 (firstP parB x.ds).2.1, .bool true]) else e = .returned (.tuple #[.int .i64 (firstP (serB x) x.ds).1, .int .i64 (firstP (serB x) x.ds).2.1, .bool (firstP (serB x) x.ds).2.2])) ∧ Below w.heap.size w w' := by
  have HN := Lib.hid h
  have HP := Lib.hid (fun v w h => implParallelPair_any x v w h hok hnn)
  have HS := Lib.hid (fun v w h => implSeriesPair_any x v w h hok hnn)
  rw [parPair_yes hv] at HP
  rw [serPair_yes hv] at HS
  obtain ⟨a, c, a', c', rfl⟩ := h.sized
  generalize firstP parB x.ds = r1 at *
  generalize firstP (serB x) x.ds = r2 at *
  clear hv h hok
  obtain ⟨p1, p2, p3⟩ := r1
  obtain ⟨q1, q2, q3⟩ := r2
  dsimp only at HP HS ⊢
  cases p3 with
  | true =>
    simp only [if_true]
    go_enter Tryz.func25, Tryz.ntmps25
    go_wp2_with (go_at_call 63; refine (HP.out _ _ (HN.out.by (by ((repeat (first | (with_reducible exact Below.refl _ _) | (with_reducible refine below_drewN ?_ _) | (with_reducible refine Below.drew ?_) | (with_reducible refine below_al ?_ _) | (with_reducible refine below_on (by assumption) ?_) | ((with_reducible refine Below.setCell ?_ ?_ _); rotate_left; focus (first | omega | (simp; done) | (simp; omega))) | (with_reducible assumption))); done)))).mono ?_; rintro e w1 ⟨rfl, hb1⟩)
    go_ret3
    exact ⟨rfl, (by ((repeat (first | (with_reducible exact Below.refl _ _) | (with_reducible refine below_drewN ?_ _) | (with_reducible refine Below.drew ?_) | (with_reducible refine below_al ?_ _) | (with_reducible refine below_on (by assumption) ?_) | ((with_reducible refine Below.setCell ?_ ?_ _); rotate_left; focus (first | omega | (simp; done) | (simp; omega))) | (with_reducible assumption))); done))⟩
  | false =>
    simp only [Bool.false_eq_true, if_false]
    go_enter Tryz.func25, Tryz.ntmps25
    go_wp2_with (first | (go_at_call 63; refine (HP.out _ _ (HN.out.by (by ((repeat (first | (with_reducible exact Below.refl _ _) | (with_reducible refine below_drewN ?_ _) | (with_reducible refine Below.drew ?_) | (with_reducible refine below_al ?_ _) | (with_reducible refine below_on (by assumption) ?_) | ((with_reducible refine Below.setCell ?_ ?_ _); rotate_left; focus (first | omega | (simp; done) | (simp; omega))) | (with_reducible assumption))); done)))).mono ?_; rintro e w1 ⟨rfl, hb1⟩; have k0 : Blk w1 w.heap.size #[.int .i64 x.nets, .slice a x.ds.length c, .slice a' x.ps.length c'] 30 := (by ((repeat (first | (with_reducible assumption) | (with_reducible refine Blk.drewN ?_ _) | (with_reducible refine Blk.drew ?_) | ((with_reducible refine Blk.new _ ?_); focus (first | omega | (simp; done) | (simp; omega))) | (with_reducible refine Blk.past ?_ _) | ((with_reducible refine Blk.apart ?_ _ _ _ ?_); rotate_left; focus (first | omega | (simp; done) | (simp; omega))) | (with_reducible refine Blk.by (by assumption) ?_))); done)); have c0 := k0.cell; have hbw : Below w.heap.size w w1 := (by ((repeat (first | (with_reducible exact Below.refl _ _) | (with_reducible refine below_drewN ?_ _) | (with_reducible refine Below.drew ?_) | (with_reducible refine below_al ?_ _) | (with_reducible refine below_on (by assumption) ?_) | ((with_reducible refine Below.setCell ?_ ?_ _); rotate_left; focus (first | omega | (simp; done) | (simp; omega))) | (with_reducible assumption))); done))) | (go_at_call 64; refine (HS.out _ _ (HN.out.by hbw)).mono ?_; rintro e w2 ⟨rfl, hb2⟩))
    go_ret3
    exact ⟨rfl, below_on hb2 hbw⟩

end Go.Proofs.YtjanifoipbmkhaaGreat
