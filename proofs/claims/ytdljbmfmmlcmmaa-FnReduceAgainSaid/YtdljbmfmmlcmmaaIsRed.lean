/- Both IsReduced. -/
import Derived.Test.YtdljbmfmmlcmmaaRems
import Derived.Test.YtdljbmfmmlcmmaaPair5
import Derived.Test.YtdljbmfmmlcmmaaFidxs
import Derived.Deep.RegionWith
namespace Go.Proofs.Ytdljbmfmmlcmmaa
open Go.RowKit
set_option linter.unusedVariables false
set_option linter.unusedSimpArgs false

/-- What IsReduced answers. -/
noncomputable def redB (x : Nl) : Bool := nlB x && (!(x.ds.any shB) && (!(firstP parB x.ds).2.2 && !(firstP (serB x) x.ds).2.2))
theorem redB_no {x : Nl} (h : nlB x = false) : redB x = false := by simp [redB, h]
theorem redB_sh {x : Nl} (h : x.ds.any shB = true) : redB x = false := by simp [redB, h]
theorem redB_of {x : Nl} (h : nlB x = true) (h' : x.ds.any shB = false) : redB x = (!(firstP parB x.ds).2.2 && !(firstP (serB x) x.ds).2.2) := by simp [redB, h, h']
theorem filter_lt (ds : List Dv) : decide ((ds.filter okD).length < ds.length) = ds.any shB := by
  induction ds with
  | nil => rfl
  | cons d ds ih =>
    have hle := List.length_filter_le okD ds
    have e : okD d = !shB d := rfl
    cases hs : shB d with
    | true =>
      rw [hs] at e
      simp only [List.filter_cons, e, List.any_cons, hs]
      simp; omega
    | false =>
      rw [hs] at e
      simp only [List.filter_cons, e, List.any_cons, hs, Bool.false_or]
      rw [← ih]
      simp

set_option maxRecDepth 100000 in
set_option maxHeartbeats 2000000 in
theorem nextPair_any (x : Nl) (v : Value) (w : World) (h : NlV w v x) (hok : ∀ p ∈ x.ps, p.ok) (hnn : Fits x.nets) (hv : nlB x = true) :
    Calls Try.prog 33 #[v] w fun e w' => (if (firstP parB x.ds).2.2 = true then e = .returned (.tuple #[.int .i64 (firstP parB x.ds).1, .int .i64 (firstP parB x.ds).2.1, .bool true]) else e = .returned (.tuple #[.int .i64 (firstP (serB x) x.ds).1, .int .i64 (firstP (serB x) x.ds).2.1, .bool (firstP (serB x) x.ds).2.2])) ∧ Below w.heap.size w w' := by
  have HN := Lib.hid h
  have HP := Lib.hid (fun v w h => implParallelPair_any x v w h hok hnn)
  have HS := Lib.hid (fun v w h => implSeriesPair_any x v w h hok hnn)
  rw [parPair_yes hv] at HP
  rw [serPair_yes hv] at HS
  obtain ⟨a, c, a', c', rfl⟩ := h.sized
  generalize firstP parB x.ds = r1 at *
  generalize firstP (serB x) x.ds = r2 at *
  clear hv h hok
  obtain ⟨p1, p2, p3⟩ := r1
  obtain ⟨q1, q2, q3⟩ := r2
  dsimp only at HP HS ⊢
  cases p3 with
  | true =>
    simp only [if_true]
    go_enter Try.func33, Try.ntmps33
    go_wp2_with (go_at_call 53; refine (HP.out _ _ (HN.out.by (by ((repeat (first | (with_reducible exact Below.refl _ _) | (with_reducible refine below_drewN ?_ _) | (with_reducible refine Below.drew ?_) | (with_reducible refine below_al ?_ _) | (with_reducible refine below_on (by assumption) ?_) | ((with_reducible refine Below.setCell ?_ ?_ _); rotate_left; focus (first | omega | (simp; done) | (simp; omega))) | (with_reducible assumption))); done)))).mono ?_; rintro e w1 ⟨rfl, hb1⟩)
    go_ret3
    exact ⟨rfl, (by ((repeat (first | (with_reducible exact Below.refl _ _) | (with_reducible refine below_drewN ?_ _) | (with_reducible refine Below.drew ?_) | (with_reducible refine below_al ?_ _) | (with_reducible refine below_on (by assumption) ?_) | ((with_reducible refine Below.setCell ?_ ?_ _); rotate_left; focus (first | omega | (simp; done) | (simp; omega))) | (with_reducible assumption))); done))⟩
  | false =>
    simp only [Bool.false_eq_true, if_false]
    go_enter Try.func33, Try.ntmps33
    go_wp2_with (first | (go_at_call 53; refine (HP.out _ _ (HN.out.by (by ((repeat (first | (with_reducible exact Below.refl _ _) | (with_reducible refine below_drewN ?_ _) | (with_reducible refine Below.drew ?_) | (with_reducible refine below_al ?_ _) | (with_reducible refine below_on (by assumption) ?_) | ((with_reducible refine Below.setCell ?_ ?_ _); rotate_left; focus (first | omega | (simp; done) | (simp; omega))) | (with_reducible assumption))); done)))).mono ?_; rintro e w1 ⟨rfl, hb1⟩; have k0 : Blk w1 w.heap.size #[.int .i64 x.nets, .slice a x.ds.length c, .slice a' x.ps.length c'] 27 := (by ((repeat (first | (with_reducible assumption) | (with_reducible refine Blk.drewN ?_ _) | (with_reducible refine Blk.drew ?_) | ((with_reducible refine Blk.new _ ?_); focus (first | omega | (simp; done) | (simp; omega))) | (with_reducible refine Blk.past ?_ _) | ((with_reducible refine Blk.apart ?_ _ _ _ ?_); rotate_left; focus (first | omega | (simp; done) | (simp; omega))) | (with_reducible refine Blk.by (by assumption) ?_))); done)); have c0 := k0.cell; have hbw : Below w.heap.size w w1 := (by ((repeat (first | (with_reducible exact Below.refl _ _) | (with_reducible refine below_drewN ?_ _) | (with_reducible refine Below.drew ?_) | (with_reducible refine below_al ?_ _) | (with_reducible refine below_on (by assumption) ?_) | ((with_reducible refine Below.setCell ?_ ?_ _); rotate_left; focus (first | omega | (simp; done) | (simp; omega))) | (with_reducible assumption))); done))) | (go_at_call 54; refine (HS.out _ _ (HN.out.by hbw)).mono ?_; rintro e w2 ⟨rfl, hb2⟩))
    go_ret3
    exact ⟨rfl, below_on hb2 hbw⟩

set_option maxRecDepth 100000 in
set_option maxHeartbeats 2000000 in
theorem implIsReduced_any (x : Nl) (v : Value) (w : World) (h : NlV w v x) (hok : ∀ p ∈ x.ps, p.ok) (hnn : Fits x.nets) :
    Calls Try.prog 14 #[v] w fun e w' => e = .returned (.bool (redB x)) ∧ Below w.heap.size w w' := by
  have HV := Lib.hid (fun v w h => implNl_any x v w h hok hnn)
  have HN := Lib.hid h
  cases hv : nlB x with
  | false =>
    obtain ⟨a, c, a', c', rfl⟩ := h.sized
    rw [hv] at HV
    have hr := Lib.hid (redB_no hv)
    generalize redB x = r at *
    clear hv h hok
    go_enter Try.func14, Try.ntmps14
    go_wp2_with (go_at_call 19; refine (HV.out _ _ (HN.out.by (by ((repeat (first | (with_reducible exact Below.refl _ _) | (with_reducible refine below_drewN ?_ _) | (with_reducible refine Below.drew ?_) | (with_reducible refine below_al ?_ _) | (with_reducible refine below_on (by assumption) ?_) | ((with_reducible refine Below.setCell ?_ ?_ _); rotate_left; focus (first | omega | (simp; done) | (simp; omega))) | (with_reducible assumption))); done)))).mono ?_; rintro e w1 ⟨rfl, hb1⟩)
    go_ret
    exact ⟨ret_bool hr.out.symm, (by ((repeat (first | (with_reducible exact Below.refl _ _) | (with_reducible refine below_drewN ?_ _) | (with_reducible refine Below.drew ?_) | (with_reducible refine below_al ?_ _) | (with_reducible refine below_on (by assumption) ?_) | ((with_reducible refine Below.setCell ?_ ?_ _); rotate_left; focus (first | omega | (simp; done) | (simp; omega))) | (with_reducible assumption))); done))⟩
  | true =>
    rw [hv] at HV
    obtain ⟨_, hl24, _, hdv, _⟩ := nlB_facts hv
    have HX := Lib.hid (fun v w h => nextPair_any x v w h hok hnn hv)
    have eg : ∀ args w, (callFunc 39 args).run Try.prog w = .ok (.enter 39 args) w := enters_of Try.func39 (by kernel_rfl) rfl
    have hcl : ∀ (w0 W : World) (d : Dv) (sv : Value), Below w0.heap.size w0 W → d ∈ x.ds → IntSl W sv d.pins → Calls Try.prog 39 (#[.agg #[.int .i64 d.kind, sv, .int .i64 d.wd, .int .i64 d.len]] ++ #[]) W fun e w' => e = .returned (.bool (shB d)) ∧ Below W.heap.size W w' := by
      intro w0 W d sv _ hd hS
      show Calls Try.prog 39 #[.agg #[.int .i64 d.kind, sv, .int .i64 d.wd, .int .i64 d.len]] W _
      exact shorted_any d sv W hS (shp_of (hdv d hd))
    have HCF := Lib.hid (fun sv w h => containsFuncD_any 39 #[] eg shB sv x.ds w h (hcl w))
    have H1 := Lib.hid (@redB_sh x)
    have H2 := Lib.hid (redB_of hv)
    have HDS : ∃ s1 s2, v = .agg #[.int .i64 x.nets, s1, s2] ∧ DvSl w s1 x.ds := by obtain ⟨s1, s2, e1, e2, _⟩ := h; exact ⟨s1, s2, e1, e2⟩
    obtain ⟨a, c, a', c', rfl⟩ := h.sized
    obtain ⟨s1, s2, e1, hDS⟩ := HDS
    simp only [Value.agg.injEq, Array.mk.injEq, List.cons.injEq, and_true, true_and] at e1
    obtain ⟨rfl, rfl⟩ := e1
    have HD := Lib.hid hDS
    generalize redB x = r at *
    generalize firstP parB x.ds = r1 at *
    generalize firstP (serB x) x.ds = r2 at *
    clear hv h hok hdv eg hcl hDS
    cases hsh : x.ds.any shB with
    | true =>
      have hr := Lib.hid (H1.out hsh)
      rw [hsh] at HCF
      clear hsh
      go_enter Try.func14, Try.ntmps14
      go_wp2_with (first | (go_at_call 19; refine (HV.out _ _ (HN.out.by (by ((repeat (first | (with_reducible exact Below.refl _ _) | (with_reducible refine below_drewN ?_ _) | (with_reducible refine Below.drew ?_) | (with_reducible refine below_al ?_ _) | (with_reducible refine below_on (by assumption) ?_) | ((with_reducible refine Below.setCell ?_ ?_ _); rotate_left; focus (first | omega | (simp; done) | (simp; omega))) | (with_reducible assumption))); done)))).mono ?_; rintro e w1 ⟨rfl, hb1⟩; have k0 : Blk w1 w.heap.size #[.int .i64 x.nets, .slice a x.ds.length c, .slice a' x.ps.length c'] 27 := (by ((repeat (first | (with_reducible assumption) | (with_reducible refine Blk.drewN ?_ _) | (with_reducible refine Blk.drew ?_) | ((with_reducible refine Blk.new _ ?_); focus (first | omega | (simp; done) | (simp; omega))) | (with_reducible refine Blk.past ?_ _) | ((with_reducible refine Blk.apart ?_ _ _ _ ?_); rotate_left; focus (first | omega | (simp; done) | (simp; omega))) | (with_reducible refine Blk.by (by assumption) ?_))); done)); have c0 := k0.cell; have hbw : Below w.heap.size w w1 := (by ((repeat (first | (with_reducible exact Below.refl _ _) | (with_reducible refine below_drewN ?_ _) | (with_reducible refine Below.drew ?_) | (with_reducible refine below_al ?_ _) | (with_reducible refine below_on (by assumption) ?_) | ((with_reducible refine Below.setCell ?_ ?_ _); rotate_left; focus (first | omega | (simp; done) | (simp; omega))) | (with_reducible assumption))); done))) | (go_at_call 38; refine (HCF.out _ _ (HD.out.by hbw)).mono ?_; rintro e w2 ⟨rfl, hb2⟩))
      go_ret
      exact ⟨ret_bool hr.out.symm, below_on hb2 hbw⟩
    | false =>
      have hr := Lib.hid (H2.out hsh)
      rw [hsh] at HCF
      clear hsh
      obtain ⟨p1, p2, p3⟩ := r1
      obtain ⟨q1, q2, q3⟩ := r2
      dsimp only at hr HX
      have HX' : ∃ t1 t2 : Int, ∀ v w, NlV w v x → Calls Try.prog 33 #[v] w fun e w' => e = .returned (.tuple #[.int .i64 t1, .int .i64 t2, .bool (p3 || q3)]) ∧ Below w.heap.size w w' := by
        cases p3 with
        | true => exact ⟨p1, p2, fun v w h => (HX.out v w h).mono (fun _ _ h => ⟨by have := h.1; simpa using this, h.2⟩)⟩
        | false => exact ⟨q1, q2, fun v w h => (HX.out v w h).mono (fun _ _ h => ⟨by have := h.1; simpa using this, h.2⟩)⟩
      obtain ⟨t1, t2, HX2⟩ := HX'
      have HX3 := Lib.hid HX2
      clear HX HX2
      go_enter Try.func14, Try.ntmps14
      go_wp2_with (first | (go_at_call 19; refine (HV.out _ _ (HN.out.by (by ((repeat (first | (with_reducible exact Below.refl _ _) | (with_reducible refine below_drewN ?_ _) | (with_reducible refine Below.drew ?_) | (with_reducible refine below_al ?_ _) | (with_reducible refine below_on (by assumption) ?_) | ((with_reducible refine Below.setCell ?_ ?_ _); rotate_left; focus (first | omega | (simp; done) | (simp; omega))) | (with_reducible assumption))); done)))).mono ?_; rintro e w1 ⟨rfl, hb1⟩; have k0 : Blk w1 w.heap.size #[.int .i64 x.nets, .slice a x.ds.length c, .slice a' x.ps.length c'] 27 := (by ((repeat (first | (with_reducible assumption) | (with_reducible refine Blk.drewN ?_ _) | (with_reducible refine Blk.drew ?_) | ((with_reducible refine Blk.new _ ?_); focus (first | omega | (simp; done) | (simp; omega))) | (with_reducible refine Blk.past ?_ _) | ((with_reducible refine Blk.apart ?_ _ _ _ ?_); rotate_left; focus (first | omega | (simp; done) | (simp; omega))) | (with_reducible refine Blk.by (by assumption) ?_))); done)); have c0 := k0.cell; have hbw : Below w.heap.size w w1 := (by ((repeat (first | (with_reducible exact Below.refl _ _) | (with_reducible refine below_drewN ?_ _) | (with_reducible refine Below.drew ?_) | (with_reducible refine below_al ?_ _) | (with_reducible refine below_on (by assumption) ?_) | ((with_reducible refine Below.setCell ?_ ?_ _); rotate_left; focus (first | omega | (simp; done) | (simp; omega))) | (with_reducible assumption))); done))) | (go_at_call 38; refine (HCF.out _ _ (HD.out.by hbw)).mono ?_; rintro e w2 ⟨rfl, hb2⟩; have k2 := Blk.by hb2 k0; have hbw2 := below_on hb2 hbw; clear c0; have c2 := k2.cell) | (go_at_call 33; refine (HX3.out _ _ (HN.out.by hbw2)).mono ?_; rintro e w3 ⟨rfl, hb3⟩))
      go_ret
      exact ⟨ret_bool (by rw [hr.out] <;> (cases p3 <;> cases q3 <;> rfl)), below_on hb3 hbw2⟩
end Go.Proofs.Ytdljbmfmmlcmmaa
