/- Both IsReduced. -/
import Derived.Test.YthcaipohdeigeaaSpecRm
import Derived.Test.YthcaipohdeigeaaSerPair
import Derived.Test.YthcaipohdeigeaaParPair
import Derived.Test.YthcaipohdeigeaaFidxs
import Derived.Deep.RegionWith
namespace Go.Proofs.Ythcaipohdeigeaa
open Go.RowKit
set_option linter.unusedVariables false
set_option linter.unusedSimpArgs false

theorem specRm_any (x : Nl) (v : Value) (w : World) (h : NlV w v x) (hok : ∀ p ∈ x.ps, p.ok) (hnn : Fits x.nets) :
    Calls Try.prog 45 #[v] w fun e w' => ∃ v', e = .returned v' ∧ OwnNl w' w.heap.size w'.heap.size v' (rmS x) ∧ Below w.heap.size w w' := by
  cases hv : nlB x with
  | false => exact specRm_no x v w h hok hnn hv
  | true => exact specRm_yes x v w h hok hnn hv

/-- What IsReduced answers. -/
noncomputable def redB (x : Nl) : Bool := nlB x && (!(x.ds.any shB) && (!(firstP parB x.ds).2.2 && !(firstP (serB x) x.ds).2.2))
theorem redB_no {x : Nl} (h : nlB x = false) : redB x = false := by simp [redB, h]
theorem redB_sh {x : Nl} (h : x.ds.any shB = true) : redB x = false := by simp [redB, h]
theorem redB_of {x : Nl} (h : nlB x = true) (h' : x.ds.any shB = false) : redB x = (!(firstP parB x.ds).2.2 && !(firstP (serB x) x.ds).2.2) := by simp [redB, h, h']
theorem filter_lt (ds : List Dv) : decide ((ds.filter okD).length < ds.length) = ds.any shB := by
  induction ds with
  | nil => rfl
  | cons d ds ih =>
    have hle := List.length_filter_le okD ds
    have e : okD d = !shB d := rfl
    cases hs : shB d with
    | true =>
      rw [hs] at e
      simp only [List.filter_cons, e, List.any_cons, hs]
      simp; omega
    | false =>
      rw [hs] at e
      simp only [List.filter_cons, e, List.any_cons, hs, Bool.false_or]
      rw [← ih]
      simp

set_option maxRecDepth 100000 in
set_option maxHeartbeats 4000000 in
theorem specIsReduced_any (x : Nl) (v : Value) (w : World) (h : NlV w v x) (hok : ∀ p ∈ x.ps, p.ok) (hnn : Fits x.nets) :
    Calls Try.prog 50 #[v] w fun e w' => e = .returned (.bool (redB x)) ∧ Below w.heap.size w w' := by
  have HV := Lib.hid (fun v w h => specNl_any x v w h hok hnn)
  have HN := Lib.hid h
  have hfd : ∀ (a b c : Value) (w : World), (Instr.field 43 (.agg #[a, b, c]) 1).run Try.prog w = .ok b w := fun _ _ _ _ => by kernel_rfl
  cases hv : nlB x with
  | false =>
    obtain ⟨a, c, a', c', rfl⟩ := h.sized
    rw [hv] at HV
    have hr := Lib.hid (redB_no hv)
    generalize redB x = r at *
    clear hv h hok
    go_enter Try.func50, Try.ntmps50
    go_wp2_with fail
    refine wp_region_any (by kernel_rfl) ?_
    change wpAny _ _ _ _ _ _ _ (World.drew _)
    refine wpAny_ready (rs := [0]) (by kernel_rfl) (by simp) ?_
    refine AllReady.cons rfl (fun K hK => ?_) AllReady.nil
    go_simp
    refine hK _ _ ?_
    clear hK K
    refine wpAny_ready (rs := [1]) (by kernel_rfl) (by simp) ?_
    refine AllReady.cons rfl (fun K hK => ?_) AllReady.nil
    go_simp
    go_at_call 25
    refine (HV.out _ _ (HN.out.by (by ((repeat (first | (with_reducible exact Below.refl _ _) | (with_reducible refine below_drewN ?_ _) | (with_reducible refine Below.drew ?_) | (with_reducible refine below_al ?_ _) | (with_reducible refine below_on (by assumption) ?_) | ((with_reducible refine Below.setCell ?_ ?_ _); rotate_left; focus (first | omega | (simp; done) | (simp; omega))) | (with_reducible assumption))); done)))).mono ?_
    rintro e w1 ⟨rfl, hb1⟩
    go_simp
    refine hK _ _ ?_
    clear hK K
    refine wpAny_ready (rs := [2]) (by kernel_rfl) (by simp) ?_
    refine AllReady.cons rfl (fun K hK => ?_) AllReady.nil
    go_simp
    refine hK _ _ ?_
    clear hK K
    refine wpAny_ready (rs := [3]) (by kernel_rfl) (by simp) ?_
    refine AllReady.cons rfl (fun K hK => ?_) AllReady.nil
    go_simp
    refine hK _ _ ?_
    clear hK K
    refine wpAny_take (i := 4) (v := undef) rfl (by kernel_rfl) (by kernel_rfl) (by kernel_rfl) (fun _ _ _ h => h) (Or.inr ⟨by kernel_rfl, rfl⟩) ?_
    refine wpAny_take (i := 5) (v := undef) rfl (by kernel_rfl) (by kernel_rfl) (by kernel_rfl) (fun _ _ _ h => h) (Or.inr ⟨by kernel_rfl, rfl⟩) ?_
    refine wpAny_take (i := 6) (v := undef) rfl (by kernel_rfl) (by kernel_rfl) (by kernel_rfl) (fun _ _ _ h => h) (Or.inr ⟨by kernel_rfl, rfl⟩) ?_
    refine wpAny_take (i := 7) (v := undef) rfl (by kernel_rfl) (by kernel_rfl) (by kernel_rfl) (fun _ _ _ h => h) (Or.inr ⟨by kernel_rfl, rfl⟩) ?_
    refine wpAny_take (i := 8) (v := undef) rfl (by kernel_rfl) (by kernel_rfl) (by kernel_rfl) (fun _ _ _ h => h) (Or.inr ⟨by kernel_rfl, rfl⟩) ?_
    refine wpAny_take (i := 9) (v := undef) rfl (by kernel_rfl) (by kernel_rfl) (by kernel_rfl) (fun _ _ _ h => h) (Or.inr ⟨by kernel_rfl, rfl⟩) ?_
    refine wpAny_take (i := 10) (v := undef) rfl (by kernel_rfl) (by kernel_rfl) (by kernel_rfl) (fun _ _ _ h => h) (Or.inr ⟨by kernel_rfl, rfl⟩) ?_
    refine wpAny_take (i := 11) (v := undef) rfl (by kernel_rfl) (by kernel_rfl) (by kernel_rfl) (fun _ _ _ h => h) (Or.inr ⟨by kernel_rfl, rfl⟩) ?_
    refine wpAny_ready (rs := [12]) (by kernel_rfl) (by simp) ?_
    refine AllReady.cons rfl (fun K hK => ?_) AllReady.nil
    go_simp
    refine hK _ _ ?_
    clear hK K
    refine wpAny_done (by kernel_rfl) ?_ _
    all_goals go_wp2
    all_goals go_ret
    all_goals exact ⟨ret_bool hr.out.symm, (by ((repeat (first | (with_reducible exact Below.refl _ _) | (with_reducible refine below_drewN ?_ _) | (with_reducible refine Below.drew ?_) | (with_reducible refine below_al ?_ _) | (with_reducible refine below_on (by assumption) ?_) | ((with_reducible refine Below.setCell ?_ ?_ _); rotate_left; focus (first | omega | (simp; done) | (simp; omega))) | (with_reducible assumption))); done))⟩
  | true =>
    rw [hv] at HV
    have HR := Lib.hid (fun v w h => specRm_any x v w h hok hnn)
    rw [rmS_yes hv] at HR
    obtain ⟨_, hl24, _, hdv, _⟩ := nlB_facts hv
    have HP := Lib.hid (fun v w h => l28PairP_any x v w h (fun d hd => by have := (dvB_pins (hdv d hd)).1; omega))
    rw [firstP_par hv] at HP
    have HS := Lib.hid (fun v w h => l28PairS_any x v w h hv)
    have HFL := Lib.hid (filter_lt x.ds)
    have hfle := List.length_filter_le okD x.ds
    have H1 := Lib.hid (@redB_sh x)
    have H2 := Lib.hid (redB_of hv)
    obtain ⟨a, c, a', c', rfl⟩ := h.sized
    generalize redB x = r at *
    generalize firstP parB x.ds = r1 at *
    generalize firstP (serB x) x.ds = r2 at *
    clear hv h hok hdv
    cases hsh : x.ds.any shB with
    | true =>
      have hr := Lib.hid (H1.out hsh)
      have hlt : (x.ds.filter okD).length < x.ds.length := by have := HFL.out; rw [hsh] at this; simpa using this
      have hlt' : decide (((x.ds.filter okD).length : Int) < (x.ds.length : Int)) = true := decide_eq_true (by omega)
      clear hsh
      go_enter Try.func50, Try.ntmps50
      go_wp2_with fail
      go_region_held3 ((fun w' => (Blk w' (w.heap.size) #[.int .i64 x.nets, .slice a x.ds.length c, .slice a' x.ps.length c'] 43 ∧ ∀ o, w'.cell? ⟨w.heap.size, o, none⟩ = (#[.int .i64 x.nets, .slice a x.ds.length c, .slice a' x.ps.length c'] : Array Value)[o]?) ∧ Below w.heap.size w w')) (((try (obtain ⟨⟨hS0, _⟩, hSB⟩ := hHeld)); refine ⟨Blk.both ?_, ?_⟩ <;> first | ((repeat (first | (with_reducible assumption) | (with_reducible refine Blk.drewN ?_ _) | (with_reducible refine Blk.drew ?_) | ((with_reducible refine Blk.new _ ?_); focus (first | omega | (simp; done) | (simp; omega))) | (with_reducible refine Blk.past ?_ _) | ((with_reducible refine Blk.apart ?_ _ _ _ ?_); rotate_left; focus (first | omega | (simp; done) | (simp; omega))) | (with_reducible refine Blk.by (by assumption) ?_))); done) | ((repeat (first | (with_reducible exact Below.refl _ _) | (with_reducible refine below_drewN ?_ _) | (with_reducible refine Below.drew ?_) | (with_reducible refine below_al ?_ _) | (with_reducible refine below_on (by assumption) ?_) | ((with_reducible refine Below.setCell ?_ ?_ _); rotate_left; focus (first | omega | (simp; done) | (simp; omega))) | (with_reducible assumption))); done)))
        (first | (go_at_call 25; refine (HV.out _ _ (HN.out.by (by ((repeat (first | (with_reducible exact Below.refl _ _) | (with_reducible refine below_drewN ?_ _) | (with_reducible refine Below.drew ?_) | (with_reducible refine below_al ?_ _) | (with_reducible refine below_on (by assumption) ?_) | ((with_reducible refine Below.setCell ?_ ?_ _); rotate_left; focus (first | omega | (simp; done) | (simp; omega))) | (with_reducible assumption))); done)))).mono ?_; rintro e w1 ⟨rfl, hb1⟩) | (go_at_call 45; refine (HR.out _ _ (HN.out.by (by ((repeat (first | (with_reducible exact Below.refl _ _) | (with_reducible refine below_drewN ?_ _) | (with_reducible refine Below.drew ?_) | (with_reducible refine below_al ?_ _) | (with_reducible refine below_on (by assumption) ?_) | ((with_reducible refine Below.setCell ?_ ?_ _); rotate_left; focus (first | omega | (simp; done) | (simp; omega))) | (with_reducible assumption))); done)))).mono ?_; rintro e w2 ⟨v2, rfl, hO2, hb2⟩; obtain ⟨a2, c2, a2', c2', rfl⟩ := hO2.nl.sized; clear hO2))
      go_wp2
      go_ret
      exact ⟨ret_bool hr.out.symm, (by ((repeat (first | (with_reducible exact Below.refl _ _) | (with_reducible refine below_drewN ?_ _) | (with_reducible refine Below.drew ?_) | (with_reducible refine below_al ?_ _) | (with_reducible refine below_on (by assumption) ?_) | ((with_reducible refine Below.setCell ?_ ?_ _); rotate_left; focus (first | omega | (simp; done) | (simp; omega))) | (with_reducible assumption))); done))⟩
    | false =>
      have hr := Lib.hid (H2.out hsh)
      have hlt : ¬ (x.ds.filter okD).length < x.ds.length := by have := HFL.out; rw [hsh] at this; simpa using this
      have hlt' : decide (((x.ds.filter okD).length : Int) < (x.ds.length : Int)) = false := decide_eq_false (by omega)
      clear hsh
      obtain ⟨p1, p2, p3⟩ := r1
      obtain ⟨q1, q2, q3⟩ := r2
      dsimp only at hr HP HS
      go_enter Try.func50, Try.ntmps50
      go_wp2_with fail
      go_region_held3 ((fun w' => (Blk w' (w.heap.size) #[.int .i64 x.nets, .slice a x.ds.length c, .slice a' x.ps.length c'] 43 ∧ ∀ o, w'.cell? ⟨w.heap.size, o, none⟩ = (#[.int .i64 x.nets, .slice a x.ds.length c, .slice a' x.ps.length c'] : Array Value)[o]?) ∧ Below w.heap.size w w')) (((try (obtain ⟨⟨hS0, _⟩, hSB⟩ := hHeld)); refine ⟨Blk.both ?_, ?_⟩ <;> first | ((repeat (first | (with_reducible assumption) | (with_reducible refine Blk.drewN ?_ _) | (with_reducible refine Blk.drew ?_) | ((with_reducible refine Blk.new _ ?_); focus (first | omega | (simp; done) | (simp; omega))) | (with_reducible refine Blk.past ?_ _) | ((with_reducible refine Blk.apart ?_ _ _ _ ?_); rotate_left; focus (first | omega | (simp; done) | (simp; omega))) | (with_reducible refine Blk.by (by assumption) ?_))); done) | ((repeat (first | (with_reducible exact Below.refl _ _) | (with_reducible refine below_drewN ?_ _) | (with_reducible refine Below.drew ?_) | (with_reducible refine below_al ?_ _) | (with_reducible refine below_on (by assumption) ?_) | ((with_reducible refine Below.setCell ?_ ?_ _); rotate_left; focus (first | omega | (simp; done) | (simp; omega))) | (with_reducible assumption))); done)))
        (first | (go_at_call 25; refine (HV.out _ _ (HN.out.by (by ((repeat (first | (with_reducible exact Below.refl _ _) | (with_reducible refine below_drewN ?_ _) | (with_reducible refine Below.drew ?_) | (with_reducible refine below_al ?_ _) | (with_reducible refine below_on (by assumption) ?_) | ((with_reducible refine Below.setCell ?_ ?_ _); rotate_left; focus (first | omega | (simp; done) | (simp; omega))) | (with_reducible assumption))); done)))).mono ?_; rintro e w1 ⟨rfl, hb1⟩) | (go_at_call 45; refine (HR.out _ _ (HN.out.by (by ((repeat (first | (with_reducible exact Below.refl _ _) | (with_reducible refine below_drewN ?_ _) | (with_reducible refine Below.drew ?_) | (with_reducible refine below_al ?_ _) | (with_reducible refine below_on (by assumption) ?_) | ((with_reducible refine Below.setCell ?_ ?_ _); rotate_left; focus (first | omega | (simp; done) | (simp; omega))) | (with_reducible assumption))); done)))).mono ?_; rintro e w2 ⟨v2, rfl, hO2, hb2⟩; obtain ⟨a2, c2, a2', c2', rfl⟩ := hO2.nl.sized; clear hO2))
      have k0 : Blk w2 w.heap.size #[.int .i64 x.nets, .slice a x.ds.length c, .slice a' x.ps.length c'] 43 := (by ((repeat (first | (with_reducible assumption) | (with_reducible refine Blk.drewN ?_ _) | (with_reducible refine Blk.drew ?_) | ((with_reducible refine Blk.new _ ?_); focus (first | omega | (simp; done) | (simp; omega))) | (with_reducible refine Blk.past ?_ _) | ((with_reducible refine Blk.apart ?_ _ _ _ ?_); rotate_left; focus (first | omega | (simp; done) | (simp; omega))) | (with_reducible refine Blk.by (by assumption) ?_))); done))
      have hbw : Below w.heap.size w w2 := (by ((repeat (first | (with_reducible exact Below.refl _ _) | (with_reducible refine below_drewN ?_ _) | (with_reducible refine Below.drew ?_) | (with_reducible refine below_al ?_ _) | (with_reducible refine below_on (by assumption) ?_) | ((with_reducible refine Below.setCell ?_ ?_ _); rotate_left; focus (first | omega | (simp; done) | (simp; omega))) | (with_reducible assumption))); done))
      have c0 := k0.cell
      clear hb1 hb2
      cases p3 <;> cases q3
      all_goals
        go_wp2_with (first | (go_at_call_of 88 (Value.bool true); refine (HP.out _ _ (HN.out.by hbw)).mono ?_; rintro e w3 ⟨rfl, hb3⟩; have k3 := Blk.by hb3 k0; have hbw3 := below_on hb3 hbw; clear c0; have c3 := k3.cell) | (go_at_call 88; refine (HS.out _ _ (HN.out.by hbw3)).mono ?_; rintro e w4 ⟨rfl, hb4⟩))
        go_ret
        exact ⟨ret_bool (by rw [hr.out]; rfl), below_on hb4 hbw3⟩

set_option maxRecDepth 100000 in
set_option maxHeartbeats 2000000 in
theorem nextPair_any (x : Nl) (v : Value) (w : World) (h : NlV w v x) (hok : ∀ p ∈ x.ps, p.ok) (hnn : Fits x.nets) (hv : nlB x = true) :
    Calls Try.prog 99 #[v] w fun e w' => (if (firstP parB x.ds).2.2 = true then e = .returned (.tuple #[.int .i64 (firstP parB x.ds).1, .int .i64 (firstP parB x.ds).2.1, .bool true]) else e = .returned (.tuple #[.int .i64 (firstP (serB x) x.ds).1, .int .i64 (firstP (serB x) x.ds).2.1, .bool (firstP (serB x) x.ds).2.2])) ∧ Below w.heap.size w w' := by
  have HN := Lib.hid h
  have HP := Lib.hid (fun v w h => implParallelPair_any x v w h hok hnn)
  have HS := Lib.hid (fun v w h => implSeriesPair_any x v w h hok hnn)
  rw [parPair_yes hv] at HP
  rw [serPair_yes hv] at HS
  obtain ⟨a, c, a', c', rfl⟩ := h.sized
  generalize firstP parB x.ds = r1 at *
  generalize firstP (serB x) x.ds = r2 at *
  clear hv h hok
  obtain ⟨p1, p2, p3⟩ := r1
  obtain ⟨q1, q2, q3⟩ := r2
  dsimp only at HP HS ⊢
  cases p3 with
  | true =>
    simp only [if_true]
    go_enter Try.func99, Try.ntmps99
    go_wp2_with (go_at_call 44; refine (HP.out _ _ (HN.out.by (by ((repeat (first | (with_reducible exact Below.refl _ _) | (with_reducible refine below_drewN ?_ _) | (with_reducible refine Below.drew ?_) | (with_reducible refine below_al ?_ _) | (with_reducible refine below_on (by assumption) ?_) | ((with_reducible refine Below.setCell ?_ ?_ _); rotate_left; focus (first | omega | (simp; done) | (simp; omega))) | (with_reducible assumption))); done)))).mono ?_; rintro e w1 ⟨rfl, hb1⟩)
    go_ret3
    exact ⟨rfl, (by ((repeat (first | (with_reducible exact Below.refl _ _) | (with_reducible refine below_drewN ?_ _) | (with_reducible refine Below.drew ?_) | (with_reducible refine below_al ?_ _) | (with_reducible refine below_on (by assumption) ?_) | ((with_reducible refine Below.setCell ?_ ?_ _); rotate_left; focus (first | omega | (simp; done) | (simp; omega))) | (with_reducible assumption))); done))⟩
  | false =>
    simp only [Bool.false_eq_true, if_false]
    go_enter Try.func99, Try.ntmps99
    go_wp2_with (first | (go_at_call 44; refine (HP.out _ _ (HN.out.by (by ((repeat (first | (with_reducible exact Below.refl _ _) | (with_reducible refine below_drewN ?_ _) | (with_reducible refine Below.drew ?_) | (with_reducible refine below_al ?_ _) | (with_reducible refine below_on (by assumption) ?_) | ((with_reducible refine Below.setCell ?_ ?_ _); rotate_left; focus (first | omega | (simp; done) | (simp; omega))) | (with_reducible assumption))); done)))).mono ?_; rintro e w1 ⟨rfl, hb1⟩; have k0 : Blk w1 w.heap.size #[.int .i64 x.nets, .slice a x.ds.length c, .slice a' x.ps.length c'] 43 := (by ((repeat (first | (with_reducible assumption) | (with_reducible refine Blk.drewN ?_ _) | (with_reducible refine Blk.drew ?_) | ((with_reducible refine Blk.new _ ?_); focus (first | omega | (simp; done) | (simp; omega))) | (with_reducible refine Blk.past ?_ _) | ((with_reducible refine Blk.apart ?_ _ _ _ ?_); rotate_left; focus (first | omega | (simp; done) | (simp; omega))) | (with_reducible refine Blk.by (by assumption) ?_))); done)); have c0 := k0.cell; have hbw : Below w.heap.size w w1 := (by ((repeat (first | (with_reducible exact Below.refl _ _) | (with_reducible refine below_drewN ?_ _) | (with_reducible refine Below.drew ?_) | (with_reducible refine below_al ?_ _) | (with_reducible refine below_on (by assumption) ?_) | ((with_reducible refine Below.setCell ?_ ?_ _); rotate_left; focus (first | omega | (simp; done) | (simp; omega))) | (with_reducible assumption))); done))) | (go_at_call 49; refine (HS.out _ _ (HN.out.by hbw)).mono ?_; rintro e w2 ⟨rfl, hb2⟩))
    go_ret3
    exact ⟨rfl, below_on hb2 hbw⟩

set_option maxRecDepth 100000 in
set_option maxHeartbeats 2000000 in
theorem implIsReduced_any (x : Nl) (v : Value) (w : World) (h : NlV w v x) (hok : ∀ p ∈ x.ps, p.ok) (hnn : Fits x.nets) :
    Calls Try.prog 51 #[v] w fun e w' => e = .returned (.bool (redB x)) ∧ Below w.heap.size w w' := by
  have HV := Lib.hid (fun v w h => implNl_any x v w h hok hnn)
  have HN := Lib.hid h
  cases hv : nlB x with
  | false =>
    obtain ⟨a, c, a', c', rfl⟩ := h.sized
    rw [hv] at HV
    have hr := Lib.hid (redB_no hv)
    generalize redB x = r at *
    clear hv h hok
    go_enter Try.func51, Try.ntmps51
    go_wp2_with (go_at_call 27; refine (HV.out _ _ (HN.out.by (by ((repeat (first | (with_reducible exact Below.refl _ _) | (with_reducible refine below_drewN ?_ _) | (with_reducible refine Below.drew ?_) | (with_reducible refine below_al ?_ _) | (with_reducible refine below_on (by assumption) ?_) | ((with_reducible refine Below.setCell ?_ ?_ _); rotate_left; focus (first | omega | (simp; done) | (simp; omega))) | (with_reducible assumption))); done)))).mono ?_; rintro e w1 ⟨rfl, hb1⟩)
    go_ret
    exact ⟨ret_bool hr.out.symm, (by ((repeat (first | (with_reducible exact Below.refl _ _) | (with_reducible refine below_drewN ?_ _) | (with_reducible refine Below.drew ?_) | (with_reducible refine below_al ?_ _) | (with_reducible refine below_on (by assumption) ?_) | ((with_reducible refine Below.setCell ?_ ?_ _); rotate_left; focus (first | omega | (simp; done) | (simp; omega))) | (with_reducible assumption))); done))⟩
  | true =>
    rw [hv] at HV
    obtain ⟨_, hl24, _, hdv, _⟩ := nlB_facts hv
    have HX := Lib.hid (fun v w h => nextPair_any x v w h hok hnn hv)
    have eg : ∀ args w, (callFunc 94 args).run Try.prog w = .ok (.enter 94 args) w := enters_of Try.func94 (by kernel_rfl) rfl
    have hcl : ∀ (w0 W : World) (d : Dv) (sv : Value), Below w0.heap.size w0 W → d ∈ x.ds → IntSl W sv d.pins → Calls Try.prog 94 (#[.agg #[.int .i64 d.kind, sv, .int .i64 d.wd, .int .i64 d.len]] ++ #[]) W fun e w' => e = .returned (.bool (shB d)) ∧ Below W.heap.size W w' := by
      intro w0 W d sv _ hd hS
      show Calls Try.prog 94 #[.agg #[.int .i64 d.kind, sv, .int .i64 d.wd, .int .i64 d.len]] W _
      exact shorted_any d sv W hS (shp_of (hdv d hd))
    have HCF := Lib.hid (fun sv w h => containsFuncD_any 94 #[] eg shB sv x.ds w h (hcl w))
    have H1 := Lib.hid (@redB_sh x)
    have H2 := Lib.hid (redB_of hv)
    have HDS : ∃ s1 s2, v = .agg #[.int .i64 x.nets, s1, s2] ∧ DvSl w s1 x.ds := by obtain ⟨s1, s2, e1, e2, _⟩ := h; exact ⟨s1, s2, e1, e2⟩
    obtain ⟨a, c, a', c', rfl⟩ := h.sized
    obtain ⟨s1, s2, e1, hDS⟩ := HDS
    simp only [Value.agg.injEq, Array.mk.injEq, List.cons.injEq, and_true, true_and] at e1
    obtain ⟨rfl, rfl⟩ := e1
    have HD := Lib.hid hDS
    generalize redB x = r at *
    generalize firstP parB x.ds = r1 at *
    generalize firstP (serB x) x.ds = r2 at *
    clear hv h hok hdv eg hcl hDS
    cases hsh : x.ds.any shB with
    | true =>
      have hr := Lib.hid (H1.out hsh)
      rw [hsh] at HCF
      clear hsh
      go_enter Try.func51, Try.ntmps51
      go_wp2_with (first | (go_at_call 27; refine (HV.out _ _ (HN.out.by (by ((repeat (first | (with_reducible exact Below.refl _ _) | (with_reducible refine below_drewN ?_ _) | (with_reducible refine Below.drew ?_) | (with_reducible refine below_al ?_ _) | (with_reducible refine below_on (by assumption) ?_) | ((with_reducible refine Below.setCell ?_ ?_ _); rotate_left; focus (first | omega | (simp; done) | (simp; omega))) | (with_reducible assumption))); done)))).mono ?_; rintro e w1 ⟨rfl, hb1⟩; have k0 : Blk w1 w.heap.size #[.int .i64 x.nets, .slice a x.ds.length c, .slice a' x.ps.length c'] 43 := (by ((repeat (first | (with_reducible assumption) | (with_reducible refine Blk.drewN ?_ _) | (with_reducible refine Blk.drew ?_) | ((with_reducible refine Blk.new _ ?_); focus (first | omega | (simp; done) | (simp; omega))) | (with_reducible refine Blk.past ?_ _) | ((with_reducible refine Blk.apart ?_ _ _ _ ?_); rotate_left; focus (first | omega | (simp; done) | (simp; omega))) | (with_reducible refine Blk.by (by assumption) ?_))); done)); have c0 := k0.cell; have hbw : Below w.heap.size w w1 := (by ((repeat (first | (with_reducible exact Below.refl _ _) | (with_reducible refine below_drewN ?_ _) | (with_reducible refine Below.drew ?_) | (with_reducible refine below_al ?_ _) | (with_reducible refine below_on (by assumption) ?_) | ((with_reducible refine Below.setCell ?_ ?_ _); rotate_left; focus (first | omega | (simp; done) | (simp; omega))) | (with_reducible assumption))); done))) | (go_at_call 75; refine (HCF.out _ _ (HD.out.by hbw)).mono ?_; rintro e w2 ⟨rfl, hb2⟩))
      go_ret
      exact ⟨ret_bool hr.out.symm, below_on hb2 hbw⟩
    | false =>
      have hr := Lib.hid (H2.out hsh)
      rw [hsh] at HCF
      clear hsh
      obtain ⟨p1, p2, p3⟩ := r1
      obtain ⟨q1, q2, q3⟩ := r2
      dsimp only at hr HX
      have HX' : ∃ t1 t2 : Int, ∀ v w, NlV w v x → Calls Try.prog 99 #[v] w fun e w' => e = .returned (.tuple #[.int .i64 t1, .int .i64 t2, .bool (p3 || q3)]) ∧ Below w.heap.size w w' := by
        cases p3 with
        | true => exact ⟨p1, p2, fun v w h => (HX.out v w h).mono (fun _ _ h => ⟨by have := h.1; simpa using this, h.2⟩)⟩
        | false => exact ⟨q1, q2, fun v w h => (HX.out v w h).mono (fun _ _ h => ⟨by have := h.1; simpa using this, h.2⟩)⟩
      obtain ⟨t1, t2, HX2⟩ := HX'
      have HX3 := Lib.hid HX2
      clear HX HX2
      go_enter Try.func51, Try.ntmps51
      go_wp2_with (first | (go_at_call 27; refine (HV.out _ _ (HN.out.by (by ((repeat (first | (with_reducible exact Below.refl _ _) | (with_reducible refine below_drewN ?_ _) | (with_reducible refine Below.drew ?_) | (with_reducible refine below_al ?_ _) | (with_reducible refine below_on (by assumption) ?_) | ((with_reducible refine Below.setCell ?_ ?_ _); rotate_left; focus (first | omega | (simp; done) | (simp; omega))) | (with_reducible assumption))); done)))).mono ?_; rintro e w1 ⟨rfl, hb1⟩; have k0 : Blk w1 w.heap.size #[.int .i64 x.nets, .slice a x.ds.length c, .slice a' x.ps.length c'] 43 := (by ((repeat (first | (with_reducible assumption) | (with_reducible refine Blk.drewN ?_ _) | (with_reducible refine Blk.drew ?_) | ((with_reducible refine Blk.new _ ?_); focus (first | omega | (simp; done) | (simp; omega))) | (with_reducible refine Blk.past ?_ _) | ((with_reducible refine Blk.apart ?_ _ _ _ ?_); rotate_left; focus (first | omega | (simp; done) | (simp; omega))) | (with_reducible refine Blk.by (by assumption) ?_))); done)); have c0 := k0.cell; have hbw : Below w.heap.size w w1 := (by ((repeat (first | (with_reducible exact Below.refl _ _) | (with_reducible refine below_drewN ?_ _) | (with_reducible refine Below.drew ?_) | (with_reducible refine below_al ?_ _) | (with_reducible refine below_on (by assumption) ?_) | ((with_reducible refine Below.setCell ?_ ?_ _); rotate_left; focus (first | omega | (simp; done) | (simp; omega))) | (with_reducible assumption))); done))) | (go_at_call 75; refine (HCF.out _ _ (HD.out.by hbw)).mono ?_; rintro e w2 ⟨rfl, hb2⟩; have k2 := Blk.by hb2 k0; have hbw2 := below_on hb2 hbw; clear c0; have c2 := k2.cell) | (go_at_call 99; refine (HX3.out _ _ (HN.out.by hbw2)).mono ?_; rintro e w3 ⟨rfl, hb3⟩))
      go_ret
      exact ⟨ret_bool (by rw [hr.out] <;> (cases p3 <;> cases q3 <;> rfl)), below_on hb3 hbw2⟩
end Go.Proofs.Ythcaipohdeigeaa
