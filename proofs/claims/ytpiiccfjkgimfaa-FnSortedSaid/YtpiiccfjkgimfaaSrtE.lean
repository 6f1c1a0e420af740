/- slices.SortStableFunc at fewer than 40 devices: as a whole. -/
import Derived.Test.YtpiiccfjkgimfaaSrtD
namespace Go.Proofs.Ytpiiccfjkgimfaa
open Go.RowKit
open Go.Sort (swp PermIn SortedIn SWO size_swp swp_get swp_other swp_left swp_right Ins)
set_option linter.unusedVariables false
set_option linter.unusedSimpArgs false

set_option maxRecDepth 100000 in
set_option maxHeartbeats 1000000 in
theorem insSort_none (gf : Nat) (lb : Array Value) (a : Option Addr) (c : Nat) (w : World) :
    Calls Try.prog 141 #[.slice a 0 c, .int .i64 0, .int .i64 0, .func (.func gf) #[] lb] w fun e w' => e = .returned (.tuple #[]) ∧ w = w' := by
  go_enter Try.func141, Try.ntmps141
  go_wp2
  refine wp_loop_rounds 1 ?_
  rw [rounds_succ]
  go_wp2
  go_end0
  exact ⟨by rfl, by rfl⟩
set_option maxRecDepth 100000 in
set_option maxHeartbeats 1000000 in
theorem stable_none (gf : Nat) (lb : Array Value) (a : Option Addr) (c : Nat) (w : World) :
    Calls Try.prog 129 #[.slice a 0 c, .int .i64 0, .func (.func gf) #[] lb] w fun e w' => e = .returned (.tuple #[]) ∧ w = w' := by
  go_enter Try.func129, Try.ntmps129
  go_wp2
  refine wp_loop_rounds 1 ?_
  rw [rounds_succ]
  go_wp2_with (go_at_call 141; refine (insSort_none gf lb a c _).mono ?_; rintro e w1 ⟨rfl, rfl⟩)
  refine wp_loop_rounds 1 ?_
  rw [rounds_succ]
  go_wp2
  go_end0
  exact ⟨by rfl, by rfl⟩
set_option maxRecDepth 100000 in
set_option maxHeartbeats 4000000 in
/-- slices.SortStableFunc at devices of the call's own. -/
theorem sortStableD_any (gf : Nat) (lb : Array Value) (eg : ∀ args w, (callFunc gf args).run Try.prog w = .ok (.enter gf args) w) (hc : DCmp gf lb) (lo hi : Nat) (sv : Value) (ds : List Dv) (w : World) (h : OwnDs w lo hi sv ds) (hsz : ds.length < 40) :
    Calls Try.prog 98 #[sv, .func (.func gf) #[] lb] w fun e w' => e = .returned (.tuple #[]) ∧ OwnDs w' lo hi sv (srtD ds) ∧ Within lo hi w w' := by
  by_cases h0 : ds = []
  · subst h0
    have HO := Lib.hid h
    obtain ⟨a, c, rfl⟩ := h.sl.sized
    clear h
    have e0 : srtD [] = [] := by simp [srtD]
    rw [e0]
    go_enter Try.func98, Try.ntmps98
    go_wp2_with (go_at_call 129; refine (stable_none gf lb a c _).mono ?_; rintro e w1 ⟨rfl, rfl⟩)
    go_end0
    exact ⟨by rfl, HO.out, Within.refl _ _ _⟩
  · obtain ⟨g, cap, d, rfl, hdz, hg, h1, h2, hR, hds, hnd, hbd⟩ := h.row h0
    have HI := Lib.hid (stable_any gf lb eg hc g cap d.size d w hR rfl (by omega) (by omega))
    have HD := Lib.hid (fun w' d' a b c => @DRow.sorted w' g d d' lo hi cap ds a b c hds hg h1 h2 hnd hbd)
    have HSZ := Lib.hid (show g < hi by omega)
    have HG := Lib.hid hg
    clear h hR hdz hds hnd hbd h1 h2 hsz hg
    generalize d.size = n at *
    go_enter Try.func98, Try.ntmps98
    go_wp2_with (go_at_call 129; refine HI.out.mono ?_; rintro e w1 ⟨rfl, d1, hR1, hS1, hP1, hW1⟩)
    go_end0
    exact ⟨by rfl, HD.out w1 d1 hR1 hP1 hS1, hW1.sub HG.out.1 (by have := HG.out.2; omega)⟩
end Go.Proofs.Ytpiiccfjkgimfaa
