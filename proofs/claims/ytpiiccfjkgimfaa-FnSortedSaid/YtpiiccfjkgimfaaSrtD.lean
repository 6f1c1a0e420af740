/- slices.SortStableFunc at fewer than 40 devices. -/
import Derived.Test.YtpiiccfjkgimfaaSrtZ
namespace Go.Proofs.Ytpiiccfjkgimfaa
open Go.RowKit
open Go.Sort (swp PermIn SortedIn SWO size_swp swp_get swp_other swp_left swp_right Ins)
set_option linter.unusedVariables false
set_option linter.unusedSimpArgs false

theorem symMerge_any (gf : Nat) (lb : Array Value) (eg : ∀ args w, (callFunc gf args).run Try.prog w = .ok (.enter gf args) w) (hc : DCmp gf lb) (g cap : Nat) : ∀ (N a m b : Nat) (d : Array (Dv × Nat)) (w : World), b - a ≤ N → DRow w g d → a < m → m < b → b ≤ d.size → d.size ≤ 1000 → d.size ≤ cap → SortedIn dltP a m d → SortedIn dltP m b d → Merges gf lb g cap a m b d w
  | 0, a, m, b, d, w, hN, h, h1, h2, _, _, _, _, _ => by omega
  | N + 1, a, m, b, d, w, hN, h, h1, h2, h3, h4, h5, h6, h7 => by
    by_cases q1 : m = a + 1
    · exact symMerge_first gf lb eg hc g cap a m b d w h q1 h2 h3 h4 h5 (by rw [← q1]; exact h7)
    · by_cases q2 : b = m + 1
      · exact symMerge_last gf lb eg hc g cap a m b d w h q2 (by omega) h3 h4 h5 h6
      · exact symMerge_mid gf lb eg hc g cap a m b d w h (by omega) (by omega) h3 h4 h5 h6 h7 (fun a' m' b' d' w' e1 e2 e3 e4 e5 e6 e7 e8 => symMerge_any gf lb eg hc g cap N a' m' b' d' w' (by omega) e2 e3 e4 e5 (by omega) (by omega) e7 e8)

set_option maxRecDepth 100000 in
set_option maxHeartbeats 4000000 in
theorem stable_any (gf : Nat) (lb : Array Value) (eg : ∀ args w, (callFunc gf args).run Try.prog w = .ok (.enter gf args) w) (hc : DCmp gf lb) (g cap n : Nat) (d : Array (Dv × Nat)) (w : World) (h : DRow w g d) (hn : d.size = n) (hsz : n < 40) (hcap : n ≤ cap) :
    Calls Try.prog 129 #[.slice (some ⟨g, 0, none⟩) n cap, .int .i64 n, .func (.func gf) #[] lb] w fun e w' =>
      e = .returned (.tuple #[]) ∧ ∃ d', DRow w' g d' ∧ SortedIn dltP 0 n d' ∧ PermIn 0 n d d' ∧ Within g (g + 1) w w' := by
  by_cases hlt : n < 20
  · have HI := Lib.hid (insSort_any gf lb eg hc g cap 0 n d w h (by omega) (by omega) (by omega) (by omega))
    rw [hn] at HI
    have i1 : ¬ (20 : Int) ≤ (n : Int) := by omega
    have i2 : ¬ (20 : Int) < (n : Int) := by omega
    clear h hc
    have HN := Lib.hid hn
    clear hn
    go_enter Try.func129, Try.ntmps129
    go_wp2
    refine wp_loop_rounds 1 ?_
    rw [rounds_succ]
    go_wp2_with (go_at_call 141; refine HI.out.mono ?_; rintro e w1 ⟨rfl, d1, hR1, hS1, hP1, hW1⟩)
    refine wp_loop_rounds 1 ?_
    rw [rounds_succ]
    go_wp2
    go_end0
    exact ⟨by rfl, d1, hR1, hS1, hP1, hW1⟩
  · have H1 := Lib.hid (insSort_any gf lb eg hc g cap 0 20 d w h (by omega) (by omega) (by omega) (by omega))
    have H2 := Lib.hid (fun d1 w1 (hR : DRow w1 g d1) (hz : d1.size = n) => by
      have := insSort_any gf lb eg hc g cap 20 n d1 w1 hR (by omega) (by omega) (by omega) (by omega)
      rw [hz] at this
      exact this)
    have H3 := Lib.hid (fun d1 w1 (hR : DRow w1 g d1) (hz : d1.size = n) (hq : 20 < n) (hs1 : SortedIn dltP 0 20 d1) (hs2 : SortedIn dltP 20 n d1) => by
      have := symMerge_any gf lb eg hc g cap (n - 0) 0 20 n d1 w1 (Nat.le_refl _) hR (by omega) hq (by omega) (by omega) (by omega) hs1 hs2
      unfold Merges at this
      rw [hz] at this
      exact this)
    rw [hn] at H1
    have i1 : (20 : Int) ≤ (n : Int) := by omega
    have i2 : ¬ (40 : Int) ≤ (n : Int) := by omega
    have i3 : ¬ (40 : Int) < (n : Int) := by omega
    clear h hc
    have HN := Lib.hid hn
    clear hn
    go_enter Try.func129, Try.ntmps129
    go_wp2
    refine wp_loop_rounds 2 ?_
    rw [rounds_succ]
    go_wp2_with (go_at_call 141; refine H1.out.mono ?_; rintro e w1 ⟨rfl, d1, hR1, hS1, hP1, hW1⟩)
    have HR1 := Lib.hid hR1
    have HS1 := Lib.hid hS1
    have HP1 := Lib.hid hP1
    have HZ1 := Lib.hid (hP1.1.trans HN.out)
    clear hR1 hS1 hP1 H1
    rw [rounds_succ]
    go_wp2_with (go_at_call 141; refine (H2.out d1 w1 HR1.out HZ1.out).mono ?_; rintro e w2 ⟨rfl, d2, hR2, hS2, hP2, hW2⟩)
    have HR2 := Lib.hid hR2
    have HS2 := Lib.hid hS2
    have HP2 := Lib.hid hP2
    have HZ2 := Lib.hid (hP2.1.trans HZ1.out)
    have HS3 := Lib.hid (SortedIn.out HS1.out hP2 (.inl (Nat.le_refl _)))
    have HP3 := Lib.hid (PermIn.on (PermIn.wide HP1.out (Nat.le_refl _) (show 20 ≤ n by omega) (by rw [HN.out]; exact Nat.le_refl _)) (PermIn.wide hP2 (Nat.zero_le _) (Nat.le_refl _) (by rw [HZ1.out]; exact Nat.le_refl _)))
    clear hR2 hS2 hP2
    by_cases hq : 20 < n
    · have i4 : (20 : Int) < (n : Int) := by omega
      refine wp_loop_rounds 2 ?_
      rw [rounds_succ]
      go_wp2
      refine wp_loop_rounds 1 ?_
      rw [rounds_succ]
      go_wp2_with (go_at_call 142; refine (H3.out d2 w2 HR2.out HZ2.out hq HS3.out HS2.out).mono ?_; rintro e w3 ⟨rfl, d3, hR3, hS3, hP3, hW3⟩)
      rw [rounds_succ]
      go_wp2
      go_end0
      exact ⟨by rfl, d3, hR3, hS3, PermIn.on HP3.out hP3, (hW1.on hW2).on hW3⟩
    · have hn20 : n = 20 := by omega
      have HS4 := Lib.hid (show SortedIn dltP 0 n d2 by rw [hn20]; exact HS3.out)
      have i4 : ¬ (20 : Int) < (n : Int) := by omega
      clear hn20
      refine wp_loop_rounds 1 ?_
      rw [rounds_succ]
      go_wp2
      go_end0
      exact ⟨by rfl, d2, HR2.out, HS4.out, HP3.out, hW1.on hW2⟩

end Go.Proofs.Ytpiiccfjkgimfaa
