/- Marking devices. -/
import Derived.Test.YthcaipohdeigeaaMark
import Derived.Test.YthcaipohdeigeaaNormI
namespace Go.Proofs.Ythcaipohdeigeaa
open Go.RowKit
set_option linter.unusedVariables false
set_option linter.unusedSimpArgs false

set_option maxRecDepth 100000 in
set_option maxHeartbeats 1000000 in
theorem markDevice_any (kind wd len : Int) (lo hi : Nat) (sv : Value) (zs : List Int) (k0 : Int) (w : World) (h : OwnR w lo hi sv zs) (hn : zs.length ≤ 1048576) (hk : 0 ≤ k0) (hk' : k0 ≤ 1000000000000) :
    Calls Try.prog 22 #[.agg #[.int .i64 kind, sv, .int .i64 wd, .int .i64 len], .int .i64 k0] w fun e w' => e = .returned (.int .i64 (k0 + zs.length)) ∧ OwnR w' lo hi sv (marks k0 zs.length) ∧ Within lo hi w w' := by
  have HM := Lib.hid (fun w h => markR_any lo hi sv zs k0 w h hn hk hk')
  have h1 := h.by ((Below.refl _ w).alloc (Nat.le_refl _) (.cells #[.int .i64 kind, sv, .int .i64 wd, .int .i64 len] 27))
  obtain ⟨a, c, rfl⟩ := h.sl.len
  have hW := (Within.refl lo hi w).alloc (.cells #[.int .i64 kind, .slice a zs.length c, .int .i64 wd, .int .i64 len] 27)
  generalize hr : k0 + (zs.length : Int) = r at *
  clear hr h
  go_enter Try.func22, Try.ntmps22
  go_wp2_with fail
  refine (HM.out _ h1).mono ?_
  rintro e w1 ⟨rfl, hO, hw1⟩
  go_wp2
  go_ret
  exact ⟨rfl, hO, hW.on hw1⟩

set_option maxRecDepth 100000 in
set_option maxHeartbeats 1000000 in
theorem heldDevice_any (kind wd len : Int) (sv : Value) (n : Nat) (k0 : Int) (w : World) (h : IntSl w sv (marks k0 n)) (hn : n ≤ 1048576) (hk : 0 ≤ k0) (hk' : k0 ≤ 1000000000000) :
    Calls Try.prog 23 #[.agg #[.int .i64 kind, sv, .int .i64 wd, .int .i64 len], .int .i64 k0] w fun e w' => e = .returned (.int .i64 (k0 + n)) ∧ Below w.heap.size w w' := by
  have HM := Lib.hid (fun w h => heldInt64S_any sv n k0 w h hn hk hk')
  have h1 := h.by ((Below.refl _ w).alloc (Nat.le_refl _) (.cells #[.int .i64 kind, sv, .int .i64 wd, .int .i64 len] 27))
  obtain ⟨a, c, rfl⟩ := h.len
  have hpos : 0 ≤ k0 + (n : Int) := by omega
  generalize hr : k0 + (n : Int) = r at *
  clear hr h
  go_enter Try.func23, Try.ntmps23
  go_wp2_with fail
  refine (HM.out _ h1).mono ?_
  rintro e w1 ⟨rfl, m, rfl⟩
  go_wp2
  go_ret
  exact ⟨rfl, (by ((repeat (first | (with_reducible exact Below.refl _ _) | (with_reducible refine below_drewN ?_ _) | (with_reducible refine Below.drew ?_) | (with_reducible refine below_al ?_ _) | (with_reducible refine below_on (by assumption) ?_) | ((with_reducible refine Below.setCell ?_ ?_ _); rotate_left; focus (first | omega | (simp; done) | (simp; omega))) | (with_reducible assumption))); done))⟩
end Go.Proofs.Ythcaipohdeigeaa
