/- The walk of FnExactColorClasses. -/
import Derived.Test.YtjldkejegdljiaaClsX
import Derived.Test.YtjldkejegdljiaaIntB
import Derived.Test.YtjldkejegdljiaaNlOwns
import Derived.Test.YtjldkejegdljiaaNls
import Derived.Deep.DeepCutAuto
import Derived.Deep.RegionHeld3
namespace Go.Proofs.Ytjldkejegdljiaa.fnExactColorClasses
open Go.RowKit Go.Proofs.Ytjldkejegdljiaa
set_option linter.unusedVariables false
set_option linter.unusedSimpArgs false

set_option maxRecDepth 100000 in
set_option maxHeartbeats 16000000 in
theorem walk (v0 : Value) (w : World) (x : List Int) (w0 : IsIntSl w v0 x) :
    Calls Try.prog 5 #[v0] w fun e w' => e = .returned (.bool true) ∧ Below w.heap.size w w' := by
  obtain ⟨hV0, h0z⟩ := w0
  by_cases hbig : 1048576 < x.length
  · have HV0 := Lib.hid hV0
    obtain ⟨a0, c0, rfl⟩ := hV0.len
    clear hV0
    generalize x.length = len0 at *
    clear HV0
    go_enter Try.func5, Try.ntmps5
    go_wp2
    go_ret
    exact ⟨rfl, (by ((repeat (first | (with_reducible exact Below.refl _ _) | (with_reducible refine below_drewN ?_ _) | (with_reducible refine Below.drew ?_) | (with_reducible refine below_al ?_ _) | (with_reducible refine below_on (by assumption) ?_) | ((with_reducible refine Below.setCell ?_ ?_ _); rotate_left; focus (first | omega | (simp; done) | (simp; omega))) | (with_reducible assumption))); done))⟩
  have n0a : x.length ≤ 1048576 := by omega
  have n0q : (x.length : Int) ≤ 1048576 := by omega
  clear hbig
  have HTO0 := Lib.hid (fun v w h => toInts_own v x w h n0a)
  have HTOO0 := Lib.hid (fun v w h => toInts_own v x w h n0a)
  have HEQ0 := Lib.hid (fun v1 v2 w h1 h2 => eqInts_refl v1 v2 x w h1 h2)
  have HSP := Lib.hid (fun u0 w h0 => specClasses_any u0 x w h0 n0a)
  have HIM := Lib.hid (fun u0 w h0 => implClasses_any u0 x w h0 n0a)
  have HMX00 : ∀ lo hi v w, OwnR w lo hi v x → Calls Try.prog 21 #[v, .int .i64 1] w fun e w' => e = .returned (.int .i64 ((1 + x.length : Nat) : Int)) ∧ OwnR w' lo hi v (marks 1 x.length) ∧ Within lo hi w w' := fun lo hi v w h => markInts_any lo hi v x 1 w h n0a (by omega) (by omega)
  obtain ⟨mx0, hmx0⟩ : ∃ m : Nat, 1 + x.length = m := ⟨_, rfl⟩
  have hmx0a : 0 < mx0 ∧ mx0 ≤ 4000001 := by omega
  rw [hmx0] at HMX00
  have HMX0 := Lib.hid HMX00
  clear HMX00 hmx0
  have hmx0 : decide ((mx0 : Int) < 0) = false := decide_eq_false (by omega)
  have hyb := clsS_bounds x
  generalize clsS x = y at *
  have hyn : lsum y y.length ≤ 4000000 := hyb.2.1
  have HEQY := Lib.hid (fun v1 v2 w h1 h2 => eqLl_refl v1 v2 y hyb.2.2 w h1 h2)
  have HMY0 : ∀ lo hi v w, OwnLl w lo hi v y → Calls Try.prog 22 #[v, .int .i64 1] w fun e w' => e = .returned (.int .i64 ((1 + lsum y y.length : Nat) : Int)) ∧ OwnLl w' lo hi v (markL 1 y) ∧ Within lo hi w w' := fun lo hi v w h => markLl_any lo hi v y 1 w h hyb.1 (by omega) (by omega)
  have HHY0 : ∀ v w, LlSl w v (markL 1 y) → Calls Try.prog 23 #[v, .int .i64 1] w fun e w' => e = .returned (.int .i64 ((1 + lsum y y.length : Nat) : Int)) ∧ Below w.heap.size w w' := fun v w h => heldLl_any v y 1 w h hyb.1 hyb.2.2 (by omega) (by omega)
  obtain ⟨my, hmy⟩ : ∃ m : Nat, 1 + lsum y y.length = m := ⟨_, rfl⟩
  rw [hmy] at HMY0 HHY0
  have hmy0 : decide ((my : Int) < 0) = false := decide_eq_false (by omega)
  have HMY := Lib.hid HMY0
  have HHY := Lib.hid HHY0
  have HV0 := Lib.hid hV0
  obtain ⟨a0, c0, rfl⟩ := hV0.len
  clear HMY0 HHY0 hmy hyn hyb hV0 h0z n0a
  go_enter Try.func5, Try.ntmps5
  have hW : Below w.heap.size w w := Below.refl _ _
  go_wp2_with fail
  refine (HTO0.out _ _ (HV0.out.by hW)).mono ?_
  rintro e t10 ⟨v, rfl, hN0, hb⟩
  have hN := hN0.sl
  clear hN0
  replace hW := below_on hb hW
  clear hb
  have HN10 := Lib.hid hN
  obtain ⟨a10, c10, rfl⟩ := hN.len
  clear hN
  go_wp2_with fail
  refine (HSP.out _ _ HN10.out).mono ?_
  rintro e t20 ⟨v, rfl, hO, hb⟩
  clear HN10
  have gw := hW.size
  have hbdW := hb.size
  replace hW := below_on hb hW
  clear hb
  try simp only [World.size_alloc, World.size_drew, size_drewN] at hbdW hO
  obtain ⟨Wl, Wh, hbeW, hO⟩ : ∃ l h, (_ ≤ l ∧ l ≤ h ∧ h ≤ t20.heap.size) ∧ ReadL t20 l h _ y := ⟨_, _, ⟨Nat.le_refl _, hbdW, Nat.le_refl _⟩, hO⟩
  clear hbdW
  have OW := Lib.hid hO
  obtain ⟨aW, cW, rfl⟩ := hO.ll.sized
  clear hO
  try generalize t10.heap.size = pp0 at *
  go_wp2_with fail
  refine (HTOO0.out _ _ (HV0.out.by hW)).mono ?_
  rintro e t30 ⟨v, rfl, hO, hb⟩
  have hbdX0 := hb.size
  replace OW := Lib.hid (OW.out.by hb)
  replace hW := below_on hb hW
  clear hb
  try simp only [World.size_alloc, World.size_drew, size_drewN] at hbdX0 hO
  obtain ⟨X0l, X0h, hbeX0, hO⟩ : ∃ l h, (_ ≤ l ∧ l ≤ h ∧ h ≤ t30.heap.size) ∧ OwnR t30 l h _ x := ⟨_, _, ⟨Nat.le_refl _, hbdX0, Nat.le_refl _⟩, hO⟩
  clear hbdX0
  have OX0 := Lib.hid hO
  obtain ⟨aX0, cX0, rfl⟩ := hO.sl.len
  clear hO
  try generalize t20.heap.size = pp1 at *
  go_wp2_with fail
  refine (HIM.out _ _ OX0.out.sl).mono ?_
  rintro e t40 ⟨v, rfl, hO, hb⟩
  have hbdG := hb.size
  replace OW := Lib.hid (OW.out.by hb)
  replace OX0 := Lib.hid (OX0.out.by hb)
  replace hW := below_on hb hW
  clear hb
  try simp only [World.size_alloc, World.size_drew, size_drewN] at hbdG hO
  obtain ⟨Gl, Gh, hbeG, hO⟩ : ∃ l h, (_ ≤ l ∧ l ≤ h ∧ h ≤ t40.heap.size) ∧ OwnLl t40 l h _ y := ⟨_, _, ⟨Nat.le_refl _, hbdG, Nat.le_refl _⟩, hO⟩
  clear hbdG
  have OG := Lib.hid hO
  obtain ⟨aG, cG, rfl⟩ := hO.ll.sized
  clear hO
  try generalize t30.heap.size = pp2 at *
  go_wp2_with fail
  refine (HEQY.out _ _ _ OG.out.ll OW.out.ll).mono ?_
  rintro e t41 ⟨rfl, hb⟩
  replace OW := Lib.hid (OW.out.by hb)
  replace OX0 := Lib.hid (OX0.out.by hb)
  replace OG := Lib.hid (OG.out.by hb)
  replace hW := below_on hb hW
  clear hb
  try generalize t40.heap.size = pp3 at *
  go_wp2_with fail
  refine (HTO0.out _ _ (HV0.out.by hW)).mono ?_
  rintro e t50 ⟨v, rfl, hN0, hb⟩
  replace OW := Lib.hid (OW.out.by hb)
  replace OX0 := Lib.hid (OX0.out.by hb)
  replace OG := Lib.hid (OG.out.by hb)
  replace hW := below_on hb hW
  clear hb
  have HN50 := Lib.hid hN0.sl
  obtain ⟨a50, c50, rfl⟩ := hN0.sl.len
  clear hN0
  go_wp2_with fail
  refine (HEQ0.out _ _ _ OX0.out.sl HN50.out).mono ?_
  rintro e t51 ⟨rfl, hb⟩
  replace OW := Lib.hid (OW.out.by hb)
  replace OX0 := Lib.hid (OX0.out.by hb)
  replace OG := Lib.hid (OG.out.by hb)
  replace hW := below_on hb hW
  clear hb HN50
  go_wp2_with fail
  refine (HMX0.out _ _ _ _ OX0.out ).mono ?_
  rintro e t60 ⟨rfl, hO, hw⟩
  replace OW := Lib.hid (OW.out.past hw (by omega))
  replace OG := Lib.hid (OG.out.past hw (by omega))
  replace hW := hw.below hW (by omega)
  replace OX0 := Lib.hid hO
  clear hO hw
  go_wp2_with fail
  refine (HEQY.out _ _ _ OG.out.ll OW.out.ll).mono ?_
  rintro e t70 ⟨rfl, hb⟩
  replace OW := Lib.hid (OW.out.by hb)
  replace OX0 := Lib.hid (OX0.out.by hb)
  replace OG := Lib.hid (OG.out.by hb)
  replace hW := below_on hb hW
  clear hb
  go_wp2_with fail
  refine (HMY.out _ _ _ _ OG.out ).mono ?_
  rintro e t71 ⟨rfl, hO, hw⟩
  replace OW := Lib.hid (OW.out.past hw (by omega))
  replace OX0 := Lib.hid (OX0.out.past hw (by omega))
  replace hW := hw.below hW (by omega)
  replace OG := Lib.hid hO
  clear hO hw
  go_wp2_with fail
  refine (HHY.out _ _ OG.out.ll).mono ?_
  rintro e t72 ⟨rfl, hb⟩
  replace OW := Lib.hid (OW.out.by hb)
  replace OX0 := Lib.hid (OX0.out.by hb)
  replace OG := Lib.hid (OG.out.by hb)
  replace hW := below_on hb hW
  clear hb
  go_wp2_with fail
  refine (HTO0.out _ _ (HV0.out.by hW)).mono ?_
  rintro e t80 ⟨v, rfl, hN0, hb⟩
  have hN := hN0.sl
  clear hN0
  replace OW := Lib.hid (OW.out.by hb)
  replace OX0 := Lib.hid (OX0.out.by hb)
  replace OG := Lib.hid (OG.out.by hb)
  replace hW := below_on hb hW
  clear hb
  have HN80 := Lib.hid hN
  obtain ⟨a80, c80, rfl⟩ := hN.len
  clear hN
  go_wp2_with fail
  refine (HIM.out _ _ HN80.out).mono ?_
  rintro e t90 ⟨v, rfl, hO, hb⟩
  clear HN80
  have hbdH := hb.size
  replace OW := Lib.hid (OW.out.by hb)
  replace OX0 := Lib.hid (OX0.out.by hb)
  replace OG := Lib.hid (OG.out.by hb)
  replace hW := below_on hb hW
  clear hb
  try simp only [World.size_alloc, World.size_drew, size_drewN] at hbdH hO
  obtain ⟨Hl, Hh, hbeH, hO⟩ : ∃ l h, (_ ≤ l ∧ l ≤ h ∧ h ≤ t90.heap.size) ∧ OwnLl t90 l h _ y := ⟨_, _, ⟨Nat.le_refl _, hbdH, Nat.le_refl _⟩, hO⟩
  clear hbdH
  have OH := Lib.hid hO
  obtain ⟨aH, cH, rfl⟩ := hO.ll.sized
  clear hO
  try generalize t80.heap.size = pp4 at *
  go_wp2_with fail
  refine (HEQY.out _ _ _ OH.out.ll OW.out.ll).mono ?_
  rintro e t91 ⟨rfl, hb⟩
  replace OW := Lib.hid (OW.out.by hb)
  replace OX0 := Lib.hid (OX0.out.by hb)
  replace OG := Lib.hid (OG.out.by hb)
  replace OH := Lib.hid (OH.out.by hb)
  replace hW := below_on hb hW
  clear hb
  try generalize t90.heap.size = pp5 at *
  go_wp2_with fail
  refine (HHY.out _ _ OG.out.ll).mono ?_
  rintro e t92 ⟨rfl, hb⟩
  replace OW := Lib.hid (OW.out.by hb)
  replace OX0 := Lib.hid (OX0.out.by hb)
  replace OG := Lib.hid (OG.out.by hb)
  replace OH := Lib.hid (OH.out.by hb)
  replace hW := below_on hb hW
  clear hb
  go_wp2
  go_ret
  exact ⟨rfl, hW⟩
end Go.Proofs.Ytjldkejegdljiaa.fnExactColorClasses
