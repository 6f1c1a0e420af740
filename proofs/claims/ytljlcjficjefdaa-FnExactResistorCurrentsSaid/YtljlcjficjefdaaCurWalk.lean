/- The walk of FnExactResistorCurrents. -/
import Derived.Test.YtljlcjficjefdaaCurI
import Derived.Test.YtljlcjficjefdaaPot
import Derived.Test.YtljlcjficjefdaaNw
import Derived.Deep.DeepCutAuto
import Derived.Deep.RegionHeld3
namespace Go.Proofs.Ytljlcjficjefdaa.fnExactResistorCurrents
open Go.RowKit Go.Proofs.Ytljlcjficjefdaa
set_option linter.unusedVariables false
set_option linter.unusedSimpArgs false

set_option maxRecDepth 100000 in
set_option maxHeartbeats 16000000 in
theorem walk (v0 : Value) (v1 : Value) (v2 : Value) (w : World) (x : Nw) (w0 : IsNwV w v0 x) (a : Int) (w1 : IsI64 v1 a) (b : Int) (w2 : IsI64 v2 b) :
    Calls Try.prog 5 #[v0, v1, v2] w fun e w' => e = .returned (.bool true) ∧ Below w.heap.size w w' := by
  obtain ⟨hV0, h0f, h0k⟩ := w0
  obtain ⟨rfl, ab⟩ := w1
  obtain ⟨rfl, bb⟩ := w2
  have HSZ0 := fun w h => szNw_any v0 x 1048576 w h (by omega) (by omega)
  by_cases hbig : (1048576 : Int) < (x.rs.length : Int)
  · simp only [if_pos hbig] at HSZ0
    have HZ0 := Lib.hid HSZ0
    clear HSZ0 hbig
    have HV0 := Lib.hid hV0
    obtain ⟨a0, c0, rfl⟩ := hV0.sized
    clear hV0
    go_enter Try.func5, Try.ntmps5
    go_wp2_with fail
    refine (HZ0.out _ (HV0.out.by (by ((repeat (first | (with_reducible exact Below.refl _ _) | (with_reducible refine below_drewN ?_ _) | (with_reducible refine Below.drew ?_) | (with_reducible refine below_al ?_ _) | (with_reducible refine below_on (by assumption) ?_) | ((with_reducible refine Below.setCell ?_ ?_ _); rotate_left; focus (first | omega | (simp; done) | (simp; omega))) | (with_reducible assumption))); done)))).mono ?_
    rintro e s0 ⟨rfl, hb⟩
    go_wp2
    go_ret
    exact ⟨rfl, (by ((repeat (first | (with_reducible exact Below.refl _ _) | (with_reducible refine below_drewN ?_ _) | (with_reducible refine Below.drew ?_) | (with_reducible refine below_al ?_ _) | (with_reducible refine below_on (by assumption) ?_) | ((with_reducible refine Below.setCell ?_ ?_ _); rotate_left; focus (first | omega | (simp; done) | (simp; omega))) | (with_reducible assumption))); done))⟩
  simp only [if_neg hbig] at HSZ0
  have n0a : x.rs.length ≤ 1048576 := by omega
  have hxn0 : nwsum x ≤ 4194304 := by unfold nwsum; omega
  have hsn0 : 0 ≤ (x.rs.length : Int) := by omega
  obtain ⟨l0, hl0⟩ : ∃ l : Int, (1048576 : Int) - (x.rs.length : Int) = l := ⟨_, rfl⟩
  have hl0a : 0 ≤ l0 := by omega
  have hl0b : l0 ≤ 1048576 := by omega
  rw [hl0] at HSZ0
  have HZ0 := Lib.hid HSZ0
  clear HSZ0 hbig hl0 hsn0
  have HTO0 := Lib.hid (fun v w h => toNetwork_nw v x w h n0a)
  have HTOO0 := Lib.hid (fun v w h => toNetwork_own v x w h n0a)
  have HEQ0 := Lib.hid (fun v1 v2 w h1 h2 => eqNetwork_nw v1 v2 x w h1 h2)
  have HSP := Lib.hid (fun u0 w h0 => specCur_any x a b u0 w h0 h0k h0f)
  have HIM := Lib.hid (fun u0 w h0 => implCur_any x a b u0 w h0 h0k h0f)
  have HMX00 : ∀ lo hi v w, OwnNw w lo hi v x → hi ≤ w.heap.size → Calls Try.prog 18 #[v, .int .i64 1] w fun e w' => e = .returned (.int .i64 ((1 + nwsum x : Nat) : Int)) ∧ OwnNw w' lo hi v (markNw 1 x) ∧ Within lo hi w w' := fun lo hi v w h hl => markNetwork_any lo hi v x 1 w h hl (by omega) (by omega)
  obtain ⟨mx0, hmx0⟩ : ∃ m : Nat, 1 + nwsum x = m := ⟨_, rfl⟩
  have hmx0a : 0 < mx0 ∧ mx0 ≤ 4200001 := by omega
  rw [hmx0] at HMX00
  have HMX0 := Lib.hid HMX00
  clear HMX00 hmx0
  have hmx0 : decide ((mx0 : Int) < 0) = false := decide_eq_false (by omega)
  have hyb := curS_bd x a b
  generalize curS x a b = y at *
  generalize nkC x a b = p0 at *
  have hyn : 2 * y.length ≤ 4000000 := by omega
  have HEQY := Lib.hid (fun v1 v2 w h1 h2 => eqRatioS_refl v1 v2 y w h1 h2)
  have HMY0 : ∀ lo hi v w, OwnRat w lo hi v y → Calls Try.prog 19 #[v, .int .i64 1] w fun e w' => e = .returned (.int .i64 ((1 + 2 * y.length : Nat) : Int)) ∧ OwnRat w' lo hi v (markRat 1 y.length) ∧ Within lo hi w w' := fun lo hi v w h => markRatioS_any lo hi v y 1 w h (by omega) (by omega)
  have HHY0 : ∀ v w, RatSl w v (markRat 1 y.length) → Calls Try.prog 20 #[v, .int .i64 1] w fun e w' => e = .returned (.int .i64 ((1 + 2 * y.length : Nat) : Int)) ∧ Below w.heap.size w w' := fun v w h => heldRatioS_any v y.length 1 w h (by omega) (by omega)
  obtain ⟨my, hmy⟩ : ∃ m : Nat, 1 + 2 * y.length = m := ⟨_, rfl⟩
  rw [hmy] at HMY0 HHY0
  have hmy0 : decide ((my : Int) < 0) = false := decide_eq_false (by omega)
  have HMY := Lib.hid HMY0
  have HHY := Lib.hid HHY0
  have HV0 := Lib.hid hV0
  obtain ⟨a0, c0, rfl⟩ := hV0.sized
  clear HMY0 HHY0 hmy hyn hyb hV0 h0f h0k n0a hxn0
  go_enter Try.func5, Try.ntmps5
  go_wp2_with fail
  refine (HZ0.out _ (HV0.out.by (by ((repeat (first | (with_reducible exact Below.refl _ _) | (with_reducible refine below_drewN ?_ _) | (with_reducible refine Below.drew ?_) | (with_reducible refine below_al ?_ _) | (with_reducible refine below_on (by assumption) ?_) | ((with_reducible refine Below.setCell ?_ ?_ _); rotate_left; focus (first | omega | (simp; done) | (simp; omega))) | (with_reducible assumption))); done)))).mono ?_
  rintro e s0 ⟨rfl, hb⟩
  have kA0 : Blk s0 (w.heap.size) #[.int .i64 x.nodes, .slice a0 x.rs.length c0] 24 := (by ((repeat (first | (with_reducible assumption) | (with_reducible refine Blk.drewN ?_ _) | (with_reducible refine Blk.drew ?_) | ((with_reducible refine Blk.new _ ?_); focus (first | omega | (simp; done) | (simp; omega))) | (with_reducible refine Blk.past ?_ _) | ((with_reducible refine Blk.apart ?_ _ _ _ ?_); rotate_left; focus (first | omega | (simp; done) | (simp; omega))) | (with_reducible refine Blk.by (by assumption) ?_))); done))
  have hW : Below w.heap.size w s0 := (by ((repeat (first | (with_reducible exact Below.refl _ _) | (with_reducible refine below_drewN ?_ _) | (with_reducible refine Below.drew ?_) | (with_reducible refine below_al ?_ _) | (with_reducible refine below_on (by assumption) ?_) | ((with_reducible refine Below.setCell ?_ ?_ _); rotate_left; focus (first | omega | (simp; done) | (simp; omega))) | (with_reducible assumption))); done))
  clear hb 
  have cA0 := kA0.cell
  clear cA0
  have qA0 := kA0.cell
  have lA0 := kA0.lt
  go_wp2_with fail
  refine (HTO0.out _ _ (HV0.out.by hW)).mono ?_
  rintro e t10 ⟨v, rfl, hN, hb⟩
  clear qA0 lA0
  replace kA0 := Blk.by hb kA0
  replace hW := below_on hb hW
  clear hb
  have HN10 := Lib.hid hN
  obtain ⟨a10, c10, rfl⟩ := hN.sized
  clear hN
  have qA0 := kA0.cell
  have lA0 := kA0.lt
  go_wp2_with fail
  refine (HSP.out _ _ HN10.out).mono ?_
  rintro e t20 ⟨v, rfl, hO, hb⟩
  clear qA0 lA0
  clear HN10
  have gw := hW.size
  have gA0 := kA0.lt
  have hbdW := hb.size
  replace kA0 := Blk.by hb kA0
  replace hW := below_on hb hW
  clear hb
  try simp only [World.size_alloc, World.size_drew, size_drewN] at hbdW hO
  obtain ⟨Wl, Wh, hbeW, hO⟩ : ∃ l h, (_ ≤ l ∧ l ≤ h ∧ h ≤ t20.heap.size) ∧ OwnRat t20 l h _ y := ⟨_, _, ⟨Nat.le_refl _, hbdW, Nat.le_refl _⟩, hO⟩
  clear hbdW
  have OW := Lib.hid hO
  obtain ⟨aW, cW, rfl⟩ := hO.sl.sized
  clear hO
  try generalize t10.heap.size = pp0 at *
  have qA0 := kA0.cell
  have lA0 := kA0.lt
  go_wp2_with fail
  refine (HTOO0.out _ _ (HV0.out.by hW)).mono ?_
  rintro e t30 ⟨v, rfl, hO, hb⟩
  clear qA0 lA0
  have hbdX0 := hb.size
  replace kA0 := Blk.by hb kA0
  replace OW := Lib.hid (OW.out.by hb)
  replace hW := below_on hb hW
  clear hb
  try simp only [World.size_alloc, World.size_drew, size_drewN] at hbdX0 hO
  obtain ⟨X0l, X0h, hbeX0, hO⟩ : ∃ l h, (_ ≤ l ∧ l ≤ h ∧ h ≤ t30.heap.size) ∧ OwnNw t30 l h _ x := ⟨_, _, ⟨Nat.le_refl _, hbdX0, Nat.le_refl _⟩, hO⟩
  clear hbdX0
  have OX0 := Lib.hid hO
  obtain ⟨aX0, cX0, rfl⟩ := hO.nw.sized
  clear hO
  try generalize t20.heap.size = pp1 at *
  replace kA0 := kA0.past (.cells #[.int .i64 x.nodes, .slice aX0 x.rs.length cX0] 32)
  replace OW := Lib.hid (OW.out.by ((Below.refl _ t30).alloc (Nat.le_refl _) (.cells #[.int .i64 x.nodes, .slice aX0 x.rs.length cX0] 32)))
  replace OX0 := Lib.hid (OX0.out.by ((Below.refl _ t30).alloc (Nat.le_refl _) (.cells #[.int .i64 x.nodes, .slice aX0 x.rs.length cX0] 32)))
  have kX0 : Blk (t30.alloc (.cells #[.int .i64 x.nodes, .slice aX0 x.rs.length cX0] 32)) t30.heap.size #[.int .i64 x.nodes, .slice aX0 x.rs.length cX0] 32 := Blk.new _ rfl
  replace hW := below_al hW (.cells #[.int .i64 x.nodes, .slice aX0 x.rs.length cX0] 32)
  have qA0 := kA0.cell
  have lA0 := kA0.lt
  have qX0 := kX0.cell
  have lX0 := kX0.lt
  go_wp2_with fail
  refine (HIM.out _ _ OX0.out.nw).mono ?_
  rintro e t40 ⟨v, rfl, hO, hb⟩
  clear qA0 lA0 qX0 lX0
  have hbdG := hb.size
  replace kA0 := Blk.by hb kA0
  replace kX0 := Blk.by hb kX0
  replace OW := Lib.hid (OW.out.by hb)
  replace OX0 := Lib.hid (OX0.out.by hb)
  replace hW := below_on hb hW
  clear hb
  try simp only [World.size_alloc, World.size_drew, size_drewN] at hbdG hO
  obtain ⟨Gl, Gh, hbeG, hO⟩ : ∃ l h, (_ ≤ l ∧ l ≤ h ∧ h ≤ t40.heap.size) ∧ OwnRat t40 l h _ y := ⟨_, _, ⟨Nat.le_refl _, hbdG, Nat.le_refl _⟩, hO⟩
  clear hbdG
  have OG := Lib.hid hO
  obtain ⟨aG, cG, rfl⟩ := hO.sl.sized
  clear hO
  try generalize t30.heap.size = pp2 at *
  have qA0 := kA0.cell
  have lA0 := kA0.lt
  have qX0 := kX0.cell
  have lX0 := kX0.lt
  go_wp2_with fail
  refine (HEQY.out _ _ _ OG.out.sl OW.out.sl).mono ?_
  rintro e t41 ⟨rfl, hb⟩
  clear qA0 lA0 qX0 lX0
  replace kA0 := Blk.by hb kA0
  replace kX0 := Blk.by hb kX0
  replace OW := Lib.hid (OW.out.by hb)
  replace OX0 := Lib.hid (OX0.out.by hb)
  replace OG := Lib.hid (OG.out.by hb)
  replace hW := below_on hb hW
  clear hb
  try generalize t40.heap.size = pp3 at *
  have qA0 := kA0.cell
  have lA0 := kA0.lt
  have qX0 := kX0.cell
  have lX0 := kX0.lt
  go_wp2_with fail
  go_region_held3 (fun w' => (Blk w' (w.heap.size) #[.int .i64 x.nodes, .slice a0 x.rs.length c0] 24 ∧ ∀ o, w'.cell? ⟨w.heap.size, o, none⟩ = (#[.int .i64 x.nodes, .slice a0 x.rs.length c0] : Array Value)[o]?) ∧ (Blk w' (pp2) #[.int .i64 x.nodes, .slice aX0 x.rs.length cX0] 32 ∧ ∀ o, w'.cell? ⟨pp2, o, none⟩ = (#[.int .i64 x.nodes, .slice aX0 x.rs.length cX0] : Array Value)[o]?) ∧ Below w.heap.size w w') (((try (obtain ⟨⟨hS0, _⟩, ⟨hS1, _⟩, hSB⟩ := hHeld)); refine ⟨Blk.both ?_, Blk.both ?_, ?_⟩ <;> first | ((repeat (first | (with_reducible assumption) | (with_reducible refine Blk.drewN ?_ _) | (with_reducible refine Blk.drew ?_) | ((with_reducible refine Blk.new _ ?_); focus (first | omega | (simp; done) | (simp; omega))) | (with_reducible refine Blk.past ?_ _) | ((with_reducible refine Blk.apart ?_ _ _ _ ?_); rotate_left; focus (first | omega | (simp; done) | (simp; omega))) | (with_reducible refine Blk.by (by assumption) ?_))); done) | ((repeat (first | (with_reducible exact Below.refl _ _) | (with_reducible refine below_drewN ?_ _) | (with_reducible refine Below.drew ?_) | (with_reducible refine below_al ?_ _) | (with_reducible refine below_on (by assumption) ?_) | ((with_reducible refine Below.setCell ?_ ?_ _); rotate_left; focus (first | omega | (simp; done) | (simp; omega))) | (with_reducible assumption))); done)))
    (first | (go_at_call 11; refine (HTO0.out _ _ ((HV0.out.by hW).by (below_of_drewN t41 1))).mono ?_; rintro e t50 ⟨v50_, rfl, hN, hb50⟩; have HN50 := Lib.hid hN; obtain ⟨a50, c50, rfl⟩ := hN.sized; clear hN) | (go_at_call 14; refine (HEQ0.out _ _ _ ((OX0.out.nw.by (below_of_drewN t41 1)).by hb50) HN50.out).mono ?_; rintro e t51 ⟨rfl, hb51⟩))
  clear qA0 lA0 qX0 lX0
  replace kA0 := Blk.by (below_of_drewN t41 1) kA0
  replace kX0 := Blk.by (below_of_drewN t41 1) kX0
  replace OW := Lib.hid (OW.out.by (below_of_drewN t41 1))
  replace OX0 := Lib.hid (OX0.out.by (below_of_drewN t41 1))
  replace OG := Lib.hid (OG.out.by (below_of_drewN t41 1))
  replace hW := below_on (below_of_drewN t41 1) hW
  replace kA0 := Blk.by hb50 kA0
  replace kX0 := Blk.by hb50 kX0
  replace OW := Lib.hid (OW.out.by hb50)
  replace OX0 := Lib.hid (OX0.out.by hb50)
  replace OG := Lib.hid (OG.out.by hb50)
  replace hW := below_on hb50 hW
  replace kA0 := Blk.by hb51 kA0
  replace kX0 := Blk.by hb51 kX0
  replace OW := Lib.hid (OW.out.by hb51)
  replace OX0 := Lib.hid (OX0.out.by hb51)
  replace OG := Lib.hid (OG.out.by hb51)
  replace hW := below_on hb51 hW
  clear hb50 hb51 HN50
  have qA0 := kA0.cell
  have lA0 := kA0.lt
  have qX0 := kX0.cell
  have lX0 := kX0.lt
  go_wp2_with fail
  refine (HMX0.out _ _ _ _ OX0.out (by have := kX0.lt; omega)).mono ?_
  rintro e t60 ⟨rfl, hO, hw⟩
  clear qA0 lA0 qX0 lX0
  replace kA0 := hw.blk kA0 (by omega)
  replace kX0 := hw.blk kX0 (by omega)
  replace OW := Lib.hid (OW.out.past hw (by omega))
  replace OG := Lib.hid (OG.out.past hw (by omega))
  replace hW := hw.below hW (by omega)
  replace OX0 := Lib.hid hO
  clear hO hw
  have qA0 := kA0.cell
  have lA0 := kA0.lt
  have qX0 := kX0.cell
  have lX0 := kX0.lt
  go_wp2_with fail
  refine (HEQY.out _ _ _ OG.out.sl OW.out.sl).mono ?_
  rintro e t70 ⟨rfl, hb⟩
  clear qA0 lA0 qX0 lX0
  replace kA0 := Blk.by hb kA0
  replace kX0 := Blk.by hb kX0
  replace OW := Lib.hid (OW.out.by hb)
  replace OX0 := Lib.hid (OX0.out.by hb)
  replace OG := Lib.hid (OG.out.by hb)
  replace hW := below_on hb hW
  clear hb
  have qA0 := kA0.cell
  have lA0 := kA0.lt
  have qX0 := kX0.cell
  have lX0 := kX0.lt
  go_wp2_with fail
  refine (HMY.out _ _ _ _ OG.out ).mono ?_
  rintro e t71 ⟨rfl, hO, hw⟩
  clear qA0 lA0 qX0 lX0
  replace kA0 := hw.blk kA0 (by omega)
  replace kX0 := hw.blk kX0 (by omega)
  replace OW := Lib.hid (OW.out.past hw (by omega))
  replace OX0 := Lib.hid (OX0.out.past hw (by omega))
  replace hW := hw.below hW (by omega)
  replace OG := Lib.hid hO
  clear hO hw
  have qA0 := kA0.cell
  have lA0 := kA0.lt
  have qX0 := kX0.cell
  have lX0 := kX0.lt
  go_wp2_with fail
  refine (HHY.out _ _ OG.out.sl).mono ?_
  rintro e t72 ⟨rfl, hb⟩
  clear qA0 lA0 qX0 lX0
  replace kA0 := Blk.by hb kA0
  replace kX0 := Blk.by hb kX0
  replace OW := Lib.hid (OW.out.by hb)
  replace OX0 := Lib.hid (OX0.out.by hb)
  replace OG := Lib.hid (OG.out.by hb)
  replace hW := below_on hb hW
  clear hb
  have qA0 := kA0.cell
  have lA0 := kA0.lt
  have qX0 := kX0.cell
  have lX0 := kX0.lt
  go_wp2_with fail
  refine (HTO0.out _ _ (HV0.out.by hW)).mono ?_
  rintro e t80 ⟨v, rfl, hN, hb⟩
  clear qA0 lA0 qX0 lX0
  replace kA0 := Blk.by hb kA0
  replace kX0 := Blk.by hb kX0
  replace OW := Lib.hid (OW.out.by hb)
  replace OX0 := Lib.hid (OX0.out.by hb)
  replace OG := Lib.hid (OG.out.by hb)
  replace hW := below_on hb hW
  clear hb
  have HN80 := Lib.hid hN
  obtain ⟨a80, c80, rfl⟩ := hN.sized
  clear hN
  have qA0 := kA0.cell
  have lA0 := kA0.lt
  have qX0 := kX0.cell
  have lX0 := kX0.lt
  go_wp2_with fail
  refine (HIM.out _ _ HN80.out).mono ?_
  rintro e t90 ⟨v, rfl, hO, hb⟩
  clear qA0 lA0 qX0 lX0
  clear HN80
  have hbdH := hb.size
  replace kA0 := Blk.by hb kA0
  replace kX0 := Blk.by hb kX0
  replace OW := Lib.hid (OW.out.by hb)
  replace OX0 := Lib.hid (OX0.out.by hb)
  replace OG := Lib.hid (OG.out.by hb)
  replace hW := below_on hb hW
  clear hb
  try simp only [World.size_alloc, World.size_drew, size_drewN] at hbdH hO
  obtain ⟨Hl, Hh, hbeH, hO⟩ : ∃ l h, (_ ≤ l ∧ l ≤ h ∧ h ≤ t90.heap.size) ∧ OwnRat t90 l h _ y := ⟨_, _, ⟨Nat.le_refl _, hbdH, Nat.le_refl _⟩, hO⟩
  clear hbdH
  have OH := Lib.hid hO
  obtain ⟨aH, cH, rfl⟩ := hO.sl.sized
  clear hO
  try generalize t80.heap.size = pp4 at *
  have qA0 := kA0.cell
  have lA0 := kA0.lt
  have qX0 := kX0.cell
  have lX0 := kX0.lt
  go_wp2_with fail
  refine (HEQY.out _ _ _ OH.out.sl OW.out.sl).mono ?_
  rintro e t91 ⟨rfl, hb⟩
  clear qA0 lA0 qX0 lX0
  replace kA0 := Blk.by hb kA0
  replace kX0 := Blk.by hb kX0
  replace OW := Lib.hid (OW.out.by hb)
  replace OX0 := Lib.hid (OX0.out.by hb)
  replace OG := Lib.hid (OG.out.by hb)
  replace OH := Lib.hid (OH.out.by hb)
  replace hW := below_on hb hW
  clear hb
  try generalize t90.heap.size = pp5 at *
  have qA0 := kA0.cell
  have lA0 := kA0.lt
  have qX0 := kX0.cell
  have lX0 := kX0.lt
  go_wp2_with fail
  refine (HHY.out _ _ OG.out.sl).mono ?_
  rintro e t92 ⟨rfl, hb⟩
  clear qA0 lA0 qX0 lX0
  replace kA0 := Blk.by hb kA0
  replace kX0 := Blk.by hb kX0
  replace OW := Lib.hid (OW.out.by hb)
  replace OX0 := Lib.hid (OX0.out.by hb)
  replace OG := Lib.hid (OG.out.by hb)
  replace OH := Lib.hid (OH.out.by hb)
  replace hW := below_on hb hW
  clear hb
  have qA0 := kA0.cell
  have lA0 := kA0.lt
  have qX0 := kX0.cell
  have lX0 := kX0.lt
  go_wp2
  go_ret
  exact ⟨rfl, hW⟩
end Go.Proofs.Ytljlcjficjefdaa.fnExactResistorCurrents
