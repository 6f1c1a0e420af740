/- The walk of FnExactSortDevices. -/
import Derived.Test.YtpiiccfjkgimfaaSoB
import Derived.Test.YtpiiccfjkgimfaaNlOwns
import Derived.Test.YtpiiccfjkgimfaaNls
namespace Go.Proofs.Ytpiiccfjkgimfaa.fnExactSortDevices
open Go.RowKit Go.Proofs.Ytpiiccfjkgimfaa
set_option linter.unusedVariables false

set_option maxRecDepth 100000 in
set_option maxHeartbeats 16000000 in
theorem walk (v0 : Value) (w : World) (x : Nl) (w0 : IsNlV w v0 x) :
    Calls Try.prog 7 #[v0] w fun e w' => e = .returned (.bool true) ∧ Below w.heap.size w w' := by
  obtain ⟨hV0, h0f, h0d, h0p⟩ := w0
  have HSZ0 := fun w h => szNl_any v0 x 1048576 w h h0p (by omega) (by omega)
  by_cases hbig : (1048576 : Int) < nlSize x.ds x.ps
  · simp only [if_pos hbig] at HSZ0
    have HZ0 := Lib.hid HSZ0
    clear HSZ0 hbig
    have HV0 := Lib.hid hV0
    obtain ⟨a0, c0, a0d, c0d, rfl⟩ := hV0.sized
    clear hV0
    go_enter Try.func7, Try.ntmps7
    go_wp2_with fail
    refine (HZ0.out _ (HV0.out.by (by ((repeat (first | (with_reducible exact Below.refl _ _) | (with_reducible refine below_drewN ?_ _) | (with_reducible refine Below.drew ?_) | (with_reducible refine below_al ?_ _) | (with_reducible refine below_on (by assumption) ?_) | ((with_reducible refine Below.setCell ?_ ?_ _); rotate_left; focus (first | omega | (simp; done) | (simp; omega))) | (with_reducible assumption))); done)))).mono ?_
    rintro e s0 ⟨rfl, hb⟩
    go_wp2
    go_ret
    exact ⟨rfl, (by ((repeat (first | (with_reducible exact Below.refl _ _) | (with_reducible refine below_drewN ?_ _) | (with_reducible refine Below.drew ?_) | (with_reducible refine below_al ?_ _) | (with_reducible refine below_on (by assumption) ?_) | ((with_reducible refine Below.setCell ?_ ?_ _); rotate_left; focus (first | omega | (simp; done) | (simp; omega))) | (with_reducible assumption))); done))⟩
  simp only [if_neg hbig] at HSZ0
  obtain ⟨n0a, n0b, n0c⟩ := nlSize_bounds hbig
  have hbg : nlSize x.ds x.ps ≤ 1048576 := by omega
  have hsn0 : 0 ≤ nlSize x.ds x.ps := by exact nlSize_nonneg _
  obtain ⟨hyp, hyn⟩ := soS_bounds n0b hbg
  have hxn : nsum x ≤ 4000000 := nsum_le hbg
  obtain ⟨l0, hl0⟩ : ∃ l : Int, (1048576 : Int) - nlSize x.ds x.ps = l := ⟨_, rfl⟩
  have hl0a : 0 ≤ l0 := by omega
  have hl0b : l0 ≤ 1048576 := by omega
  rw [hl0] at HSZ0
  have HZ0 := Lib.hid HSZ0
  clear HSZ0 hbig hl0 hsn0 hbg
  have HTO0 := Lib.hid (fun v w h => toNetlist_nl v x w h n0a n0b n0c)
  have HTOO := Lib.hid (fun v w h => toNetlist_own v x w h (by omega) (by first | exact n0b | exact n0c | (intro d hd; have := n0b d hd; omega)) (by omega))
  have HEQX := Lib.hid (fun v1 v2 w h1 h2 => eqNetlist_refl v1 v2 x w h1 h2)
  have HSP := Lib.hid (fun u0 w h0 => specSort_any x u0 w h0 h0p h0f)
  have HIM := Lib.hid (fun u0 w h0 => implSort_any x u0 w h0 h0p h0f)
  have HMX0 : ∀ lo hi v w, OwnNl w lo hi v x → hi ≤ w.heap.size → Calls Try.prog 34 #[v, .int .i64 1] w fun e w' => e = .returned (.int .i64 ((1 + nsum x : Nat) : Int)) ∧ OwnNl w' lo hi v (markNl 1 x) ∧ Within lo hi w w' := fun lo hi v w h hl => markNetlist_any lo hi v x 1 w h hl (by first | exact n0b | (intro d hd; have := n0b d hd; omega)) (by omega) (by omega)
  generalize soS x = y at *
  have HEQY := Lib.hid (fun v1 v2 w h1 h2 => eqNetlist_refl v1 v2 y w h1 h2)
  have HMY0 : ∀ lo hi v w, OwnNl w lo hi v y → hi ≤ w.heap.size → Calls Try.prog 34 #[v, .int .i64 1] w fun e w' => e = .returned (.int .i64 ((1 + nsum y : Nat) : Int)) ∧ OwnNl w' lo hi v (markNl 1 y) ∧ Within lo hi w w' := fun lo hi v w h hl => markNetlist_any lo hi v y 1 w h hl hyp (by omega) (by omega)
  have HHY0 : ∀ v w, NlV w v (markNl 1 y) → Calls Try.prog 35 #[v, .int .i64 1] w fun e w' => e = .returned (.int .i64 ((1 + nsum y : Nat) : Int)) ∧ Below w.heap.size w w' := fun v w h => heldNetlist_any v y 1 w h hyp (by omega) (by omega)
  obtain ⟨mx, hmx⟩ : ∃ m : Nat, 1 + nsum x = m := ⟨_, rfl⟩
  obtain ⟨my, hmy⟩ : ∃ m : Nat, 1 + nsum y = m := ⟨_, rfl⟩
  rw [hmx] at HMX0
  rw [hmy] at HMY0 HHY0
  have hmx0 : decide ((mx : Int) < 0) = false := decide_eq_false (by omega)
  have hmy0 : decide ((my : Int) < 0) = false := decide_eq_false (by omega)
  have HMX := Lib.hid HMX0
  have HMY := Lib.hid HMY0
  have HHY := Lib.hid HHY0
  have HV0 := Lib.hid hV0
  obtain ⟨a0, c0, a0d, c0d, rfl⟩ := hV0.sized
  clear hV0 n0a n0b n0c h0f h0d h0p HMX0 HMY0 HHY0 hmx hmy hxn hyn hyp
  go_enter Try.func7, Try.ntmps7
  go_wp2_with fail
  refine (HZ0.out _ (HV0.out.by (by ((repeat (first | (with_reducible exact Below.refl _ _) | (with_reducible refine below_drewN ?_ _) | (with_reducible refine Below.drew ?_) | (with_reducible refine below_al ?_ _) | (with_reducible refine below_on (by assumption) ?_) | ((with_reducible refine Below.setCell ?_ ?_ _); rotate_left; focus (first | omega | (simp; done) | (simp; omega))) | (with_reducible assumption))); done)))).mono ?_
  rintro e s0 ⟨rfl, hb⟩
  have kA : Blk s0 (w.heap.size) #[.int .i64 x.nets, .slice a0 x.ds.length c0, .slice a0d x.ps.length c0d] 62 := (by ((repeat (first | (with_reducible assumption) | (with_reducible refine Blk.drewN ?_ _) | (with_reducible refine Blk.drew ?_) | ((with_reducible refine Blk.new _ ?_); focus (first | omega | (simp; done) | (simp; omega))) | (with_reducible refine Blk.past ?_ _) | ((with_reducible refine Blk.apart ?_ _ _ _ ?_); rotate_left; focus (first | omega | (simp; done) | (simp; omega))) | (with_reducible refine Blk.by (by assumption) ?_))); done))
  have hW : Below w.heap.size w s0 := (by ((repeat (first | (with_reducible exact Below.refl _ _) | (with_reducible refine below_drewN ?_ _) | (with_reducible refine Below.drew ?_) | (with_reducible refine below_al ?_ _) | (with_reducible refine below_on (by assumption) ?_) | ((with_reducible refine Below.setCell ?_ ?_ _); rotate_left; focus (first | omega | (simp; done) | (simp; omega))) | (with_reducible assumption))); done))
  clear hb
  have qA := kA.cell
  have lA := kA.lt
  go_wp2_with fail
  refine (HTO0.out _ _ (HV0.out.by hW)).mono ?_
  rintro e t1 ⟨v, rfl, hN, hb⟩
  clear qA lA
  replace kA := Blk.by hb kA
  replace hW := below_on hb hW
  clear hb
  have HN1 := Lib.hid hN
  obtain ⟨a1, c1, a1d, c1d, rfl⟩ := hN.sized
  clear hN
  have g1 := kA.lt
  have qA := kA.cell
  have lA := kA.lt
  go_wp2_with fail
  refine (HSP.out _ _ HN1.out).mono ?_
  rintro e t2 ⟨v, rfl, hO, hb⟩
  clear qA lA
  replace kA := Blk.by hb kA
  replace hW := below_on hb hW
  have g2 := hb.size
  clear hb HN1
  have OW := Lib.hid hO
  obtain ⟨aW, cW, aWd, cWd, rfl⟩ := hO.nl.sized
  clear hO
  generalize t1.heap.size = lW at *
  replace kA := kA.past (.cells #[.int .i64 y.nets, .slice aW y.ds.length cW, .slice aWd y.ps.length cWd] 48)
  replace OW := Lib.hid (OW.out.by ((Below.refl _ t2).alloc (Nat.le_refl _) (.cells #[.int .i64 y.nets, .slice aW y.ds.length cW, .slice aWd y.ps.length cWd] 48)))
  have kW : Blk (t2.alloc (.cells #[.int .i64 y.nets, .slice aW y.ds.length cW, .slice aWd y.ps.length cWd] 48)) t2.heap.size #[.int .i64 y.nets, .slice aW y.ds.length cW, .slice aWd y.ps.length cWd] 48 := Blk.new _ rfl
  replace hW := below_al hW (.cells #[.int .i64 y.nets, .slice aW y.ds.length cW, .slice aWd y.ps.length cWd] 48)
  have qA := kA.cell
  have lA := kA.lt
  have qW := kW.cell
  have lW := kW.lt
  go_wp2_with fail
  refine (HTOO.out _ _ (HV0.out.by hW)).mono ?_
  rintro e t3 ⟨v, rfl, hO, hb⟩
  clear qA lA qW lW
  replace kA := Blk.by hb kA
  replace kW := Blk.by hb kW
  replace OW := Lib.hid (OW.out.by hb)
  replace hW := below_on hb hW
  have g3 := hb.size
  clear hb
  simp only [World.size_alloc] at g3 hO
  have OX := Lib.hid hO
  obtain ⟨aX, cX, aXd, cXd, rfl⟩ := hO.nl.sized
  clear hO
  generalize t2.heap.size = pW at *
  replace kA := kA.past (.cells #[.int .i64 x.nets, .slice aX x.ds.length cX, .slice aXd x.ps.length cXd] 48)
  replace kW := kW.past (.cells #[.int .i64 x.nets, .slice aX x.ds.length cX, .slice aXd x.ps.length cXd] 48)
  replace OW := Lib.hid (OW.out.by ((Below.refl _ t3).alloc (Nat.le_refl _) (.cells #[.int .i64 x.nets, .slice aX x.ds.length cX, .slice aXd x.ps.length cXd] 48)))
  replace OX := Lib.hid (OX.out.by ((Below.refl _ t3).alloc (Nat.le_refl _) (.cells #[.int .i64 x.nets, .slice aX x.ds.length cX, .slice aXd x.ps.length cXd] 48)))
  have kX : Blk (t3.alloc (.cells #[.int .i64 x.nets, .slice aX x.ds.length cX, .slice aXd x.ps.length cXd] 48)) t3.heap.size #[.int .i64 x.nets, .slice aX x.ds.length cX, .slice aXd x.ps.length cXd] 48 := Blk.new _ rfl
  replace hW := below_al hW (.cells #[.int .i64 x.nets, .slice aX x.ds.length cX, .slice aXd x.ps.length cXd] 48)
  have qA := kA.cell
  have lA := kA.lt
  have qW := kW.cell
  have lW := kW.lt
  have qX := kX.cell
  have lX := kX.lt
  go_wp2_with fail
  refine (HIM.out _ _ OX.out.nl).mono ?_
  rintro e t4 ⟨v, rfl, hO, hb⟩
  clear qA lA qW lW qX lX
  replace kA := Blk.by hb kA
  replace kW := Blk.by hb kW
  replace kX := Blk.by hb kX
  replace OW := Lib.hid (OW.out.by hb)
  replace OX := Lib.hid (OX.out.by hb)
  replace hW := below_on hb hW
  have g4 := hb.size
  clear hb
  simp only [World.size_alloc] at g4 hO
  have OG := Lib.hid hO
  obtain ⟨aG, cG, aGd, cGd, rfl⟩ := hO.nl.sized
  clear hO
  generalize t3.heap.size = pX at *
  replace kA := kA.past (.cells #[.int .i64 y.nets, .slice aG y.ds.length cG, .slice aGd y.ps.length cGd] 48)
  replace kW := kW.past (.cells #[.int .i64 y.nets, .slice aG y.ds.length cG, .slice aGd y.ps.length cGd] 48)
  replace kX := kX.past (.cells #[.int .i64 y.nets, .slice aG y.ds.length cG, .slice aGd y.ps.length cGd] 48)
  replace OW := Lib.hid (OW.out.by ((Below.refl _ t4).alloc (Nat.le_refl _) (.cells #[.int .i64 y.nets, .slice aG y.ds.length cG, .slice aGd y.ps.length cGd] 48)))
  replace OX := Lib.hid (OX.out.by ((Below.refl _ t4).alloc (Nat.le_refl _) (.cells #[.int .i64 y.nets, .slice aG y.ds.length cG, .slice aGd y.ps.length cGd] 48)))
  replace OG := Lib.hid (OG.out.by ((Below.refl _ t4).alloc (Nat.le_refl _) (.cells #[.int .i64 y.nets, .slice aG y.ds.length cG, .slice aGd y.ps.length cGd] 48)))
  have kG : Blk (t4.alloc (.cells #[.int .i64 y.nets, .slice aG y.ds.length cG, .slice aGd y.ps.length cGd] 48)) t4.heap.size #[.int .i64 y.nets, .slice aG y.ds.length cG, .slice aGd y.ps.length cGd] 48 := Blk.new _ rfl
  replace hW := below_al hW (.cells #[.int .i64 y.nets, .slice aG y.ds.length cG, .slice aGd y.ps.length cGd] 48)
  have qA := kA.cell
  have lA := kA.lt
  have qW := kW.cell
  have lW := kW.lt
  have qX := kX.cell
  have lX := kX.lt
  have qG := kG.cell
  have lG := kG.lt
  go_wp2_with fail
  refine (HEQY.out _ _ _ OG.out.nl OW.out.nl).mono ?_
  rintro e t5 ⟨rfl, hb⟩
  clear qA lA qW lW qX lX qG lG
  replace kA := Blk.by hb kA
  replace kW := Blk.by hb kW
  replace kX := Blk.by hb kX
  replace kG := Blk.by hb kG
  replace OW := Lib.hid (OW.out.by hb)
  replace OX := Lib.hid (OX.out.by hb)
  replace OG := Lib.hid (OG.out.by hb)
  replace hW := below_on hb hW
  clear hb
  generalize t4.heap.size = pG at *
  have qA := kA.cell
  have lA := kA.lt
  have qW := kW.cell
  have lW := kW.lt
  have qX := kX.cell
  have lX := kX.lt
  have qG := kG.cell
  have lG := kG.lt
  go_wp2_with fail
  go_region_held3 (fun w' => (Blk w' (w.heap.size) #[.int .i64 x.nets, .slice a0 x.ds.length c0, .slice a0d x.ps.length c0d] 62 ∧ ∀ o, w'.cell? ⟨w.heap.size, o, none⟩ = (#[.int .i64 x.nets, .slice a0 x.ds.length c0, .slice a0d x.ps.length c0d] : Array Value)[o]?) ∧ (Blk w' (pW) #[.int .i64 y.nets, .slice aW y.ds.length cW, .slice aWd y.ps.length cWd] 48 ∧ ∀ o, w'.cell? ⟨pW, o, none⟩ = (#[.int .i64 y.nets, .slice aW y.ds.length cW, .slice aWd y.ps.length cWd] : Array Value)[o]?) ∧ (Blk w' (pX) #[.int .i64 x.nets, .slice aX x.ds.length cX, .slice aXd x.ps.length cXd] 48 ∧ ∀ o, w'.cell? ⟨pX, o, none⟩ = (#[.int .i64 x.nets, .slice aX x.ds.length cX, .slice aXd x.ps.length cXd] : Array Value)[o]?) ∧ (Blk w' (pG) #[.int .i64 y.nets, .slice aG y.ds.length cG, .slice aGd y.ps.length cGd] 48 ∧ ∀ o, w'.cell? ⟨pG, o, none⟩ = (#[.int .i64 y.nets, .slice aG y.ds.length cG, .slice aGd y.ps.length cGd] : Array Value)[o]?) ∧ Below w.heap.size w w') (((try (obtain ⟨⟨hS0, _⟩, ⟨hS1, _⟩, ⟨hS2, _⟩, ⟨hS3, _⟩, hSB⟩ := hHeld)); refine ⟨Blk.both ?_, Blk.both ?_, Blk.both ?_, Blk.both ?_, ?_⟩ <;> first | ((repeat (first | (with_reducible assumption) | (with_reducible refine Blk.drewN ?_ _) | (with_reducible refine Blk.drew ?_) | ((with_reducible refine Blk.new _ ?_); focus (first | omega | (simp; done) | (simp; omega))) | (with_reducible refine Blk.past ?_ _) | ((with_reducible refine Blk.apart ?_ _ _ _ ?_); rotate_left; focus (first | omega | (simp; done) | (simp; omega))) | (with_reducible refine Blk.by (by assumption) ?_))); done) | ((repeat (first | (with_reducible exact Below.refl _ _) | (with_reducible refine below_drewN ?_ _) | (with_reducible refine Below.drew ?_) | (with_reducible refine below_al ?_ _) | (with_reducible refine below_on (by assumption) ?_) | ((with_reducible refine Below.setCell ?_ ?_ _); rotate_left; focus (first | omega | (simp; done) | (simp; omega))) | (with_reducible assumption))); done)))
    (first | (go_at_call 32; refine (HTO0.out _ _ ((HV0.out.by hW).by (below_of_drewN t5 1))).mono ?_; rintro e t60 ⟨v60_, rfl, hN, hb60⟩; have HN60 := Lib.hid hN; obtain ⟨a60, c60, a60d, c60d, rfl⟩ := hN.sized; clear hN) | (go_at_call 33; refine (HEQX.out _ _ _ ((OX.out.nl.by (below_of_drewN t5 1)).by hb60) HN60.out).mono ?_; rintro e t61 ⟨rfl, hb61⟩))
  clear qA lA qW lW qX lX qG lG
  replace kA := Blk.by (below_of_drewN t5 1) kA
  replace kW := Blk.by (below_of_drewN t5 1) kW
  replace kX := Blk.by (below_of_drewN t5 1) kX
  replace kG := Blk.by (below_of_drewN t5 1) kG
  replace OW := Lib.hid (OW.out.by (below_of_drewN t5 1))
  replace OX := Lib.hid (OX.out.by (below_of_drewN t5 1))
  replace OG := Lib.hid (OG.out.by (below_of_drewN t5 1))
  replace hW := below_on (below_of_drewN t5 1) hW
  replace kA := Blk.by hb60 kA
  replace kW := Blk.by hb60 kW
  replace kX := Blk.by hb60 kX
  replace kG := Blk.by hb60 kG
  replace OW := Lib.hid (OW.out.by hb60)
  replace OX := Lib.hid (OX.out.by hb60)
  replace OG := Lib.hid (OG.out.by hb60)
  replace hW := below_on hb60 hW
  replace kA := Blk.by hb61 kA
  replace kW := Blk.by hb61 kW
  replace kX := Blk.by hb61 kX
  replace kG := Blk.by hb61 kG
  replace OW := Lib.hid (OW.out.by hb61)
  replace OX := Lib.hid (OX.out.by hb61)
  replace OG := Lib.hid (OG.out.by hb61)
  replace hW := below_on hb61 hW
  clear hb60 hb61 HN60
  have qA := kA.cell
  have lA := kA.lt
  have qW := kW.cell
  have lW := kW.lt
  have qX := kX.cell
  have lX := kX.lt
  have qG := kG.cell
  have lG := kG.lt
  go_wp2_with fail
  refine (HMX.out _ _ _ _ OX.out (by have := kX.lt; omega)).mono ?_
  rintro e t8 ⟨rfl, hO, hw⟩
  clear qA lA qW lW qX lX qG lG
  replace kA := hw.blk kA (by omega)
  replace kW := hw.blk kW (by omega)
  replace kX := hw.blk kX (by omega)
  replace kG := hw.blk kG (by omega)
  replace OW := Lib.hid (OW.out.past hw (by omega))
  replace OG := Lib.hid (OG.out.past hw (by omega))
  replace hW := hw.below hW (by omega)
  replace OX := Lib.hid hO
  clear hO hw
  have qA := kA.cell
  have lA := kA.lt
  have qW := kW.cell
  have lW := kW.lt
  have qX := kX.cell
  have lX := kX.lt
  have qG := kG.cell
  have lG := kG.lt
  go_wp2_with fail
  refine (HEQY.out _ _ _ OG.out.nl OW.out.nl).mono ?_
  rintro e t9 ⟨rfl, hb⟩
  clear qA lA qW lW qX lX qG lG
  replace kA := Blk.by hb kA
  replace kW := Blk.by hb kW
  replace kX := Blk.by hb kX
  replace kG := Blk.by hb kG
  replace OW := Lib.hid (OW.out.by hb)
  replace OX := Lib.hid (OX.out.by hb)
  replace OG := Lib.hid (OG.out.by hb)
  replace hW := below_on hb hW
  clear hb
  have qA := kA.cell
  have lA := kA.lt
  have qW := kW.cell
  have lW := kW.lt
  have qX := kX.cell
  have lX := kX.lt
  have qG := kG.cell
  have lG := kG.lt
  go_wp2_with fail
  refine (HMY.out _ _ _ _ OG.out (by have := kG.lt; omega)).mono ?_
  rintro e t10 ⟨rfl, hO, hw⟩
  clear qA lA qW lW qX lX qG lG
  replace kA := hw.blk kA (by omega)
  replace kW := hw.blk kW (by omega)
  replace kX := hw.blk kX (by omega)
  replace kG := hw.blk kG (by omega)
  replace OW := Lib.hid (OW.out.past hw (by omega))
  replace OX := Lib.hid (OX.out.past hw (by omega))
  replace hW := hw.below hW (by omega)
  replace OG := Lib.hid hO
  clear hO hw
  have qA := kA.cell
  have lA := kA.lt
  have qW := kW.cell
  have lW := kW.lt
  have qX := kX.cell
  have lX := kX.lt
  have qG := kG.cell
  have lG := kG.lt
  go_wp2_with fail
  refine (HHY.out _ _ OG.out.nl).mono ?_
  rintro e t11 ⟨rfl, hb⟩
  clear qA lA qW lW qX lX qG lG
  replace kA := Blk.by hb kA
  replace kW := Blk.by hb kW
  replace kX := Blk.by hb kX
  replace kG := Blk.by hb kG
  replace OW := Lib.hid (OW.out.by hb)
  replace OX := Lib.hid (OX.out.by hb)
  replace OG := Lib.hid (OG.out.by hb)
  replace hW := below_on hb hW
  clear hb
  have qA := kA.cell
  have lA := kA.lt
  have qW := kW.cell
  have lW := kW.lt
  have qX := kX.cell
  have lX := kX.lt
  have qG := kG.cell
  have lG := kG.lt
  go_wp2_with fail
  refine (HTO0.out _ _ (HV0.out.by hW)).mono ?_
  rintro e t12 ⟨v, rfl, hN, hb⟩
  clear qA lA qW lW qX lX qG lG
  replace kA := Blk.by hb kA
  replace kW := Blk.by hb kW
  replace kX := Blk.by hb kX
  replace kG := Blk.by hb kG
  replace OW := Lib.hid (OW.out.by hb)
  replace OX := Lib.hid (OX.out.by hb)
  replace OG := Lib.hid (OG.out.by hb)
  replace hW := below_on hb hW
  clear hb
  have HN12 := Lib.hid hN
  obtain ⟨a12, c12, a12d, c12d, rfl⟩ := hN.sized
  clear hN
  have qA := kA.cell
  have lA := kA.lt
  have qW := kW.cell
  have lW := kW.lt
  have qX := kX.cell
  have lX := kX.lt
  have qG := kG.cell
  have lG := kG.lt
  go_wp2_with fail
  refine (HIM.out _ _ HN12.out).mono ?_
  rintro e t13 ⟨v, rfl, hO, hb⟩
  clear qA lA qW lW qX lX qG lG
  replace kA := Blk.by hb kA
  replace kW := Blk.by hb kW
  replace kX := Blk.by hb kX
  replace kG := Blk.by hb kG
  replace OW := Lib.hid (OW.out.by hb)
  replace OX := Lib.hid (OX.out.by hb)
  replace OG := Lib.hid (OG.out.by hb)
  replace hW := below_on hb hW
  clear hb HN12
  have OH := Lib.hid hO
  obtain ⟨aH, cH, aHd, cHd, rfl⟩ := hO.nl.sized
  clear hO
  replace kA := kA.past (.cells #[.int .i64 y.nets, .slice aH y.ds.length cH, .slice aHd y.ps.length cHd] 48)
  replace kW := kW.past (.cells #[.int .i64 y.nets, .slice aH y.ds.length cH, .slice aHd y.ps.length cHd] 48)
  replace kX := kX.past (.cells #[.int .i64 y.nets, .slice aH y.ds.length cH, .slice aHd y.ps.length cHd] 48)
  replace kG := kG.past (.cells #[.int .i64 y.nets, .slice aH y.ds.length cH, .slice aHd y.ps.length cHd] 48)
  replace OW := Lib.hid (OW.out.by ((Below.refl _ t13).alloc (Nat.le_refl _) (.cells #[.int .i64 y.nets, .slice aH y.ds.length cH, .slice aHd y.ps.length cHd] 48)))
  replace OX := Lib.hid (OX.out.by ((Below.refl _ t13).alloc (Nat.le_refl _) (.cells #[.int .i64 y.nets, .slice aH y.ds.length cH, .slice aHd y.ps.length cHd] 48)))
  replace OG := Lib.hid (OG.out.by ((Below.refl _ t13).alloc (Nat.le_refl _) (.cells #[.int .i64 y.nets, .slice aH y.ds.length cH, .slice aHd y.ps.length cHd] 48)))
  replace OH := Lib.hid (OH.out.by ((Below.refl _ t13).alloc (Nat.le_refl _) (.cells #[.int .i64 y.nets, .slice aH y.ds.length cH, .slice aHd y.ps.length cHd] 48)))
  have kH : Blk (t13.alloc (.cells #[.int .i64 y.nets, .slice aH y.ds.length cH, .slice aHd y.ps.length cHd] 48)) t13.heap.size #[.int .i64 y.nets, .slice aH y.ds.length cH, .slice aHd y.ps.length cHd] 48 := Blk.new _ rfl
  replace hW := below_al hW (.cells #[.int .i64 y.nets, .slice aH y.ds.length cH, .slice aHd y.ps.length cHd] 48)
  have qA := kA.cell
  have lA := kA.lt
  have qW := kW.cell
  have lW := kW.lt
  have qX := kX.cell
  have lX := kX.lt
  have qG := kG.cell
  have lG := kG.lt
  have qH := kH.cell
  have lH := kH.lt
  go_wp2_with fail
  refine (HEQY.out _ _ _ OH.out.nl OW.out.nl).mono ?_
  rintro e t14 ⟨rfl, hb⟩
  clear qA lA qW lW qX lX qG lG qH lH
  replace kA := Blk.by hb kA
  replace kW := Blk.by hb kW
  replace kX := Blk.by hb kX
  replace kG := Blk.by hb kG
  replace kH := Blk.by hb kH
  replace OW := Lib.hid (OW.out.by hb)
  replace OX := Lib.hid (OX.out.by hb)
  replace OG := Lib.hid (OG.out.by hb)
  replace OH := Lib.hid (OH.out.by hb)
  replace hW := below_on hb hW
  clear hb
  generalize t13.heap.size = pH at *
  have qA := kA.cell
  have lA := kA.lt
  have qW := kW.cell
  have lW := kW.lt
  have qX := kX.cell
  have lX := kX.lt
  have qG := kG.cell
  have lG := kG.lt
  have qH := kH.cell
  have lH := kH.lt
  go_wp2_with fail
  refine (HHY.out _ _ OG.out.nl).mono ?_
  rintro e t15 ⟨rfl, hb⟩
  clear qA lA qW lW qX lX qG lG qH lH
  replace kA := Blk.by hb kA
  replace kW := Blk.by hb kW
  replace kX := Blk.by hb kX
  replace kG := Blk.by hb kG
  replace kH := Blk.by hb kH
  replace OW := Lib.hid (OW.out.by hb)
  replace OX := Lib.hid (OX.out.by hb)
  replace OG := Lib.hid (OG.out.by hb)
  replace OH := Lib.hid (OH.out.by hb)
  replace hW := below_on hb hW
  clear hb
  have qA := kA.cell
  have lA := kA.lt
  have qW := kW.cell
  have lW := kW.lt
  have qX := kX.cell
  have lX := kX.lt
  have qG := kG.cell
  have lG := kG.lt
  have qH := kH.cell
  have lH := kH.lt
  go_wp2
  go_ret
  exact ⟨rfl, hW⟩
end Go.Proofs.Ytpiiccfjkgimfaa.fnExactSortDevices
