/- The walk of FnExactNormalizeDevice. -/
import Derived.Test.YthcaipohdeigeaaNormA
import Derived.Test.YthcaipohdeigeaaDevOpen
namespace Go.Proofs.Ythcaipohdeigeaa.fnExactNormalizeDevice
open Go.RowKit Go.Proofs.Ythcaipohdeigeaa
set_option linter.unusedVariables false

set_option maxRecDepth 100000 in
set_option maxHeartbeats 4000000 in
theorem walk (v0 : Value) (w : World) (x : Int × List Int × Int × Int) (w0 : IsDevV w v0 x) :
    Calls Try.prog 4 #[v0] w fun e w' => e = .returned (.bool true) ∧ Below w.heap.size w w' := by
  obtain ⟨k1, xs, d1, l1⟩ := x
  obtain ⟨s1, rfl, hS0, _⟩ := w0
  dsimp only at hS0 ⊢
  have hSZ := fun w h => szDevice_any k1 d1 l1 s1 xs 1048576 w h (by omega) (by omega)
  have hS := hS0.by ((Below.refl _ w).alloc (Nat.le_refl _) (.cells #[.int .i64 k1, s1, .int .i64 d1, .int .i64 l1] 24))
  obtain ⟨a, c, rfl⟩ := hS.len
  by_cases hbig : (1048576 : Int) < xs.length
  · rw [if_pos hbig] at hSZ
    have HZ := Lib.hid hSZ
    clear hSZ
    go_enter Try.func4, Try.ntmps4
    go_wp2_with fail
    refine (HZ.out _ hS).mono ?_
    rintro e w1 ⟨rfl, hb1⟩
    go_wp2
    go_ret
    exact ⟨rfl, (by ((repeat (first | (with_reducible exact Below.refl _ _) | (with_reducible refine below_drewN ?_ _) | (with_reducible refine Below.drew ?_) | (with_reducible refine below_al ?_ _) | (with_reducible refine below_on (by assumption) ?_) | ((with_reducible refine Below.setCell ?_ ?_ _); rotate_left; focus (first | omega | (simp; done) | (simp; omega))) | (with_reducible assumption))); done))⟩
  rw [if_neg hbig] at hSZ
  have hlen : xs.length ≤ 1048576 := by omega
  obtain ⟨l, hl⟩ : ∃ l : Int, (1048576 : Int) - xs.length = l := ⟨_, rfl⟩
  have hl0 : 0 ≤ l := by omega
  rw [hl] at hSZ
  have HZ := Lib.hid hSZ
  clear hSZ hl hbig
  have HTO := Lib.hid (fun w h => toDevice_any k1 d1 l1 (.slice a xs.length c) xs w h hlen)
  have HSP := Lib.hid (fun s w h => specNorm_any k1 d1 l1 s xs w h hlen)
  have HIM := Lib.hid (fun s w h => implNorm_any k1 d1 l1 s xs w h hlen)
  have hzl : (normz k1 xs).length ≤ 1048576 := by rw [length_normz]; exact hlen
  generalize normz k1 xs = zs at *
  have HEQ := Lib.hid (fun s1 s2 w h h' => eqDevice_refl k1 d1 l1 s1 s2 zs w h h')
  have HEX := Lib.hid (fun s1 s2 w h h' => eqDevice_refl k1 d1 l1 s1 s2 xs w h h')
  have HMX := Lib.hid (fun lo hi s w h => markDevice_any k1 d1 l1 lo hi s xs 1 w h hlen (by omega) (by omega))
  have HMZ := Lib.hid (fun lo hi s w h => markDevice_any k1 d1 l1 lo hi s zs 1 w h hzl (by omega) (by omega))
  have HHZ := Lib.hid (fun s w h => heldDevice_any k1 d1 l1 s zs.length 1 w h hzl (by omega) (by omega))
  obtain ⟨mx, hmx⟩ : ∃ m : Int, 1 + (xs.length : Int) = m := ⟨_, rfl⟩
  obtain ⟨mz, hmz⟩ : ∃ m : Int, 1 + (zs.length : Int) = m := ⟨_, rfl⟩
  have hmx0 : 0 ≤ mx := by omega
  have hmz0 : 0 ≤ mz := by omega
  rw [hmx] at HMX
  rw [hmz] at HMZ HHZ
  clear hmx hmz
  have hW := below_al (Below.refl _ w) (.cells #[.int .i64 k1, .slice a xs.length c, .int .i64 d1, .int .i64 l1] 24)
  have HXL := Lib.hid (show xs.length ≤ 9223372036854775807 from by omega)
  have HS0 := Lib.hid hS0
  clear hS0
  go_enter Try.func4, Try.ntmps4
  go_wp2_with fail
  refine (HZ.out _ hS).mono ?_
  rintro e w1 ⟨rfl, hb1⟩
  have kA : Blk w1 w.heap.size #[.int .i64 k1, .slice a xs.length c, .int .i64 d1, .int .i64 l1] 24 := (by ((repeat (first | (with_reducible assumption) | (with_reducible refine Blk.drewN ?_ _) | (with_reducible refine Blk.drew ?_) | ((with_reducible refine Blk.new _ ?_); focus (first | omega | (simp; done) | (simp; omega))) | (with_reducible refine Blk.past ?_ _) | ((with_reducible refine Blk.apart ?_ _ _ _ ?_); rotate_left; focus (first | omega | (simp; done) | (simp; omega))) | (with_reducible refine Blk.by (by assumption) ?_))); done))
  have hlA := kA.lt
  replace hW := below_on hb1 hW
  clear hb1 hS
  have c_kA := kA.cell
  have f_kA := kA.free
  have l_kA := kA.lt
  go_wp2_with fail
  refine (HTO.out _ (HS0.out.by hW)).mono ?_
  rintro e w2 ⟨g1, rfl, hG1, hge1, hb2⟩
  clear c_kA f_kA l_kA
  replace kA := Blk.by hb2 kA
  replace hW := below_on hb2 hW
  clear hb2
  have c_kA := kA.cell
  have f_kA := kA.free
  have l_kA := kA.lt
  go_wp2_with fail
  refine (HSP.out _ _ (hG1.sl HXL.out)).mono ?_
  rintro e w3 ⟨s1, rfl, hV1, hb3⟩
  clear c_kA f_kA l_kA
  replace kA := Blk.by hb3 kA
  replace hW := below_on hb3 hW
  clear hb3 hG1 hge1
  replace hV1 := hV1.r
  obtain ⟨a1, c1, rfl⟩ := hV1.sl.len
  generalize w2.heap.size = pl at hV1
  have hlA3 := kA.lt
  have c_kA := kA.cell
  have f_kA := kA.free
  have l_kA := kA.lt
  clear c_kA f_kA l_kA
  replace kA := kA.past (.cells #[.int .i64 k1, .slice a1 zs.length c1, .int .i64 d1, .int .i64 l1] 27)
  replace hV1 := hV1.by ((Below.refl _ w3).alloc (Nat.le_refl _) (.cells #[.int .i64 k1, .slice a1 zs.length c1, .int .i64 d1, .int .i64 l1] 27))
  replace hW := below_al hW (.cells #[.int .i64 k1, .slice a1 zs.length c1, .int .i64 d1, .int .i64 l1] 27)
  have kW : Blk (w3.alloc (.cells #[.int .i64 k1, .slice a1 zs.length c1, .int .i64 d1, .int .i64 l1] 27)) w3.heap.size #[.int .i64 k1, .slice a1 zs.length c1, .int .i64 d1, .int .i64 l1] 27 := Blk.new _ rfl
  have c_kA := kA.cell
  have f_kA := kA.free
  have l_kA := kA.lt
  have c_kW := kW.cell
  have f_kW := kW.free
  have l_kW := kW.lt
  go_wp2_with fail
  refine (HTO.out _ (HS0.out.by hW)).mono ?_
  rintro e w4 ⟨gX, rfl, hX, hgX, hb4⟩
  clear c_kA f_kA l_kA c_kW f_kW l_kW
  replace kA := Blk.by hb4 kA
  replace kW := Blk.by hb4 kW
  replace hV1 := hV1.by hb4
  replace hW := below_on hb4 hW
  clear hb4
  simp at hgX
  generalize w3.heap.size = pW at *
  have hlX := hX.lt
  replace hX := hX.r HXL.out
  have c_kA := kA.cell
  have f_kA := kA.free
  have l_kA := kA.lt
  have c_kW := kW.cell
  have f_kW := kW.free
  have l_kW := kW.lt
  clear c_kA f_kA l_kA c_kW f_kW l_kW
  replace kA := kA.past (.cells #[.int .i64 k1, .slice (some ⟨gX, 0, none⟩) xs.length xs.length, .int .i64 d1, .int .i64 l1] 27)
  replace kW := kW.past (.cells #[.int .i64 k1, .slice (some ⟨gX, 0, none⟩) xs.length xs.length, .int .i64 d1, .int .i64 l1] 27)
  replace hV1 := hV1.by ((Below.refl _ w4).alloc (Nat.le_refl _) (.cells #[.int .i64 k1, .slice (some ⟨gX, 0, none⟩) xs.length xs.length, .int .i64 d1, .int .i64 l1] 27))
  replace hX := hX.by ((Below.refl _ w4).alloc (Nat.le_refl _) (.cells #[.int .i64 k1, .slice (some ⟨gX, 0, none⟩) xs.length xs.length, .int .i64 d1, .int .i64 l1] 27))
  replace hW := below_al hW (.cells #[.int .i64 k1, .slice (some ⟨gX, 0, none⟩) xs.length xs.length, .int .i64 d1, .int .i64 l1] 27)
  have kX : Blk (w4.alloc (.cells #[.int .i64 k1, .slice (some ⟨gX, 0, none⟩) xs.length xs.length, .int .i64 d1, .int .i64 l1] 27)) w4.heap.size #[.int .i64 k1, .slice (some ⟨gX, 0, none⟩) xs.length xs.length, .int .i64 d1, .int .i64 l1] 27 := Blk.new _ rfl
  have c_kA := kA.cell
  have f_kA := kA.free
  have l_kA := kA.lt
  have c_kW := kW.cell
  have f_kW := kW.free
  have l_kW := kW.lt
  have c_kX := kX.cell
  have f_kX := kX.free
  have l_kX := kX.lt
  go_wp2_with fail
  refine (HIM.out _ _ hX.sl).mono ?_
  rintro e w5 ⟨s2, rfl, hV2, hb5⟩
  clear c_kA f_kA l_kA c_kW f_kW l_kW c_kX f_kX l_kX
  replace kA := Blk.by hb5 kA
  replace kW := Blk.by hb5 kW
  replace kX := Blk.by hb5 kX
  replace hV1 := hV1.by hb5
  replace hX := hX.by hb5
  replace hW := below_on hb5 hW
  clear hb5
  replace hV2 := hV2.r
  obtain ⟨a2, c2, rfl⟩ := hV2.sl.len
  have hlo2 : w4.heap.size + 1 ≤ (w4.alloc (.cells #[.int .i64 k1, .slice (some ⟨gX, 0, none⟩) xs.length xs.length, .int .i64 d1, .int .i64 l1] 27)).heap.size := by simp
  generalize (w4.alloc (.cells #[.int .i64 k1, .slice (some ⟨gX, 0, none⟩) xs.length xs.length, .int .i64 d1, .int .i64 l1] 27)).heap.size = p2 at *
  generalize w4.heap.size = pX at *
  have hlG := kX.lt
  have c_kA := kA.cell
  have f_kA := kA.free
  have l_kA := kA.lt
  have c_kW := kW.cell
  have f_kW := kW.free
  have l_kW := kW.lt
  have c_kX := kX.cell
  have f_kX := kX.free
  have l_kX := kX.lt
  clear c_kA f_kA l_kA c_kW f_kW l_kW c_kX f_kX l_kX
  replace kA := kA.past (.cells #[.int .i64 k1, .slice a2 zs.length c2, .int .i64 d1, .int .i64 l1] 27)
  replace kW := kW.past (.cells #[.int .i64 k1, .slice a2 zs.length c2, .int .i64 d1, .int .i64 l1] 27)
  replace kX := kX.past (.cells #[.int .i64 k1, .slice a2 zs.length c2, .int .i64 d1, .int .i64 l1] 27)
  replace hV1 := hV1.by ((Below.refl _ w5).alloc (Nat.le_refl _) (.cells #[.int .i64 k1, .slice a2 zs.length c2, .int .i64 d1, .int .i64 l1] 27))
  replace hX := hX.by ((Below.refl _ w5).alloc (Nat.le_refl _) (.cells #[.int .i64 k1, .slice a2 zs.length c2, .int .i64 d1, .int .i64 l1] 27))
  replace hV2 := hV2.by ((Below.refl _ w5).alloc (Nat.le_refl _) (.cells #[.int .i64 k1, .slice a2 zs.length c2, .int .i64 d1, .int .i64 l1] 27))
  replace hW := below_al hW (.cells #[.int .i64 k1, .slice a2 zs.length c2, .int .i64 d1, .int .i64 l1] 27)
  have kG : Blk (w5.alloc (.cells #[.int .i64 k1, .slice a2 zs.length c2, .int .i64 d1, .int .i64 l1] 27)) w5.heap.size #[.int .i64 k1, .slice a2 zs.length c2, .int .i64 d1, .int .i64 l1] 27 := Blk.new _ rfl
  have c_kA := kA.cell
  have f_kA := kA.free
  have l_kA := kA.lt
  have c_kW := kW.cell
  have f_kW := kW.free
  have l_kW := kW.lt
  have c_kX := kX.cell
  have f_kX := kX.free
  have l_kX := kX.lt
  have c_kG := kG.cell
  have f_kG := kG.free
  have l_kG := kG.lt
  go_wp2_with fail
  refine (HEQ.out _ _ _ hV2.sl hV1.sl).mono ?_
  rintro e w6 ⟨rfl, hb6⟩
  clear c_kA f_kA l_kA c_kW f_kW l_kW c_kX f_kX l_kX c_kG f_kG l_kG
  replace kA := Blk.by hb6 kA
  replace kW := Blk.by hb6 kW
  replace kX := Blk.by hb6 kX
  replace kG := Blk.by hb6 kG
  replace hV1 := hV1.by hb6
  replace hX := hX.by hb6
  replace hV2 := hV2.by hb6
  replace hW := below_on hb6 hW
  clear hb6
  generalize w5.heap.size = pG at *
  have c_kA := kA.cell
  have f_kA := kA.free
  have l_kA := kA.lt
  have c_kW := kW.cell
  have f_kW := kW.free
  have l_kW := kW.lt
  have c_kX := kX.cell
  have f_kX := kX.free
  have l_kX := kX.lt
  have c_kG := kG.cell
  have f_kG := kG.free
  have l_kG := kG.lt
  go_wp2_with fail
  go_region_held3 (fun w' => (Blk w' (w.heap.size) #[.int .i64 k1, .slice a xs.length c, .int .i64 d1, .int .i64 l1] 24 ∧ ∀ o, w'.cell? ⟨w.heap.size, o, none⟩ = (#[.int .i64 k1, .slice a xs.length c, .int .i64 d1, .int .i64 l1] : Array Value)[o]?) ∧ (Blk w' (pW) #[.int .i64 k1, .slice a1 zs.length c1, .int .i64 d1, .int .i64 l1] 27 ∧ ∀ o, w'.cell? ⟨pW, o, none⟩ = (#[.int .i64 k1, .slice a1 zs.length c1, .int .i64 d1, .int .i64 l1] : Array Value)[o]?) ∧ (Blk w' (pX) #[.int .i64 k1, .slice (some ⟨gX, 0, none⟩) xs.length xs.length, .int .i64 d1, .int .i64 l1] 27 ∧ ∀ o, w'.cell? ⟨pX, o, none⟩ = (#[.int .i64 k1, .slice (some ⟨gX, 0, none⟩) xs.length xs.length, .int .i64 d1, .int .i64 l1] : Array Value)[o]?) ∧ (Blk w' (pG) #[.int .i64 k1, .slice a2 zs.length c2, .int .i64 d1, .int .i64 l1] 27 ∧ ∀ o, w'.cell? ⟨pG, o, none⟩ = (#[.int .i64 k1, .slice a2 zs.length c2, .int .i64 d1, .int .i64 l1] : Array Value)[o]?) ∧ Below w.heap.size w w') (((try (obtain ⟨⟨hS0, _⟩, ⟨hS1, _⟩, ⟨hS2, _⟩, ⟨hS3, _⟩, hSB⟩ := hHeld)); refine ⟨Blk.both ?_, Blk.both ?_, Blk.both ?_, Blk.both ?_, ?_⟩ <;> first | ((repeat (first | (with_reducible assumption) | (with_reducible refine Blk.drewN ?_ _) | (with_reducible refine Blk.drew ?_) | ((with_reducible refine Blk.new _ ?_); focus (first | omega | (simp; done) | (simp; omega))) | (with_reducible refine Blk.past ?_ _) | ((with_reducible refine Blk.apart ?_ _ _ _ ?_); rotate_left; focus (first | omega | (simp; done) | (simp; omega))) | (with_reducible refine Blk.by (by assumption) ?_))); done) | ((repeat (first | (with_reducible exact Below.refl _ _) | (with_reducible refine below_drewN ?_ _) | (with_reducible refine Below.drew ?_) | (with_reducible refine below_al ?_ _) | (with_reducible refine below_on (by assumption) ?_) | ((with_reducible refine Below.setCell ?_ ?_ _); rotate_left; focus (first | omega | (simp; done) | (simp; omega))) | (with_reducible assumption))); done)))
    (first | (go_at_call 17; refine (HTO.out _ (HS0.out.by (below_drewN hW 1))).mono ?_; rintro e w7 ⟨g7, rfl, hG7, hge7, hb7⟩) | (go_at_call 19; refine (HEX.out _ _ _ ((hX.by (below_of_drewN _ 1)).by hb7).sl (hG7.sl HXL.out)).mono ?_; rintro e w8 ⟨rfl, hb8⟩))
  replace hX := ((hX.by (below_of_drewN _ 1)).by hb7).by hb8
  replace hV1 := ((hV1.by (below_of_drewN _ 1)).by hb7).by hb8
  replace hV2 := ((hV2.by (below_of_drewN _ 1)).by hb7).by hb8
  clear c_kA f_kA l_kA c_kW f_kW l_kW c_kX f_kX l_kX c_kG f_kG l_kG
  replace kA := Blk.by hb8 (Blk.by hb7 (kA.drewN 1))
  replace kW := Blk.by hb8 (Blk.by hb7 (kW.drewN 1))
  replace kX := Blk.by hb8 (Blk.by hb7 (kX.drewN 1))
  replace kG := Blk.by hb8 (Blk.by hb7 (kG.drewN 1))
  replace hW := below_on hb8 (below_on hb7 (below_drewN hW 1))
  clear hb7 hb8 hG7 hge7
  have c_kA := kA.cell
  have f_kA := kA.free
  have l_kA := kA.lt
  have c_kW := kW.cell
  have f_kW := kW.free
  have l_kW := kW.lt
  have c_kX := kX.cell
  have f_kX := kX.free
  have l_kX := kX.lt
  have c_kG := kG.cell
  have f_kG := kG.free
  have l_kG := kG.lt
  go_wp2_with fail
  refine (HMX.out _ _ _ _ hX).mono ?_
  rintro e w9 ⟨rfl, hX9, hw9⟩
  clear c_kA f_kA l_kA c_kW f_kW l_kW c_kX f_kX l_kX c_kG f_kG l_kG
  replace kA := hw9.blk kA (by omega)
  replace kW := hw9.blk kW (by omega)
  replace kX := hw9.blk kX (by omega)
  replace kG := hw9.blk kG (by omega)
  replace hV1 := hV1.past hw9 (by omega)
  replace hV2 := hV2.past hw9 (by omega)
  replace hW := hw9.below hW (by omega)
  clear hw9
  clear hX hX9
  have hd1 : decide (mx < 0) = false := decide_eq_false (by omega)
  have c_kA := kA.cell
  have f_kA := kA.free
  have l_kA := kA.lt
  have c_kW := kW.cell
  have f_kW := kW.free
  have l_kW := kW.lt
  have c_kX := kX.cell
  have f_kX := kX.free
  have l_kX := kX.lt
  have c_kG := kG.cell
  have f_kG := kG.free
  have l_kG := kG.lt
  go_wp2_with fail
  refine (HEQ.out _ _ _ hV2.sl hV1.sl).mono ?_
  rintro e w10 ⟨rfl, hb10⟩
  clear c_kA f_kA l_kA c_kW f_kW l_kW c_kX f_kX l_kX c_kG f_kG l_kG
  replace kA := Blk.by hb10 kA
  replace kW := Blk.by hb10 kW
  replace kX := Blk.by hb10 kX
  replace kG := Blk.by hb10 kG
  replace hV1 := hV1.by hb10
  replace hV2 := hV2.by hb10
  replace hW := below_on hb10 hW
  clear hb10
  have c_kA := kA.cell
  have f_kA := kA.free
  have l_kA := kA.lt
  have c_kW := kW.cell
  have f_kW := kW.free
  have l_kW := kW.lt
  have c_kX := kX.cell
  have f_kX := kX.free
  have l_kX := kX.lt
  have c_kG := kG.cell
  have f_kG := kG.free
  have l_kG := kG.lt
  go_wp2_with fail
  refine (HMZ.out _ _ _ _ hV2).mono ?_
  rintro e w11 ⟨rfl, hV3, hw11⟩
  clear c_kA f_kA l_kA c_kW f_kW l_kW c_kX f_kX l_kX c_kG f_kG l_kG
  replace kA := hw11.blk kA (by omega)
  replace kW := hw11.blk kW (by omega)
  replace kX := hw11.blk kX (by omega)
  replace kG := hw11.blk kG (by omega)
  replace hV1 := hV1.past hw11 (by omega)
  replace hW := hw11.below hW (by omega)
  clear hw11
  clear hV2
  have c_kA := kA.cell
  have f_kA := kA.free
  have l_kA := kA.lt
  have c_kW := kW.cell
  have f_kW := kW.free
  have l_kW := kW.lt
  have c_kX := kX.cell
  have f_kX := kX.free
  have l_kX := kX.lt
  have c_kG := kG.cell
  have f_kG := kG.free
  have l_kG := kG.lt
  go_wp2_with fail
  refine (HHZ.out _ _ hV3.sl).mono ?_
  rintro e w12 ⟨rfl, hb12⟩
  clear c_kA f_kA l_kA c_kW f_kW l_kW c_kX f_kX l_kX c_kG f_kG l_kG
  replace kA := Blk.by hb12 kA
  replace kW := Blk.by hb12 kW
  replace kX := Blk.by hb12 kX
  replace kG := Blk.by hb12 kG
  replace hV1 := hV1.by hb12
  replace hV3 := hV3.by hb12
  replace hW := below_on hb12 hW
  clear hb12
  have c_kA := kA.cell
  have f_kA := kA.free
  have l_kA := kA.lt
  have c_kW := kW.cell
  have f_kW := kW.free
  have l_kW := kW.lt
  have c_kX := kX.cell
  have f_kX := kX.free
  have l_kX := kX.lt
  have c_kG := kG.cell
  have f_kG := kG.free
  have l_kG := kG.lt
  go_wp2_with fail
  refine (HTO.out _ (HS0.out.by hW)).mono ?_
  rintro e w13 ⟨g13, rfl, hG13, hge13, hb13⟩
  clear c_kA f_kA l_kA c_kW f_kW l_kW c_kX f_kX l_kX c_kG f_kG l_kG
  replace kA := Blk.by hb13 kA
  replace kW := Blk.by hb13 kW
  replace kX := Blk.by hb13 kX
  replace kG := Blk.by hb13 kG
  replace hV1 := hV1.by hb13
  replace hV3 := hV3.by hb13
  replace hW := below_on hb13 hW
  clear hb13
  have c_kA := kA.cell
  have f_kA := kA.free
  have l_kA := kA.lt
  have c_kW := kW.cell
  have f_kW := kW.free
  have l_kW := kW.lt
  have c_kX := kX.cell
  have f_kX := kX.free
  have l_kX := kX.lt
  have c_kG := kG.cell
  have f_kG := kG.free
  have l_kG := kG.lt
  go_wp2_with fail
  refine (HIM.out _ _ (hG13.sl HXL.out)).mono ?_
  rintro e w14 ⟨s4, rfl, hV4, hb14⟩
  clear c_kA f_kA l_kA c_kW f_kW l_kW c_kX f_kX l_kX c_kG f_kG l_kG
  replace kA := Blk.by hb14 kA
  replace kW := Blk.by hb14 kW
  replace kX := Blk.by hb14 kX
  replace kG := Blk.by hb14 kG
  replace hV1 := hV1.by hb14
  replace hV3 := hV3.by hb14
  replace hW := below_on hb14 hW
  clear hb14 hG13 hge13
  replace hV4 := hV4.r
  obtain ⟨a4, c4, rfl⟩ := hV4.sl.len
  have c_kA := kA.cell
  have f_kA := kA.free
  have l_kA := kA.lt
  have c_kW := kW.cell
  have f_kW := kW.free
  have l_kW := kW.lt
  have c_kX := kX.cell
  have f_kX := kX.free
  have l_kX := kX.lt
  have c_kG := kG.cell
  have f_kG := kG.free
  have l_kG := kG.lt
  clear c_kA f_kA l_kA c_kW f_kW l_kW c_kX f_kX l_kX c_kG f_kG l_kG
  replace kA := kA.past (.cells #[.int .i64 k1, .slice a4 zs.length c4, .int .i64 d1, .int .i64 l1] 27)
  replace kW := kW.past (.cells #[.int .i64 k1, .slice a4 zs.length c4, .int .i64 d1, .int .i64 l1] 27)
  replace kX := kX.past (.cells #[.int .i64 k1, .slice a4 zs.length c4, .int .i64 d1, .int .i64 l1] 27)
  replace kG := kG.past (.cells #[.int .i64 k1, .slice a4 zs.length c4, .int .i64 d1, .int .i64 l1] 27)
  replace hV1 := hV1.by ((Below.refl _ w14).alloc (Nat.le_refl _) (.cells #[.int .i64 k1, .slice a4 zs.length c4, .int .i64 d1, .int .i64 l1] 27))
  replace hV3 := hV3.by ((Below.refl _ w14).alloc (Nat.le_refl _) (.cells #[.int .i64 k1, .slice a4 zs.length c4, .int .i64 d1, .int .i64 l1] 27))
  replace hV4 := hV4.by ((Below.refl _ w14).alloc (Nat.le_refl _) (.cells #[.int .i64 k1, .slice a4 zs.length c4, .int .i64 d1, .int .i64 l1] 27))
  replace hW := below_al hW (.cells #[.int .i64 k1, .slice a4 zs.length c4, .int .i64 d1, .int .i64 l1] 27)
  have kH : Blk (w14.alloc (.cells #[.int .i64 k1, .slice a4 zs.length c4, .int .i64 d1, .int .i64 l1] 27)) w14.heap.size #[.int .i64 k1, .slice a4 zs.length c4, .int .i64 d1, .int .i64 l1] 27 := Blk.new _ rfl
  have c_kA := kA.cell
  have f_kA := kA.free
  have l_kA := kA.lt
  have c_kW := kW.cell
  have f_kW := kW.free
  have l_kW := kW.lt
  have c_kX := kX.cell
  have f_kX := kX.free
  have l_kX := kX.lt
  have c_kG := kG.cell
  have f_kG := kG.free
  have l_kG := kG.lt
  have c_kH := kH.cell
  have f_kH := kH.free
  have l_kH := kH.lt
  go_wp2_with fail
  refine (HEQ.out _ _ _ hV4.sl hV1.sl).mono ?_
  rintro e w15 ⟨rfl, hb15⟩
  clear c_kA f_kA l_kA c_kW f_kW l_kW c_kX f_kX l_kX c_kG f_kG l_kG c_kH f_kH l_kH
  replace kA := Blk.by hb15 kA
  replace kW := Blk.by hb15 kW
  replace kX := Blk.by hb15 kX
  replace kG := Blk.by hb15 kG
  replace kH := Blk.by hb15 kH
  replace hV1 := hV1.by hb15
  replace hV3 := hV3.by hb15
  replace hV4 := hV4.by hb15
  replace hW := below_on hb15 hW
  clear hb15
  have c_kA := kA.cell
  have f_kA := kA.free
  have l_kA := kA.lt
  have c_kW := kW.cell
  have f_kW := kW.free
  have l_kW := kW.lt
  have c_kX := kX.cell
  have f_kX := kX.free
  have l_kX := kX.lt
  have c_kG := kG.cell
  have f_kG := kG.free
  have l_kG := kG.lt
  have c_kH := kH.cell
  have f_kH := kH.free
  have l_kH := kH.lt
  go_wp2_with fail
  refine (HHZ.out _ _ hV3.sl).mono ?_
  rintro e w16 ⟨rfl, hb16⟩
  clear c_kA f_kA l_kA c_kW f_kW l_kW c_kX f_kX l_kX c_kG f_kG l_kG c_kH f_kH l_kH
  replace kA := Blk.by hb16 kA
  replace kW := Blk.by hb16 kW
  replace kX := Blk.by hb16 kX
  replace kG := Blk.by hb16 kG
  replace kH := Blk.by hb16 kH
  replace hV1 := hV1.by hb16
  replace hV3 := hV3.by hb16
  replace hV4 := hV4.by hb16
  replace hW := below_on hb16 hW
  clear hb16
  have c_kA := kA.cell
  have f_kA := kA.free
  have l_kA := kA.lt
  have c_kW := kW.cell
  have f_kW := kW.free
  have l_kW := kW.lt
  have c_kX := kX.cell
  have f_kX := kX.free
  have l_kX := kX.lt
  have c_kG := kG.cell
  have f_kG := kG.free
  have l_kG := kG.lt
  have c_kH := kH.cell
  have f_kH := kH.free
  have l_kH := kH.lt
  go_wp2
  go_ret
  exact ⟨rfl, hW⟩
end Go.Proofs.Ythcaipohdeigeaa.fnExactNormalizeDevice
