/- The walk of FnExactEffectiveResistance. -/
import Derived.Test.YtljlcjficjefdaaEr
import Derived.Test.YtljlcjficjefdaaNw
namespace Go.Proofs.Ytljlcjficjefdaa.fnExactEffectiveResistance
open Go.RowKit Go.Proofs.Ytljlcjficjefdaa
set_option linter.unusedVariables false
set_option linter.unusedSimpArgs false

set_option maxRecDepth 100000 in
set_option maxHeartbeats 4000000 in
theorem walk (v0 v1 v2 : Value) (w : World) (x : Nw) (w0 : IsNwV w v0 x) (a : Int) (w1 : IsI64 v1 a) (b : Int) (w2 : IsI64 v2 b) :
    Calls Try.prog 3 #[v0, v1, v2] w fun e w' => e = .returned (.bool true) ∧ Below w.heap.size w w' := by
  obtain ⟨hS, hnn, hok⟩ := w0
  obtain ⟨rfl, ab⟩ := w1
  obtain ⟨rfl, bb⟩ := w2
  have HSZ := Lib.hid (fun w h => szNw_any v0 x 1048576 w h (by omega) (by omega))
  have HNV := Lib.hid hS
  obtain ⟨a0, c0, rfl⟩ := hS.sized
  by_cases hbig : (1048576 : Int) < x.rs.length
  · have HZ := HSZ.out
    rw [if_pos hbig] at HZ
    have HZ' := Lib.hid HZ
    clear HSZ HZ hS hbig
    go_enter Try.func3, Try.ntmps3
    go_wp2_with fail
    refine (HZ'.out _ (HNV.out.by (by ((repeat (first | (with_reducible exact Below.refl _ _) | (with_reducible refine below_drewN ?_ _) | (with_reducible refine Below.drew ?_) | (with_reducible refine below_al ?_ _) | (with_reducible refine below_on (by assumption) ?_) | ((with_reducible refine Below.setCell ?_ ?_ _); rotate_left; focus (first | omega | (simp; done) | (simp; omega))) | (with_reducible assumption))); done)))).mono ?_
    rintro e w1 ⟨rfl, hb1⟩
    go_wp2
    go_ret
    exact ⟨rfl, (by ((repeat (first | (with_reducible exact Below.refl _ _) | (with_reducible refine below_drewN ?_ _) | (with_reducible refine Below.drew ?_) | (with_reducible refine below_al ?_ _) | (with_reducible refine below_on (by assumption) ?_) | ((with_reducible refine Below.setCell ?_ ?_ _); rotate_left; focus (first | omega | (simp; done) | (simp; omega))) | (with_reducible assumption))); done))⟩
  · have HZ := HSZ.out
    rw [if_neg hbig] at HZ
    have hlen : x.rs.length ≤ 1048576 := by omega
    obtain ⟨l, hl⟩ : ∃ l : Int, (1048576 : Int) - x.rs.length = l := ⟨_, rfl⟩
    have hl0 : 0 ≤ l := by omega
    rw [hl] at HZ
    have HZ' := Lib.hid HZ
    have HTO := Lib.hid (fun v w h => toNetwork_nw v x w h hlen)
    have HTW := Lib.hid (fun v w h => toNetwork_own v x w h hlen)
    have HSP := Lib.hid (fun v w h => specEr_any x a b v w h hok hnn)
    have HIM := Lib.hid (fun v w h => implEr_any x a b v w h hok hnn)
    have HEQ := Lib.hid (fun v1 v2 w h h' => eqNetwork_nw v1 v2 x w h h')
    generalize nkC x a b = r at *
    generalize (erS x a b).n = X at *
    generalize (erS x a b).d = Y at *
    have HER := Lib.hid (fun w => eqRatio_refl X Y w)
    clear HSZ HZ hl hbig hok hnn hS ab bb
    go_enter Try.func3, Try.ntmps3
    go_wp2_with fail
    refine (HZ'.out _ (HNV.out.by (by ((repeat (first | (with_reducible exact Below.refl _ _) | (with_reducible refine below_drewN ?_ _) | (with_reducible refine Below.drew ?_) | (with_reducible refine below_al ?_ _) | (with_reducible refine below_on (by assumption) ?_) | ((with_reducible refine Below.setCell ?_ ?_ _); rotate_left; focus (first | omega | (simp; done) | (simp; omega))) | (with_reducible assumption))); done)))).mono ?_
    rintro e w1 ⟨rfl, hb1⟩
    have kA : Blk w1 w.heap.size #[.int .i64 x.nodes, .slice a0 x.rs.length c0] 24 := (by ((repeat (first | (with_reducible assumption) | (with_reducible refine Blk.drewN ?_ _) | (with_reducible refine Blk.drew ?_) | ((with_reducible refine Blk.new _ ?_); focus (first | omega | (simp; done) | (simp; omega))) | (with_reducible refine Blk.past ?_ _) | ((with_reducible refine Blk.apart ?_ _ _ _ ?_); rotate_left; focus (first | omega | (simp; done) | (simp; omega))) | (with_reducible refine Blk.by (by assumption) ?_))); done))
    have hW : Below w.heap.size w w1 := (by ((repeat (first | (with_reducible exact Below.refl _ _) | (with_reducible refine below_drewN ?_ _) | (with_reducible refine Below.drew ?_) | (with_reducible refine below_al ?_ _) | (with_reducible refine below_on (by assumption) ?_) | ((with_reducible refine Below.setCell ?_ ?_ _); rotate_left; focus (first | omega | (simp; done) | (simp; omega))) | (with_reducible assumption))); done))
    have qA := kA.cell
    clear hb1
    go_wp2_with fail
    refine (HTO.out _ _ (HNV.out.by hW)).mono ?_
    rintro e w2 ⟨v2, rfl, hN2, hb2⟩
    have HN2 := Lib.hid hN2
    obtain ⟨a2, c2, rfl⟩ := hN2.sized
    replace kA := Blk.by hb2 kA
    replace hW := below_on hb2 hW
    clear qA hb2 hN2
    have qA := kA.cell
    go_wp2_with fail
    refine (HSP.out _ _ HN2.out).mono ?_
    rintro e w3 ⟨rfl, hb3⟩
    replace kA := Blk.by hb3 kA
    replace hW := below_on hb3 hW
    clear qA hb3 HN2
    have kW : Blk (w3.alloc (.cells #[.int .i64 X, .int .i64 Y] 27)) w3.heap.size #[.int .i64 X, .int .i64 Y] 27 := Blk.new _ rfl
    replace kA := kA.past (.cells #[.int .i64 X, .int .i64 Y] 27)
    replace hW := below_al hW (.cells #[.int .i64 X, .int .i64 Y] 27)
    have qA := kA.cell
    have lA := kA.lt
    have hWs := hW.size
    go_wp2_with fail
    refine (HTW.out _ _ (HNV.out.by hW)).mono ?_
    rintro e w4 ⟨v4, rfl, hO4, hb4⟩
    have HN4 := Lib.hid hO4.nw
    obtain ⟨a4, c4, rfl⟩ := hO4.nw.sized
    replace kA := Blk.by hb4 kA
    replace kW := Blk.by hb4 kW
    replace hW := below_on hb4 hW
    clear qA lA hb4 hO4
    generalize w3.heap.size = pW at *
    have kX : Blk (w4.alloc (.cells #[.int .i64 x.nodes, .slice a4 x.rs.length c4] 32)) w4.heap.size #[.int .i64 x.nodes, .slice a4 x.rs.length c4] 32 := Blk.new _ rfl
    replace kA := kA.past (.cells #[.int .i64 x.nodes, .slice a4 x.rs.length c4] 32)
    replace kW := kW.past (.cells #[.int .i64 x.nodes, .slice a4 x.rs.length c4] 32)
    replace HN4 := Lib.hid (HN4.out.by ((Below.refl _ w4).alloc (Nat.le_refl _) (.cells #[.int .i64 x.nodes, .slice a4 x.rs.length c4] 32)))
    replace hW := below_al hW (.cells #[.int .i64 x.nodes, .slice a4 x.rs.length c4] 32)
    have qA := kA.cell
    have lA := kA.lt
    have qW := kW.cell
    have lW := kW.lt
    go_wp2_with fail
    refine (HIM.out _ _ HN4.out).mono ?_
    rintro e w5 ⟨rfl, hb5⟩
    replace kA := Blk.by hb5 kA
    replace kW := Blk.by hb5 kW
    replace kX := Blk.by hb5 kX
    replace HN4 := Lib.hid (HN4.out.by hb5)
    replace hW := below_on hb5 hW
    clear qA lA qW lW hb5
    generalize w4.heap.size = pX at *
    have kG : Blk (w5.alloc (.cells #[.int .i64 X, .int .i64 Y] 27)) w5.heap.size #[.int .i64 X, .int .i64 Y] 27 := Blk.new _ rfl
    replace kA := kA.past (.cells #[.int .i64 X, .int .i64 Y] 27)
    replace kW := kW.past (.cells #[.int .i64 X, .int .i64 Y] 27)
    replace kX := kX.past (.cells #[.int .i64 X, .int .i64 Y] 27)
    replace HN4 := Lib.hid (HN4.out.by ((Below.refl _ w5).alloc (Nat.le_refl _) (.cells #[.int .i64 X, .int .i64 Y] 27)))
    replace hW := below_al hW (.cells #[.int .i64 X, .int .i64 Y] 27)
    have qA := kA.cell
    have lA := kA.lt
    have qW := kW.cell
    have lW := kW.lt
    have qX := kX.cell
    have lX := kX.lt
    go_wp2_with fail
    refine (HER.out _).mono ?_
    rintro e w6 ⟨rfl, hb6⟩
    replace kA := Blk.by hb6 kA
    replace kX := Blk.by hb6 kX
    replace HN4 := Lib.hid (HN4.out.by hb6)
    replace hW := below_on hb6 hW
    clear qA lA qW lW qX lX hb6 kW kG
    have qA := kA.cell
    have qX := kX.cell
    go_wp2_with fail
    go_region_held3 (fun w' => (Blk w' w.heap.size #[.int .i64 x.nodes, .slice a0 x.rs.length c0] 24 ∧ ∀ o, w'.cell? ⟨w.heap.size, o, none⟩ = (#[.int .i64 x.nodes, .slice a0 x.rs.length c0] : Array Value)[o]?) ∧ (Blk w' pX #[.int .i64 x.nodes, .slice a4 x.rs.length c4] 32 ∧ ∀ o, w'.cell? ⟨pX, o, none⟩ = (#[.int .i64 x.nodes, .slice a4 x.rs.length c4] : Array Value)[o]?) ∧ Below w.heap.size w w') (((try (obtain ⟨⟨hS0, _⟩, ⟨hS1, _⟩, hSB⟩ := hHeld)); refine ⟨Blk.both ?_, Blk.both ?_, ?_⟩ <;> first | ((repeat (first | (with_reducible assumption) | (with_reducible refine Blk.drewN ?_ _) | (with_reducible refine Blk.drew ?_) | ((with_reducible refine Blk.new _ ?_); focus (first | omega | (simp; done) | (simp; omega))) | (with_reducible refine Blk.past ?_ _) | ((with_reducible refine Blk.apart ?_ _ _ _ ?_); rotate_left; focus (first | omega | (simp; done) | (simp; omega))) | (with_reducible refine Blk.by (by assumption) ?_))); done) | ((repeat (first | (with_reducible exact Below.refl _ _) | (with_reducible refine below_drewN ?_ _) | (with_reducible refine Below.drew ?_) | (with_reducible refine below_al ?_ _) | (with_reducible refine below_on (by assumption) ?_) | ((with_reducible refine Below.setCell ?_ ?_ _); rotate_left; focus (first | omega | (simp; done) | (simp; omega))) | (with_reducible assumption))); done)))
      (first | (go_at_call 11; refine (HTO.out _ _ ((HNV.out.by hW).by (below_of_drewN w6 1))).mono ?_; rintro e w7 ⟨v7, rfl, hN7, hb7⟩; have HN7 := Lib.hid hN7; obtain ⟨a7, c7, rfl⟩ := hN7.sized; clear hN7) | (go_at_call 14; refine (HEQ.out _ _ _ ((HN4.out.by (below_of_drewN w6 1)).by hb7) HN7.out).mono ?_; rintro e w8 ⟨rfl, hb8⟩))
    go_wp2
    go_ret
    exact ⟨rfl, (by ((repeat (first | (with_reducible exact Below.refl _ _) | (with_reducible refine below_drewN ?_ _) | (with_reducible refine Below.drew ?_) | (with_reducible refine below_al ?_ _) | (with_reducible refine below_on (by assumption) ?_) | ((with_reducible refine Below.setCell ?_ ?_ _); rotate_left; focus (first | omega | (simp; done) | (simp; omega))) | (with_reducible assumption))); done))⟩
end Go.Proofs.Ytljlcjficjefdaa.fnExactEffectiveResistance
