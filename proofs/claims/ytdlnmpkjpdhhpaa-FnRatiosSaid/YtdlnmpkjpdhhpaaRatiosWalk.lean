/- The walk of FnRatios. -/
import Derived.Test.YtdlnmpkjpdhhpaaDice
import Derived.Test.YtdlnmpkjpdhhpaaSums
import Derived.Test.YtdlnmpkjpdhhpaaRLaw
namespace Go.Proofs.Ytdlnmpkjpdhhpaa.fnRatios
open Go.RowKit Go.Proofs.Ytdlnmpkjpdhhpaa
set_option linter.unusedVariables false

theorem implMake_is (n d N D : Int) (w : World) (hN : redN n d = N) (hD : redD n d = D) (hn : -1000000 ≤ n) (hn' : n ≤ 1000000) (hd : -1000000 ≤ d) (hd' : d ≤ 1000000) (h0 : d ≠ 0) :
    Calls Try.prog 16 #[.int .i64 n, .int .i64 d] w fun e w' => e = .returned (.tuple #[.agg #[.int .i64 N, .int .i64 D], .int .i64 0]) ∧ Below w.heap.size w w' := by
  have h := implMake_any n d w (by omega) (by omega) (by omega) (by omega)
  obtain ⟨m1, m2, m3⟩ := mk_in (n := n) (d := d) h0 (inB_iff.2 (by omega)) (inB_iff.2 (by omega))
  rw [m1, m2, m3, hN, hD] at h
  exact h
theorem implAdd_is (n1 d1 n2 d2 N D : Int) (w : World) (hc : arC n1 d1 n2 d2 = 0) (hN : redN (n1 * d2 + n2 * d1) (d1 * d2) = N) (hD : redD (n1 * d2 + n2 * d1) (d1 * d2) = D) :
    Calls Try.prog 21 #[.agg #[.int .i64 n1, .int .i64 d1], .agg #[.int .i64 n2, .int .i64 d2]] w fun e w' => e = .returned (.tuple #[.agg #[.int .i64 N, .int .i64 D], .int .i64 0]) ∧ Below w.heap.size w w' := by
  have hb := vals_of_arC hc
  have h := implAddRatios_any n1 d1 n2 d2 w hb.1 hb.2.1 hb.2.2.1 hb.2.2.2
  rw [hc, (when_0 _ _).1, (when_0 _ _).2, hN, hD] at h
  exact h
theorem implMul_is (n1 d1 n2 d2 N D : Int) (w : World) (hc : arC n1 d1 n2 d2 = 0) (hN : redN (n1 * n2) (d1 * d2) = N) (hD : redD (n1 * n2) (d1 * d2) = D) :
    Calls Try.prog 22 #[.agg #[.int .i64 n1, .int .i64 d1], .agg #[.int .i64 n2, .int .i64 d2]] w fun e w' => e = .returned (.tuple #[.agg #[.int .i64 N, .int .i64 D], .int .i64 0]) ∧ Below w.heap.size w w' := by
  have hb := vals_of_arC hc
  have h := implMultiplyRatios_any n1 d1 n2 d2 w hb.1 hb.2.1 hb.2.2.1 hb.2.2.2
  rw [hc, (when_0 _ _).1, (when_0 _ _).2, hN, hD] at h
  exact h

set_option maxRecDepth 100000 in
set_option maxHeartbeats 4000000 in
theorem walk (v0 : Value) (w : World) (n : Nat) (hB : Bytes w v0 n) :
    Calls Try.prog 4 #[v0] w fun e w' => e = .returned (.bool true) ∧ Below w.heap.size w w' := by
  by_cases hn : 4096 < n
  · have hd : decide (4096 < n) = true := by simpa using hn
    have HBig := Lib.hid (fun w h => (hd ▸ big_any v0 n w h : Calls Try.prog 18 #[v0] w fun e w' => e = .returned (.bool true) ∧ w = w'))
    go_enter Try.func4, Try.ntmps4
    go_wp2_with fail
    refine (HBig.out _ hB).mono ?_
    rintro e w' ⟨rfl, rfl⟩
    go_wp2
    go_ret
    exact ⟨rfl, Below.refl _ _⟩
  · have hd : decide (4096 < n) = false := by simpa using hn
    have HBig := Lib.hid (fun w h => (hd ▸ big_any v0 n w h : Calls Try.prog 18 #[v0] w fun e w' => e = .returned (.bool false) ∧ w = w'))
    have hn' : n ≤ 4096 := by omega
    clear hd hn
    go_enter Try.func4, Try.ntmps4
    go_wp2_with fail
    refine (HBig.out _ hB).mono ?_
    rintro e w' ⟨rfl, rfl⟩
    go_wp2_with fail
    refine (roll_any v0 n _ _ hB).mono ?_
    rintro e w1 ⟨rfl, ⟨x, hx⟩, hb1⟩
    have hD := dice_of_roll (Below.refl _ _) hB hn' hx hb1
    clear hx
    go_wp2_with fail
    refine (below_any w _ v0 n 199 _ hD (by omega) (by omega)).mono ?_
    rintro e w2 ⟨v1, rfl, p1, q1, hD, hO⟩
    go_wp2_with fail
    refine (below_any w _ v0 n 30 _ hD (by omega) (by omega)).mono ?_
    rintro e w3 ⟨v2, rfl, p2, q2, hD, hO2⟩
    go_wp2_with fail
    have l3 := hD.lt
    refine (below_any w _ v0 n 199 _ (hD.alloc _) (by omega) (by omega)).mono ?_
    clear hD
    rintro e w4 ⟨v3, rfl, p3, q3, hD, hO3⟩
    have kA : Blk w4 w3.heap.size #[.int .i64 (v1 - 99), .int .i64 (1 + v2)] 23 := hO3.blk (Blk.new _ rfl) (by omega)
    generalize w3.heap.size = pa at *
    clear hO hO2 hO3 hb1
    go_wp2_with fail
    refine (below_any w _ v0 n 30 _ hD (by omega) (by omega)).mono ?_
    clear hD
    rintro e w5 ⟨v4, rfl, p4, q4, hD, hO4⟩
    replace kA := hO4.blk kA (by omega)
    clear hO4
    have cA := kA.cell
    have fA := kA.free
    have lA := kA.lt
    have l5 := hD.lt
    obtain ⟨an, eA1⟩ : ∃ x, redN (v1 - 99) (1 + v2) = x := ⟨_, rfl⟩
    obtain ⟨ad, eA2⟩ : ∃ x, redD (v1 - 99) (1 + v2) = x := ⟨_, rfl⟩
    obtain ⟨bn, eB1⟩ : ∃ x, redN (v3 - 99) (-(1 + v4)) = x := ⟨_, rfl⟩
    obtain ⟨bd, eB2⟩ : ∃ x, redD (v3 - 99) (-(1 + v4)) = x := ⟨_, rfl⟩
    have HA1 := Lib.hid eA1
    have HA2 := Lib.hid eA2
    have HB1 := Lib.hid eB1
    have HB2 := Lib.hid eB2
    clear eA1 eA2 eB1 eB2
    go_wp2_with fail
    refine (implMake_is (v1 - 99) (1 + v2) an ad _ HA1.out HA2.out (by omega) (by omega) (by omega) (by omega) (by omega)).mono ?_
    rintro e w6 ⟨rfl, hb6⟩
    have lA' := lA
    clear cA fA lA
    replace kA := Blk.by hb6 (kA.past _)
    have kB : Blk w6 w5.heap.size #[.int .i64 (v3 - 99), .int .i64 (1 + v4)] 23 := Blk.by hb6 (Blk.new _ rfl)
    replace hD := (hD.alloc _).by hb6
    clear hb6
    have cA := kA.cell
    have fA := kA.free
    have lA := kA.lt
    have cB := kB.cell
    have fB := kB.free
    have lB := kB.lt
    generalize w5.heap.size = pb at *
    go_wp2_with fail
    refine (implMake_is (v3 - 99) _ bn bd _ (by first | exact HB1.out | (rw [show (-1 + -v4 : Int) = -(1 + v4) from by omega]; exact HB1.out) | (rw [show (-1 - v4 : Int) = -(1 + v4) from by omega]; exact HB1.out)) (by first | exact HB2.out | (rw [show (-1 + -v4 : Int) = -(1 + v4) from by omega]; exact HB2.out) | (rw [show (-1 - v4 : Int) = -(1 + v4) from by omega]; exact HB2.out)) (by omega) (by omega) (by omega) (by omega) (by omega)).mono ?_
    rintro e w7 ⟨rfl, hb7⟩
    clear cA fA lA cB fB lB
    replace kA := Blk.by hb7 kA.set2
    replace kB := Blk.by hb7 ((kB.apart pa 0 (.int .i64 an) (by omega)).apart pa 1 (.int .i64 ad) (by omega))
    replace hD := ((hD.apart (b := pa) (o := 0) (v := .int .i64 an) (by omega) (by omega)).apart (b := pa) (o := 1) (v := .int .i64 ad) (by omega) (by omega)).by hb7
    clear hb7
    have cA := kA.cell
    have fA := kA.free
    have lA := kA.lt
    have cB := kB.cell
    have fB := kB.free
    have lB := kB.lt
    go_wp2_with fail
    clear cA fA lA cB fB lB
    replace kA := (kA.apart pb 0 (.int .i64 bn) (by omega)).apart pb 1 (.int .i64 bd) (by omega)
    replace kB := kB.set2 (x := .int .i64 bn) (y := .int .i64 bd)
    replace hD := (hD.apart (b := pb) (o := 0) (v := .int .i64 bn) (by omega) (by omega)).apart (b := pb) (o := 1) (v := .int .i64 bd) (by omega) (by omega)
    refine (below_any w _ v0 n 41 _ hD (by omega) (by omega)).mono ?_
    clear hD
    rintro e w8 ⟨v5, rfl, p5, q5, hD, hO⟩
    replace kA := hO.blk kA (by omega)
    replace kB := hO.blk kB (by omega)
    have hW := hD.below
    clear hO hD
    obtain ⟨cn, eC1⟩ : ∃ x, redN (v5 - 20) 7 = x := ⟨_, rfl⟩
    obtain ⟨cd, eC2⟩ : ∃ x, redD (v5 - 20) 7 = x := ⟨_, rfl⟩
    have HC1 := Lib.hid eC1
    have HC2 := Lib.hid eC2
    clear eC1 eC2
    have cA := kA.cell
    have fA := kA.free
    have lA := kA.lt
    have cB := kB.cell
    have fB := kB.free
    have lB := kB.lt
    go_wp2_with fail
    refine (implMake_is (v5 - 20) 7 cn cd _ HC1.out HC2.out (by omega) (by omega) (by omega) (by omega) (by omega)).mono ?_
    rintro e w9 ⟨rfl, hb9⟩
    clear cA fA lA cB fB lB
    replace kA := Blk.by hb9 kA
    replace kB := Blk.by hb9 kB
    replace hW := below_on hb9 hW
    clear hb9
    obtain ⟨abN, abD, pN, pD, qN, qD, xN, xD, r1, r2, r3, r4, r5, r6, r7, r8, r9, r10, r11, r12, r13, s1, s2, s3, s4, s5, s6⟩ := drawn_law p1 q1 p2 q2 p3 q3 p4 q4 p5 q5 HA1.out HA2.out HB1.out HB2.out HC1.out HC2.out
    have Rr1 := Lib.hid r1
    have Rr2 := Lib.hid r2
    have Rr3 := Lib.hid r3
    have Rr4 := Lib.hid r4
    have Rr6 := Lib.hid r6
    have Rr7 := Lib.hid r7
    have Rr8 := Lib.hid r8
    have Rr9 := Lib.hid r9
    have Rr10 := Lib.hid r10
    have Rr11 := Lib.hid r11
    have Rr12 := Lib.hid r12
    have Rr13 := Lib.hid r13
    have Rs1 := Lib.hid s1
    have Rs2 := Lib.hid s2
    have Rs3 := Lib.hid s3
    have Rs4 := Lib.hid s4
    have Rs5 := Lib.hid s5
    have Rs6 := Lib.hid s6
    clear r1 r2 r3 r4 r6 r7 r8 r9 r10 r11 r12 r13 s1 s2 s3 s4 s5 s6 p1 q1 p2 q2 p3 q3 p4 q4 p5 q5
    have cA := kA.cell
    have fA := kA.free
    have lA := kA.lt
    have cB := kB.cell
    have fB := kB.free
    have lB := kB.lt
    go_wp2_with fail
    refine (implAdd_is an ad bn bd abN abD _ Rs1.out Rr1.out Rr2.out).mono ?_
    rintro e w10 ⟨rfl, hb10⟩
    clear cA fA lA cB fB lB
    replace kA := Blk.by hb10 (kA.past _)
    replace kB := Blk.by hb10 (kB.past _)
    have kC : Blk w10 w9.heap.size #[.int .i64 cn, .int .i64 cd] 23 := Blk.by hb10 (Blk.new _ rfl)
    replace hW := below_on hb10 (below_al hW _)
    clear hb10
    generalize w9.heap.size = pC at *
    have cA := kA.cell
    have fA := kA.free
    have lA := kA.lt
    have cB := kB.cell
    have fB := kB.free
    have lB := kB.lt
    have cC := kC.cell
    have fC := kC.free
    have lC := kC.lt
    go_wp2_with fail
    refine (implAdd_is bn bd an ad abN abD _ Rs2.out Rr3.out Rr4.out).mono ?_
    rintro e w11 ⟨rfl, hb11⟩
    clear cA fA lA cB fB lB cC fC lC
    replace kA := Blk.by hb11 (kA.past _)
    replace kB := Blk.by hb11 (kB.past _)
    replace kC := Blk.by hb11 (kC.past _)
    have kX : Blk w11 w10.heap.size #[.int .i64 abN, .int .i64 abD] 23 := Blk.by hb11 (Blk.new _ rfl)
    replace hW := below_on hb11 (below_al hW _)
    clear hb11
    generalize w10.heap.size = pX at *
    have cA := kA.cell
    have fA := kA.free
    have lA := kA.lt
    have cB := kB.cell
    have fB := kB.free
    have lB := kB.lt
    have cC := kC.cell
    have fC := kC.free
    have lC := kC.lt
    have cX := kX.cell
    have fX := kX.free
    have lX := kX.lt
    go_wp2_with fail
    refine (implMul_is cn cd abN abD xN xD _ Rs3.out Rr6.out Rr7.out).mono ?_
    rintro e w12 ⟨rfl, hb12⟩
    clear cA fA lA cB fB lB cC fC lC cX fX lX
    replace kA := Blk.by hb12 (kA.past _)
    replace kB := Blk.by hb12 (kB.past _)
    replace kC := Blk.by hb12 (kC.past _)
    replace kX := Blk.by hb12 (kX.past _)
    have kY : Blk w12 w11.heap.size #[.int .i64 abN, .int .i64 abD] 23 := Blk.by hb12 (Blk.new _ rfl)
    replace hW := below_on hb12 (below_al hW _)
    clear hb12
    generalize w11.heap.size = pY at *
    have cA := kA.cell
    have fA := kA.free
    have lA := kA.lt
    have cB := kB.cell
    have fB := kB.free
    have lB := kB.lt
    have cC := kC.cell
    have fC := kC.free
    have lC := kC.lt
    have cX := kX.cell
    have fX := kX.free
    have lX := kX.lt
    have cY := kY.cell
    have fY := kY.free
    have lY := kY.lt
    go_wp2_with fail
    refine (implMul_is cn cd an ad pN pD _ Rs4.out Rr8.out Rr9.out).mono ?_
    rintro e w13 ⟨rfl, hb13⟩
    clear cA fA lA cB fB lB cC fC lC cX fX lX cY fY lY
    replace kA := Blk.by hb13 (kA.past _)
    replace kB := Blk.by hb13 (kB.past _)
    replace kC := Blk.by hb13 (kC.past _)
    replace kX := Blk.by hb13 (kX.past _)
    replace kY := Blk.by hb13 (kY.past _)
    have kZ : Blk w13 w12.heap.size #[.int .i64 xN, .int .i64 xD] 23 := Blk.by hb13 (Blk.new _ rfl)
    replace hW := below_on hb13 (below_al hW _)
    clear hb13
    generalize w12.heap.size = pZ at *
    have cA := kA.cell
    have fA := kA.free
    have lA := kA.lt
    have cB := kB.cell
    have fB := kB.free
    have lB := kB.lt
    have cC := kC.cell
    have fC := kC.free
    have lC := kC.lt
    have cX := kX.cell
    have fX := kX.free
    have lX := kX.lt
    have cY := kY.cell
    have fY := kY.free
    have lY := kY.lt
    have cZ := kZ.cell
    have fZ := kZ.free
    have lZ := kZ.lt
    go_wp2_with fail
    refine (implMul_is bn bd cn cd qN qD _ Rs5.out Rr10.out Rr11.out).mono ?_
    rintro e w14 ⟨rfl, hb14⟩
    clear cA fA lA cB fB lB cC fC lC cX fX lX cY fY lY cZ fZ lZ
    replace kA := Blk.by hb14 (kA.past _)
    replace kB := Blk.by hb14 (kB.past _)
    replace kC := Blk.by hb14 (kC.past _)
    replace kX := Blk.by hb14 (kX.past _)
    replace kY := Blk.by hb14 (kY.past _)
    replace kZ := Blk.by hb14 (kZ.past _)
    have kP : Blk w14 w13.heap.size #[.int .i64 pN, .int .i64 pD] 23 := Blk.by hb14 (Blk.new _ rfl)
    replace hW := below_on hb14 (below_al hW _)
    clear hb14
    generalize w13.heap.size = pP at *
    have cA := kA.cell
    have fA := kA.free
    have lA := kA.lt
    have cB := kB.cell
    have fB := kB.free
    have lB := kB.lt
    have cC := kC.cell
    have fC := kC.free
    have lC := kC.lt
    have cX := kX.cell
    have fX := kX.free
    have lX := kX.lt
    have cY := kY.cell
    have fY := kY.free
    have lY := kY.lt
    have cZ := kZ.cell
    have fZ := kZ.free
    have lZ := kZ.lt
    have cP := kP.cell
    have fP := kP.free
    have lP := kP.lt
    go_wp2_with fail
    refine (implAdd_is pN pD qN qD xN xD _ Rs6.out Rr12.out Rr13.out).mono ?_
    rintro e w15 ⟨rfl, hb15⟩
    clear cA fA lA cB fB lB cC fC lC cX fX lX cY fY lY cZ fZ lZ cP fP lP
    replace kA := Blk.by hb15 (kA.past _)
    replace kB := Blk.by hb15 (kB.past _)
    replace kC := Blk.by hb15 (kC.past _)
    replace kX := Blk.by hb15 (kX.past _)
    replace kY := Blk.by hb15 (kY.past _)
    replace kZ := Blk.by hb15 (kZ.past _)
    replace kP := Blk.by hb15 (kP.past _)
    have kQ : Blk w15 w14.heap.size #[.int .i64 qN, .int .i64 qD] 23 := Blk.by hb15 (Blk.new _ rfl)
    replace hW := below_on hb15 (below_al hW _)
    clear hb15
    generalize w14.heap.size = pQ at *
    have cA := kA.cell
    have fA := kA.free
    have lA := kA.lt
    have cB := kB.cell
    have fB := kB.free
    have lB := kB.lt
    have cC := kC.cell
    have fC := kC.free
    have lC := kC.lt
    have cX := kX.cell
    have fX := kX.free
    have lX := kX.lt
    have cY := kY.cell
    have fY := kY.free
    have lY := kY.lt
    have cZ := kZ.cell
    have fZ := kZ.free
    have lZ := kZ.lt
    have cP := kP.cell
    have fP := kP.free
    have lP := kP.lt
    have cQ := kQ.cell
    have fQ := kQ.free
    have lQ := kQ.lt
    go_wp2
    go_ret
    exact ⟨rfl, below_al hW _⟩
end Go.Proofs.Ytdlnmpkjpdhhpaa.fnRatios
