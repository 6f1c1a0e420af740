/- The walk of FnMatchings. -/
import Derived.Test.YtikpalfajfmdnaaDraw3
import Derived.Test.YtikpalfajfmdnaaComp
import Derived.Test.YtikpalfajfmdnaaPairOwnMatching
import Derived.Test.YtikpalfajfmdnaaOpenBy
namespace Go.Proofs.Ytikpalfajfmdnaa.fnMatchings
open Go.RowKit Go.Proofs.Ytikpalfajfmdnaa
set_option linter.unusedVariables false
set_option linter.unusedSimpArgs false

theorem thru_both {z : List Int × List Int} (h : maB z = true) : thruB z (invM z) = true ∧ thruB (invM z) z = true ∧ thruM z (invM z) = (iota z.1.length, iota z.2.length) ∧ thruM (invM z) z = (iota z.1.length, iota z.2.length) := by
  obtain ⟨a1, a2, a3, a4⟩ := maB_iff.1 h
  have hi : invM z = (invS z.1, invS z.2) := by unfold invM; rw [if_pos h]
  have hm : maB (invM z) = true := by
    rw [hi, maB_iff]
    refine ⟨by rw [length_invS]; exact a1, by rw [length_invS]; exact a2, ?_, ?_⟩
    · dsimp only; rw [length_invS]; exact permB_invS a3
    · dsimp only; rw [length_invS]; exact permB_invS a4
  have l1 : (invM z).1.length = z.1.length := by rw [hi]; exact length_invS _
  have l2 : (invM z).2.length = z.2.length := by rw [hi]; exact length_invS _
  have t1 : thruB z (invM z) = true := decide_eq_true ⟨h, hm, l1.symm, l2.symm⟩
  have t2 : thruB (invM z) z = true := decide_eq_true ⟨hm, h, l1, l2⟩
  refine ⟨t1, t2, ?_, ?_⟩
  · unfold thruM
    rw [if_pos t1, hi]
    dsimp only
    rw [thru_inv a3, thru_inv a4]
  · unfold thruM
    rw [if_pos t2, hi]
    dsimp only
    rw [inv_thru a3, inv_thru a4]

set_option maxRecDepth 100000 in
set_option maxHeartbeats 8000000 in
theorem walk (v0 : Value) (w : World) (n : Nat) (hB : Bytes w v0 n) :
    Calls Try.prog 3 #[v0] w fun e w' => e = .returned (.bool true) ∧ Below w.heap.size w w' := by
  have HB := Lib.hid hB
  have HBG := Lib.hid (fun w h => big_any v0 n w h)
  by_cases hn : 4096 < n
  · rw [decide_eq_true hn] at HBG
    clear hB hn
    go_enter Try.func3, Try.ntmps3
    go_wp2_with fail
    refine (HBG.out _ HB.out).mono ?_
    rintro e w1 ⟨rfl, rfl⟩
    go_wp2
    go_ret
    exact ⟨rfl, Below.refl _ _⟩
  · rw [decide_eq_false hn] at HBG
    have HDR := Lib.hid (fun w h => drawInv_any v0 n w h (by omega))
    have HII := Lib.hid (fun v x w h => implInvert_any v x w h)
    have HSI := Lib.hid (fun v x w h => specInvert_any v x w h)
    have HSM := Lib.hid (fun s1 s2 zs w h h' => sameInts_refl s1 s2 zs w h h')
    clear hB hn
    go_enter Try.func3, Try.ntmps3
    go_wp2_with fail
    refine (HBG.out _ HB.out).mono ?_
    rintro e w1 ⟨rfl, rfl⟩
    go_wp2_with fail
    refine (HDR.out _ HB.out).mono ?_
    rintro e w1 ⟨u, rfl, z, hV, hz1, hz2, hb1⟩
    have HV1 := Lib.hid hV
    obtain ⟨a1, c1, a2, c2, rfl⟩ := hV.sized
    obtain ⟨M, hM⟩ : ∃ M, w1.heap.size = M := ⟨_, rfl⟩
    obtain ⟨w2, hw2⟩ : ∃ y, y = w1.alloc (.cells #[.slice a1 z.1.length c1, .slice a2 z.2.length c2] 26) := ⟨_, rfl⟩
    have hal : Below w1.heap.size w1 w2 := by rw [hw2]; exact below_new w1 _
    have kM2 : Blk w2 M #[.slice a1 z.1.length c1, .slice a2 z.2.length c2] 26 := by rw [hw2]; exact Blk.new _ hM.symm
    have hb2 := below_on hal hb1
    have HV2 := Lib.hid (HV1.out.by hal)
    have HTB := Lib.hid (fun h => @thru_both z h)
    go_wp2_with fail
    (try rw [← hw2])
    (try rw [hM])
    clear hw2 hal hV HV1 hM hb1
    refine (HII.out _ z _ HV2.out).mono ?_
    rintro e w3 ⟨v3, rfl, hO3, hb3⟩
    have HV3 := Lib.hid hO3.ma
    obtain ⟨a3, c3, a4, c4, rfl⟩ := hO3.ma.sized
    have kM3 := Blk.by hb3 kM2
    have HVM3 := Lib.hid (HV2.out.by hb3)
    have hb3w := below_on hb3 hb2
    clear hO3 hb3 kM2 HV2 hb2
    cases hm : maB z with
    | false =>
      have hinv : invM z = ([], []) := by unfold invM; rw [hm]; rfl
      rw [hinv] at HV3 ⊢
      have HSZ := Lib.hid (fun w h => HSI.out (.agg #[.slice a1 z.1.length c1, .slice a2 z.2.length c2]) z w h)
      rw [hm, hinv] at HSZ
      have qM := kM3.cell
      have lM := kM3.lt
      clear hm hinv
      go_wp2_with fail
      refine (HSZ.out _ (HVM3.out.by (by ((repeat (first | (with_reducible exact Below.refl _ _) | (with_reducible refine below_drewN ?_ _) | (with_reducible refine Below.drew ?_) | (with_reducible refine below_al ?_ _) | (with_reducible refine below_on (by assumption) ?_) | ((with_reducible refine Below.setCell ?_ ?_ _); rotate_left; focus (first | omega | (simp; done) | (simp; omega))) | (with_reducible assumption))); done)))).mono ?_
      rintro e w4 ⟨v4, rfl, hO4, hb4⟩
      obtain ⟨a5, c5, a6, c6, rfl⟩ := hO4.ma.sized
      have kK : Blk w4 w3.heap.size #[.slice a3 0 c3, .slice a4 0 c4] 26 := (by ((repeat (first | (with_reducible assumption) | (with_reducible refine Blk.drewN ?_ _) | (with_reducible refine Blk.drew ?_) | ((with_reducible refine Blk.new _ ?_); focus (first | omega | (simp; done) | (simp; omega))) | (with_reducible refine Blk.past ?_ _) | ((with_reducible refine Blk.apart ?_ _ _ _ ?_); rotate_left; focus (first | omega | (simp; done) | (simp; omega))) | (with_reducible refine Blk.by (by assumption) ?_))); done))
      have qK := kK.cell
      have lK := kK.lt
      have hW : Below w.heap.size w w4 := (by ((repeat (first | (with_reducible exact Below.refl _ _) | (with_reducible refine below_drewN ?_ _) | (with_reducible refine Below.drew ?_) | (with_reducible refine below_al ?_ _) | (with_reducible refine below_on (by assumption) ?_) | ((with_reducible refine Below.setCell ?_ ?_ _); rotate_left; focus (first | omega | (simp; done) | (simp; omega))) | (with_reducible assumption))); done))
      clear hO4 hb4 qM
      go_wp2
      go_ret
      exact ⟨rfl, (by ((repeat (first | (with_reducible exact Below.refl _ _) | (with_reducible refine below_drewN ?_ _) | (with_reducible refine Below.drew ?_) | (with_reducible refine below_al ?_ _) | (with_reducible refine below_on (by assumption) ?_) | ((with_reducible refine Below.setCell ?_ ?_ _); rotate_left; focus (first | omega | (simp; done) | (simp; omega))) | (with_reducible assumption))); done))⟩
    | true =>
      obtain ⟨t1, t2, t3, t4⟩ := HTB.out hm
      have HC1 := Lib.hid (fun v u w h h' => implCompose_any v u z (invM z) w h h')
      have HC2 := Lib.hid (fun v u w h h' => implCompose_any v u (invM z) z w h h')
      rw [t1, t3] at HC1
      rw [t2, t4] at HC2
      have HSZ := Lib.hid (fun w h => HSI.out (.agg #[.slice a1 z.1.length c1, .slice a2 z.2.length c2]) z w h)
      rw [hm] at HSZ
      obtain ⟨Y, hY⟩ : ∃ Y, invM z = Y := ⟨_, rfl⟩
      rw [hY] at HV3 HC1 HC2 HSZ ⊢
      clear hm t1 t2 t3 t4 hY HTB HII HSI
      obtain ⟨n1, hn1⟩ : ∃ n1, z.1.length = n1 := ⟨_, rfl⟩
      obtain ⟨n2, hn2⟩ : ∃ n2, z.2.length = n2 := ⟨_, rfl⟩
      obtain ⟨m1, hm1⟩ : ∃ n1, Y.1.length = n1 := ⟨_, rfl⟩
      obtain ⟨m2, hm2⟩ : ∃ n2, Y.2.length = n2 := ⟨_, rfl⟩
      rw [hn1, hn2] at HVM3 HC1 HC2 HSZ kM3
      rw [hn1] at hz1
      rw [hn2] at hz2
      rw [hm1, hm2] at HV3 ⊢
      (try rw [hn1, hn2])
      have qM := kM3.cell
      have lM := kM3.lt
      clear hn1 hn2 hm1 hm2
      -- the reference's inverse
      obtain ⟨K, hK⟩ : ∃ K, w3.heap.size = K := ⟨_, rfl⟩
      have lMK : M < K := by omega
      obtain ⟨w4, hw4⟩ : ∃ y, y = w3.alloc (.cells #[.slice a3 m1 c3, .slice a4 m2 c4] 26) := ⟨_, rfl⟩
      have hal : Below w3.heap.size w3 w4 := by rw [hw4]; exact below_new w3 _
      have kK4 : Blk w4 K #[.slice a3 m1 c3, .slice a4 m2 c4] 26 := by rw [hw4]; exact Blk.new _ hK.symm
      have kM4 := Blk.by hal kM3
      have HVM4 := Lib.hid (HVM3.out.by hal)
      have HVK4 := Lib.hid (HV3.out.by hal)
      have hb4 := below_on hal hb3w
      go_wp2_with fail
      (try rw [← hw4])
      (try rw [hK])
      clear hw4 hal hK qM kM3 HVM3 HV3 hb3w
      refine (HSZ.out _ HVM4.out).mono ?_
      rintro e w5 ⟨v5, rfl, hO5, hb5⟩
      obtain ⟨a5, c5, a6, c6, rfl⟩ := hO5.ma.sized
      have kK5 := Blk.by hb5 kK4
      have kM5 := Blk.by hb5 kM4
      have HVM5 := Lib.hid (HVM4.out.by hb5)
      have HVK5 := Lib.hid (HVK4.out.by hb5)
      have hb5w := below_on hb5 hb4
      have qM := kM5.cell
      have lM := kM5.lt
      have qK := kK5.cell
      have lK := kK5.lt
      clear hO5 hb5 kK4 kM4 HVM4 HVK4 hb4
      go_wp2_with fail
      refine (HC1.out _ _ _ (HVM5.out.by (by ((repeat (first | (with_reducible exact Below.refl _ _) | (with_reducible refine below_drewN ?_ _) | (with_reducible refine Below.drew ?_) | (with_reducible refine below_al ?_ _) | (with_reducible refine below_on (by assumption) ?_) | ((with_reducible refine Below.setCell ?_ ?_ _); rotate_left; focus (first | omega | (simp; done) | (simp; omega))) | (with_reducible assumption))); done))) (HVK5.out.by (by ((repeat (first | (with_reducible exact Below.refl _ _) | (with_reducible refine below_drewN ?_ _) | (with_reducible refine Below.drew ?_) | (with_reducible refine below_al ?_ _) | (with_reducible refine below_on (by assumption) ?_) | ((with_reducible refine Below.setCell ?_ ?_ _); rotate_left; focus (first | omega | (simp; done) | (simp; omega))) | (with_reducible assumption))); done)))).mono ?_
      rintro e w6 ⟨v6, rfl, hO6, hb6⟩
      have HV6 := Lib.hid hO6.ma
      obtain ⟨a7, c7, a8, c8, rfl⟩ := hO6.ma.sized
      have kK6 : Blk w6 K #[.slice a3 m1 c3, .slice a4 m2 c4] 26 := (by ((repeat (first | (with_reducible assumption) | (with_reducible refine Blk.drewN ?_ _) | (with_reducible refine Blk.drew ?_) | ((with_reducible refine Blk.new _ ?_); focus (first | omega | (simp; done) | (simp; omega))) | (with_reducible refine Blk.past ?_ _) | ((with_reducible refine Blk.apart ?_ _ _ _ ?_); rotate_left; focus (first | omega | (simp; done) | (simp; omega))) | (with_reducible refine Blk.by (by assumption) ?_))); done))
      have kM6 : Blk w6 M #[.slice a1 n1 c1, .slice a2 n2 c2] 26 := (by ((repeat (first | (with_reducible assumption) | (with_reducible refine Blk.drewN ?_ _) | (with_reducible refine Blk.drew ?_) | ((with_reducible refine Blk.new _ ?_); focus (first | omega | (simp; done) | (simp; omega))) | (with_reducible refine Blk.past ?_ _) | ((with_reducible refine Blk.apart ?_ _ _ _ ?_); rotate_left; focus (first | omega | (simp; done) | (simp; omega))) | (with_reducible refine Blk.by (by assumption) ?_))); done))
      have HVM6 := Lib.hid ((HVM5.out.by (below_new w5 _)).by hb6)
      have HVK6 := Lib.hid ((HVK5.out.by (below_new w5 _)).by hb6)
      have hb6w : Below w.heap.size w w6 := (by ((repeat (first | (with_reducible exact Below.refl _ _) | (with_reducible refine below_drewN ?_ _) | (with_reducible refine Below.drew ?_) | (with_reducible refine below_al ?_ _) | (with_reducible refine below_on (by assumption) ?_) | ((with_reducible refine Below.setCell ?_ ?_ _); rotate_left; focus (first | omega | (simp; done) | (simp; omega))) | (with_reducible assumption))); done))
      dsimp only at HV6 ⊢
      rw [length_iota, length_iota] at HV6 ⊢
      clear hO6 hb6 kK5 kM5 HVM5 HVK5 hb5w qM qK
      have qM := kM6.cell
      have lM := kM6.lt
      have qK := kK6.cell
      have lK := kK6.lt
      go_wp2_with fail
      refine (HC2.out _ _ _ (HVK6.out.by (by ((repeat (first | (with_reducible exact Below.refl _ _) | (with_reducible refine below_drewN ?_ _) | (with_reducible refine Below.drew ?_) | (with_reducible refine below_al ?_ _) | (with_reducible refine below_on (by assumption) ?_) | ((with_reducible refine Below.setCell ?_ ?_ _); rotate_left; focus (first | omega | (simp; done) | (simp; omega))) | (with_reducible assumption))); done))) (HVM6.out.by (by ((repeat (first | (with_reducible exact Below.refl _ _) | (with_reducible refine below_drewN ?_ _) | (with_reducible refine Below.drew ?_) | (with_reducible refine below_al ?_ _) | (with_reducible refine below_on (by assumption) ?_) | ((with_reducible refine Below.setCell ?_ ?_ _); rotate_left; focus (first | omega | (simp; done) | (simp; omega))) | (with_reducible assumption))); done)))).mono ?_
      rintro e w7 ⟨v7, rfl, hO7, hb7⟩
      have HV7 := Lib.hid hO7.ma
      obtain ⟨a9, c9, a10, c10, rfl⟩ := hO7.ma.sized
      dsimp only at HV7 ⊢
      rw [length_iota, length_iota] at HV7 ⊢
      have kX7 : Blk w7 w6.heap.size #[.slice a7 n1 c7, .slice a8 n2 c8] 26 := (by ((repeat (first | (with_reducible assumption) | (with_reducible refine Blk.drewN ?_ _) | (with_reducible refine Blk.drew ?_) | ((with_reducible refine Blk.new _ ?_); focus (first | omega | (simp; done) | (simp; omega))) | (with_reducible refine Blk.past ?_ _) | ((with_reducible refine Blk.apart ?_ _ _ _ ?_); rotate_left; focus (first | omega | (simp; done) | (simp; omega))) | (with_reducible refine Blk.by (by assumption) ?_))); done))
      have kM7 : Blk w7 M #[.slice a1 n1 c1, .slice a2 n2 c2] 26 := (by ((repeat (first | (with_reducible assumption) | (with_reducible refine Blk.drewN ?_ _) | (with_reducible refine Blk.drew ?_) | ((with_reducible refine Blk.new _ ?_); focus (first | omega | (simp; done) | (simp; omega))) | (with_reducible refine Blk.past ?_ _) | ((with_reducible refine Blk.apart ?_ _ _ _ ?_); rotate_left; focus (first | omega | (simp; done) | (simp; omega))) | (with_reducible refine Blk.by (by assumption) ?_))); done))
      have HVX7 := Lib.hid ((HV6.out.by (below_new w6 _)).by hb7)
      have hb7w : Below w.heap.size w w7 := (by ((repeat (first | (with_reducible exact Below.refl _ _) | (with_reducible refine below_drewN ?_ _) | (with_reducible refine Below.drew ?_) | (with_reducible refine below_al ?_ _) | (with_reducible refine below_on (by assumption) ?_) | ((with_reducible refine Below.setCell ?_ ?_ _); rotate_left; focus (first | omega | (simp; done) | (simp; omega))) | (with_reducible assumption))); done))
      clear hO7 hb7 kK6 kM6 HVM6 HVK6 hb6w qM qK HV6
      have qM := kM7.cell
      have lM := kM7.lt
      have qX := kX7.cell
      have lX := kX7.lt
      obtain ⟨_, _, hxe, ix1, ix2⟩ := HVX7.out
      obtain ⟨_, _, hye, iy1, iy2⟩ := HV7.out
      obtain ⟨rfl, rfl⟩ : _ ∧ _ := by simpa using hxe.symm
      obtain ⟨rfl, rfl⟩ : _ ∧ _ := by simpa using hye.symm
      obtain ⟨wQ, hwQ⟩ : ∃ y, y = w7.alloc (.cells #[.slice a9 n1 c9, .slice a10 n2 c10] 26) := ⟨_, rfl⟩
      have hal : Below w7.heap.size w7 wQ := by rw [hwQ]; exact below_new w7 _
      have kQ : Blk wQ w7.heap.size #[.slice a9 n1 c9, .slice a10 n2 c10] 26 := by rw [hwQ]; exact Blk.new _ rfl
      have IX1 := Lib.hid (ix1.by hal)
      have IX2 := Lib.hid (ix2.by hal)
      have IY1 := Lib.hid (iy1.by hal)
      have IY2 := Lib.hid (iy2.by hal)
      have kXQ := Blk.by hal kX7
      have kMQ := Blk.by hal kM7
      have hbQ := below_on hal hb7w
      obtain ⟨X, hX⟩ : ∃ X, w6.heap.size = X := ⟨_, rfl⟩
      obtain ⟨V, hV⟩ : ∃ V, w7.heap.size = V := ⟨_, rfl⟩
      have lMV : M < V := by omega
      have lXV : X < V := by omega
      rw [hX] at kXQ
      rw [hV] at kQ
      go_upto_region 12 with fail
      (try rw [← hwQ])
      (try rw [hX])
      (try rw [hV])
      have qMQ := kMQ.cell
      have qXQ := kXQ.cell
      have qQQ := kQ.cell
      clear hwQ hal kX7 kM7 hb7w qM lM qX lX HVX7 HV7 ix1 ix2 iy1 iy2 hX hV
      go_wp2_with fail
      refine (HSM.out _ _ (iota n1) _ IX1.out IY1.out).mono ?_
      rintro e wa ⟨rfl, na, rfl⟩
      go_wp2_with fail
      refine (HSM.out _ _ (iota n2) _ (IX2.out.by (below_of_drewN wQ na)) (IY2.out.by (below_of_drewN wQ na))).mono ?_
      rintro e wb ⟨rfl, nb, rfl⟩
      have hbE := below_on (below_of_drewN (wQ.drewN na) nb) (below_on (below_of_drewN wQ na) hbQ)
      have IE1 := Lib.hid ((IX1.out.by (below_of_drewN wQ na)).by (below_of_drewN _ nb))
      have IE2 := Lib.hid ((IX2.out.by (below_of_drewN wQ na)).by (below_of_drewN _ nb))
      have kXE : Blk ((wQ.drewN na).drewN nb) X #[.slice a7 n1 c7, .slice a8 n2 c8] 26 := kXQ
      obtain ⟨wE, hwE⟩ : ∃ y, y = (wQ.drewN na).drewN nb := ⟨_, rfl⟩
      rw [← hwE] at hbE IE1 IE2 kXE
      have qXE := kXE.cell
      go_wp2
      (try rw [World.drewN_drewN] at hwE)
      (try rw [← hwE])
      clear qMQ qXQ qQQ kXQ kMQ kQ hbQ IX1 IX2 IY1 IY2 hwE
      go_loopw [12] (fun i wr => ∃ k : Nat, k ≤ n1 ∧ i = .int .i64 (k : Int) ∧ wE = wr) (fun i _ => n1 - (intOf i).toNat)
      case atStart => exact ⟨0, Nat.zero_le _, rfl, rfl⟩
      case round =>
        obtain ⟨k, hk, rfl, rfl⟩ := hrel
        by_cases hlt : k < n1
        · rcases IE1.out with ⟨_, _, _, e2⟩ | ⟨b, off, cap, he, h2, h3, h4⟩
          · have := congrArg List.length e2
            rw [length_iota] at this
            simp at this
            omega
          obtain ⟨rfl, rfl⟩ : a7 = some ⟨b, off, none⟩ ∧ c7 = cap := by simpa [length_iota] using he
          have hc := h4 k k (iota_get _ _ hlt)
          have i1 : (0 : Int) ≤ (k : Int) := by omega
          have i2 : (k : Int) < (n1 : Int) := by omega
          have i3 : ((k : Int) != (k : Int)) = false := by simp
          clear h4 he h2 h3
          go_wp2
          exact ⟨⟨k + 1, by omega, by go_num, by first | trivial | rfl⟩, by simp [intOf]; omega⟩
        · obtain rfl : n1 = k := by omega
          have i2 : ¬ (n1 : Int) < (n1 : Int) := by omega
          go_wp2
          go_loopw [13] (fun i wr => ∃ k : Nat, k ≤ n2 ∧ i = .int .i64 (k : Int) ∧ wE = wr) (fun i _ => n2 - (intOf i).toNat)
          case atStart => exact ⟨0, Nat.zero_le _, rfl, rfl⟩
          case round =>
            obtain ⟨k, hk, rfl, rfl⟩ := hrel
            by_cases hlt : k < n2
            · rcases IE2.out with ⟨_, _, _, e2⟩ | ⟨b, off, cap, he, h2, h3, h4⟩
              · have := congrArg List.length e2
                rw [length_iota] at this
                simp at this
                omega
              obtain ⟨rfl, rfl⟩ : a8 = some ⟨b, off, none⟩ ∧ c8 = cap := by simpa [length_iota] using he
              have hc := h4 k k (iota_get _ _ hlt)
              have i1 : (0 : Int) ≤ (k : Int) := by omega
              have i2 : (k : Int) < (n2 : Int) := by omega
              have i3 : ((k : Int) != (k : Int)) = false := by simp
              clear h4 he h2 h3
              go_wp2
              exact ⟨⟨k + 1, by omega, by go_num, by first | trivial | rfl⟩, by simp [intOf]; omega⟩
            · obtain rfl : n2 = k := by omega
              have i2 : ¬ (n2 : Int) < (n2 : Int) := by omega
              go_wp2
              go_ret
              exact ⟨rfl, hbE⟩
end Go.Proofs.Ytikpalfajfmdnaa.fnMatchings
