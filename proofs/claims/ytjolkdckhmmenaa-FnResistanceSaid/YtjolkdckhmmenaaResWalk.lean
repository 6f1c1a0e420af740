/- The walk of FnResistance. -/
import Derived.Test.YtjolkdckhmmenaaDrawEr
import Derived.Test.YtjolkdckhmmenaaW9
import Derived.Test.YtjolkdckhmmenaaEr
import Derived.Test.YtjolkdckhmmenaaSums
import Derived.Test.YtjolkdckhmmenaaSrc
namespace Go.Proofs.Ytjolkdckhmmenaa.fnResistance
open Go.RowKit Go.Proofs.Ytjolkdckhmmenaa
set_option linter.unusedVariables false
set_option linter.unusedSimpArgs false

theorem er_i64 (x : Nw) (a b : Int) : (0 ≤ (erS x a b).n ∧ (erS x a b).n ≤ 2560000000000000000) ∧ (0 ≤ (erS x a b).d ∧ (erS x a b).d ≤ 2560000000000000000) := by
  by_cases h : nkC x a b = 0
  · have := er_yes h; omega
  · rw [er_no h]; exact ⟨⟨by decide, by decide⟩, ⟨by decide, by decide⟩⟩

set_option maxRecDepth 100000 in
set_option maxHeartbeats 8000000 in
theorem walk (v0 : Value) (w : World) (n : Nat) (hB : Bytes w v0 n) :
    Calls Try.prog 3 #[v0] w fun e w' => e = .returned (.bool true) ∧ Below w.heap.size w w' := by
  have HB := Lib.hid hB
  have HBG := Lib.hid (fun w h => big_any v0 n w h)
  by_cases hn : 4096 < n
  · rw [decide_eq_true hn] at HBG
    clear hB hn
    go_enter Try.func3, Try.ntmps3
    go_wp2_with fail
    refine (HBG.out _ HB.out).mono ?_
    rintro e w1 ⟨rfl, rfl⟩
    go_wp2
    go_ret
    exact ⟨rfl, Below.refl _ _⟩
  · rw [decide_eq_false hn] at HBG
    have HDR := Lib.hid (fun w h => drawEr_any v0 n w h (by omega))
    clear hB hn
    go_enter Try.func3, Try.ntmps3
    go_wp2_with fail
    refine (HBG.out _ HB.out).mono ?_
    rintro e w1 ⟨rfl, rfl⟩
    go_wp2_with fail
    refine (HDR.out _ HB.out).mono ?_
    rintro e w1 ⟨x, rv, a, b, rfl, HR1, HX, hab, hbb, hb1⟩
    obtain ⟨ar, cr, rfl⟩ := HR1.out.len
    obtain ⟨N, hN⟩ : ∃ N, x.nodes = N := ⟨_, rfl⟩
    obtain ⟨L, hL⟩ : ∃ L, x.rs.length = L := ⟨_, rfl⟩
    have hNb : 0 ≤ N ∧ N ≤ 7 := by have := HX.out.1; omega
    have HV1 : Hid (NwV w1 (.agg #[.int .i64 N, .slice ar L cr]) x) := Lib.hid ⟨.slice ar L cr, by rw [hN], by have := HR1.out; rw [hL] at this; exact this⟩
    have HIM := Lib.hid (fun a b w h => implEr_any x a b (.agg #[.int .i64 N, .slice ar L cr]) w h HX.out.2.2 (by unfold Fits; have := HX.out.1; omega))
    have HTC := Lib.hid (fun (h : nkC x a b = 0) (k : Nat) (hk : (k : Int) < N) => tri_C (c := (k : Int)) h (by omega) (by rw [hN]; exact hk))
    rw [hN, hL]
    have HNn := Lib.hid hN
    clear hN hL HR1 HX
    obtain ⟨T, hT⟩ : ∃ T, w1.heap.size = T := ⟨_, rfl⟩
    obtain ⟨w2, hw2⟩ : ∃ w2, w1.alloc (.cells #[.int .i64 N, .slice ar L cr] 26) = w2 := ⟨_, rfl⟩
    have hal : Below w1.heap.size w1 w2 := by rw [← hw2]; exact (Below.refl _ w1).alloc (Nat.le_refl _) _
    have kT2 : Blk w2 T #[.int .i64 N, .slice ar L cr] 26 := by rw [← hw2]; exact Blk.new _ hT.symm
    have HV2 := Lib.hid (HV1.out.by hal)
    have hb2 : Below w.heap.size w w2 := below_on hal hb1
    have hwT : w.heap.size ≤ T := by rw [← hT]; exact hb1.size
    have HT := Lib.hid hT
    have HW := Lib.hid hw2
    have qT := kT2.cell
    have lT := kT2.lt
    clear hal HV1 hb1 hT hw2
    go_wp2_with fail
    (try rw [HW.out])
    (try rw [HT.out])
    have H1 := Lib.hid (HIM.out a b)
    have H2 := HIM.out b a
    rw [nkC_symm x a b, er_symm x a b] at H2
    have H2 := Lib.hid H2
    obtain ⟨X, hX⟩ : ∃ X, (erS x a b).n = X := ⟨_, rfl⟩
    obtain ⟨Y, hY⟩ : ∃ Y, (erS x a b).d = Y := ⟨_, rfl⟩
    by_cases hC : nkC x a b = 0
    · have hy := er_yes hC
      rw [hX, hY] at H1 H2 hy
      rw [hC] at H1 H2
      have HC := Lib.hid hC
      have HXE := Lib.hid hX
      have HYE := Lib.hid hY
      clear hX hY hC
      have hxe : (X == 0) = (a == b) := by
        by_cases h : a = b
        · have := hy.1.2 h; simp [h, this]
        · have : ¬ X = 0 := fun e => h (hy.1.1 e)
          have h' : (X == 0) = false := by simpa using this
          have h2 : (a == b) = false := by simpa using h
          rw [h', h2]
      have hx0 : ¬ X < 0 := by omega
      have hy1 : ¬ Y < 1 := by omega
      have hXb : 0 ≤ X ∧ X ≤ 2560000000000000000 := by omega
      have hYb : 1 ≤ Y ∧ Y ≤ 2560000000000000000 := by omega
      clear hy
      refine (H1.out _ HV2.out).mono ?_
      rintro e w3 ⟨rfl, hb3⟩
      have hsz3 : w.heap.size ≤ w3.heap.size := by have := hb2.size; have := hb3.size; omega
      have hal : Below w3.heap.size w3 (w3.alloc (.cells #[.int .i64 X, .int .i64 Y] 30)) := (Below.refl _ w3).alloc (Nat.le_refl _) _
      have kR4 : Blk (w3.alloc (.cells #[.int .i64 X, .int .i64 Y] 30)) w3.heap.size #[.int .i64 X, .int .i64 Y] 30 := Blk.new _ rfl
      have kT4 := Blk.by hal (Blk.by hb3 kT2)
      have HV4 := Lib.hid ((HV2.out.by hb3).by hal)
      have hb4 : Below w.heap.size w (w3.alloc (.cells #[.int .i64 X, .int .i64 Y] 30)) := below_on hal (below_on hb3 hb2)
      clear qT lT hb3 kT2 HV2 hb2 hal
      have qT := kT4.cell
      have lT := kT4.lt
      have qR := kR4.cell
      have lR := kR4.lt
      go_wp2_with fail
      generalize w3.alloc (.cells #[.int .i64 X, .int .i64 Y] 30) = w4 at *
      generalize w3.heap.size = R at *
      refine (H2.out _ HV4.out).mono ?_
      rintro e w5 ⟨rfl, hb5⟩
      have hal : Below w5.heap.size w5 (w5.alloc (.cells #[.int .i64 X, .int .i64 Y] 30)) := (Below.refl _ w5).alloc (Nat.le_refl _) _
      have kS6 : Blk (w5.alloc (.cells #[.int .i64 X, .int .i64 Y] 30)) w5.heap.size #[.int .i64 X, .int .i64 Y] 30 := Blk.new _ rfl
      have kT6 := Blk.by hal (Blk.by hb5 kT4)
      have kR6 := Blk.by hal (Blk.by hb5 kR4)
      have HV6 := Lib.hid ((HV4.out.by hb5).by hal)
      have hb6 : Below w.heap.size w (w5.alloc (.cells #[.int .i64 X, .int .i64 Y] 30)) := below_on hal (below_on hb5 hb4)
      clear qT lT qR lR hb5 kT4 kR4 HV4 hb4 hal H1 H2
      have qT := kT6.cell
      have lT := kT6.lt
      have qR := kR6.cell
      have lR := kR6.lt
      have qS := kS6.cell
      have lS := kS6.lt
      go_wp2
      generalize w5.alloc (.cells #[.int .i64 X, .int .i64 Y] 30) = w6 at *
      generalize w5.heap.size = R2 at *
      have HK6 := Lib.hid (And.intro kT6 kR6)
      clear qT lT qR lR qS lS kS6 kT6 kR6
      have HN6 := Lib.hid hNb
      go_loopw [10] (fun z wr => ∃ q : Nat, z = .int .i64 (q : Int) ∧ (q : Int) ≤ N ∧ Hid (Blk wr T #[.int .i64 N, .slice ar L cr] 26 ∧ Blk wr R #[.int .i64 X, .int .i64 Y] 30) ∧ Hid (NwV wr (.agg #[.int .i64 N, .slice ar L cr]) x) ∧ Below w.heap.size w wr) (fun z _ => (N - intOf z).toNat)
      case atStart => exact ⟨0, by go_num, by omega, HK6, HV6, hb6⟩
      case round =>
        clear HK6 HV6 hb6
        obtain ⟨q, rfl, hqN, HK, HV, hbr⟩ := hrel
        have kT := HK.out.1
        have kR := HK.out.2
        by_cases hq : (q : Int) < N
        · skip
          have hcc := HTC.out HC.out q hq
          have H3 := HIM.out a (q : Int)
          have H4 := HIM.out (q : Int) b
          rw [← hcc.1] at H4
          have HT3 := fun (h1 : nkC x a (q : Int) = 0) hA => tri_le HC.out h1 (hcc.1 ▸ h1) hA
          dsimp only at HT3
          have hX1b := er_i64 x a (q : Int)
          have hX2b := er_i64 x (q : Int) b
          have hc5 := hcc.2
          clear hcc
          rw [HXE.out, HYE.out] at HT3
          generalize (erS x a (q : Int)).n = X1 at *
          generalize (erS x a (q : Int)).d = Y1 at *
          generalize (erS x (q : Int) b).n = X2 at *
          generalize (erS x (q : Int) b).d = Y2 at *
          generalize nkC x a (q : Int) = E1 at *
          have H3 := Lib.hid H3
          have H4 := Lib.hid H4
          have HAD := fun w => specAddRatios_any X1 Y1 X2 Y2 w (by omega) (by omega) (by omega) (by omega)
          have cT0 : wr.cell? ⟨T, 0, none⟩ = some (.int .i64 N) := kT.cell 0
          have cT1 : wr.cell? ⟨T, 1, none⟩ = some (.slice ar L cr) := kT.cell 1
          have lT := kT.lt
          clear HK
          rcases hc5 with rfl | rfl
          · by_cases hA : arC X1 Y1 X2 Y2 = 0
            · have h3 := HT3 rfl hA
              rw [hA] at HAD
              simp only [when_0] at HAD
              generalize redN (X1 * Y2 + X2 * Y1) (Y1 * Y2) = SN at *
              generalize redD (X1 * Y2 + X2 * Y1) (Y1 * Y2) = SD at *
              have HW9 := Lib.hid (fun w => w9NotLess_any SN SD X Y w h3.2.1 (by omega) hXb.1 (by omega) h3.1)
              have HAD := Lib.hid HAD
              clear HT3 h3 hA
              go_wp2_with fail
              refine (H3.out _ HV.out).mono ?_
              rintro e w3 ⟨rfl, hb3⟩
              have hal : Below w3.heap.size w3 (w3.alloc (.cells #[.int .i64 X1, .int .i64 Y1] 30)) := (Below.refl _ w3).alloc (Nat.le_refl _) _
              have kX4 : Blk (w3.alloc (.cells #[.int .i64 X1, .int .i64 Y1] 30)) w3.heap.size #[.int .i64 X1, .int .i64 Y1] 30 := Blk.new _ rfl
              have kT4 := Blk.by hal (Blk.by hb3 kT)
              have kR4 := Blk.by hal (Blk.by hb3 kR)
              have HV4 := Lib.hid ((HV.out.by hb3).by hal)
              have hb4 : Below w.heap.size w (w3.alloc (.cells #[.int .i64 X1, .int .i64 Y1] 30)) := below_on hal (below_on hb3 hbr)
              clear cT0 cT1 lT hb3 kT kR hal HV hbr
              have qT := kT4.cell
              have lT := kT4.lt
              go_wp2_with fail
              generalize w3.alloc (.cells #[.int .i64 X1, .int .i64 Y1] 30) = w4 at *
              generalize w3.heap.size = RX at *
              refine (H4.out _ HV4.out).mono ?_
              rintro e w5 ⟨rfl, hb5⟩
              have hal : Below w5.heap.size w5 (w5.alloc (.cells #[.int .i64 X2, .int .i64 Y2] 30)) := (Below.refl _ w5).alloc (Nat.le_refl _) _
              have kY6 : Blk (w5.alloc (.cells #[.int .i64 X2, .int .i64 Y2] 30)) w5.heap.size #[.int .i64 X2, .int .i64 Y2] 30 := Blk.new _ rfl
              have kT6 := Blk.by hal (Blk.by hb5 kT4)
              have kR6 := Blk.by hal (Blk.by hb5 kR4)
              have kX6 := Blk.by hal (Blk.by hb5 kX4)
              have HV6 := Lib.hid ((HV4.out.by hb5).by hal)
              have hb6 : Below w.heap.size w (w5.alloc (.cells #[.int .i64 X2, .int .i64 Y2] 30)) := below_on hal (below_on hb5 hb4)
              clear qT lT hb5 kT4 kR4 kX4 HV4 hb4 hal
              have qX := kX6.cell
              have lX := kX6.lt
              have qY := kY6.cell
              have lY := kY6.lt
              go_wp2_with fail
              generalize w5.alloc (.cells #[.int .i64 X2, .int .i64 Y2] 30) = w6 at *
              generalize w5.heap.size = RY at *
              refine (HAD.out _).mono ?_
              rintro e w7 ⟨rfl, hb7⟩
              have hal : Below w7.heap.size w7 (w7.alloc (.cells #[.int .i64 SN, .int .i64 SD] 30)) := (Below.refl _ w7).alloc (Nat.le_refl _) _
              have kS8 : Blk (w7.alloc (.cells #[.int .i64 SN, .int .i64 SD] 30)) w7.heap.size #[.int .i64 SN, .int .i64 SD] 30 := Blk.new _ rfl
              have kT8 := Blk.by hal (Blk.by hb7 kT6)
              have kR8 := Blk.by hal (Blk.by hb7 kR6)
              have HV8 := Lib.hid ((HV6.out.by hb7).by hal)
              have hb8 : Below w.heap.size w (w7.alloc (.cells #[.int .i64 SN, .int .i64 SD] 30)) := below_on hal (below_on hb7 hb6)
              clear qX lX qY lY hb7 kT6 kR6 kX6 kY6 HV6 hb6 hal
              have qS := kS8.cell
              have lS := kS8.lt
              have qR := kR8.cell
              have lR := kR8.lt
              go_wp2_with fail
              generalize w7.alloc (.cells #[.int .i64 SN, .int .i64 SD] 30) = w8 at *
              generalize w7.heap.size = RS at *
              refine (HW9.out _).mono ?_
              rintro e w9 ⟨rfl, hb9⟩
              go_wp2
              exact ⟨⟨q + 1, by go_num, by omega, Lib.hid ⟨Blk.by hb9 kT8, Blk.by hb9 kR8⟩, Lib.hid (HV8.out.by hb9), below_on hb9 hb8⟩, by simp [intOf]; omega⟩
            · generalize whenN (arC X1 Y1 X2 Y2) (X1 * Y2 + X2 * Y1) (Y1 * Y2) = SN at *
              generalize whenD (arC X1 Y1 X2 Y2) (X1 * Y2 + X2 * Y1) (Y1 * Y2) = SD at *
              generalize arC X1 Y1 X2 Y2 = A at *
              have hA0 : (A == 0) = false := by simpa using hA
              have HAD := Lib.hid HAD
              clear HT3
              go_wp2_with fail
              refine (H3.out _ HV.out).mono ?_
              rintro e w3 ⟨rfl, hb3⟩
              have hal : Below w3.heap.size w3 (w3.alloc (.cells #[.int .i64 X1, .int .i64 Y1] 30)) := (Below.refl _ w3).alloc (Nat.le_refl _) _
              have kX4 : Blk (w3.alloc (.cells #[.int .i64 X1, .int .i64 Y1] 30)) w3.heap.size #[.int .i64 X1, .int .i64 Y1] 30 := Blk.new _ rfl
              have kT4 := Blk.by hal (Blk.by hb3 kT)
              have kR4 := Blk.by hal (Blk.by hb3 kR)
              have HV4 := Lib.hid ((HV.out.by hb3).by hal)
              have hb4 : Below w.heap.size w (w3.alloc (.cells #[.int .i64 X1, .int .i64 Y1] 30)) := below_on hal (below_on hb3 hbr)
              clear cT0 cT1 lT hb3 kT kR hal HV hbr
              have qT := kT4.cell
              have lT := kT4.lt
              go_wp2_with fail
              generalize w3.alloc (.cells #[.int .i64 X1, .int .i64 Y1] 30) = w4 at *
              generalize w3.heap.size = RX at *
              refine (H4.out _ HV4.out).mono ?_
              rintro e w5 ⟨rfl, hb5⟩
              have hal : Below w5.heap.size w5 (w5.alloc (.cells #[.int .i64 X2, .int .i64 Y2] 30)) := (Below.refl _ w5).alloc (Nat.le_refl _) _
              have kY6 : Blk (w5.alloc (.cells #[.int .i64 X2, .int .i64 Y2] 30)) w5.heap.size #[.int .i64 X2, .int .i64 Y2] 30 := Blk.new _ rfl
              have kT6 := Blk.by hal (Blk.by hb5 kT4)
              have kR6 := Blk.by hal (Blk.by hb5 kR4)
              have kX6 := Blk.by hal (Blk.by hb5 kX4)
              have HV6 := Lib.hid ((HV4.out.by hb5).by hal)
              have hb6 : Below w.heap.size w (w5.alloc (.cells #[.int .i64 X2, .int .i64 Y2] 30)) := below_on hal (below_on hb5 hb4)
              clear qT lT hb5 kT4 kR4 kX4 HV4 hb4 hal
              have qX := kX6.cell
              have lX := kX6.lt
              have qY := kY6.cell
              have lY := kY6.lt
              go_wp2_with fail
              generalize w5.alloc (.cells #[.int .i64 X2, .int .i64 Y2] 30) = w6 at *
              generalize w5.heap.size = RY at *
              refine (HAD.out _).mono ?_
              rintro e w7 ⟨rfl, hb7⟩
              have hal : Below w7.heap.size w7 (w7.alloc (.cells #[.int .i64 SN, .int .i64 SD] 30)) := (Below.refl _ w7).alloc (Nat.le_refl _) _
              have kS8 : Blk (w7.alloc (.cells #[.int .i64 SN, .int .i64 SD] 30)) w7.heap.size #[.int .i64 SN, .int .i64 SD] 30 := Blk.new _ rfl
              have kT8 := Blk.by hal (Blk.by hb7 kT6)
              have kR8 := Blk.by hal (Blk.by hb7 kR6)
              have HV8 := Lib.hid ((HV6.out.by hb7).by hal)
              have hb8 : Below w.heap.size w (w7.alloc (.cells #[.int .i64 SN, .int .i64 SD] 30)) := below_on hal (below_on hb7 hb6)
              clear qX lX qY lY hb7 kT6 kR6 kX6 kY6 HV6 hb6 hal
              have qS := kS8.cell
              have lS := kS8.lt
              have qR := kR8.cell
              have lR := kR8.lt
              go_wp2
              exact ⟨⟨q + 1, by go_num, by omega, Lib.hid ⟨kT8, kR8⟩, HV8, hb8⟩, by simp [intOf]; omega⟩
          · generalize whenN (arC X1 Y1 X2 Y2) (X1 * Y2 + X2 * Y1) (Y1 * Y2) = SN at *
            generalize whenD (arC X1 Y1 X2 Y2) (X1 * Y2 + X2 * Y1) (Y1 * Y2) = SD at *
            generalize arC X1 Y1 X2 Y2 = A at *
            have HAD := Lib.hid HAD
            clear HT3
            go_wp2_with fail
            refine (H3.out _ HV.out).mono ?_
            rintro e w3 ⟨rfl, hb3⟩
            have hal : Below w3.heap.size w3 (w3.alloc (.cells #[.int .i64 X1, .int .i64 Y1] 30)) := (Below.refl _ w3).alloc (Nat.le_refl _) _
            have kX4 : Blk (w3.alloc (.cells #[.int .i64 X1, .int .i64 Y1] 30)) w3.heap.size #[.int .i64 X1, .int .i64 Y1] 30 := Blk.new _ rfl
            have kT4 := Blk.by hal (Blk.by hb3 kT)
            have kR4 := Blk.by hal (Blk.by hb3 kR)
            have HV4 := Lib.hid ((HV.out.by hb3).by hal)
            have hb4 : Below w.heap.size w (w3.alloc (.cells #[.int .i64 X1, .int .i64 Y1] 30)) := below_on hal (below_on hb3 hbr)
            clear cT0 cT1 lT hb3 kT kR hal HV hbr
            have qT := kT4.cell
            have lT := kT4.lt
            go_wp2_with fail
            generalize w3.alloc (.cells #[.int .i64 X1, .int .i64 Y1] 30) = w4 at *
            generalize w3.heap.size = RX at *
            refine (H4.out _ HV4.out).mono ?_
            rintro e w5 ⟨rfl, hb5⟩
            have hal : Below w5.heap.size w5 (w5.alloc (.cells #[.int .i64 X2, .int .i64 Y2] 30)) := (Below.refl _ w5).alloc (Nat.le_refl _) _
            have kY6 : Blk (w5.alloc (.cells #[.int .i64 X2, .int .i64 Y2] 30)) w5.heap.size #[.int .i64 X2, .int .i64 Y2] 30 := Blk.new _ rfl
            have kT6 := Blk.by hal (Blk.by hb5 kT4)
            have kR6 := Blk.by hal (Blk.by hb5 kR4)
            have kX6 := Blk.by hal (Blk.by hb5 kX4)
            have HV6 := Lib.hid ((HV4.out.by hb5).by hal)
            have hb6 : Below w.heap.size w (w5.alloc (.cells #[.int .i64 X2, .int .i64 Y2] 30)) := below_on hal (below_on hb5 hb4)
            clear qT lT hb5 kT4 kR4 kX4 HV4 hb4 hal
            have qX := kX6.cell
            have lX := kX6.lt
            have qY := kY6.cell
            have lY := kY6.lt
            go_wp2_with fail
            generalize w5.alloc (.cells #[.int .i64 X2, .int .i64 Y2] 30) = w6 at *
            generalize w5.heap.size = RY at *
            refine (HAD.out _).mono ?_
            rintro e w7 ⟨rfl, hb7⟩
            have hal : Below w7.heap.size w7 (w7.alloc (.cells #[.int .i64 SN, .int .i64 SD] 30)) := (Below.refl _ w7).alloc (Nat.le_refl _) _
            have kS8 : Blk (w7.alloc (.cells #[.int .i64 SN, .int .i64 SD] 30)) w7.heap.size #[.int .i64 SN, .int .i64 SD] 30 := Blk.new _ rfl
            have kT8 := Blk.by hal (Blk.by hb7 kT6)
            have kR8 := Blk.by hal (Blk.by hb7 kR6)
            have HV8 := Lib.hid ((HV6.out.by hb7).by hal)
            have hb8 : Below w.heap.size w (w7.alloc (.cells #[.int .i64 SN, .int .i64 SD] 30)) := below_on hal (below_on hb7 hb6)
            clear qX lX qY lY hb7 kT6 kR6 kX6 kY6 HV6 hb6 hal
            have qS := kS8.cell
            have lS := kS8.lt
            have qR := kR8.cell
            have lR := kR8.lt
            go_wp2
            exact ⟨⟨q + 1, by go_num, by omega, Lib.hid ⟨kT8, kR8⟩, HV8, hb8⟩, by simp [intOf]; omega⟩
        · have hqe : (q : Int) = N := by omega
          have cT0 : wr.cell? ⟨T, 0, none⟩ = some (.int .i64 N) := kT.cell 0
          have lT := kT.lt
          clear kT kR hqN
          go_wp2
          go_ret
          exact ⟨rfl, hbr⟩
    · rw [er_no hC] at hX hY
      have HCn := Lib.hid hC
      subst hX hY
      rw [er_no hC] at H1 H2
      obtain ⟨C, hCC⟩ : ∃ C, nkC x a b = C := ⟨_, rfl⟩
      rw [hCC] at H1 H2 hC
      have hC0 : (C == 0) = false := by simpa using hC
      have hC1 : (C != 0) = true := by simpa using hC
      clear hCC
      refine (H1.out _ HV2.out).mono ?_
      rintro e w3 ⟨rfl, hb3⟩
      have hal : Below w3.heap.size w3 (w3.alloc (.cells #[.int .i64 0, .int .i64 0] 30)) := (Below.refl _ w3).alloc (Nat.le_refl _) _
      have kR4 : Blk (w3.alloc (.cells #[.int .i64 0, .int .i64 0] 30)) w3.heap.size #[.int .i64 0, .int .i64 0] 30 := Blk.new _ rfl
      have kT4 := Blk.by hal (Blk.by hb3 kT2)
      have HV4 := Lib.hid ((HV2.out.by hb3).by hal)
      have hb4 : Below w.heap.size w (w3.alloc (.cells #[.int .i64 0, .int .i64 0] 30)) := below_on hal (below_on hb3 hb2)
      clear qT lT hb3 kT2 HV2 hb2 hal
      have qT := kT4.cell
      have lT := kT4.lt
      have qR := kR4.cell
      have lR := kR4.lt
      go_wp2_with fail
      generalize w3.alloc (.cells #[.int .i64 0, .int .i64 0] 30) = w4 at *
      generalize w3.heap.size = R at *
      refine (H2.out _ HV4.out).mono ?_
      rintro e w5 ⟨rfl, hb5⟩
      have kR5 := Blk.by hb5 kR4
      have kT5 := Blk.by hb5 kT4
      have hb5w := below_on hb5 hb4
      clear qT lT qR lR hb5
      have qT := kT5.cell
      have lT := kT5.lt
      have qR := kR5.cell
      have lR := kR5.lt
      go_wp2
      go_ret
      exact ⟨rfl, (by ((repeat (first | (with_reducible exact Below.refl _ _) | (with_reducible refine below_drewN ?_ _) | (with_reducible refine Below.drew ?_) | (with_reducible refine below_al ?_ _) | (with_reducible refine below_on (by assumption) ?_) | ((with_reducible refine Below.setCell ?_ ?_ _); rotate_left; focus (first | omega | (simp; done) | (simp; omega))) | (with_reducible assumption))); done))⟩
end Go.Proofs.Ytjolkdckhmmenaa.fnResistance
