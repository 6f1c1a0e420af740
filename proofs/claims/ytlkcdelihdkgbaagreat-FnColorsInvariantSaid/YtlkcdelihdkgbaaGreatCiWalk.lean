/- The walk of FnColorsInvariant. -/
import Derived.Test.YtlkcdelihdkgbaaGreatDrawAp
import Derived.Test.YtlkcdelihdkgbaaGreatInvMs
import Derived.Test.YtlkcdelihdkgbaaGreatApI
import Derived.Test.YtlkcdelihdkgbaaGreatRefNs
import Derived.Test.YtlkcdelihdkgbaaGreatPairC
import Derived.Test.YtlkcdelihdkgbaaGreatIsCol
import Derived.BigQuiet
namespace Go.Proofs.YtlkcdelihdkgbaaGreat.fnColorsInvariant
open Go.RowKit Go.Proofs.YtlkcdelihdkgbaaGreat
set_option linter.unusedVariables false
set_option linter.unusedSimpArgs false

set_option maxRecDepth 100000 in
set_option maxHeartbeats 16000000 in
theorem walk (v0 : Value) (w : World) (n : Nat) (hB : Bytes w v0 n) :
    Calls Tryz.prog 3 #[v0] w fun e w' => e = .returned (.bool true) ∧ Below w.heap.size w w' := by
  have HB := Lib.hid hB
  have HBG := Lib.hid (fun w h => big_any v0 n w h)
  by_cases hn : 4096 < n
  · rw [decide_eq_true hn] at HBG
    clear hB hn
    go_enter Tryz.func3, Tryz.ntmps3
    go_wp2_with fail
    refine (HBG.out _ HB.out).mono ?_
    rintro e w1 ⟨rfl, rfl⟩
    go_wp2
    go_ret
    exact ⟨rfl, Below.refl _ _⟩
  · rw [decide_eq_false hn] at HBG
    have HDR := Lib.hid (fun w h => drawAp_any v0 n w h (by omega))
    clear hB hn
    go_enter Tryz.func3, Tryz.ntmps3
    go_wp2_with fail
    refine (HBG.out _ HB.out).mono ?_
    rintro e w1 ⟨rfl, rfl⟩
    go_wp2_with fail
    refine (HDR.out _ HB.out).mono ?_
    rintro e w1 ⟨v, u, x, z, rfl, HNV, HS, HMV, ⟨hz1, hz2⟩, hb1⟩
    obtain ⟨a1, c1, a2, c2, rfl⟩ := HNV.out.sized
    obtain ⟨b1, d1, b2, d2, rfl⟩ := HMV.out.sized
    have hok : ∀ p ∈ x.ps, p.ok := HS.out.2.2.2.2
    have hfit : Fits x.nets := HS.out.fits
    have HIA := Lib.hid (fun v u w h hm => implApply_any x z v u w h hm hok hfit (by omega) (by omega))
    have HSA := Lib.hid (fun v u w h hm => specApply_any x z v u w h hm hok hfit (by omega) (by omega))
    have HRX := Lib.hid (fun v w h => implRefNet_any x v w h hok hfit)
    have HCX := Lib.hid (fun c v u w h hc => specIsColoring_any x c v u w h hc hok hfit)
    have HIF := Lib.hid (fun hx h1 h2 => inv_facts (x := x) (z := z) hx h1 h2 hok)
    have HRY := Lib.hid (fun (hp : ∀ p ∈ (apR x z).ps, p.ok) (hf : Fits (apR x z).nets) v w h => implRefNet_any (apR x z) v w h hp hf)
    have HCY := Lib.hid (fun (hp : ∀ p ∈ (apR x z).ps, p.ok) (hf : Fits (apR x z).nets) c v u w h hc => specIsColoring_any (apR x z) c v u w h hc hp hf)
    obtain ⟨N, hN⟩ : ∃ N, x.nets = N := ⟨_, rfl⟩
    obtain ⟨L, hL⟩ : ∃ L, x.ds.length = L := ⟨_, rfl⟩
    obtain ⟨L2, hL2⟩ : ∃ L, x.ps.length = L := ⟨_, rfl⟩
    obtain ⟨p, hp⟩ : ∃ p, z.1.length = p := ⟨_, rfl⟩
    obtain ⟨q, hq⟩ : ∃ q, z.2.length = q := ⟨_, rfl⟩
    have HEQ := Lib.hid (And.intro hN (And.intro hL (And.intro hL2 (And.intro hp hq))))
    rw [hN, hL, hL2] at HNV ⊢
    rw [hp, hq] at HMV ⊢
    have hpq : p ≤ 300 ∧ q ≤ 300 := by omega
    clear hN hL hL2 hp hq hok hfit hz1 hz2
    have hal : Below w1.heap.size w1 (w1.alloc (.cells #[.int .i64 N, .slice a1 L c1, .slice a2 L2 c2] 27)) := (Below.refl _ w1).alloc (Nat.le_refl _) _
    have kT2 : Blk (w1.alloc (.cells #[.int .i64 N, .slice a1 L c1, .slice a2 L2 c2] 27)) w1.heap.size #[.int .i64 N, .slice a1 L c1, .slice a2 L2 c2] 27 := Blk.new _ rfl
    have HN2 := Lib.hid ((HNV.out).by hal)
    have HM2 := Lib.hid ((HMV.out).by hal)
    have hb2 : Below w.heap.size w (w1.alloc (.cells #[.int .i64 N, .slice a1 L c1, .slice a2 L2 c2] 27)) := below_on hal (hb1)
    clear hal
    have hal : Below (w1.alloc (.cells #[.int .i64 N, .slice a1 L c1, .slice a2 L2 c2] 27)).heap.size (w1.alloc (.cells #[.int .i64 N, .slice a1 L c1, .slice a2 L2 c2] 27)) ((w1.alloc (.cells #[.int .i64 N, .slice a1 L c1, .slice a2 L2 c2] 27)).alloc (.cells #[.slice b1 p d1, .slice b2 q d2] 30)) := (Below.refl _ _).alloc (Nat.le_refl _) _
    have kU3 : Blk ((w1.alloc (.cells #[.int .i64 N, .slice a1 L c1, .slice a2 L2 c2] 27)).alloc (.cells #[.slice b1 p d1, .slice b2 q d2] 30)) (w1.heap.size + 1) #[.slice b1 p d1, .slice b2 q d2] 30 := Blk.new _ (by simp)
    have kT3 := Blk.by hal kT2
    have HN3 := Lib.hid (HN2.out.by hal)
    have HM3 := Lib.hid (HM2.out.by hal)
    have hb3 := below_on hal hb2
    clear hal kT2 HN2 HM2 hb2 HNV HMV hb1
    have qT := kT3.cell
    have lT := kT3.lt
    have qU := kU3.cell
    have lU := kU3.lt
    go_wp2_with fail
    generalize ((w1.alloc (.cells #[.int .i64 N, .slice a1 L c1, .slice a2 L2 c2] 27)).alloc (.cells #[.slice b1 p d1, .slice b2 q d2] 30)) = w3 at *
    generalize w1.heap.size = T at *
    refine (HIA.out _ _ _ HN3.out HM3.out).mono ?_
    rintro e w4 ⟨v4, rfl, hO4, hb4⟩
    obtain ⟨a3, c3, a4, c4, rfl⟩ := hO4.nl.sized
    have HY4 := Lib.hid hO4.nl
    obtain ⟨NY, hNY⟩ : ∃ N, (apR x z).nets = N := ⟨_, rfl⟩
    obtain ⟨L3, hL3⟩ : ∃ L, (apR x z).ds.length = L := ⟨_, rfl⟩
    obtain ⟨L4, hL4⟩ : ∃ L, (apR x z).ps.length = L := ⟨_, rfl⟩
    rw [hNY, hL3, hL4] at HY4 ⊢
    have HEY := Lib.hid (And.intro hNY (And.intro hL3 hL4))
    clear hO4 hNY hL3 hL4
    have hal : Below w4.heap.size w4 (w4.alloc (.cells #[.int .i64 NY, .slice a3 L3 c3, .slice a4 L4 c4] 27)) := (Below.refl _ w4).alloc (Nat.le_refl _) _
    have kX5 : Blk (w4.alloc (.cells #[.int .i64 NY, .slice a3 L3 c3, .slice a4 L4 c4] 27)) w4.heap.size #[.int .i64 NY, .slice a3 L3 c3, .slice a4 L4 c4] 27 := Blk.new _ rfl
    have kT5 := Blk.by hal (Blk.by hb4 kT3)
    have kU5 := Blk.by hal (Blk.by hb4 kU3)
    have HN5 := Lib.hid ((HN3.out.by hb4).by hal)
    have HM5 := Lib.hid ((HM3.out.by hb4).by hal)
    have HY5 := Lib.hid ((HY4.out).by hal)
    have hb5 : Below w.heap.size w (w4.alloc (.cells #[.int .i64 NY, .slice a3 L3 c3, .slice a4 L4 c4] 27)) := below_on hal (below_on hb4 hb3)
    clear qT lT qU lU hb4 kT3 kU3 HN3 HM3 HY4 hb3 hal
    have qT := kT5.cell
    have lT := kT5.lt
    have qU := kU5.cell
    have lU := kU5.lt
    have qX := kX5.cell
    have lX := kX5.lt
    go_wp2_with fail
    generalize w4.alloc (.cells #[.int .i64 NY, .slice a3 L3 c3, .slice a4 L4 c4] 27) = w5 at *
    generalize w4.heap.size = X at *
    refine (HSA.out _ _ _ HN5.out HM5.out).mono ?_
    rintro e w6 ⟨v6, rfl, hO6, hb6⟩
    obtain ⟨a5, c5, a6, c6, rfl⟩ := hO6.nl.sized
    (try rw [HEY.out.1, HEY.out.2.1, HEY.out.2.2])
    clear hO6
    have hal : Below w6.heap.size w6 (w6.alloc (.cells #[.int .i64 NY, .slice a5 L3 c5, .slice a6 L4 c6] 27)) := (Below.refl _ w6).alloc (Nat.le_refl _) _
    have kZ7 : Blk (w6.alloc (.cells #[.int .i64 NY, .slice a5 L3 c5, .slice a6 L4 c6] 27)) w6.heap.size #[.int .i64 NY, .slice a5 L3 c5, .slice a6 L4 c6] 27 := Blk.new _ rfl
    have kT7 := Blk.by hal (Blk.by hb6 kT5)
    have kU7 := Blk.by hal (Blk.by hb6 kU5)
    have kX7 := Blk.by hal (Blk.by hb6 kX5)
    have HN7 := Lib.hid ((HN5.out.by hb6).by hal)
    have HM7 := Lib.hid ((HM5.out.by hb6).by hal)
    have HY7 := Lib.hid ((HY5.out.by hb6).by hal)
    have hb7 : Below w.heap.size w (w6.alloc (.cells #[.int .i64 NY, .slice a5 L3 c5, .slice a6 L4 c6] 27)) := below_on hal (below_on hb6 hb5)
    clear qT lT qU lU qX lX hb6 kT5 kU5 kX5 HN5 HM5 HY5 hb5 hal
    have qT := kT7.cell
    have lT := kT7.lt
    have qU := kU7.cell
    have lU := kU7.lt
    have qX := kX7.cell
    have lX := kX7.lt
    by_cases hc : nlB x = true ∧ permB z.1 x.nets = true ∧ permB z.2 (x.ds.length : Int) = true
    · obtain ⟨f1, f2, f3, f4, f5, ⟨g1e, g2e, g3e, g4e⟩, f7, f8, f9, f10⟩ := HIF.out hc.1 hc.2.1 hc.2.2
      have HRYo := Lib.hid (HRY.out f9 f10)
      have HCYo := Lib.hid (HCY.out f9 f10)
      rw [f1]
      generalize apR x z = Y at *
      generalize hcx : refNet x = RX at *
      generalize hcy : refNet Y = RY at *
      obtain ⟨cx, sx⟩ := RX
      obtain ⟨cy, sy⟩ := RY
      dsimp only at f2 f3 f4 f5 f7 f8 g1e g2e g3e g4e HRX HRYo
      subst f2
      rw [HEQ.out.2.2.2.1] at g1e g2e f7
      rw [HEQ.out.2.2.2.2] at g3e g4e f8
      have HF7 := Lib.hid f7
      have HF8 := Lib.hid f8
      have HF4 := Lib.hid f4
      have HF5 := Lib.hid f5
      have HG := Lib.hid (And.intro g1e (And.intro g2e (And.intro g3e g4e)))
      have hs0 : ¬ sy < 0 := by omega
      clear f1 f3 f4 f5 f7 f8 f9 f10 g1e g2e g3e g4e hcx hcy hc HIF HRY HCY HIA HSA
      go_wp2_with fail
      generalize w6.alloc (.cells #[.int .i64 NY, .slice a5 L3 c5, .slice a6 L4 c6] 27) = w7 at *
      generalize w6.heap.size = Z at *
      clear kZ7
      refine (HRX.out _ _ HN7.out).mono ?_
      rintro e w8 ⟨v8, rfl, hO8, hb8⟩
      obtain ⟨g1, h1, g2, h2, rfl⟩ := hO8.co.sized
      have HC8 := Lib.hid hO8.co
      rw [HG.out.1, HG.out.2.2.1] at HC8 ⊢
      clear hO8
      have hal : Below w8.heap.size w8 (w8.alloc (.cells #[.slice g1 p h1, .slice g2 q h2] 35)) := (Below.refl _ w8).alloc (Nat.le_refl _) _
      have kC9 : Blk (w8.alloc (.cells #[.slice g1 p h1, .slice g2 q h2] 35)) w8.heap.size #[.slice g1 p h1, .slice g2 q h2] 35 := Blk.new _ rfl
      have kT9 := Blk.by hal (Blk.by hb8 kT7)
      have kU9 := Blk.by hal (Blk.by hb8 kU7)
      have kX9 := Blk.by hal (Blk.by hb8 kX7)
      have HN9 := Lib.hid ((HN7.out.by hb8).by hal)
      have HM9 := Lib.hid ((HM7.out.by hb8).by hal)
      have HY9 := Lib.hid ((HY7.out.by hb8).by hal)
      have HC9 := Lib.hid ((HC8.out).by hal)
      have hb9 : Below w.heap.size w (w8.alloc (.cells #[.slice g1 p h1, .slice g2 q h2] 35)) := below_on hal (below_on hb8 hb7)
      clear qT lT qU lU qX lX hb8 kT7 kU7 kX7 HN7 HM7 HY7 HC8 hb7 hal
      have qX := kX9.cell
      have lX := kX9.lt
      go_wp2_with fail
      generalize w8.alloc (.cells #[.slice g1 p h1, .slice g2 q h2] 35) = w9 at *
      generalize w8.heap.size = C at *
      refine (HRYo.out _ _ HY9.out).mono ?_
      rintro e w10 ⟨v10, rfl, hO10, hb10⟩
      obtain ⟨g3, h3, g4, h4, rfl⟩ := hO10.co.sized
      have HD10 := Lib.hid hO10.co
      rw [HG.out.2.1, HG.out.2.2.2] at HD10 ⊢
      clear hO10
      have hal : Below w10.heap.size w10 (w10.alloc (.cells #[.slice g3 p h3, .slice g4 q h4] 35)) := (Below.refl _ w10).alloc (Nat.le_refl _) _
      have kD11 : Blk (w10.alloc (.cells #[.slice g3 p h3, .slice g4 q h4] 35)) w10.heap.size #[.slice g3 p h3, .slice g4 q h4] 35 := Blk.new _ rfl
      have kT11 := Blk.by hal (Blk.by hb10 kT9)
      have kU11 := Blk.by hal (Blk.by hb10 kU9)
      have kX11 := Blk.by hal (Blk.by hb10 kX9)
      have kC11 := Blk.by hal (Blk.by hb10 kC9)
      have HN11 := Lib.hid ((HN9.out.by hb10).by hal)
      have HM11 := Lib.hid ((HM9.out.by hb10).by hal)
      have HY11 := Lib.hid ((HY9.out.by hb10).by hal)
      have HC11 := Lib.hid ((HC9.out.by hb10).by hal)
      have HD11 := Lib.hid ((HD10.out).by hal)
      have hb11 : Below w.heap.size w (w10.alloc (.cells #[.slice g3 p h3, .slice g4 q h4] 35)) := below_on hal (below_on hb10 hb9)
      clear qX lX hb10 kT9 kU9 kX9 kC9 HN9 HM9 HY9 HC9 HD10 hb9 hal
      have qT := kT11.cell
      have lT := kT11.lt
      have qC := kC11.cell
      have lC := kC11.lt
      go_wp2_with fail
      generalize w10.alloc (.cells #[.slice g3 p h3, .slice g4 q h4] 35) = w11 at *
      generalize w10.heap.size = D at *
      refine (HCX.out cx _ _ _ HN11.out HC11.out).mono ?_
      rintro e w12 ⟨rfl, hb12⟩
      rw [HF4.out]
      have kU12 := Blk.by hb12 kU11
      have kX12 := Blk.by hb12 kX11
      have kC12 := Blk.by hb12 kC11
      have kD12 := Blk.by hb12 kD11
      have HM12 := Lib.hid (HM11.out.by hb12)
      have HY12 := Lib.hid (HY11.out.by hb12)
      have HC12 := Lib.hid (HC11.out.by hb12)
      have HD12 := Lib.hid (HD11.out.by hb12)
      have hb12w := below_on hb12 hb11
      clear qT lT qC lC hb12 kT11 kU11 kX11 kC11 kD11 HN11 HM11 HY11 HC11 HD11 hb11
      have qX := kX12.cell
      have lX := kX12.lt
      have qD := kD12.cell
      have lD := kD12.lt
      go_wp2_with fail
      refine (HCYo.out cy _ _ _ HY12.out HD12.out).mono ?_
      rintro e w14 ⟨rfl, hb14⟩
      rw [HF5.out]
      have kU14 := Blk.by hb14 kU12
      have kC14 := Blk.by hb14 kC12
      have kD14 := Blk.by hb14 kD12
      have HM14 := Lib.hid (HM12.out.by hb14)
      have HC14 := Lib.hid (HC12.out.by hb14)
      have HD14 := Lib.hid (HD12.out.by hb14)
      have hb14w := below_on hb14 hb12w
      clear qX lX qD lD hb14 kU12 kX12 kC12 kD12 HM12 HY12 HC12 HD12 hb12w
      have HK := Lib.hid (And.intro kU14 (And.intro kC14 kD14))
      clear kU14 kC14 kD14
      go_wp2
      go_loopw [13] (fun zz wr => ∃ i : Nat, zz = .int .i64 (i : Int) ∧ i ≤ p ∧ Below w14.heap.size w14 wr) (fun zz _ => p - (intOf zz).toNat)
      case atStart => exact ⟨0, by go_num, Nat.zero_le _, (by ((repeat (first | (with_reducible exact Below.refl _ _) | (with_reducible refine below_drewN ?_ _) | (with_reducible refine Below.drew ?_) | (with_reducible refine below_al ?_ _) | (with_reducible refine below_on (by assumption) ?_) | ((with_reducible refine Below.setCell ?_ ?_ _); rotate_left; focus (first | omega | (simp; done) | (simp; omega))) | (with_reducible assumption))); done))⟩
      case round =>
        obtain ⟨i, rfl, hi, hb⟩ := hrel
        have cU : wr.cell? ⟨T + 1, 0, none⟩ = some (.slice b1 p d1) := cell_by' hb (HK.out.1.cell 0)
        have cC : wr.cell? ⟨C, 0, none⟩ = some (.slice g1 p h1) := cell_by' hb (HK.out.2.1.cell 0)
        have cD : wr.cell? ⟨D, 0, none⟩ = some (.slice g3 p h3) := cell_by' hb (HK.out.2.2.cell 0)
        have hbs := hb.size
        have lU := Nat.lt_of_lt_of_le HK.out.1.lt hbs
        have lC := Nat.lt_of_lt_of_le HK.out.2.1.lt hbs
        have lD := Nat.lt_of_lt_of_le HK.out.2.2.lt hbs
        by_cases hlt : i < p
        · obtain ⟨t1, t2, t3⟩ := HF7.out i hlt
          obtain ⟨j, hj⟩ : ∃ j : Nat, nmOf z.1 (i : Int) = (j : Int) := ⟨(nmOf z.1 (i : Int)).toNat, by omega⟩
          rw [hj] at t2 t3
          have hjp : j < p := by omega
          obtain ⟨_, _, em, m1, m2⟩ := HM14.out
          obtain ⟨_, _, ec, n1, n2⟩ := HC14.out
          obtain ⟨_, _, ed, o1, o2⟩ := HD14.out
          simp only [Value.agg.injEq, Array.mk.injEq, List.cons.injEq, and_true] at em ec ed
          obtain ⟨rfl, rfl⟩ := em
          obtain ⟨rfl, rfl⟩ := ec
          obtain ⟨rfl, rfl⟩ := ed
          obtain ⟨x1, y1, z1, e1, l1, r1⟩ := m1.nm (by rw [HEQ.out.2.2.2.1]; omega)
          obtain ⟨x2, y2, z2, e2, l2, r2⟩ := n1.nm (by rw [HG.out.1]; omega)
          obtain ⟨x3, y3, z3, e3, l3, r3⟩ := o1.nm (by rw [HG.out.2.1]; omega)
          simp only [Value.slice.injEq] at e1 e2 e3
          obtain ⟨rfl, _, rfl⟩ := e1
          obtain ⟨rfl, _, rfl⟩ := e2
          obtain ⟨rfl, _, rfl⟩ := e3
          have cm := cell_by' hb (r1 i (by rw [HEQ.out.2.2.2.1]; exact hlt))
          have cc := cell_by' hb (r2 i (by rw [HG.out.1]; exact hlt))
          have cd := cell_by' hb (r3 j (by rw [HG.out.2.1]; exact hjp))
          rw [hj] at cm
          rw [t3] at cc
          generalize nmOf cy.1 (j : Int) = VV at *
          have hid : decide (i < p) = true := decide_eq_true hlt
          have hii : (i : Int) < (p : Int) := by omega
          have hjd : decide (j < p) = true := decide_eq_true hjp
          have hji : (j : Int) < (p : Int) := by omega
          have lx1 := Nat.lt_of_lt_of_le l1 hbs
          have lx2 := Nat.lt_of_lt_of_le l2 hbs
          have lx3 := Nat.lt_of_lt_of_le l3 hbs
          clear hj t1 t2 t3 r1 r2 r3 m1 m2 n1 n2 o1 o2 l1 l2 l3
          go_wp2
          go_quiet (fail)
          go_wp2
          exact ⟨⟨i + 1, by go_num, by omega, (by ((repeat (first | (with_reducible exact Below.refl _ _) | (with_reducible refine below_drewN ?_ _) | (with_reducible refine Below.drew ?_) | (with_reducible refine below_al ?_ _) | (with_reducible refine below_on (by assumption) ?_) | ((with_reducible refine Below.setCell ?_ ?_ _); rotate_left; focus (first | omega | (simp; done) | (simp; omega))) | (with_reducible assumption))); done))⟩, by simp [intOf]; omega⟩
        · obtain rfl : i = p := by omega
          have hii : ¬ (i : Int) < (i : Int) := by omega
          have hbW := below_on hb hb14w
          replace HK := Lib.hid (And.intro (Blk.by hb HK.out.1) (And.intro (Blk.by hb HK.out.2.1) (Blk.by hb HK.out.2.2)))
          replace HM14 := Lib.hid (HM14.out.by hb)
          replace HC14 := Lib.hid (HC14.out.by hb)
          replace HD14 := Lib.hid (HD14.out.by hb)
          obtain ⟨wo, rfl⟩ : ∃ z : World, z = wr := ⟨_, rfl⟩
          clear hb hbs hb14w
          go_wp2
          go_loopw [14] (fun zz wr => ∃ i : Nat, zz = .int .i64 (i : Int) ∧ i ≤ q ∧ Below wo.heap.size wo wr) (fun zz _ => q - (intOf zz).toNat)
          case atStart => exact ⟨0, by go_num, Nat.zero_le _, (by ((repeat (first | (with_reducible exact Below.refl _ _) | (with_reducible refine below_drewN ?_ _) | (with_reducible refine Below.drew ?_) | (with_reducible refine below_al ?_ _) | (with_reducible refine below_on (by assumption) ?_) | ((with_reducible refine Below.setCell ?_ ?_ _); rotate_left; focus (first | omega | (simp; done) | (simp; omega))) | (with_reducible assumption))); done))⟩
          case round =>
            obtain ⟨i, rfl, hi, hb⟩ := hrel
            have cU : wr.cell? ⟨T + 1, 1, none⟩ = some (.slice b2 q d2) := cell_by' hb (HK.out.1.cell 1)
            have cC : wr.cell? ⟨C, 1, none⟩ = some (.slice g2 q h2) := cell_by' hb (HK.out.2.1.cell 1)
            have cD : wr.cell? ⟨D, 1, none⟩ = some (.slice g4 q h4) := cell_by' hb (HK.out.2.2.cell 1)
            have hbs := hb.size
            have lU := Nat.lt_of_lt_of_le HK.out.1.lt hbs
            have lC := Nat.lt_of_lt_of_le HK.out.2.1.lt hbs
            have lD := Nat.lt_of_lt_of_le HK.out.2.2.lt hbs
            by_cases hlt : i < q
            · obtain ⟨t1, t2, t3⟩ := HF8.out i hlt
              obtain ⟨j, hj⟩ : ∃ j : Nat, nmOf z.2 (i : Int) = (j : Int) := ⟨(nmOf z.2 (i : Int)).toNat, by omega⟩
              rw [hj] at t2 t3
              have hjp : j < q := by omega
              obtain ⟨_, _, em, m1, m2⟩ := HM14.out
              obtain ⟨_, _, ec, n1, n2⟩ := HC14.out
              obtain ⟨_, _, ed, o1, o2⟩ := HD14.out
              simp only [Value.agg.injEq, Array.mk.injEq, List.cons.injEq, and_true] at em ec ed
              obtain ⟨rfl, rfl⟩ := em
              obtain ⟨rfl, rfl⟩ := ec
              obtain ⟨rfl, rfl⟩ := ed
              obtain ⟨x1, y1, z1, e1, l1, r1⟩ := m2.nm (by rw [HEQ.out.2.2.2.2]; omega)
              obtain ⟨x2, y2, z2, e2, l2, r2⟩ := n2.nm (by rw [HG.out.2.2.1]; omega)
              obtain ⟨x3, y3, z3, e3, l3, r3⟩ := o2.nm (by rw [HG.out.2.2.2]; omega)
              simp only [Value.slice.injEq] at e1 e2 e3
              obtain ⟨rfl, _, rfl⟩ := e1
              obtain ⟨rfl, _, rfl⟩ := e2
              obtain ⟨rfl, _, rfl⟩ := e3
              have cm := cell_by' hb (r1 i (by rw [HEQ.out.2.2.2.2]; exact hlt))
              have cc := cell_by' hb (r2 i (by rw [HG.out.2.2.1]; exact hlt))
              have cd := cell_by' hb (r3 j (by rw [HG.out.2.2.2]; exact hjp))
              rw [hj] at cm
              rw [t3] at cc
              generalize nmOf cy.2 (j : Int) = VV at *
              have hid : decide (i < q) = true := decide_eq_true hlt
              have hii : (i : Int) < (q : Int) := by omega
              have hjd : decide (j < q) = true := decide_eq_true hjp
              have hji : (j : Int) < (q : Int) := by omega
              have lx1 := Nat.lt_of_lt_of_le l1 hbs
              have lx2 := Nat.lt_of_lt_of_le l2 hbs
              have lx3 := Nat.lt_of_lt_of_le l3 hbs
              clear hj t1 t2 t3 r1 r2 r3 m1 m2 n1 n2 o1 o2 l1 l2 l3
              go_wp2
              go_quiet (fail)
              go_wp2
              exact ⟨⟨i + 1, by go_num, by omega, (by ((repeat (first | (with_reducible exact Below.refl _ _) | (with_reducible refine below_drewN ?_ _) | (with_reducible refine Below.drew ?_) | (with_reducible refine below_al ?_ _) | (with_reducible refine below_on (by assumption) ?_) | ((with_reducible refine Below.setCell ?_ ?_ _); rotate_left; focus (first | omega | (simp; done) | (simp; omega))) | (with_reducible assumption))); done))⟩, by simp [intOf]; omega⟩
            · obtain rfl : i = q := by omega
              have hii : ¬ (i : Int) < (i : Int) := by omega
              go_wp2
              go_ret
              exact ⟨rfl, below_on hb hbW⟩
    · obtain ⟨e1, e2⟩ := inv_bad hc
      generalize apC x z = C at *
      have hC0 : (C == 0) = false := by simpa using e1
      have hl3 : L3 = 0 := by rw [← HEY.out.2.1, e2]; rfl
      subst hl3
      clear e1 e2 hc HIF HRY HCY HIA HSA HEY
      go_wp2
      go_ret
      exact ⟨rfl, hb7⟩
end Go.Proofs.YtlkcdelihdkgbaaGreat.fnColorsInvariant
