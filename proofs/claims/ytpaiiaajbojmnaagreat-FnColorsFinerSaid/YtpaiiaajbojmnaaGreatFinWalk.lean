/- The walk of FnColorsFiner. -/
import Derived.Test.YtpaiiaajbojmnaaGreatDrawCos
import Derived.Test.YtpaiiaajbojmnaaGreatFinMs
import Derived.Test.YtpaiiaajbojmnaaGreatRefs
import Derived.Test.YtpaiiaajbojmnaaGreatRefNs
import Derived.Test.YtpaiiaajbojmnaaGreatClss
import Derived.Test.YtpaiiaajbojmnaaGreatStab
import Derived.Test.YtpaiiaajbojmnaaGreatIsCol
import Derived.BigQuiet
import Derived.Deep.DeepCutAuto
import Derived.Deep.CutRange
namespace Go.Proofs.YtpaiiaajbojmnaaGreat.fnColorsFiner
open Go.RowKit Go.Proofs.YtpaiiaajbojmnaaGreat
set_option linter.unusedVariables false
set_option linter.unusedSimpArgs false

set_option maxRecDepth 100000 in
set_option maxHeartbeats 16000000 in
theorem walk (v0 : Value) (w : World) (n : Nat) (hB : Bytes w v0 n) :
    Calls Tryz.prog 3 #[v0] w fun e w' => e = .returned (.bool true) ∧ Below w.heap.size w w' := by
  have HB := Lib.hid hB
  have HBG := Lib.hid (fun w h => big_any v0 n w h)
  by_cases hn : 4096 < n
  · rw [decide_eq_true hn] at HBG
    clear hB hn
    go_enter Tryz.func3, Tryz.ntmps3
    go_wp2_with fail
    refine (HBG.out _ HB.out).mono ?_
    rintro e w1 ⟨rfl, rfl⟩
    go_wp2
    go_ret
    exact ⟨rfl, Below.refl _ _⟩
  · rw [decide_eq_false hn] at HBG
    have HDR := Lib.hid (fun w h => drawRf_any v0 n w h (by omega))
    clear hB hn
    go_enter Tryz.func3, Tryz.ntmps3
    go_wp2_with fail
    refine (HBG.out _ HB.out).mono ?_
    rintro e w1 ⟨rfl, rfl⟩
    go_wp2_with fail
    refine (HDR.out _ HB.out).mono ?_
    rintro e w1 ⟨v, u, x, z, rfl, HNV, HS, HCV, ⟨hz1, hz2⟩, hb1⟩
    obtain ⟨a1, c1, a2, c2, rfl⟩ := HNV.out.sized
    obtain ⟨b1, d1, b2, d2, rfl⟩ := HCV.out.sized
    have hok : ∀ p ∈ x.ps, p.ok := HS.out.2.2.2.2
    have hfit : Fits x.nets := HS.out.fits
    have HIR := Lib.hid (fun v u w h hc => implRef_any x z v u w h hc hok hfit)
    have HCX := Lib.hid (fun c v u w h hc => specIsColoring_any x c v u w h hc hok hfit)
    have HRX := Lib.hid (fun v w h => implRefNet_any x v w h hok hfit)
    have HST := Lib.hid (fun c v u w h hc => implStab_any x c v u w h hc hok hfit)
    have HCC := Lib.hid (fun sv zs w h hl => implClasses_any sv zs w h hl)
    obtain ⟨N, hN⟩ : ∃ N, x.nets = N := ⟨_, rfl⟩
    obtain ⟨L, hL⟩ : ∃ L, x.ds.length = L := ⟨_, rfl⟩
    obtain ⟨L2, hL2⟩ : ∃ L, x.ps.length = L := ⟨_, rfl⟩
    obtain ⟨p, hp⟩ : ∃ p, z.1.length = p := ⟨_, rfl⟩
    obtain ⟨q, hq⟩ : ∃ q, z.2.length = q := ⟨_, rfl⟩
    have HEQ := Lib.hid (And.intro hN (And.intro hL (And.intro hL2 (And.intro hp hq))))
    rw [hN, hL, hL2] at HNV ⊢
    rw [hp, hq] at HCV ⊢
    have hpq : p ≤ 60 ∧ q ≤ 120 := by omega
    clear hN hL hL2 hp hq hok hfit hz1 hz2
    have hal : Below w1.heap.size w1 ((w1.alloc (.cells #[.int .i64 N, .slice a1 L c1, .slice a2 L2 c2] 27)).alloc (.cells #[.slice b1 p d1, .slice b2 q d2] 30)) := ((Below.refl _ w1).alloc (Nat.le_refl _) _).alloc (by simp) _
    have kT3 : Blk ((w1.alloc (.cells #[.int .i64 N, .slice a1 L c1, .slice a2 L2 c2] 27)).alloc (.cells #[.slice b1 p d1, .slice b2 q d2] 30)) w1.heap.size #[.int .i64 N, .slice a1 L c1, .slice a2 L2 c2] 27 := (Blk.new _ rfl).past _
    have kU3 : Blk ((w1.alloc (.cells #[.int .i64 N, .slice a1 L c1, .slice a2 L2 c2] 27)).alloc (.cells #[.slice b1 p d1, .slice b2 q d2] 30)) (w1.heap.size + 1) #[.slice b1 p d1, .slice b2 q d2] 30 := Blk.new _ (by simp)
    have HN3 := Lib.hid ((HNV.out).by hal)
    have HC3 := Lib.hid ((HCV.out).by hal)
    have hb3 : Below w.heap.size w ((w1.alloc (.cells #[.int .i64 N, .slice a1 L c1, .slice a2 L2 c2] 27)).alloc (.cells #[.slice b1 p d1, .slice b2 q d2] 30)) := below_on hal hb1
    clear hal HNV HCV hb1
    have qT := kT3.cell
    have lT := kT3.lt
    have qU := kU3.cell
    have lU := kU3.lt
    go_wp2_with fail
    generalize ((w1.alloc (.cells #[.int .i64 N, .slice a1 L c1, .slice a2 L2 c2] 27)).alloc (.cells #[.slice b1 p d1, .slice b2 q d2] 30)) = w3 at *
    generalize w1.heap.size = T at *
    refine (HIR.out _ _ _ HN3.out HC3.out).mono ?_
    rintro e w4 ⟨v4, rfl, hO4, hb4⟩
    obtain ⟨g1, h1, g2, h2, rfl⟩ := hO4.co.sized
    have HY4 := Lib.hid hO4.co
    clear hO4
    cases hcb : coB x z with
    | false =>
      generalize (refR x z).1.length = p2 at *
      generalize (refR x z).2.length = q2 at *
      have hal : Below w4.heap.size w4 (w4.alloc (.cells #[.slice g1 p2 h1, .slice g2 q2 h2] 30)) := (Below.refl _ w4).alloc (Nat.le_refl _) _
      have kT5 := Blk.by hal (Blk.by hb4 kT3)
      have kU5 := Blk.by hal (Blk.by hb4 kU3)
      have HN5 := Lib.hid ((HN3.out.by hb4).by hal)
      have HC5 := Lib.hid ((HC3.out.by hb4).by hal)
      have hb5 := below_on hal (below_on hb4 hb3)
      clear qT lT qU lU hb4 kT3 kU3 HN3 HC3 HY4 hb3 hal
      have qT := kT5.cell
      have lT := kT5.lt
      have qU := kU5.cell
      have lU := kU5.lt
      go_wp2_with fail
      generalize w4.alloc (.cells #[.slice g1 p2 h1, .slice g2 q2 h2] 30) = w5 at *
      refine (HCX.out z _ _ _ HN5.out HC5.out).mono ?_
      rintro e w6 ⟨rfl, hb6⟩
      rw [hcb]
      have kT6 := Blk.by hb6 kT5
      have kU6 := Blk.by hb6 kU5
      have HN6 := Lib.hid (HN5.out.by hb6)
      have HC6 := Lib.hid (HC5.out.by hb6)
      have hb6w := below_on hb6 hb5
      clear qT lT qU lU hb6 kT5 kU5 HN5 HC5 hb5
      have qT := kT6.cell
      have lT := kT6.lt
      have qU := kU6.cell
      have lU := kU6.lt
      go_wp2_with fail
      refine (HCX.out z _ _ _ HN6.out HC6.out).mono ?_
      rintro e w7 ⟨rfl, hb7⟩
      rw [hcb]
      have hb7w := below_on hb7 hb6w
      clear qT lT qU lU hb7 kT6 kU6 HN6 HC6 hb6w
      go_wp2
      go_ret
      exact ⟨rfl, hb7w⟩
    | true =>
      have hrf : refR x z = refS x z := by unfold refR; rw [if_pos hcb]
      rw [hrf] at HY4 ⊢
      have HOK := Lib.hid (fin_ok hcb)
      rw [HOK.out.l1, HOK.out.l2, HEQ.out.2.2.2.1, HEQ.out.2.2.2.2] at HY4 ⊢
      have HCB := Lib.hid hcb
      have hp24 : p ≤ 24 := by have := HOK.out.b1; rw [HEQ.out.2.2.2.1] at this; exact this
      have hq24 : q ≤ 24 := by have := HOK.out.b2; rw [HEQ.out.2.2.2.2] at this; exact this
      clear hrf hcb
      have hal : Below w4.heap.size w4 (w4.alloc (.cells #[.slice g1 p h1, .slice g2 q h2] 30)) := (Below.refl _ w4).alloc (Nat.le_refl _) _
      have kX5 : Blk (w4.alloc (.cells #[.slice g1 p h1, .slice g2 q h2] 30)) w4.heap.size #[.slice g1 p h1, .slice g2 q h2] 30 := Blk.new _ rfl
      have kT5 := Blk.by hal (Blk.by hb4 kT3)
      have kU5 := Blk.by hal (Blk.by hb4 kU3)
      have HN5 := Lib.hid ((HN3.out.by hb4).by hal)
      have HC5 := Lib.hid ((HC3.out.by hb4).by hal)
      have HY5 := Lib.hid (HY4.out.by hal)
      have hb5 := below_on hal (below_on hb4 hb3)
      clear qT lT qU lU hb4 kT3 kU3 HN3 HC3 HY4 hb3 hal
      have qT := kT5.cell
      have lT := kT5.lt
      have qU := kU5.cell
      have lU := kU5.lt
      go_wp2_with fail
      generalize w4.alloc (.cells #[.slice g1 p h1, .slice g2 q h2] 30) = w5 at *
      generalize w4.heap.size = X at *
      refine (HCX.out z _ _ _ HN5.out HC5.out).mono ?_
      rintro e w6 ⟨rfl, hb6⟩
      rw [HCB.out]
      have kT6 := Blk.by hb6 kT5
      have kU6 := Blk.by hb6 kU5
      have kX6 := Blk.by hb6 kX5
      have HN6 := Lib.hid (HN5.out.by hb6)
      have HC6 := Lib.hid (HC5.out.by hb6)
      have HY6 := Lib.hid (HY5.out.by hb6)
      have hb6w := below_on hb6 hb5
      clear qT lT qU lU hb6 kT5 kU5 kX5 HN5 HC5 HY5 hb5
      have qT := kT6.cell
      have lT := kT6.lt
      have qX := kX6.cell
      have lX := kX6.lt
      go_wp2_with fail
      refine (HCX.out (refS x z) _ _ _ HN6.out HY6.out).mono ?_
      rintro e w8 ⟨rfl, hb8⟩
      rw [HOK.out.y]
      have HK := Lib.hid (And.intro (Blk.by hb8 kT6) (And.intro (Blk.by hb8 kU6) (Blk.by hb8 kX6)))
      have HN8 := Lib.hid (HN6.out.by hb8)
      have HC8 := Lib.hid (HC6.out.by hb8)
      have HY8 := Lib.hid (HY6.out.by hb8)
      have hb8w := below_on hb8 hb6w
      clear qT lT qX lX hb8 kT6 kU6 kX6 HN6 HC6 HY6 hb6w
      go_wp2
      go_loopw [7] (fun zz wr => ∃ i : Nat, zz = .int .i64 (i : Int) ∧ i ≤ p ∧ Below w8.heap.size w8 wr) (fun zz _ => p - (intOf zz).toNat)
      case atStart => exact ⟨0, by go_num, Nat.zero_le _, (by ((repeat (first | (with_reducible exact Below.refl _ _) | (with_reducible refine below_drewN ?_ _) | (with_reducible refine Below.drew ?_) | (with_reducible refine below_al ?_ _) | (with_reducible refine below_on (by assumption) ?_) | ((with_reducible refine Below.setCell ?_ ?_ _); rotate_left; focus (first | omega | (simp; done) | (simp; omega))) | (with_reducible assumption))); done))⟩
      case round =>
        obtain ⟨i, rfl, hi, hb⟩ := hrel
        have hbs := hb.size
        have cU : wr.cell? ⟨T + 1, 0, none⟩ = some (.slice b1 p d1) := cell_by' hb (HK.out.2.1.cell 0)
        have lU := Nat.lt_of_lt_of_le HK.out.2.1.lt hbs
        by_cases hlt : i < p
        · have hii : (i : Int) < (p : Int) := by omega
          go_wp2
          obtain ⟨wo, rfl⟩ : ∃ z : World, z = wr := ⟨_, rfl⟩
          clear cU lU
          go_loopw [8] (fun zz wr => ∃ k : Nat, zz = .int .i64 (k : Int) ∧ k ≤ i ∧ Below w8.heap.size w8 wr) (fun zz _ => i - (intOf zz).toNat)
          case atStart => exact ⟨0, by go_num, Nat.zero_le _, hb⟩
          case round =>
            clear hb hbs
            obtain ⟨k, rfl, hk, hb⟩ := hrel
            have hbs := hb.size
            by_cases hkt : k < i
            · have hki : (k : Int) < (i : Int) := by omega
              have hkp : (k : Int) < (p : Int) := by omega
              have cU : wr.cell? ⟨T + 1, 0, none⟩ = some (.slice b1 p d1) := cell_by' hb (HK.out.2.1.cell 0)
              have cX : wr.cell? ⟨X, 0, none⟩ = some (.slice g1 p h1) := cell_by' hb (HK.out.2.2.cell 0)
              have lU := Nat.lt_of_lt_of_le HK.out.2.1.lt hbs
              have lX := Nat.lt_of_lt_of_le HK.out.2.2.lt hbs
              obtain ⟨_, _, ec, n1, n2⟩ := HC8.out
              obtain ⟨_, _, ed, o1, o2⟩ := HY8.out
              simp only [Value.agg.injEq, Array.mk.injEq, List.cons.injEq, and_true] at ec ed
              obtain ⟨rfl, rfl⟩ := ec
              obtain ⟨rfl, rfl⟩ := ed
              obtain ⟨x2, y2, z2, e2, l2, r2⟩ := n1.nm (by rw [HEQ.out.2.2.2.1]; omega)
              obtain ⟨x3, y3, z3, e3, l3, r3⟩ := o1.nm (by rw [HOK.out.l1, HEQ.out.2.2.2.1]; omega)
              simp only [Value.slice.injEq] at e2 e3
              obtain ⟨rfl, _, rfl⟩ := e2
              obtain ⟨rfl, _, rfl⟩ := e3
              have ca := cell_by' hb (r2 i (by rw [HEQ.out.2.2.2.1]; exact hlt))
              have cb := cell_by' hb (r2 k (by rw [HEQ.out.2.2.2.1]; omega))
              have ce := cell_by' hb (r3 i (by rw [HOK.out.l1, HEQ.out.2.2.2.1]; exact hlt))
              have cf := cell_by' hb (r3 k (by rw [HOK.out.l1, HEQ.out.2.2.2.1]; omega))
              have hF := HOK.out.nets i k (by rw [HEQ.out.2.2.2.1]; exact hlt) (by rw [HEQ.out.2.2.2.1]; omega)
              generalize nmOf z.1 (i : Int) = VA at *
              generalize nmOf z.1 (k : Int) = VB at *
              generalize nmOf (refS x z).1 (i : Int) = VE at *
              generalize nmOf (refS x z).1 (k : Int) = VF at *
              have hid : decide (i < p) = true := decide_eq_true hlt
              have hkd : decide (k < p) = true := decide_eq_true (by omega)
              have lx2 := Nat.lt_of_lt_of_le l2 hbs
              have lx3 := Nat.lt_of_lt_of_le l3 hbs
              clear r2 r3 n1 n2 o1 o2 l2 l3
              go_upto_region 15 with fail
              go_cut [108] from 54 to 108 (fun cc wx => cc = .bool false ∧ Below w8.heap.size w8 wx)
              case rest =>
                obtain ⟨rfl, hbc⟩ := hcut
                clear ca cb ce cf cU cX lU lX lx2 lx3 hF hb hbs
                go_wp2
                exact ⟨⟨k + 1, by go_num, by omega, hbc⟩, by simp [intOf]; omega⟩
              case first =>
              by_cases hef : VE = VF
              · have hab := hF.1 hef
                subst hef hab
                have q1 : (VE == VE) = true := by simp
                have q2 : (VA != VA) = false := by simp
                have q3 : decide (VE < VE) = false := decide_eq_false (by omega)
                clear hF
                go_quiet (fail)
                go_wp2
                go_meet
                exact ⟨rfl, (by ((repeat (first | (with_reducible exact Below.refl _ _) | (with_reducible refine below_drewN ?_ _) | (with_reducible refine Below.drew ?_) | (with_reducible refine below_al ?_ _) | (with_reducible refine below_on (by assumption) ?_) | ((with_reducible refine Below.setCell ?_ ?_ _); rotate_left; focus (first | omega | (simp; done) | (simp; omega))) | (with_reducible assumption))); done))⟩
              · have q1 : (VE == VF) = false := by simpa using hef
                by_cases hef2 : VE < VF
                · have q4 : decide (VB < VA) = false := decide_eq_false (hF.2 hef2)
                  have q5 : decide (VE < VF) = true := decide_eq_true hef2
                  clear hF hef hef2
                  go_quiet (fail)
                  go_wp2
                  go_meet
                  exact ⟨rfl, (by ((repeat (first | (with_reducible exact Below.refl _ _) | (with_reducible refine below_drewN ?_ _) | (with_reducible refine Below.drew ?_) | (with_reducible refine below_al ?_ _) | (with_reducible refine below_on (by assumption) ?_) | ((with_reducible refine Below.setCell ?_ ?_ _); rotate_left; focus (first | omega | (simp; done) | (simp; omega))) | (with_reducible assumption))); done))⟩
                · have q5 : decide (VE < VF) = false := decide_eq_false hef2
                  clear hF hef hef2
                  go_quiet (fail)
                  go_wp2
                  go_meet
                  exact ⟨rfl, (by ((repeat (first | (with_reducible exact Below.refl _ _) | (with_reducible refine below_drewN ?_ _) | (with_reducible refine Below.drew ?_) | (with_reducible refine below_al ?_ _) | (with_reducible refine below_on (by assumption) ?_) | ((with_reducible refine Below.setCell ?_ ?_ _); rotate_left; focus (first | omega | (simp; done) | (simp; omega))) | (with_reducible assumption))); done))⟩
            · obtain rfl : k = i := by omega
              have hkk : ¬ (k : Int) < (k : Int) := by omega
              clear hkt
              go_wp2
              exact ⟨⟨k + 1, by go_num, by omega, (by ((repeat (first | (with_reducible exact Below.refl _ _) | (with_reducible refine below_drewN ?_ _) | (with_reducible refine Below.drew ?_) | (with_reducible refine below_al ?_ _) | (with_reducible refine below_on (by assumption) ?_) | ((with_reducible refine Below.setCell ?_ ?_ _); rotate_left; focus (first | omega | (simp; done) | (simp; omega))) | (with_reducible assumption))); done))⟩, by simp [intOf]; omega⟩
        · obtain rfl : p = i := by omega
          have hii : ¬ (p : Int) < (p : Int) := by omega
          have hbW := below_on hb hb8w
          replace HK := Lib.hid (And.intro (Blk.by hb HK.out.1) (And.intro (Blk.by hb HK.out.2.1) (Blk.by hb HK.out.2.2)))
          replace HC8 := Lib.hid (HC8.out.by hb)
          replace HY8 := Lib.hid (HY8.out.by hb)
          replace HN8 := Lib.hid (HN8.out.by hb)
          clear hb8w
          have hb8w := hbW
          obtain ⟨wo1, rfl⟩ : ∃ z : World, z = wr := ⟨_, rfl⟩
          clear hb hbs hbW hlt
          go_wp2
          go_loopw [9] (fun zz wr => ∃ i : Nat, zz = .int .i64 (i : Int) ∧ i ≤ q ∧ Below wo1.heap.size wo1 wr) (fun zz _ => q - (intOf zz).toNat)
          case atStart => exact ⟨0, by go_num, Nat.zero_le _, (by ((repeat (first | (with_reducible exact Below.refl _ _) | (with_reducible refine below_drewN ?_ _) | (with_reducible refine Below.drew ?_) | (with_reducible refine below_al ?_ _) | (with_reducible refine below_on (by assumption) ?_) | ((with_reducible refine Below.setCell ?_ ?_ _); rotate_left; focus (first | omega | (simp; done) | (simp; omega))) | (with_reducible assumption))); done))⟩
          case round =>
            obtain ⟨i, rfl, hi, hb⟩ := hrel
            have hbs := hb.size
            have cU : wr.cell? ⟨T + 1, 1, none⟩ = some (.slice b2 q d2) := cell_by' hb (HK.out.2.1.cell 1)
            have lU := Nat.lt_of_lt_of_le HK.out.2.1.lt hbs
            by_cases hlt : i < q
            · have hii : (i : Int) < (q : Int) := by omega
              go_wp2
              obtain ⟨wo, rfl⟩ : ∃ z : World, z = wr := ⟨_, rfl⟩
              clear cU lU
              go_loopw [10] (fun zz wr => ∃ k : Nat, zz = .int .i64 (k : Int) ∧ k ≤ i ∧ Below wo1.heap.size wo1 wr) (fun zz _ => i - (intOf zz).toNat)
              case atStart => exact ⟨0, by go_num, Nat.zero_le _, hb⟩
              case round =>
                clear hb hbs
                obtain ⟨k, rfl, hk, hb⟩ := hrel
                have hbs := hb.size
                by_cases hkt : k < i
                · have hki : (k : Int) < (i : Int) := by omega
                  have hkp : (k : Int) < (q : Int) := by omega
                  have cU : wr.cell? ⟨T + 1, 1, none⟩ = some (.slice b2 q d2) := cell_by' hb (HK.out.2.1.cell 1)
                  have cX : wr.cell? ⟨X, 1, none⟩ = some (.slice g2 q h2) := cell_by' hb (HK.out.2.2.cell 1)
                  have lU := Nat.lt_of_lt_of_le HK.out.2.1.lt hbs
                  have lX := Nat.lt_of_lt_of_le HK.out.2.2.lt hbs
                  obtain ⟨_, _, ec, n1, n2⟩ := HC8.out
                  obtain ⟨_, _, ed, o1, o2⟩ := HY8.out
                  simp only [Value.agg.injEq, Array.mk.injEq, List.cons.injEq, and_true] at ec ed
                  obtain ⟨rfl, rfl⟩ := ec
                  obtain ⟨rfl, rfl⟩ := ed
                  obtain ⟨x2, y2, z2, e2, l2, r2⟩ := n2.nm (by rw [HEQ.out.2.2.2.2]; omega)
                  obtain ⟨x3, y3, z3, e3, l3, r3⟩ := o2.nm (by rw [HOK.out.l2, HEQ.out.2.2.2.2]; omega)
                  simp only [Value.slice.injEq] at e2 e3
                  obtain ⟨rfl, _, rfl⟩ := e2
                  obtain ⟨rfl, _, rfl⟩ := e3
                  have ca := cell_by' hb (r2 i (by rw [HEQ.out.2.2.2.2]; exact hlt))
                  have cb := cell_by' hb (r2 k (by rw [HEQ.out.2.2.2.2]; omega))
                  have ce := cell_by' hb (r3 i (by rw [HOK.out.l2, HEQ.out.2.2.2.2]; exact hlt))
                  have cf := cell_by' hb (r3 k (by rw [HOK.out.l2, HEQ.out.2.2.2.2]; omega))
                  have hF := HOK.out.devs i k (by rw [HEQ.out.2.2.2.2]; exact hlt) (by rw [HEQ.out.2.2.2.2]; omega)
                  generalize nmOf z.2 (i : Int) = VA at *
                  generalize nmOf z.2 (k : Int) = VB at *
                  generalize nmOf (refS x z).2 (i : Int) = VE at *
                  generalize nmOf (refS x z).2 (k : Int) = VF at *
                  have hid : decide (i < q) = true := decide_eq_true hlt
                  have hkd : decide (k < q) = true := decide_eq_true (by omega)
                  have lx2 := Nat.lt_of_lt_of_le l2 hbs
                  have lx3 := Nat.lt_of_lt_of_le l3 hbs
                  clear r2 r3 n1 n2 o1 o2 l2 l3
                  go_upto_region 23 with fail
                  go_cut [144] from 116 to 144 (fun cc wx => cc = .bool false ∧ Below wo1.heap.size wo1 wx)
                  case rest =>
                    obtain ⟨rfl, hbc⟩ := hcut
                    clear ca cb ce cf cU cX lU lX lx2 lx3 hF hb hbs
                    go_wp2
                    exact ⟨⟨k + 1, by go_num, by omega, hbc⟩, by simp [intOf]; omega⟩
                  case first =>
                  by_cases hef : VE = VF
                  · have hab := hF hef
                    subst hef hab
                    have q1 : (VE == VE) = true := by simp
                    have q2 : (VA != VA) = false := by simp
                    clear hF
                    go_quiet (fail)
                    go_wp2
                    go_meet
                    exact ⟨rfl, (by ((repeat (first | (with_reducible exact Below.refl _ _) | (with_reducible refine below_drewN ?_ _) | (with_reducible refine Below.drew ?_) | (with_reducible refine below_al ?_ _) | (with_reducible refine below_on (by assumption) ?_) | ((with_reducible refine Below.setCell ?_ ?_ _); rotate_left; focus (first | omega | (simp; done) | (simp; omega))) | (with_reducible assumption))); done))⟩
                  · have q1 : (VE == VF) = false := by simpa using hef
                    clear hF hef
                    go_quiet (fail)
                    go_wp2
                    go_meet
                    exact ⟨rfl, (by ((repeat (first | (with_reducible exact Below.refl _ _) | (with_reducible refine below_drewN ?_ _) | (with_reducible refine Below.drew ?_) | (with_reducible refine below_al ?_ _) | (with_reducible refine below_on (by assumption) ?_) | ((with_reducible refine Below.setCell ?_ ?_ _); rotate_left; focus (first | omega | (simp; done) | (simp; omega))) | (with_reducible assumption))); done))⟩
                · obtain rfl : k = i := by omega
                  have hkk : ¬ (k : Int) < (k : Int) := by omega
                  clear hkt
                  go_wp2
                  exact ⟨⟨k + 1, by go_num, by omega, (by ((repeat (first | (with_reducible exact Below.refl _ _) | (with_reducible refine below_drewN ?_ _) | (with_reducible refine Below.drew ?_) | (with_reducible refine below_al ?_ _) | (with_reducible refine below_on (by assumption) ?_) | ((with_reducible refine Below.setCell ?_ ?_ _); rotate_left; focus (first | omega | (simp; done) | (simp; omega))) | (with_reducible assumption))); done))⟩, by simp [intOf]; omega⟩
            · obtain rfl : q = i := by omega
              have hii : ¬ (q : Int) < (q : Int) := by omega
              have hbW := below_on hb hb8w
              replace HK := Lib.hid (And.intro (Blk.by hb HK.out.1) (And.intro (Blk.by hb HK.out.2.1) (Blk.by hb HK.out.2.2)))
              replace HC8 := Lib.hid (HC8.out.by hb)
              replace HY8 := Lib.hid (HY8.out.by hb)
              replace HN8 := Lib.hid (HN8.out.by hb)
              clear hb8w
              have hb8w := hbW
              obtain ⟨wo2, rfl⟩ : ∃ z : World, z = wr := ⟨_, rfl⟩
              clear hb hbs hbW hlt
              have qT : ∀ o, wo2.cell? ⟨T, o, none⟩ = (#[.int .i64 N, .slice a1 L c1, .slice a2 L2 c2] : Array Value)[o]? := HK.out.1.cell
              have lT := HK.out.1.lt
              go_wp2_with fail
              refine (HRX.out _ _ HN8.out).mono ?_
              rintro e w9 ⟨v9, rfl, hO9, hb9⟩
              obtain ⟨g3, h3, g4, h4, rfl⟩ := hO9.co.sized
              have HD9 := Lib.hid hO9.co
              have hst := HOK.out.pos
              have HSTB := Lib.hid HOK.out.stable
              have HTOT := Lib.hid HOK.out.total
              rw [HOK.out.last, HEQ.out.2.2.2.1] at HD9 ⊢
              rw [HEQ.out.2.2.2.1] at HTOT
              have HLS := Lib.hid (HOK.out.last.trans HEQ.out.2.2.2.1)
              obtain ⟨RX, hRX⟩ : ∃ R, refNet x = R := ⟨_, rfl⟩
              rw [hRX] at HD9 hst HSTB HTOT HLS ⊢
              clear hRX hO9
              obtain ⟨Z, steps⟩ := RX
              dsimp only at HD9 hst HSTB HTOT HLS ⊢
              obtain ⟨p4, hp4⟩ : ∃ q, Z.2.length = q := ⟨_, rfl⟩
              rw [hp4] at HD9 ⊢
              clear hp4
              have hal : Below w9.heap.size w9 (w9.alloc (.cells #[.slice g3 p h3, .slice g4 p4 h4] 30)) := (Below.refl _ w9).alloc (Nat.le_refl _) _
              have kC9 : Blk (w9.alloc (.cells #[.slice g3 p h3, .slice g4 p4 h4] 30)) w9.heap.size #[.slice g3 p h3, .slice g4 p4 h4] 30 := Blk.new _ rfl
              have kT10 := Blk.by hal (Blk.by hb9 HK.out.1)
              have kU10 := Blk.by hal (Blk.by hb9 HK.out.2.1)
              have HN10 := Lib.hid ((HN8.out.by hb9).by hal)
              have HD10 := Lib.hid (HD9.out.by hal)
              have hb10 := below_on hal (below_on hb9 hb8w)
              clear hal hb9 hb8w HD9 HN8 HC8 HY8 HK qT lT HOK HCB
              have qC := kC9.cell
              have lC := kC9.lt
              go_wp2_with fail
              generalize w9.alloc (.cells #[.slice g3 p h3, .slice g4 p4 h4] 30) = w10 at *
              generalize w9.heap.size = C at *
              obtain ⟨_, _, ed, o1, o2⟩ := HD10.out
              simp only [Value.agg.injEq, Array.mk.injEq, List.cons.injEq, and_true] at ed
              obtain ⟨rfl, rfl⟩ := ed
              refine (HCC.out _ Z.1 _ o1 (by rw [HLS.out]; omega)).mono ?_
              rintro e w11 ⟨v11, rfl, hLL, hb11⟩
              have HL := Lib.hid hLL.ll
              have hMb : (clsS Z.1).length ≤ 1000 := by
                rcases hLL with ⟨_, e⟩ | ⟨_, _, _, _, _, _, _, hl, _⟩
                · rw [e]; simp
                · exact hl
              obtain ⟨CL, hCL⟩ : ∃ CL, clsS Z.1 = CL := ⟨_, rfl⟩
              rw [hCL] at HL HTOT hMb
              clear hCL hLL o1 o2
              obtain ⟨M, hM⟩ : ∃ M, CL.length = M := ⟨_, rfl⟩
              obtain ⟨al, cl, rfl⟩ := HL.out.sized
              rw [hM] at HTOT HL hMb ⊢
              have HM := Lib.hid hM
              have HKK := Lib.hid (And.intro (Blk.by hb11 kT10) (And.intro (Blk.by hb11 kU10) (Blk.by hb11 kC9)))
              have HN11 := Lib.hid (HN10.out.by hb11)
              have HD11 := Lib.hid (HD10.out.by hb11)
              have hb11w := below_on hb11 hb10
              have HLT := Lib.hid (fun k xs h => lenTo_step CL k xs h)
              have HLE := Lib.hid (fun k => lenTo_le CL k)
              have HTS := Lib.hid (show (CL.map List.length).sum = p from (lenTo_all CL).symm.trans (by rw [HM.out]; exact HTOT.out))
              clear hM hb11 hb10 kT10 kU10 kC9 HN10 HD10 qC lC
              go_wp2
              go_loopw [14, 15] (fun nn zz wr => ∃ i : Nat, zz = .int .i64 (i : Int) ∧ i ≤ M ∧ nn = .int .i64 ((lenTo CL i : Nat) : Int) ∧ Below w11.heap.size w11 wr) (fun _ zz _ => M - (intOf zz).toNat)
              case atStart => exact ⟨0, by go_num, Nat.zero_le _, by rfl, (by ((repeat (first | (with_reducible exact Below.refl _ _) | (with_reducible refine below_drewN ?_ _) | (with_reducible refine Below.drew ?_) | (with_reducible refine below_al ?_ _) | (with_reducible refine below_on (by assumption) ?_) | ((with_reducible refine Below.setCell ?_ ?_ _); rotate_left; focus (first | omega | (simp; done) | (simp; omega))) | (with_reducible assumption))); done))⟩
              case round =>
                obtain ⟨i, rfl, hi, rfl, hb⟩ := hrel
                have hbs := hb.size
                obtain ⟨s, hs⟩ : ∃ s, lenTo CL i = s := ⟨_, rfl⟩
                have hsp : s ≤ p := by have := HLE.out i; rw [HTS.out, hs] at this; exact this
                by_cases hlt : i < M
                · obtain ⟨xs, hx⟩ : ∃ xs, CL[i]? = some xs := ⟨_, List.getElem?_eq_getElem (by rw [HM.out]; exact hlt)⟩
                  have hstep := HLT.out i xs hx
                  rw [hs] at hstep ⊢
                  have hsp2 : s + xs.length ≤ p := by have := HLE.out (i + 1); rw [HTS.out, hstep] at this; exact this
                  rcases HL.out with ⟨_, _, _, e2⟩ | ⟨b, off, cap, he, _, _, hcc⟩
                  · rw [e2] at hx; simp at hx
                  obtain ⟨rfl, rfl⟩ : al = some ⟨b, off, none⟩ ∧ cl = cap := by
                    simp only [Value.slice.injEq] at he
                    exact ⟨he.1, he.2.2⟩
                  obtain ⟨sx, cx, hSx⟩ := hcc i xs hx
                  obtain ⟨ax, dx, rfl⟩ := hSx.len
                  have cx' := cell_by' hb cx
                  have hii : (i : Int) < (M : Int) := by omega
                  have hid : decide (i < M) = true := decide_eq_true hlt
                  have HST2 := Lib.hid hstep
                  obtain ⟨t, ht⟩ : ∃ t, xs.length = t := ⟨_, rfl⟩
                  rw [ht] at cx' HST2 hsp2
                  clear hcc hSx cx hx he hs hstep ht
                  go_wp2
                  exact ⟨⟨i + 1, by go_num, by omega, by rw [HST2.out]; go_num, (by ((repeat (first | (with_reducible exact Below.refl _ _) | (with_reducible refine below_drewN ?_ _) | (with_reducible refine Below.drew ?_) | (with_reducible refine below_al ?_ _) | (with_reducible refine below_on (by assumption) ?_) | ((with_reducible refine Below.setCell ?_ ?_ _); rotate_left; focus (first | omega | (simp; done) | (simp; omega))) | (with_reducible assumption))); done))⟩, by simp [intOf]; omega⟩
                · obtain rfl : M = i := by omega
                  have hii : ¬ (M : Int) < (M : Int) := by omega
                  rw [HTOT.out]
                  have qT := (Blk.by hb HKK.out.1).cell
                  have lT := (Blk.by hb HKK.out.1).lt
                  have qC := (Blk.by hb HKK.out.2.2).cell
                  have lC := (Blk.by hb HKK.out.2.2).lt
                  clear hs hsp
                  go_wp2_with fail
                  refine (HST.out Z _ _ _ (HN11.out.by hb) (HD11.out.by hb)).mono ?_
                  rintro e w12 ⟨rfl, hb12⟩
                  rw [HSTB.out]
                  have qU := (Blk.by hb12 (Blk.by hb HKK.out.2.1)).cell
                  have lU := (Blk.by hb12 (Blk.by hb HKK.out.2.1)).lt
                  have hbw := below_on hb12 (below_on hb hb11w)
                  clear hb12 qT lT qC lC hb hbs hlt hb11w
                  go_wp2
                  go_ret
                  exact ⟨rfl, hbw⟩
end Go.Proofs.YtpaiiaajbojmnaaGreat.fnColorsFiner
