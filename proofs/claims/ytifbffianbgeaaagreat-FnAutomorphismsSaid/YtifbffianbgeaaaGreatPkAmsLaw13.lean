/- Contracts and plain laws, part 13, for the statement's proof. -/
import Derived.Test.YtifbffianbgeaaaGreatPkAmsLaw12
import Derived.BigQuiet
import Derived.Deep.DeepCutAuto
import Derived.Deep.CutRange
import Derived.Deep.RegionHeld3
namespace Go.Proofs.YtifbffianbgeaaaGreat.fnAutomorphisms
open Go.RowKit Go.Proofs.YtifbffianbgeaaaGreat
set_option linter.unusedVariables false
set_option linter.unusedSimpArgs false
set_option maxRecDepth 100000 in
set_option maxHeartbeats 16000000 in
theorem walk (v0 : Value) (w : World) (n : Nat) (hB : Bytes w v0 n) :
    Calls Tryz.prog 9 #[v0] w fun e w' => e = .returned (.bool true) ∧ Below w.heap.size w w' := by
  have HB := Lib.hid hB
  have HBG := Lib.hid (fun w h => big_any v0 n w h)
  by_cases hn : 4096 < n
  · rw [decide_eq_true hn] at HBG
    clear hB hn
    go_enter Tryz.func9, Tryz.ntmps9
    go_wp2_with fail
    refine (HBG.out _ HB.out).mono ?_
    rintro e w1 ⟨rfl, rfl⟩
    go_wp2
    go_ret
    exact ⟨rfl, Below.refl _ _⟩
  · rw [decide_eq_false hn] at HBG
    have HDR := Lib.hid (fun w h => drawAp_any v0 n w h (by omega))
    clear hB hn
    go_enter Tryz.func9, Tryz.ntmps9
    go_wp2_with fail
    refine (HBG.out _ HB.out).mono ?_
    rintro e w1 ⟨rfl, rfl⟩
    go_wp2_with fail
    refine (HDR.out _ HB.out).mono ?_
    rintro e w1 ⟨v, u, x, z, rfl, HNV, HS, HMV, ⟨hz1, hz2⟩, hb1⟩
    obtain ⟨a1, c1, a2, c2, rfl⟩ := HNV.out.sized
    obtain ⟨b1, d1, b2, d2, rfl⟩ := HMV.out.sized
    have hok : ∀ p ∈ x.ps, p.ok := HS.out.2.2.2.2
    have hfit : Fits x.nets := HS.out.fits
    have HIA := Lib.hid (fun v u w h hm => implApply_any x z v u w h hm hok hfit (by omega) (by omega))
    have HAX := Lib.hid (fun v w h => implAut_any x v w h hok hfit)
    have HAY := Lib.hid (fun (hp : ∀ p ∈ (apR x z).ps, p.ok) (hf : Fits (apR x z).nets) v w h => implAut_any (apR x z) v w h hp hf)
    have HIF := Lib.hid (fun hx h1 h2 => inv_facts (x := x) (z := z) hx h1 h2 hok)
    obtain ⟨N, hN⟩ : ∃ N, x.nets = N := ⟨_, rfl⟩
    obtain ⟨L, hL⟩ : ∃ L, x.ds.length = L := ⟨_, rfl⟩
    obtain ⟨L2, hL2⟩ : ∃ L, x.ps.length = L := ⟨_, rfl⟩
    obtain ⟨p, hp⟩ : ∃ p, z.1.length = p := ⟨_, rfl⟩
    obtain ⟨q, hq⟩ : ∃ q, z.2.length = q := ⟨_, rfl⟩
    have HEQ := Lib.hid (And.intro hN (And.intro hL (And.intro hL2 (And.intro hp hq))))
    rw [hN, hL, hL2] at HNV ⊢
    rw [hp, hq] at HMV ⊢
    have hpq : p ≤ 300 ∧ q ≤ 300 := by omega
    clear hN hL hL2 hp hq hok hfit hz1 hz2
    have hal : Below w1.heap.size w1 (w1.alloc (.cells #[.int .i64 N, .slice a1 L c1, .slice a2 L2 c2] 35)) := (Below.refl _ w1).alloc (Nat.le_refl _) _
    have kT2 : Blk (w1.alloc (.cells #[.int .i64 N, .slice a1 L c1, .slice a2 L2 c2] 35)) w1.heap.size #[.int .i64 N, .slice a1 L c1, .slice a2 L2 c2] 35 := Blk.new _ rfl
    have HN2 := Lib.hid ((HNV.out).by hal)
    have HM2 := Lib.hid ((HMV.out).by hal)
    have hb2 : Below w.heap.size w (w1.alloc (.cells #[.int .i64 N, .slice a1 L c1, .slice a2 L2 c2] 35)) := below_on hal (hb1)
    clear hal
    have hal : Below (w1.alloc (.cells #[.int .i64 N, .slice a1 L c1, .slice a2 L2 c2] 35)).heap.size (w1.alloc (.cells #[.int .i64 N, .slice a1 L c1, .slice a2 L2 c2] 35)) ((w1.alloc (.cells #[.int .i64 N, .slice a1 L c1, .slice a2 L2 c2] 35)).alloc (.cells #[.slice b1 p d1, .slice b2 q d2] 29)) := (Below.refl _ _).alloc (Nat.le_refl _) _
    have kU3 : Blk ((w1.alloc (.cells #[.int .i64 N, .slice a1 L c1, .slice a2 L2 c2] 35)).alloc (.cells #[.slice b1 p d1, .slice b2 q d2] 29)) (w1.heap.size + 1) #[.slice b1 p d1, .slice b2 q d2] 29 := Blk.new _ (by simp)
    have kT3 := Blk.by hal kT2
    have HN3 := Lib.hid (HN2.out.by hal)
    have HM3 := Lib.hid (HM2.out.by hal)
    have hb3 := below_on hal hb2
    clear hal kT2 HN2 HM2 hb2 HNV HMV hb1
    have qT := kT3.cell
    have lT := kT3.lt
    have qU := kU3.cell
    have lU := kU3.lt
    go_wp2_with fail
    generalize ((w1.alloc (.cells #[.int .i64 N, .slice a1 L c1, .slice a2 L2 c2] 35)).alloc (.cells #[.slice b1 p d1, .slice b2 q d2] 29)) = w3 at *
    generalize w1.heap.size = T at *
    refine (HIA.out _ _ _ HN3.out HM3.out).mono ?_
    rintro e w4 ⟨v4, rfl, hO4, hb4⟩
    obtain ⟨a3, c3, a4, c4, rfl⟩ := hO4.nl.sized
    have HY4 := Lib.hid hO4.nl
    obtain ⟨NY, hNY⟩ : ∃ N, (apR x z).nets = N := ⟨_, rfl⟩
    obtain ⟨L3, hL3⟩ : ∃ L, (apR x z).ds.length = L := ⟨_, rfl⟩
    obtain ⟨L4, hL4⟩ : ∃ L, (apR x z).ps.length = L := ⟨_, rfl⟩
    rw [hNY, hL3, hL4] at HY4 ⊢
    have HEY := Lib.hid (And.intro hNY (And.intro hL3 hL4))
    clear hO4 hNY hL3 hL4
    have hal : Below w4.heap.size w4 (w4.alloc (.cells #[.int .i64 NY, .slice a3 L3 c3, .slice a4 L4 c4] 35)) := (Below.refl _ w4).alloc (Nat.le_refl _) _
    have kX5 : Blk (w4.alloc (.cells #[.int .i64 NY, .slice a3 L3 c3, .slice a4 L4 c4] 35)) w4.heap.size #[.int .i64 NY, .slice a3 L3 c3, .slice a4 L4 c4] 35 := Blk.new _ rfl
    have kT5 := Blk.by hal (Blk.by hb4 kT3)
    have kU5 := Blk.by hal (Blk.by hb4 kU3)
    have HN5 := Lib.hid ((HN3.out.by hb4).by hal)
    have HM5 := Lib.hid ((HM3.out.by hb4).by hal)
    have HY5 := Lib.hid ((HY4.out).by hal)
    have hb5 : Below w.heap.size w (w4.alloc (.cells #[.int .i64 NY, .slice a3 L3 c3, .slice a4 L4 c4] 35)) := below_on hal (below_on hb4 hb3)
    clear qT lT qU lU hb4 kT3 kU3 HN3 HM3 HY4 hb3 hal
    have qT := kT5.cell
    have lT := kT5.lt
    have qU := kU5.cell
    have lU := kU5.lt
    have qX := kX5.cell
    have lX := kX5.lt
    by_cases hc : nlB x = true ∧ permB z.1 x.nets = true ∧ permB z.2 (x.ds.length : Int) = true
    · obtain ⟨f1, _, _, _, _, _, _, _, f9, f10⟩ := HIF.out hc.1 hc.2.1 hc.2.2
      have HAYo := Lib.hid (HAY.out f9 f10)
      have HA0 := aut_ap hc.1 hc.2.1 hc.2.2
      have HA1 := Lib.hid (fun h7 h10 => aut_ge (x := x) hc.1 h7 h10)
      have HA2 := Lib.hid (fun h => aut_no (x := x) h)
      rw [HA0] at HAYo
      rw [f1]
      rw [HEQ.out.1] at HA1 HA2
      rw [HEQ.out.2.1] at HA1 HA2
      generalize apR x z = Y at *
      generalize autR x = A at *
      clear hc f9 f10 HA0 f1 HIA HIF HAY HM5 kU5 qU lU qT lT qX lX HDR HBG HB
      have qT := kT5.cell
      have lT := kT5.lt
      have qX := kX5.cell
      have lX := kX5.lt
      go_upto_region 7 with fail
      generalize w4.alloc (.cells #[.int .i64 NY, .slice a3 L3 c3, .slice a4 L4 c4] 35) = w5 at *
      generalize w4.heap.size = X at *
      clear qT lT qX lX
      go_cut [7, 8] (fun s7 s8 wx => s7 = .int .i64 A ∧ s8 = .int .i64 A ∧ Blk wx T #[.int .i64 N, .slice a1 L c1, .slice a2 L2 c2] 35 ∧ Below w.heap.size w wx)
      case first =>
        have qT := kT5.cell
        have lT := kT5.lt
        have qX := kX5.cell
        have lX := kX5.lt
        go_region_held3 (fun w' => (Blk w' T #[.int .i64 N, .slice a1 L c1, .slice a2 L2 c2] 35 ∧ ∀ o, w'.cell? ⟨T, o, none⟩ = (#[.int .i64 N, .slice a1 L c1, .slice a2 L2 c2] : Array Value)[o]?) ∧ (Blk w' X #[.int .i64 NY, .slice a3 L3 c3, .slice a4 L4 c4] 35 ∧ ∀ o, w'.cell? ⟨X, o, none⟩ = (#[.int .i64 NY, .slice a3 L3 c3, .slice a4 L4 c4] : Array Value)[o]?) ∧ Below w.heap.size w w') (((try (obtain ⟨⟨hS0, _⟩, ⟨hS1, _⟩, hSB⟩ := hHeld)); refine ⟨Blk.both ?_, Blk.both ?_, ?_⟩ <;> first | ((repeat (first | (with_reducible assumption) | (with_reducible refine Blk.drewN ?_ _) | (with_reducible refine Blk.drew ?_) | ((with_reducible refine Blk.new _ ?_); focus (first | omega | (simp; done) | (simp; omega))) | (with_reducible refine Blk.past ?_ _) | ((with_reducible refine Blk.apart ?_ _ _ _ ?_); rotate_left; focus (first | omega | (simp; done) | (simp; omega))) | (with_reducible refine Blk.by (by assumption) ?_))); done) | ((repeat (first | (with_reducible exact Below.refl _ _) | (with_reducible refine below_drewN ?_ _) | (with_reducible refine Below.drew ?_) | (with_reducible refine below_al ?_ _) | (with_reducible refine below_on (by assumption) ?_) | ((with_reducible refine Below.setCell ?_ ?_ _); rotate_left; focus (first | omega | (simp; done) | (simp; omega))) | (with_reducible assumption))); done)))
          (first | (go_at_call_of 23 (Value.agg #[Value.int IntKind.i64 N, Value.slice a1 L c1, Value.slice a2 L2 c2]); refine (HAX.out _ _ (HN5.out.by blwT)).mono ?_; rintro e t10 ⟨rfl, hb10⟩; have hz10 := hb10.size; (try simp only [World.size_alloc, size_drewN, World.size_drew] at hz10)) | (go_at_call_of 23 (Value.agg #[Value.int IntKind.i64 NY, Value.slice a3 L3 c3, Value.slice a4 L4 c4]); refine (HAYo.out _ _ (HY5.out.by blwT)).mono ?_; rintro e t11 ⟨rfl, hb11⟩; have hz11 := hb11.size; (try simp only [World.size_alloc, size_drewN, World.size_drew] at hz11)))
        all_goals (go_wp2_with fail; go_meet)
        all_goals
          refine ⟨rfl, rfl, ?_, ?_⟩
          · ((repeat (first | (with_reducible assumption) | (with_reducible refine Blk.drewN ?_ _) | (with_reducible refine Blk.drew ?_) | ((with_reducible refine Blk.new _ ?_); focus (first | omega | (simp; done) | (simp; omega))) | (with_reducible refine Blk.past ?_ _) | ((with_reducible refine Blk.apart ?_ _ _ _ ?_); rotate_left; focus (first | omega | (simp; done) | (simp; omega))) | (with_reducible refine Blk.by (by assumption) ?_))); done)
          · ((repeat (first | (with_reducible exact Below.refl _ _) | (with_reducible refine below_drewN ?_ _) | (with_reducible refine Below.drew ?_) | (with_reducible refine below_al ?_ _) | (with_reducible refine below_on (by assumption) ?_) | ((with_reducible refine Below.setCell ?_ ?_ _); rotate_left; focus (first | omega | (simp; done) | (simp; omega))) | (with_reducible assumption))); done)
      case rest =>
        obtain ⟨rfl, rfl, kT6, hb6⟩ := hcut
        have qT := kT6.cell
        have lT := kT6.lt
        by_cases h7 : N ≤ 7
        · have i1 : ¬ (7 : Int) < N := by omega
          have i2 : decide ((7 : Int) < N) = false := decide_eq_false i1
          have i3 : decide (N > 7) = false := decide_eq_false i1
          by_cases h10 : L ≤ 10
          · have j1 : ¬ (10 : Int) < (L : Int) := by omega
            have j2 : decide ((10 : Int) < (L : Int)) = false := decide_eq_false j1
            have j3 : decide (10 < L) = false := decide_eq_false (by omega)
            have h1 := HA1.out h7 h10
            have g1 : decide ((1 : Int) ≤ A) = true := decide_eq_true h1
            have g2 : (A == A) = true := by simp
            go_wp2
            go_ret
            exact ⟨rfl, blwT⟩
          · have j1 : (10 : Int) < (L : Int) := by omega
            have j2 : decide ((10 : Int) < (L : Int)) = true := decide_eq_true j1
            have j3 : decide (10 < L) = true := decide_eq_true (by omega)
            obtain rfl := HA2.out (fun e => h10 e.2)
            go_wp2
            go_ret
            exact ⟨rfl, blwT⟩
        · have i1 : (7 : Int) < N := by omega
          have i2 : decide ((7 : Int) < N) = true := decide_eq_true i1
          obtain rfl := HA2.out (fun e => h7 e.1)
          go_wp2
          go_ret
          exact ⟨rfl, blwT⟩
    · obtain ⟨e1, e2⟩ := inv_bad hc
      generalize apC x z = C at *
      have e3 : (C != 0) = true := by simpa using e1
      have e4 : (C == 0) = false := by simpa using e1
      clear hc e2
      go_wp2
      go_ret
      exact ⟨rfl, hb5⟩
end Go.Proofs.YtifbffianbgeaaaGreat.fnAutomorphisms
