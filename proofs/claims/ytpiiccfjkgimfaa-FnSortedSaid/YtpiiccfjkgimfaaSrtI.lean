/- slices.SortStableFunc's own functions at devices: the insertion sort. -/
import Derived.Test.YtpiiccfjkgimfaaSrtS
import Derived.Shelf.Abstract
import Derived.Deep.RegionHeldLaw
namespace Go.Proofs.Ytpiiccfjkgimfaa
open Go.RowKit
open Go.Sort (swp PermIn SortedIn SWO size_swp swp_get swp_other swp_left swp_right Ins)
set_option linter.unusedVariables false
set_option linter.unusedSimpArgs false

set_option maxRecDepth 100000 in
set_option maxHeartbeats 4000000 in
theorem insSort_any (gf : Nat) (lb : Array Value) (eg : ∀ args w, (callFunc gf args).run Try.prog w = .ok (.enter gf args) w) (hc : DCmp gf lb) (g cap a b : Nat) (d : Array (Dv × Nat)) (w : World) (h : DRow w g d) (hab : a ≤ b) (hbd : b ≤ d.size) (hsz : d.size ≤ 1000) (hcap : d.size ≤ cap) :
    Calls Try.prog 141 #[.slice (some ⟨g, 0, none⟩) d.size cap, .int .i64 a, .int .i64 b, .func (.func gf) #[] lb] w fun e w' =>
      e = .returned (.tuple #[]) ∧ ∃ d', DRow w' g d' ∧ SortedIn dltP a b d' ∧ PermIn a b d d' ∧ Within g (g + 1) w w' := by
  have HR0 := Lib.hid h
  have HC := Lib.hid hc
  have HP0 := Lib.hid (PermIn.refl' a b d)
  have HS0 := Lib.hid (SortedIn.one dltP_swo (a := a) (b := a + 1) d (Nat.le_refl _))
  clear h hc
  go_enter Try.func141, Try.ntmps141
  go_wp2
  go_loopw [8] (fun vi wr => ∃ (i : Nat) (dk : Array (Dv × Nat)), a < i ∧ i ≤ b + 1 ∧ vi = .int .i64 i ∧ Hid (dk.size = d.size) ∧ Hid (DRow wr g dk) ∧ Hid (SortedIn dltP a i dk) ∧ Hid (PermIn a b d dk) ∧ Within g (g + 1) w wr) (fun vi _ => b + 1 - (intOf vi).toNat)
  case atStart => exact ⟨a + 1, d, by omega, by omega, by go_num, Lib.hid rfl, HR0, HS0, HP0, Within.refl _ _ _⟩
  case round =>
    clear HR0 HS0 HP0
    obtain ⟨i, dk, hai, hib, rfl, HS, HR, HT, HP, hW⟩ := hrel
    by_cases hlt : i < b
    · have HI0 := Lib.hid (show Ins dltP a i i dk from ⟨fun p q hp hpq hq _ hqi => HT.out p q hp hpq (by omega), fun q h1 h2 => by omega⟩)
      have i1 : (i : Int) < (b : Int) := by omega
      obtain ⟨wo, rfl⟩ : ∃ wo, wo = wr := ⟨_, rfl⟩
      go_wp2
      go_loopw [9] (fun vj wr => ∃ (j : Nat) (dj : Array (Dv × Nat)), a ≤ j ∧ j ≤ i ∧ vj = .int .i64 j ∧ Hid (dj.size = d.size) ∧ Hid (DRow wr g dj) ∧ Hid (Ins dltP a j i dj) ∧ Hid (PermIn a b d dj) ∧ Within g (g + 1) w wr) (fun vj _ => (intOf vj).toNat)
      case atStart => exact ⟨i, dk, by omega, Nat.le_refl _, rfl, HS, HR, HI0, HP, hW⟩
      case round =>
        clear HS HR HI0 HP hW HT
        obtain ⟨j, dj, haj, hji, rfl, HS, HR, HI, HP, hW⟩ := hrel
        by_cases hja : a < j
        · obtain ⟨jp, rfl⟩ : ∃ jp, j = jp + 1 := ⟨j - 1, by omega⟩
          obtain ⟨cs, hB, hRC⟩ := HR.out
          obtain ⟨⟨pi, hci, hoi⟩, _⟩ := hRC (jp + 1) (by rw [HS.out]; omega)
          obtain ⟨⟨pj, hcj, hoj⟩, _⟩ := hRC jp (by rw [HS.out]; omega)
          have HRS := Lib.hid (RowC.swp hRC (i := jp + 1) (j := jp) (by rw [HS.out]; omega) (by rw [HS.out]; omega) (by omega) hci hoi hcj hoj)
          have HPS := Lib.hid (PermIn.swp HP.out (i := jp + 1) (j := jp) (by omega) (by omega) (by omega) (by omega) hbd)
          have HSS := Lib.hid (show (swp dj (jp + 1) jp).size = d.size by rw [size_swp]; exact HS.out)
          have HIS := Lib.hid (fun hl => Ins.step HI.out hl (by omega) (by rw [HS.out]; omega))
          have HIT := Lib.hid (fun hs => Ins.stop dltP_swo HI.out (.inr hs))
          have HCL := Lib.hid (fun W h1 h2 => HC.out W dj[jp + 1]!.1 dj[jp]!.1 pi pj h1 h2)
          simp only [Nat.add_sub_cancel] at HIT
          obtain ⟨a1, c1, rfl⟩ := hoi.sl.len
          obtain ⟨a2, c2, rfl⟩ := hoj.sl.len
          have HX := Lib.hid hoi.sl
          have HY := Lib.hid hoj.sl
          generalize swp dj (jp + 1) jp = ds at HRS HPS HSS HIS
          have HLT := Lib.hid (show dltP dj[jp + 1]! dj[jp]! = decide (dcf dj[jp + 1]!.1 dj[jp]!.1 < 0) from rfl)
          generalize dj[jp + 1]! = xi at *
          generalize dj[jp]! = xj at *
          obtain ⟨⟨ki, psi, wi, li⟩, fi⟩ := xi
          obtain ⟨⟨kj, psj, wj, lj⟩, fj⟩ := xj
          dsimp only at *
          generalize dltP (⟨ki, psi, wi, li⟩, fi) (⟨kj, psj, wj, lj⟩, fj) = lt at *
          generalize dcf ⟨ki, psi, wi, li⟩ ⟨kj, psj, wj, lj⟩ = r at *
          obtain ⟨ni, hni⟩ : ∃ ni, psi.length = ni := ⟨_, rfl⟩
          obtain ⟨nj, hnj⟩ : ∃ nj, psj.length = nj := ⟨_, rfl⟩
          rw [hni] at hci HRS HCL HX
          rw [hnj] at hcj HRS HCL HY
          obtain ⟨p0, p1, p2, p3⟩ := hci
          obtain ⟨q0, q1, q2, q3⟩ := hcj
          have hBc := hB.cell
          have hBl := hB.lt
          have i0 : (0 : Int) ≤ (jp : Int) + 1 := by omega
          have i2 : (jp : Int) + 1 < (d.size : Int) := by omega
          have i3 : (jp : Int) < (d.size : Int) := by omega
          have i4 : (a : Int) < (jp : Int) + 1 := by omega
          have ei : ((jp : Int) + 1).toNat = jp + 1 := by omega
          have wjp : IntKind.i64.wrap (jp : Int) = (jp : Int) := by rw [IntKind.wrap_i64]; omega
          have HRC := Lib.hid hRC
          clear hni hnj hoi hoj hRC
          by_cases hr : r < 0
          · have HLT2 := Lib.hid (HLT.out.trans (decide_eq_true hr))
            go_wp2_with fail
            go_region_held3 (fun w' => (Blk w' g cs 55 ∧ ∀ o, w'.cell? ⟨g, o, none⟩ = cs[o]?) ∧ Below wr.heap.size wr w') (((try (obtain ⟨⟨hS0, _⟩, hSB⟩ := hHeld)); refine ⟨Blk.both ?_, ?_⟩ <;> first | ((repeat (first | (with_reducible assumption) | (with_reducible refine Blk.drewN ?_ _) | (with_reducible refine Blk.drew ?_) | ((with_reducible refine Blk.new _ ?_); focus (first | omega | (simp; done) | (simp; omega))) | (with_reducible refine Blk.past ?_ _) | ((with_reducible refine Blk.apart ?_ _ _ _ ?_); rotate_left; focus (first | omega | (simp; done) | (simp; omega))) | (with_reducible refine Blk.by (by assumption) ?_))); done) | ((repeat (first | (with_reducible exact Below.refl _ _) | (with_reducible refine below_drewN ?_ _) | (with_reducible refine Below.drew ?_) | (with_reducible refine below_al ?_ _) | (with_reducible refine below_on (by assumption) ?_) | ((with_reducible refine Below.setCell ?_ ?_ _); rotate_left; focus (first | omega | (simp; done) | (simp; omega))) | (with_reducible assumption))); done)))
              (first | (go_at_fn gf; refine (HCL.out _ (HX.out.by (by ((repeat (first | (with_reducible exact Below.refl _ _) | (with_reducible refine below_drewN ?_ _) | (with_reducible refine Below.drew ?_) | (with_reducible refine below_al ?_ _) | (with_reducible refine below_on (by assumption) ?_) | ((with_reducible refine Below.setCell ?_ ?_ _); rotate_left; focus (first | omega | (simp; done) | (simp; omega))) | (with_reducible assumption))); done))) (HY.out.by (by ((repeat (first | (with_reducible exact Below.refl _ _) | (with_reducible refine below_drewN ?_ _) | (with_reducible refine Below.drew ?_) | (with_reducible refine below_al ?_ _) | (with_reducible refine below_on (by assumption) ?_) | ((with_reducible refine Below.setCell ?_ ?_ _); rotate_left; focus (first | omega | (simp; done) | (simp; omega))) | (with_reducible assumption))); done)))).mono ?_; rintro e w1 ⟨rfl, hb1⟩))
            all_goals
              have hb2 : Below wr.heap.size wr w1 := (by ((repeat (first | (with_reducible exact Below.refl _ _) | (with_reducible refine below_drewN ?_ _) | (with_reducible refine Below.drew ?_) | (with_reducible refine below_al ?_ _) | (with_reducible refine below_on (by assumption) ?_) | ((with_reducible refine Below.setCell ?_ ?_ _); rotate_left; focus (first | omega | (simp; done) | (simp; omega))) | (with_reducible assumption))); done))
              have kB := Blk.by hb2 hB
              have hBc1 := kB.cell
              have hBf1 := kB.free
              have hBl1 := kB.lt
              clear hBc hBl
              go_wp2_with fail
              go_region
              all_goals go_wp2_with fail
              obtain ⟨W8, hW8, hB8, hWW⟩ := swap_cells kB (jp + 1) jp (.int .i64 kj) (.slice a2 nj c2) (.int .i64 wj) (.int .i64 lj) (.int .i64 ki) (.slice a1 ni c1) (.int .i64 wi) (.int .i64 li)
              rw [← hW8]
              have hW9 := (Within.ofBelow (lo := g) (hi := g + 1) hb2).on hWW
              exact ⟨⟨jp, ds, by omega, by omega, by rfl, HSS, Lib.hid ⟨_, hB8, HRS.out.past hW9⟩, Lib.hid (HIS.out HLT2.out), HPS, hW.on hW9⟩, by simp [intOf]⟩
          · have HLT2 := Lib.hid (HLT.out.trans (decide_eq_false hr))
            have HR1 := HR
            go_wp2_with fail
            go_region_held3 (fun w' => (Blk w' g cs 55 ∧ ∀ o, w'.cell? ⟨g, o, none⟩ = cs[o]?) ∧ Below wr.heap.size wr w') (((try (obtain ⟨⟨hS0, _⟩, hSB⟩ := hHeld)); refine ⟨Blk.both ?_, ?_⟩ <;> first | ((repeat (first | (with_reducible assumption) | (with_reducible refine Blk.drewN ?_ _) | (with_reducible refine Blk.drew ?_) | ((with_reducible refine Blk.new _ ?_); focus (first | omega | (simp; done) | (simp; omega))) | (with_reducible refine Blk.past ?_ _) | ((with_reducible refine Blk.apart ?_ _ _ _ ?_); rotate_left; focus (first | omega | (simp; done) | (simp; omega))) | (with_reducible refine Blk.by (by assumption) ?_))); done) | ((repeat (first | (with_reducible exact Below.refl _ _) | (with_reducible refine below_drewN ?_ _) | (with_reducible refine Below.drew ?_) | (with_reducible refine below_al ?_ _) | (with_reducible refine below_on (by assumption) ?_) | ((with_reducible refine Below.setCell ?_ ?_ _); rotate_left; focus (first | omega | (simp; done) | (simp; omega))) | (with_reducible assumption))); done)))
              (first | (go_at_fn gf; refine (HCL.out _ (HX.out.by (by ((repeat (first | (with_reducible exact Below.refl _ _) | (with_reducible refine below_drewN ?_ _) | (with_reducible refine Below.drew ?_) | (with_reducible refine below_al ?_ _) | (with_reducible refine below_on (by assumption) ?_) | ((with_reducible refine Below.setCell ?_ ?_ _); rotate_left; focus (first | omega | (simp; done) | (simp; omega))) | (with_reducible assumption))); done))) (HY.out.by (by ((repeat (first | (with_reducible exact Below.refl _ _) | (with_reducible refine below_drewN ?_ _) | (with_reducible refine Below.drew ?_) | (with_reducible refine below_al ?_ _) | (with_reducible refine below_on (by assumption) ?_) | ((with_reducible refine Below.setCell ?_ ?_ _); rotate_left; focus (first | omega | (simp; done) | (simp; omega))) | (with_reducible assumption))); done)))).mono ?_; rintro e w1 ⟨rfl, hb1⟩))
            all_goals
              have hb2 : Below wr.heap.size wr w1 := (by ((repeat (first | (with_reducible exact Below.refl _ _) | (with_reducible refine below_drewN ?_ _) | (with_reducible refine Below.drew ?_) | (with_reducible refine below_al ?_ _) | (with_reducible refine below_on (by assumption) ?_) | ((with_reducible refine Below.setCell ?_ ?_ _); rotate_left; focus (first | omega | (simp; done) | (simp; omega))) | (with_reducible assumption))); done))
              go_wp2_with fail
              exact ⟨⟨i + 1, dj, by omega, by omega, by go_num, HS, Lib.hid (HR.out.by hb2), Lib.hid (HIT.out HLT2.out), HP, hW.on (Within.ofBelow hb2)⟩, by simp [intOf]; omega⟩
        · obtain rfl : j = a := by omega
          have i4 : decide ((j : Int) > (j : Int)) = false := by simp
          have HIT := Lib.hid (Ins.stop dltP_swo HI.out (.inl (Nat.le_refl _)))
          go_wp2_with fail
          go_region
          all_goals
            go_wp2_with fail
            exact ⟨⟨i + 1, dj, by omega, by omega, by go_num, HS, Lib.hid (HR.out.by (below_of_drewN _ 1)), HIT, HP, hW.on (Within.ofBelow (below_of_drewN _ 1))⟩, by simp [intOf]; omega⟩
    · have i1 : ¬ (i : Int) < (b : Int) := by omega
      go_wp2
      go_end0
      exact ⟨by rfl, dk, HR.out, SortedIn.sub HT.out (Nat.le_refl _) (by omega), HP.out, hW⟩
end Go.Proofs.Ytpiiccfjkgimfaa
