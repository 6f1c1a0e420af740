/- Contracts and plain laws, part 8, for the statement's proof. -/
import Derived.Test.YtifbffianbgeaaaGreatPkChgLaw7
import Derived.BigRegion
import Derived.Test.YtifbffianbgeaaaGreatRows
import Derived.WalkKit
import Derived.ProofKit
import Derived.OpenShut
namespace Go.Proofs.YtifbffianbgeaaaGreat
open Go.RowKit
set_option linter.unusedVariables false
set_option linter.unusedSimpArgs false
theorem OwnDs.offM {w : World} {lo hi T o : Nat} {cs : Array Value} {sv v : Value} {ds : List Dv} (h : OwnDs w lo hi sv ds) (hT : Blk w T cs 29) : OwnDs (w.setCell ⟨T, o, none⟩ v) lo hi sv ds := by
  rcases h with h | ⟨g, cap, c2, f, h1, h2, h3, h4, h5, h6, h7⟩
  · exact .inl h
  · refine .inr ⟨g, cap, c2, f, h1, h2, h3, h4, h5.apart T o v (fun e => by subst e; exact absurd (h5.differ2 hT) (by decide)), fun i x hx => ?_, h7⟩
    obtain ⟨⟨pv, hC, hR⟩, hf⟩ := h6 i x hx
    exact ⟨⟨pv, hC, hR.offM hT⟩, hf⟩
theorem OwnPs.offM {w : World} {lo hi T o : Nat} {cs : Array Value} {sv v : Value} {ps : List Pt} (h : OwnPs w lo hi sv ps) (hT : Blk w T cs 29) : OwnPs (w.setCell ⟨T, o, none⟩ v) lo hi sv ps := by
  rcases h with h | ⟨g, cap, c2, h1, h2, h3, h4, h5, h6⟩
  · exact .inl h
  · exact .inr ⟨g, cap, c2, h1, h2, h3, h4, h5.apart T o v (fun e => by subst e; exact absurd (h5.differ2 hT) (by decide)), h6⟩
theorem NlO.offM {m T o : Nat} {cs : Array Value} {w : World} {v u : Value} {x : Nl} (h : NlO m w v x) (hT : Blk w T cs 29) : NlO m (w.setCell ⟨T, o, none⟩ u) v x := by
  obtain ⟨s1, s2, e, ⟨l1, h1, r1, o1⟩, l2, h2, r2, o2⟩ := h
  exact ⟨s1, s2, e, ⟨l1, h1, r1, o1.offM hT⟩, l2, h2, r2, o2.offM hT⟩
structure ApE (w : World) (A M m : Nat) (nv s1 s2 u1 u2 : Value) (x : Nl) (z : List Int × List Int) (wx : World) : Prop where
  nl : Blk wx A #[nv, s1, s2] 35
  ma : Blk wx M #[u1, u2] 29
  r2 : Blk wx w.heap.size #[.int .i64 0, .slice none 0 0, .slice none 0 0] 35
  r3 : Blk wx (w.heap.size + 1) #[.slice none 0 0, .slice none 0 0] 29
  ownN : NlO m wx (.agg #[nv, s1, s2]) x
  ownM : MaO m wx (.agg #[u1, u2]) z
  below : Below w.heap.size w wx
  big : w.heap.size + 2 ≤ m
set_option maxRecDepth 100000 in
set_option maxHeartbeats 8000000 in
theorem drawAp_own (v0 : Value) (n : Nat) (w : World) (h : Bytes w v0 n) (hn : n ≤ 4096) :
    Calls Tryz.prog 29 #[v0] w fun e w' => ∃ (v u : Value) (x : Nl) (z : List Int × List Int), e = .returned (.tuple #[v, u]) ∧ Hid (NlO w.heap.size w' v x) ∧ Hid (Small x) ∧ Hid (MaO w.heap.size w' u z) ∧ (z.1.length ≤ 300 ∧ z.2.length ≤ 300) ∧ Below w.heap.size w w' := by
  have HB := Lib.hid h
  obtain ⟨w0, hw0⟩ : ∃ z, z = (w.alloc (.cells #[.int .i64 0, .slice none 0 0, .slice none 0 0] 35)).alloc (.cells #[.slice none 0 0, .slice none 0 0] 29) := ⟨_, rfl⟩
  have kR0 : Blk w0 w.heap.size #[.int .i64 0, .slice none 0 0, .slice none 0 0] 35 := by rw [hw0]; exact (Blk.new _ rfl).past _
  have kS0 : Blk w0 (w.heap.size + 1) #[.slice none 0 0, .slice none 0 0] 29 := by rw [hw0]; exact Blk.new _ (by simp)
  have hb0 : Below w.heap.size w w0 := by rw [hw0]; exact ((Below.refl _ w).alloc (Nat.le_refl _) _).alloc (by simp) _
  have hs0 : w0.heap.size = w.heap.size + 2 := by rw [hw0]; simp
  have hf := l01From_any v0 n w0 (HB.out.by hb0) hn
  obtain ⟨G, hG⟩ : ∃ G, w0.heap.size = G := ⟨_, rfl⟩
  rw [hG] at hf hs0
  have HF := Lib.hid hf
  have HN := Lib.hid (fun m w h hm => l01Next_any w0 G v0 n m w h hm)
  have HDN := Lib.hid (fun w h => l27DrawNetlist_any w0 G v0 n w h)
  have HDM := Lib.hid (fun nets a1 a2 L L2 c1 c2 h0 h1 hL w h => l30DrawMatching_any w0 G v0 n nets a1 a2 L L2 c1 c2 h0 h1 hL w h)
  have HDO := Lib.hid (fun w h => l30DrawOrders_any w0 G v0 n 3 2 (by omega) (by omega) w h)
  have hGw : w.heap.size + 1 < G := by omega
  have HG := Lib.hid hG
  clear h hf hs0 hG
  go_enter Tryz.func29, Tryz.ntmps29
  go_wp2_with fail
  (try rw [← hw0])
  clear hw0
  refine HF.out.mono ?_
  rintro e w1 ⟨rfl, hD1, hb1⟩
  have kR1 : Blk w1 w.heap.size _ 35 := Blk.by (by rw [HG.out]; exact hb1) kR0
  have kS1 : Blk w1 (w.heap.size + 1) _ 29 := Blk.by (by rw [HG.out]; exact hb1) kS0
  have HD1 := Lib.hid hD1
  have hG1 := hD1.lt
  clear hD1 hb1 kR0 kS0
  go_wp2_with fail
  refine (HDN.out _ HD1.out).mono ?_
  rintro e w2 ⟨v, x, rfl, HO, HS, HD2, HW2⟩
  obtain ⟨s1, s2, rfl, r1, r2⟩ := HO.out
  obtain ⟨a1, c1, rfl⟩ : ∃ a c, s1 = .slice a x.ds.length c := by obtain ⟨_, _, _, o⟩ := r1; exact o.sl.sized
  obtain ⟨a2, c2, rfl⟩ : ∃ a c, s2 = .slice a x.ps.length c := by obtain ⟨_, _, _, o⟩ := r2; exact o.sl.sized
  have kR2 := HW2.out.blk kR1 (by omega)
  have kS2 := HW2.out.blk kS1 (by omega)
  have hb2 : Below w.heap.size w w2 := below_on HD2.out.2.1 hb0
  have hsz2 := HW2.out.size
  have HO2 := Lib.hid (HO.out.low (show G + 1 ≤ w1.heap.size by omega))
  obtain ⟨N, hN⟩ : ∃ N, x.nets = N := ⟨_, rfl⟩
  obtain ⟨L, hL⟩ : ∃ L, x.ds.length = L := ⟨_, rfl⟩
  obtain ⟨L2, hL2⟩ : ∃ L, x.ps.length = L := ⟨_, rfl⟩
  have hNb : -1 ≤ N ∧ N ≤ 25 ∧ L ≤ 100 := by have := HS.out; unfold Small at this; omega
  rw [hN, hL, hL2] at HO2 ⊢
  have HNn := Lib.hid hN
  clear HO HW2 kR1 kS1 r1 r2 hb0 HD1 hN hL hL2
  have hal : Below w2.heap.size w2 (w2.alloc (.cells #[.int .i64 N, .slice a1 L c1, .slice a2 L2 c2] 35)) := (Below.refl _ w2).alloc (Nat.le_refl _) _
  have kA3 : Blk (w2.alloc (.cells #[.int .i64 N, .slice a1 L c1, .slice a2 L2 c2] 35)) w2.heap.size #[.int .i64 N, .slice a1 L c1, .slice a2 L2 c2] 35 := Blk.new _ rfl
  have kR3 := Blk.by hal kR2
  have kS3 := Blk.by hal kS2
  have HO3 := Lib.hid (HO2.out.by hal)
  have HD3 := Lib.hid (HD2.out.by hal)
  have hb3 := below_on hal hb2
  have hsz3 := hal.size
  have qA := kA3.cell
  have lA := kA3.lt
  clear hal kR2 kS2 HO2 HD2 hb2
  go_wp2_with fail
  generalize w2.alloc (.cells #[.int .i64 N, .slice a1 L c1, .slice a2 L2 c2] 35) = w3 at *
  generalize w2.heap.size = A at *
  refine (HDM.out N a1 a2 L L2 c1 c2 (by omega) (by omega) (by omega) _ HD3.out).mono ?_
  rintro e w4 ⟨u1, u2, z1, z2, rfl, hz1, hz2, hO1, hO2, hD4, hW4⟩
  obtain ⟨b1, d1, rfl⟩ := hO1.sl.len
  obtain ⟨b2, d2, rfl⟩ := hO2.sl.len
  have HM4 : Hid (MaO (G + 1) w4 (.agg #[.slice b1 z1.length d1, .slice b2 z2.length d2]) (z1, z2)) := Lib.hid ⟨_, _, rfl, ⟨_, _, by omega, hO1⟩, _, _, by omega, hO2⟩
  have kA4 := hW4.blk kA3 (by omega)
  have kR4 := hW4.blk kR3 (by omega)
  have kS4 := hW4.blk kS3 (by omega)
  have HO4 := Lib.hid (HO3.out.past hW4 (Nat.le_refl _))
  have HD4 := Lib.hid hD4
  have hb4 : Below w.heap.size w w4 := hW4.below hb3 (by omega)
  have hsz4 := hW4.size
  clear hO1 hO2 hD4 hW4 kA3 kR3 kS3 HO3 HD3 hb3 qA lA
  have hal : Below w4.heap.size w4 (w4.alloc (.cells #[.slice b1 z1.length d1, .slice b2 z2.length d2] 29)) := (Below.refl _ w4).alloc (Nat.le_refl _) _
  have kM5 : Blk (w4.alloc (.cells #[.slice b1 z1.length d1, .slice b2 z2.length d2] 29)) w4.heap.size #[.slice b1 z1.length d1, .slice b2 z2.length d2] 29 := Blk.new _ rfl
  have kA5 := Blk.by hal kA4
  have kR5 := Blk.by hal kR4
  have kS5 := Blk.by hal kS4
  have HO5 := Lib.hid (HO4.out.by hal)
  have HM5 := Lib.hid (HM4.out.by hal)
  have HD5 := Lib.hid (HD4.out.by hal)
  have hb5 := below_on hal hb4
  clear hal kA4 kR4 kS4 HO4 HM4 HD4 hb4
  go_wp2_with fail
  generalize w4.alloc (.cells #[.slice b1 z1.length d1, .slice b2 z2.length d2] 29) = w5 at *
  generalize w4.heap.size = M at *
  refine (HN.out 12 _ HD5.out (by omega)).mono ?_
  rintro e w6 ⟨y, rfl, hy0, hy1, hD6, ho6⟩
  have kM6 := ho6.within.blk kM5 (by omega)
  have kA6 := ho6.within.blk kA5 (by omega)
  have kR6 := ho6.within.blk kR5 (by omega)
  have kS6 := ho6.within.blk kS5 (by omega)
  have HO6 := Lib.hid (HO5.out.past ho6.within (Nat.le_refl _))
  have HM6 := Lib.hid (HM5.out.past ho6.within (Nat.le_refl _))
  have HD6 := Lib.hid hD6
  have hb6 : Below w.heap.size w w6 := ho6.within.below hb5 (by omega)
  have hsz6 := ho6.within.size
  have hM6l := kM6.lt
  clear ho6 kM5 kA5 kR5 kS5 HO5 HM5 HD5 hb5 hD6
  by_cases hy : y = 0
  · subst hy
    go_wp2_with fail
    refine (HDO.out _ HD6.out).mono ?_
    rintro e w7 ⟨u, rfl, z, hV, hv1, hv2, hD7, hW7⟩
    obtain ⟨t1, t2, rfl, i1, i2⟩ := hV
    obtain ⟨_, _, _, j1⟩ := id i1
    obtain ⟨_, _, _, j2⟩ := id i2
    obtain ⟨e1, f1, rfl⟩ := j1.sl.len
    obtain ⟨e2, f2, rfl⟩ := j2.sl.len
    have hM7 : MaO (G + 1) w7 (.agg #[.slice e1 z.1.length f1, .slice e2 z.2.length f2]) z := MaO.low ⟨_, _, rfl, i1, i2⟩ (by omega)
    have kM7 := hW7.blk kM6 (by omega)
    have kA7 := hW7.blk kA6 (by omega)
    have kR7 := hW7.blk kR6 (by omega)
    have kS7 := hW7.blk kS6 (by omega)
    have hO7 := HO6.out.past hW7 (Nat.le_refl _)
    have hb7 : Below w.heap.size w w7 := hW7.below hb6 (by omega)
    have hMA : ¬ M = A := by
      intro e
      subst e
      exact absurd (kM7.differ2 kA7) (by decide)
    have hMw : w.heap.size + 1 < M := by omega
    have HE := Lib.hid (show ApE w A M (G + 1) (.int .i64 N) (.slice a1 L c1) (.slice a2 L2 c2) (.slice e1 z.1.length f1) (.slice e2 z.2.length f2) x z ((w7.setCell ⟨M, 0, none⟩ (.slice e1 z.1.length f1)).setCell ⟨M, 1, none⟩ (.slice e2 z.2.length f2)) from
      ⟨(kA7.apart M 0 _ (fun e => hMA e.symm)).apart M 1 _ (fun e => hMA e.symm), kM7.set2, (kR7.apart M 0 _ (by omega)).apart M 1 _ (by omega), (kS7.apart M 0 _ (by omega)).apart M 1 _ (by omega), (hO7.offM kM7).offM (kM7.set _ _), (hM7.offM kM7).offM (kM7.set _ _), (hb7.setCell (show w.heap.size ≤ M by omega) _).setCell (show w.heap.size ≤ M by omega) _, by omega⟩)
    have qM := kM7.cell
    have fM := kM7.free
    have lM := kM7.lt
    clear hM7 kM7 kA7 kR7 kS7 hO7 hb7 hD7 hW7 j1 j2 i1 i2 kM6 kA6 kR6 kS6 HO6 HM6 HD6 hb6
    go_upto_region 6 with fail
    generalize (w7.setCell ⟨M, 0, none⟩ (.slice e1 z.1.length f1)).setCell ⟨M, 1, none⟩ (.slice e2 z.2.length f2) = wE at *
    clear qM fM lM
    have qA0 : wE.cell? ⟨A, 0, none⟩ = some (.int .i64 N) := HE.out.nl.cell 0
    have qA1 : wE.cell? ⟨A, 1, none⟩ = some (.slice a1 L c1) := HE.out.nl.cell 1
    have qA2 : wE.cell? ⟨A, 2, none⟩ = some (.slice a2 L2 c2) := HE.out.nl.cell 2
    have qM0 : wE.cell? ⟨M, 0, none⟩ = some (.slice e1 z.1.length f1) := HE.out.ma.cell 0
    have qM1 : wE.cell? ⟨M, 1, none⟩ = some (.slice e2 z.2.length f2) := HE.out.ma.cell 1
    have qR := HE.out.r2.cell
    have fR := HE.out.r2.free
    have lR := HE.out.r2.lt
    have qS := HE.out.r3.cell
    have fS := HE.out.r3.free
    have lS := HE.out.r3.lt
    have lA := HE.out.nl.lt
    have lM := HE.out.ma.lt
    go_region
    all_goals
      go_wp2
      refine bodyPost_ret (v := .tuple #[.agg #[.int .i64 N, .slice a1 L c1, .slice a2 L2 c2], .agg #[(.slice e1 z.1.length f1), (.slice e2 z.2.length f2)]]) (by simp [results, Tryz.results29, go_sem, *]) rfl ⟨_, _, x, z, rfl, Lib.hid ?_, HS, Lib.hid ?_, ⟨hv1, hv2⟩, ?_⟩
      · first
        | exact NlO.low (NlO.past (Within.off _) (NlO.past (Within.off _) (NlO.past (Within.off _) (NlO.past (Within.off _) (NlO.past (Within.off _) HE.out.ownN (by omega)) (by omega)) (by omega)) (by omega)) (by omega)) (by omega)
        | exact NlO.low (NlO.by (below_of_drewN _ 1) (NlO.past (Within.off _) (NlO.past (Within.off _) (NlO.past (Within.off _) (NlO.past (Within.off _) (NlO.past (Within.off _) HE.out.ownN (by omega)) (by omega)) (by omega)) (by omega)) (by omega))) (by omega)
      · first
        | exact MaO.low (MaO.past (Within.off _) (MaO.past (Within.off _) (MaO.past (Within.off _) (MaO.past (Within.off _) (MaO.past (Within.off _) HE.out.ownM (by omega)) (by omega)) (by omega)) (by omega)) (by omega)) (by omega)
        | exact MaO.low (MaO.by (below_of_drewN _ 1) (MaO.past (Within.off _) (MaO.past (Within.off _) (MaO.past (Within.off _) (MaO.past (Within.off _) (MaO.past (Within.off _) HE.out.ownM (by omega)) (by omega)) (by omega)) (by omega)) (by omega))) (by omega)
      · have hb := HE.out.below
        ((repeat (first | (with_reducible exact Below.refl _ _) | (with_reducible refine below_drewN ?_ _) | (with_reducible refine Below.drew ?_) | (with_reducible refine below_al ?_ _) | (with_reducible refine below_on (by assumption) ?_) | ((with_reducible refine Below.setCell ?_ ?_ _); rotate_left; focus (first | omega | (simp; done) | (simp; omega))) | (with_reducible assumption))); done)
  · have hy' : (y == 0) = false := by simpa using hy
    have HE := Lib.hid (show ApE w A M (G + 1) (.int .i64 N) (.slice a1 L c1) (.slice a2 L2 c2) (.slice b1 z1.length d1) (.slice b2 z2.length d2) x (z1, z2) w6 from ⟨kA6, kM6, kR6, kS6, HO6.out, HM6.out, hb6, by omega⟩)
    clear kM6 kA6 kR6 kS6 HO6 HM6 HD6 hb6 hy
    go_upto_region 6 with fail
    have qA0 : w6.cell? ⟨A, 0, none⟩ = some (.int .i64 N) := HE.out.nl.cell 0
    have qA1 : w6.cell? ⟨A, 1, none⟩ = some (.slice a1 L c1) := HE.out.nl.cell 1
    have qA2 : w6.cell? ⟨A, 2, none⟩ = some (.slice a2 L2 c2) := HE.out.nl.cell 2
    have qM0 : w6.cell? ⟨M, 0, none⟩ = some (.slice b1 z1.length d1) := HE.out.ma.cell 0
    have qM1 : w6.cell? ⟨M, 1, none⟩ = some (.slice b2 z2.length d2) := HE.out.ma.cell 1
    have qR := HE.out.r2.cell
    have fR := HE.out.r2.free
    have lR := HE.out.r2.lt
    have qS := HE.out.r3.cell
    have fS := HE.out.r3.free
    have lS := HE.out.r3.lt
    have lA := HE.out.nl.lt
    have lM := HE.out.ma.lt
    go_region
    all_goals
      go_wp2
      refine bodyPost_ret (v := .tuple #[.agg #[.int .i64 N, .slice a1 L c1, .slice a2 L2 c2], .agg #[(.slice b1 z1.length d1), (.slice b2 z2.length d2)]]) (by simp [results, Tryz.results29, go_sem, *]) rfl ⟨_, _, x, (z1, z2), rfl, Lib.hid ?_, HS, Lib.hid ?_, ⟨by dsimp only; omega, by dsimp only; omega⟩, ?_⟩
      · first
        | exact NlO.low (NlO.past (Within.off _) (NlO.past (Within.off _) (NlO.past (Within.off _) (NlO.past (Within.off _) (NlO.past (Within.off _) HE.out.ownN (by omega)) (by omega)) (by omega)) (by omega)) (by omega)) (by omega)
        | exact NlO.low (NlO.by (below_of_drewN _ 1) (NlO.past (Within.off _) (NlO.past (Within.off _) (NlO.past (Within.off _) (NlO.past (Within.off _) (NlO.past (Within.off _) HE.out.ownN (by omega)) (by omega)) (by omega)) (by omega)) (by omega))) (by omega)
      · first
        | exact MaO.low (MaO.past (Within.off _) (MaO.past (Within.off _) (MaO.past (Within.off _) (MaO.past (Within.off _) (MaO.past (Within.off _) HE.out.ownM (by omega)) (by omega)) (by omega)) (by omega)) (by omega)) (by omega)
        | exact MaO.low (MaO.by (below_of_drewN _ 1) (MaO.past (Within.off _) (MaO.past (Within.off _) (MaO.past (Within.off _) (MaO.past (Within.off _) (MaO.past (Within.off _) HE.out.ownM (by omega)) (by omega)) (by omega)) (by omega)) (by omega))) (by omega)
      · have hb := HE.out.below
        ((repeat (first | (with_reducible exact Below.refl _ _) | (with_reducible refine below_drewN ?_ _) | (with_reducible refine Below.drew ?_) | (with_reducible refine below_al ?_ _) | (with_reducible refine below_on (by assumption) ?_) | ((with_reducible refine Below.setCell ?_ ?_ _); rotate_left; focus (first | omega | (simp; done) | (simp; omega))) | (with_reducible assumption))); done)
end Go.Proofs.YtifbffianbgeaaaGreat
namespace Go.Proofs.YtifbffianbgeaaaGreat.facts
open Go.RowKit Go.Proofs.YtifbffianbgeaaaGreat
theorem laid : (laidOutB Tryz.pinned.checked.prog) = true := by kernel_rfl
theorem rowed : (mapsRowed Tryz.pinned.checked.prog) = true := by kernel_rfl
theorem stops : (Tryz.pinned.checked.prog.stops == []) = true := by kernel_rfl
theorem knobs : (Tryz.pinned.checked.prog.stopKnobs == []) = true := by kernel_rfl
theorem keys : (Rows.fnExactCompareNetlistsRow.plainKeys == Tryz.pinned.checked.prog.plainKeys) = true := by kernel_rfl
theorem heard : (Tryz.pinned.checked.prog.stopsHeard) = true := by kernel_rfl
theorem enter : (Tryz.pinned.checked.prog.mayEnter) = true := by kernel_rfl
theorem lifts : (Rows.fnExactCompareNetlistsRow.lifted == Tryz.pinned.checked.prog.liftsFinal) = true := by kernel_rfl
theorem make : (Tryz.pinned.checked.prog.make == some Rows.fnExactCompareNetlistsRow.make) = true := by kernel_rfl
theorem own : ownKnob Tryz.prog.godebug = none := by kernel_rfl
theorem laidOut : laidOutB Tryz.prog = true := laid
end Go.Proofs.YtifbffianbgeaaaGreat.facts
