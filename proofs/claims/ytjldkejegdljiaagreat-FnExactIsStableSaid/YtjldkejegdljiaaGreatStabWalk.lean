/- The walk of FnExactIsStable. -/
import Derived.Test.YtjldkejegdljiaaGreatStab
import Derived.Test.YtjldkejegdljiaaGreatNls
namespace Go.Proofs.YtjldkejegdljiaaGreat.fnExactIsStable
open Go.RowKit Go.Proofs.YtjldkejegdljiaaGreat
set_option linter.unusedVariables false

set_option maxRecDepth 100000 in
set_option maxHeartbeats 8000000 in
theorem walk (v0 : Value) (v1 : Value) (w : World) (x : Nl) (w0 : IsNlV w v0 x) (c : (List Int × List Int)) (w1 : IsCoV w v1 c) :
    Calls Tryz.prog 4 #[v0, v1] w fun e w' => e = .returned (.bool true) ∧ Below w.heap.size w w' := by
  obtain ⟨hV0, h0f, h0d, h0p⟩ := w0
  obtain ⟨hV1, h1z, h1y⟩ := w1
  have HSZ0 := fun w h => szNl_any v0 x 1048576 w h h0p (by omega) (by omega)
  by_cases hbig : (1048576 : Int) < nlSize x.ds x.ps
  · simp only [if_pos hbig] at HSZ0
    have HZ0 := Lib.hid HSZ0
    clear HSZ0 hbig
    have HV0 := Lib.hid hV0
    have HV1 := Lib.hid hV1
    obtain ⟨a0, c0, a0d, c0d, rfl⟩ := hV0.sized
    obtain ⟨a1, c1, a1d, c1d, rfl⟩ := hV1.sized
    clear hV0 hV1
    go_enter Tryz.func4, Tryz.ntmps4
    go_wp2_with fail
    refine (HZ0.out _ (HV0.out.by (by ((repeat (first | (with_reducible exact Below.refl _ _) | (with_reducible refine below_drewN ?_ _) | (with_reducible refine Below.drew ?_) | (with_reducible refine below_al ?_ _) | (with_reducible refine below_on (by assumption) ?_) | ((with_reducible refine Below.setCell ?_ ?_ _); rotate_left; focus (first | omega | (simp; done) | (simp; omega))) | (with_reducible assumption))); done)))).mono ?_
    rintro e s0 ⟨rfl, hb⟩
    go_wp2
    go_ret
    exact ⟨rfl, (by ((repeat (first | (with_reducible exact Below.refl _ _) | (with_reducible refine below_drewN ?_ _) | (with_reducible refine Below.drew ?_) | (with_reducible refine below_al ?_ _) | (with_reducible refine below_on (by assumption) ?_) | ((with_reducible refine Below.setCell ?_ ?_ _); rotate_left; focus (first | omega | (simp; done) | (simp; omega))) | (with_reducible assumption))); done))⟩
  simp only [if_neg hbig] at HSZ0
  obtain ⟨n0a, n0b, n0c⟩ := nlSize_bounds hbig
  have hsn0 : 0 ≤ nlSize x.ds x.ps := by exact nlSize_nonneg _
  obtain ⟨l0, hl0⟩ : ∃ l : Int, (1048576 : Int) - nlSize x.ds x.ps = l := ⟨_, rfl⟩
  have hl0a : 0 ≤ l0 := by omega
  have hl0b : l0 ≤ 1048576 := by omega
  rw [hl0] at HSZ0
  have HZ0 := Lib.hid HSZ0
  clear HSZ0 hbig hl0 hsn0
  have HSZ1 := fun w h => szColoring_any v1 c l0 w h (by omega) (by omega)
  by_cases hbig : l0 < ((c.1.length : Int) + c.2.length)
  · simp only [if_pos hbig] at HSZ1
    have HZ1 := Lib.hid HSZ1
    clear HSZ1 hbig
    have HV0 := Lib.hid hV0
    have HV1 := Lib.hid hV1
    obtain ⟨a0, c0, a0d, c0d, rfl⟩ := hV0.sized
    obtain ⟨a1, c1, a1d, c1d, rfl⟩ := hV1.sized
    clear hV0 hV1
    go_enter Tryz.func4, Tryz.ntmps4
    go_wp2_with fail
    refine (HZ0.out _ (HV0.out.by (by ((repeat (first | (with_reducible exact Below.refl _ _) | (with_reducible refine below_drewN ?_ _) | (with_reducible refine Below.drew ?_) | (with_reducible refine below_al ?_ _) | (with_reducible refine below_on (by assumption) ?_) | ((with_reducible refine Below.setCell ?_ ?_ _); rotate_left; focus (first | omega | (simp; done) | (simp; omega))) | (with_reducible assumption))); done)))).mono ?_
    rintro e s0 ⟨rfl, hb⟩
    have kA0 : Blk s0 (w.heap.size) #[.int .i64 x.nets, .slice a0 x.ds.length c0, .slice a0d x.ps.length c0d] 25 := (by ((repeat (first | (with_reducible assumption) | (with_reducible refine Blk.drewN ?_ _) | (with_reducible refine Blk.drew ?_) | ((with_reducible refine Blk.new _ ?_); focus (first | omega | (simp; done) | (simp; omega))) | (with_reducible refine Blk.past ?_ _) | ((with_reducible refine Blk.apart ?_ _ _ _ ?_); rotate_left; focus (first | omega | (simp; done) | (simp; omega))) | (with_reducible refine Blk.by (by assumption) ?_))); done))
    have kA1 : Blk s0 (w.heap.size + 1) #[.slice a1 c.1.length c1, .slice a1d c.2.length c1d] 28 := (by ((repeat (first | (with_reducible assumption) | (with_reducible refine Blk.drewN ?_ _) | (with_reducible refine Blk.drew ?_) | ((with_reducible refine Blk.new _ ?_); focus (first | omega | (simp; done) | (simp; omega))) | (with_reducible refine Blk.past ?_ _) | ((with_reducible refine Blk.apart ?_ _ _ _ ?_); rotate_left; focus (first | omega | (simp; done) | (simp; omega))) | (with_reducible refine Blk.by (by assumption) ?_))); done))
    have hW : Below w.heap.size w s0 := (by ((repeat (first | (with_reducible exact Below.refl _ _) | (with_reducible refine below_drewN ?_ _) | (with_reducible refine Below.drew ?_) | (with_reducible refine below_al ?_ _) | (with_reducible refine below_on (by assumption) ?_) | ((with_reducible refine Below.setCell ?_ ?_ _); rotate_left; focus (first | omega | (simp; done) | (simp; omega))) | (with_reducible assumption))); done))
    clear hb 
    have cA0 := kA0.cell
    have cA1 := kA1.cell
    go_wp2_with fail
    refine (HZ1.out _ (HV1.out.by hW)).mono ?_
    rintro e s1 ⟨rfl, hb⟩
    go_wp2
    go_ret
    exact ⟨rfl, (by ((repeat (first | (with_reducible exact Below.refl _ _) | (with_reducible refine below_drewN ?_ _) | (with_reducible refine Below.drew ?_) | (with_reducible refine below_al ?_ _) | (with_reducible refine below_on (by assumption) ?_) | ((with_reducible refine Below.setCell ?_ ?_ _); rotate_left; focus (first | omega | (simp; done) | (simp; omega))) | (with_reducible assumption))); done))⟩
  simp only [if_neg hbig] at HSZ1
  have n1a : c.1.length ≤ 1048576 := by omega
  have n1b : c.2.length ≤ 1048576 := by omega
  have hsn1 : 0 ≤ ((c.1.length : Int) + c.2.length) := by omega
  obtain ⟨l1, hl1⟩ : ∃ l : Int, (l0 : Int) - ((c.1.length : Int) + c.2.length) = l := ⟨_, rfl⟩
  have hl1a : 0 ≤ l1 := by omega
  have hl1b : l1 ≤ 1048576 := by omega
  rw [hl1] at HSZ1
  have HZ1 := Lib.hid HSZ1
  clear HSZ1 hbig hl1 hsn1
  have HTO0 := Lib.hid (fun v w h => toNetlist_nl v x w h n0a n0b n0c)
  have HEQ0 := Lib.hid (fun v1 v2 w h1 h2 => eqNetlist_refl v1 v2 x w h1 h2)
  have HTO1 := Lib.hid (fun v w h => toColoring_any v c w h n1a n1b)
  have HEQ1 := Lib.hid (fun v1 v2 w h1 h2 => eqColoring_refl v1 v2 c w h1 h2)
  have HSP := Lib.hid (fun u0 u1 w h0 h1 => specStab_any x c u0 u1 w h0 h1 h0p h0f)
  have HIM := Lib.hid (fun u0 u1 w h0 h1 => implStab_any x c u0 u1 w h0 h1 h0p h0f)
  generalize stB x c = r0 at *
  have HV0 := Lib.hid hV0
  have HV1 := Lib.hid hV1
  obtain ⟨a0, c0, a0d, c0d, rfl⟩ := hV0.sized
  obtain ⟨a1, c1, a1d, c1d, rfl⟩ := hV1.sized
  clear hV0 hV1 n0a n0b n0c h0f h0d h0p n1a n1b h1z h1y
  go_enter Tryz.func4, Tryz.ntmps4
  go_wp2_with fail
  refine (HZ0.out _ (HV0.out.by (by ((repeat (first | (with_reducible exact Below.refl _ _) | (with_reducible refine below_drewN ?_ _) | (with_reducible refine Below.drew ?_) | (with_reducible refine below_al ?_ _) | (with_reducible refine below_on (by assumption) ?_) | ((with_reducible refine Below.setCell ?_ ?_ _); rotate_left; focus (first | omega | (simp; done) | (simp; omega))) | (with_reducible assumption))); done)))).mono ?_
  rintro e s0 ⟨rfl, hb⟩
  have kA0 : Blk s0 (w.heap.size) #[.int .i64 x.nets, .slice a0 x.ds.length c0, .slice a0d x.ps.length c0d] 25 := (by ((repeat (first | (with_reducible assumption) | (with_reducible refine Blk.drewN ?_ _) | (with_reducible refine Blk.drew ?_) | ((with_reducible refine Blk.new _ ?_); focus (first | omega | (simp; done) | (simp; omega))) | (with_reducible refine Blk.past ?_ _) | ((with_reducible refine Blk.apart ?_ _ _ _ ?_); rotate_left; focus (first | omega | (simp; done) | (simp; omega))) | (with_reducible refine Blk.by (by assumption) ?_))); done))
  have kA1 : Blk s0 (w.heap.size + 1) #[.slice a1 c.1.length c1, .slice a1d c.2.length c1d] 28 := (by ((repeat (first | (with_reducible assumption) | (with_reducible refine Blk.drewN ?_ _) | (with_reducible refine Blk.drew ?_) | ((with_reducible refine Blk.new _ ?_); focus (first | omega | (simp; done) | (simp; omega))) | (with_reducible refine Blk.past ?_ _) | ((with_reducible refine Blk.apart ?_ _ _ _ ?_); rotate_left; focus (first | omega | (simp; done) | (simp; omega))) | (with_reducible refine Blk.by (by assumption) ?_))); done))
  have hW : Below w.heap.size w s0 := (by ((repeat (first | (with_reducible exact Below.refl _ _) | (with_reducible refine below_drewN ?_ _) | (with_reducible refine Below.drew ?_) | (with_reducible refine below_al ?_ _) | (with_reducible refine below_on (by assumption) ?_) | ((with_reducible refine Below.setCell ?_ ?_ _); rotate_left; focus (first | omega | (simp; done) | (simp; omega))) | (with_reducible assumption))); done))
  clear hb 
  have cA0 := kA0.cell
  have cA1 := kA1.cell
  go_wp2_with fail
  refine (HZ1.out _ (HV1.out.by hW)).mono ?_
  rintro e s1 ⟨rfl, hb⟩
  replace kA0 := Blk.by hb kA0
  replace kA1 := Blk.by hb kA1
  replace hW := below_on hb hW
  clear hb cA0 cA1
  have cA0 := kA0.cell
  have cA1 := kA1.cell
  go_wp2_with fail
  go_region_held3 (fun w' => (Blk w' (w.heap.size) #[.int .i64 x.nets, .slice a0 x.ds.length c0, .slice a0d x.ps.length c0d] 25 ∧ ∀ o, w'.cell? ⟨w.heap.size, o, none⟩ = (#[.int .i64 x.nets, .slice a0 x.ds.length c0, .slice a0d x.ps.length c0d] : Array Value)[o]?) ∧ (Blk w' (w.heap.size + 1) #[.slice a1 c.1.length c1, .slice a1d c.2.length c1d] 28 ∧ ∀ o, w'.cell? ⟨w.heap.size + 1, o, none⟩ = (#[.slice a1 c.1.length c1, .slice a1d c.2.length c1d] : Array Value)[o]?) ∧ Below w.heap.size w w') (((try (obtain ⟨⟨hS0, _⟩, ⟨hS1, _⟩, hSB⟩ := hHeld)); refine ⟨Blk.both ?_, Blk.both ?_, ?_⟩ <;> first | ((repeat (first | (with_reducible assumption) | (with_reducible refine Blk.drewN ?_ _) | (with_reducible refine Blk.drew ?_) | ((with_reducible refine Blk.new _ ?_); focus (first | omega | (simp; done) | (simp; omega))) | (with_reducible refine Blk.past ?_ _) | ((with_reducible refine Blk.apart ?_ _ _ _ ?_); rotate_left; focus (first | omega | (simp; done) | (simp; omega))) | (with_reducible refine Blk.by (by assumption) ?_))); done) | ((repeat (first | (with_reducible exact Below.refl _ _) | (with_reducible refine below_drewN ?_ _) | (with_reducible refine Below.drew ?_) | (with_reducible refine below_al ?_ _) | (with_reducible refine below_on (by assumption) ?_) | ((with_reducible refine Below.setCell ?_ ?_ _); rotate_left; focus (first | omega | (simp; done) | (simp; omega))) | (with_reducible assumption))); done)))
    (first | (go_at_call 8; refine (HTO0.out _ _ ((HV0.out.by hW).by (below_of_drewN s1 1))).mono ?_; rintro e t10 ⟨v10_, rfl, hN, hb10⟩; have HN10 := Lib.hid hN; obtain ⟨a10, c10, a10d, c10d, rfl⟩ := hN.sized; clear hN) | (go_at_call 9; refine (HTO1.out _ _ (((HV1.out.by hW).by (below_of_drewN s1 1)).by hb10)).mono ?_; rintro e t11 ⟨v11_, rfl, hN, hb11⟩; have HN11 := Lib.hid hN; obtain ⟨a11, c11, a11d, c11d, rfl⟩ := hN.sized; clear hN) | (go_at_call 16; refine (HSP.out _ _ _ (HN10.out.by hb11) HN11.out).mono ?_; rintro e t20 ⟨rfl, hb20⟩))
  replace kA0 := (Blk.by hb20 (Blk.by hb11 (Blk.by hb10 (kA0.drewN 1))))
  replace kA1 := (Blk.by hb20 (Blk.by hb11 (Blk.by hb10 (kA1.drewN 1))))
  replace hW := (below_on hb20 (below_on hb11 (below_on hb10 (below_drewN hW 1))))
  clear hb10 hb11 hb20 cA0 cA1
  have cA0 := kA0.cell
  have cA1 := kA1.cell
  clear HN10 HN11
  go_wp2_with fail
  refine (HTO0.out _ _ (HV0.out.by hW)).mono ?_
  rintro e t30 ⟨v, rfl, hN, hb⟩
  replace kA0 := Blk.by hb kA0
  replace kA1 := Blk.by hb kA1
  replace hW := below_on hb hW
  clear hb cA0 cA1
  have cA0 := kA0.cell
  have cA1 := kA1.cell
  have HN30 := Lib.hid hN
  obtain ⟨a30, c30, a30d, c30d, rfl⟩ := hN.sized
  clear hN
  have kX0 : Blk (t30.alloc (.cells #[.int .i64 x.nets, .slice a30 x.ds.length c30, .slice a30d x.ps.length c30d] 37)) t30.heap.size #[.int .i64 x.nets, .slice a30 x.ds.length c30, .slice a30d x.ps.length c30d] 37 := Blk.new _ rfl
  replace kA0 := kA0.past (.cells #[.int .i64 x.nets, .slice a30 x.ds.length c30, .slice a30d x.ps.length c30d] 37)
  replace kA1 := kA1.past (.cells #[.int .i64 x.nets, .slice a30 x.ds.length c30, .slice a30d x.ps.length c30d] 37)
  replace hW := below_al hW (.cells #[.int .i64 x.nets, .slice a30 x.ds.length c30, .slice a30d x.ps.length c30d] 37)
  replace HN30 := Lib.hid (HN30.out.by ((Below.refl _ t30).alloc (Nat.le_refl _) (.cells #[.int .i64 x.nets, .slice a30 x.ds.length c30, .slice a30d x.ps.length c30d] 37)))
  clear cA0 cA1
  have cA0 := kA0.cell
  have lA0 := kA0.lt
  have cA1 := kA1.cell
  have lA1 := kA1.lt
  have cX0 := kX0.cell
  have lX0 := kX0.lt
  go_wp2_with fail
  refine (HTO1.out _ _ (HV1.out.by hW)).mono ?_
  rintro e t31 ⟨v, rfl, hN, hb⟩
  replace kA0 := Blk.by hb kA0
  replace kA1 := Blk.by hb kA1
  replace kX0 := Blk.by hb kX0
  replace hW := below_on hb hW
  replace HN30 := Lib.hid (HN30.out.by hb)
  clear hb cA0 cA1 cX0
  have cA0 := kA0.cell
  have cA1 := kA1.cell
  have cX0 := kX0.cell
  clear lA0 lA1 lX0
  generalize t30.heap.size = p0 at *
  have HN31 := Lib.hid hN
  obtain ⟨a31, c31, a31d, c31d, rfl⟩ := hN.sized
  clear hN
  have lA0 := kA0.lt
  have lA1 := kA1.lt
  have lX0 := kX0.lt
  have kX1 : Blk (t31.alloc (.cells #[.slice a31 c.1.length c31, .slice a31d c.2.length c31d] 31)) t31.heap.size #[.slice a31 c.1.length c31, .slice a31d c.2.length c31d] 31 := Blk.new _ rfl
  replace kA0 := kA0.past (.cells #[.slice a31 c.1.length c31, .slice a31d c.2.length c31d] 31)
  replace kA1 := kA1.past (.cells #[.slice a31 c.1.length c31, .slice a31d c.2.length c31d] 31)
  replace kX0 := kX0.past (.cells #[.slice a31 c.1.length c31, .slice a31d c.2.length c31d] 31)
  replace hW := below_al hW (.cells #[.slice a31 c.1.length c31, .slice a31d c.2.length c31d] 31)
  replace HN30 := Lib.hid (HN30.out.by ((Below.refl _ t31).alloc (Nat.le_refl _) (.cells #[.slice a31 c.1.length c31, .slice a31d c.2.length c31d] 31)))
  replace HN31 := Lib.hid (HN31.out.by ((Below.refl _ t31).alloc (Nat.le_refl _) (.cells #[.slice a31 c.1.length c31, .slice a31d c.2.length c31d] 31)))
  clear cA0 cA1 cX0
  have cA0 := kA0.cell
  have lA0 := kA0.lt
  have cA1 := kA1.cell
  have lA1 := kA1.lt
  have cX0 := kX0.cell
  have lX0 := kX0.lt
  have cX1 := kX1.cell
  have lX1 := kX1.lt
  go_wp2_with fail
  refine (HIM.out _ _ _ HN30.out HN31.out).mono ?_
  rintro e t50 ⟨rfl, hb⟩
  replace kA0 := Blk.by hb kA0
  replace kA1 := Blk.by hb kA1
  replace kX0 := Blk.by hb kX0
  replace kX1 := Blk.by hb kX1
  replace hW := below_on hb hW
  replace HN30 := Lib.hid (HN30.out.by hb)
  replace HN31 := Lib.hid (HN31.out.by hb)
  clear hb cA0 cA1 cX0 cX1
  have cA0 := kA0.cell
  have cA1 := kA1.cell
  have cX0 := kX0.cell
  have cX1 := kX1.cell
  clear lA0 lA1 lX0 lX1
  generalize t31.heap.size = p1 at *
  go_wp2_with fail
  go_region_held3 (fun w' => (Blk w' (w.heap.size) #[.int .i64 x.nets, .slice a0 x.ds.length c0, .slice a0d x.ps.length c0d] 25 ∧ ∀ o, w'.cell? ⟨w.heap.size, o, none⟩ = (#[.int .i64 x.nets, .slice a0 x.ds.length c0, .slice a0d x.ps.length c0d] : Array Value)[o]?) ∧ (Blk w' (w.heap.size + 1) #[.slice a1 c.1.length c1, .slice a1d c.2.length c1d] 28 ∧ ∀ o, w'.cell? ⟨w.heap.size + 1, o, none⟩ = (#[.slice a1 c.1.length c1, .slice a1d c.2.length c1d] : Array Value)[o]?) ∧ (Blk w' (p0) #[.int .i64 x.nets, .slice a30 x.ds.length c30, .slice a30d x.ps.length c30d] 37 ∧ ∀ o, w'.cell? ⟨p0, o, none⟩ = (#[.int .i64 x.nets, .slice a30 x.ds.length c30, .slice a30d x.ps.length c30d] : Array Value)[o]?) ∧ (Blk w' (p1) #[.slice a31 c.1.length c31, .slice a31d c.2.length c31d] 31 ∧ ∀ o, w'.cell? ⟨p1, o, none⟩ = (#[.slice a31 c.1.length c31, .slice a31d c.2.length c31d] : Array Value)[o]?) ∧ Below w.heap.size w w') (((try (obtain ⟨⟨hS0, _⟩, ⟨hS1, _⟩, ⟨hS2, _⟩, ⟨hS3, _⟩, hSB⟩ := hHeld)); refine ⟨Blk.both ?_, Blk.both ?_, Blk.both ?_, Blk.both ?_, ?_⟩ <;> first | ((repeat (first | (with_reducible assumption) | (with_reducible refine Blk.drewN ?_ _) | (with_reducible refine Blk.drew ?_) | ((with_reducible refine Blk.new _ ?_); focus (first | omega | (simp; done) | (simp; omega))) | (with_reducible refine Blk.past ?_ _) | ((with_reducible refine Blk.apart ?_ _ _ _ ?_); rotate_left; focus (first | omega | (simp; done) | (simp; omega))) | (with_reducible refine Blk.by (by assumption) ?_))); done) | ((repeat (first | (with_reducible exact Below.refl _ _) | (with_reducible refine below_drewN ?_ _) | (with_reducible refine Below.drew ?_) | (with_reducible refine below_al ?_ _) | (with_reducible refine below_on (by assumption) ?_) | ((with_reducible refine Below.setCell ?_ ?_ _); rotate_left; focus (first | omega | (simp; done) | (simp; omega))) | (with_reducible assumption))); done)))
    (first | (go_at_call 8; refine (HTO0.out _ _ ((HV0.out.by hW).by (below_of_drewN t50 1))).mono ?_; rintro e t60 ⟨v60_, rfl, hN, hb60⟩; have HN60 := Lib.hid hN; obtain ⟨a60, c60, a60d, c60d, rfl⟩ := hN.sized; clear hN) | (go_at_call 12; refine (HEQ0.out _ _ _ ((HN30.out.by (below_of_drewN t50 1)).by hb60) HN60.out).mono ?_; rintro e t61 ⟨rfl, hb61⟩))
  replace kA0 := (Blk.by hb61 (Blk.by hb60 (kA0.drewN 1)))
  replace kA1 := (Blk.by hb61 (Blk.by hb60 (kA1.drewN 1)))
  replace kX0 := (Blk.by hb61 (Blk.by hb60 (kX0.drewN 1)))
  replace kX1 := (Blk.by hb61 (Blk.by hb60 (kX1.drewN 1)))
  replace hW := (below_on hb61 (below_on hb60 (below_drewN hW 1)))
  replace HN30 := Lib.hid (((HN30.out.by (below_of_drewN t50 1)).by hb60).by hb61)
  replace HN31 := Lib.hid (((HN31.out.by (below_of_drewN t50 1)).by hb60).by hb61)
  clear hb60 hb61 cA0 cA1 cX0 cX1
  have cA0 := kA0.cell
  have cA1 := kA1.cell
  have cX0 := kX0.cell
  have cX1 := kX1.cell
  go_wp2_with fail
  go_region_held3 (fun w' => (Blk w' (w.heap.size) #[.int .i64 x.nets, .slice a0 x.ds.length c0, .slice a0d x.ps.length c0d] 25 ∧ ∀ o, w'.cell? ⟨w.heap.size, o, none⟩ = (#[.int .i64 x.nets, .slice a0 x.ds.length c0, .slice a0d x.ps.length c0d] : Array Value)[o]?) ∧ (Blk w' (w.heap.size + 1) #[.slice a1 c.1.length c1, .slice a1d c.2.length c1d] 28 ∧ ∀ o, w'.cell? ⟨w.heap.size + 1, o, none⟩ = (#[.slice a1 c.1.length c1, .slice a1d c.2.length c1d] : Array Value)[o]?) ∧ (Blk w' (p0) #[.int .i64 x.nets, .slice a30 x.ds.length c30, .slice a30d x.ps.length c30d] 37 ∧ ∀ o, w'.cell? ⟨p0, o, none⟩ = (#[.int .i64 x.nets, .slice a30 x.ds.length c30, .slice a30d x.ps.length c30d] : Array Value)[o]?) ∧ (Blk w' (p1) #[.slice a31 c.1.length c31, .slice a31d c.2.length c31d] 31 ∧ ∀ o, w'.cell? ⟨p1, o, none⟩ = (#[.slice a31 c.1.length c31, .slice a31d c.2.length c31d] : Array Value)[o]?) ∧ Below w.heap.size w w') (((try (obtain ⟨⟨hS0, _⟩, ⟨hS1, _⟩, ⟨hS2, _⟩, ⟨hS3, _⟩, hSB⟩ := hHeld)); refine ⟨Blk.both ?_, Blk.both ?_, Blk.both ?_, Blk.both ?_, ?_⟩ <;> first | ((repeat (first | (with_reducible assumption) | (with_reducible refine Blk.drewN ?_ _) | (with_reducible refine Blk.drew ?_) | ((with_reducible refine Blk.new _ ?_); focus (first | omega | (simp; done) | (simp; omega))) | (with_reducible refine Blk.past ?_ _) | ((with_reducible refine Blk.apart ?_ _ _ _ ?_); rotate_left; focus (first | omega | (simp; done) | (simp; omega))) | (with_reducible refine Blk.by (by assumption) ?_))); done) | ((repeat (first | (with_reducible exact Below.refl _ _) | (with_reducible refine below_drewN ?_ _) | (with_reducible refine Below.drew ?_) | (with_reducible refine below_al ?_ _) | (with_reducible refine below_on (by assumption) ?_) | ((with_reducible refine Below.setCell ?_ ?_ _); rotate_left; focus (first | omega | (simp; done) | (simp; omega))) | (with_reducible assumption))); done)))
    (first | (go_at_call 9; refine (HTO1.out _ _ ((HV1.out.by hW).by (below_of_drewN t61 1))).mono ?_; rintro e t62 ⟨v62_, rfl, hN, hb62⟩; have HN62 := Lib.hid hN; obtain ⟨a62, c62, a62d, c62d, rfl⟩ := hN.sized; clear hN) | (go_at_call 11; refine (HEQ1.out _ _ _ ((HN31.out.by (below_of_drewN t61 1)).by hb62) HN62.out).mono ?_; rintro e t63 ⟨rfl, hb63⟩))
  go_wp2
  go_ret
  exact ⟨rfl, (by ((repeat (first | (with_reducible exact Below.refl _ _) | (with_reducible refine below_drewN ?_ _) | (with_reducible refine Below.drew ?_) | (with_reducible refine below_al ?_ _) | (with_reducible refine below_on (by assumption) ?_) | ((with_reducible refine Below.setCell ?_ ?_ _); rotate_left; focus (first | omega | (simp; done) | (simp; omega))) | (with_reducible assumption))); done))⟩
end Go.Proofs.YtjldkejegdljiaaGreat.fnExactIsStable
