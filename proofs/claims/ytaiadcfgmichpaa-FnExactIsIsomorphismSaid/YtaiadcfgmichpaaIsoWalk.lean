/- The walk of FnExactIsIsomorphism. -/
import Derived.Test.YtaiadcfgmichpaaSpecIso
import Derived.Test.YtaiadcfgmichpaaImplIso
import Derived.Test.YtaiadcfgmichpaaNls
namespace Go.Proofs.Ytaiadcfgmichpaa.fnExactIsIsomorphism
open Go.RowKit Go.Proofs.Ytaiadcfgmichpaa
set_option linter.unusedVariables false

set_option maxRecDepth 100000 in
set_option maxHeartbeats 8000000 in
theorem walk (v0 : Value) (v1 : Value) (v2 : Value) (w : World) (x : Nl) (w0 : IsNlV w v0 x) (y : Nl) (w1 : IsNlV w v1 y) (z : (List Int × List Int)) (w2 : IsMaV w v2 z) :
    Calls Try.prog 7 #[v0, v1, v2] w fun e w' => e = .returned (.bool true) ∧ Below w.heap.size w w' := by
  obtain ⟨hV0, h0f, h0d, h0p⟩ := w0
  obtain ⟨hV1, h1f, h1d, h1p⟩ := w1
  obtain ⟨hV2, h2z, h2y⟩ := w2
  have HSZ0 := fun w h => szNl_any v0 x 1048576 w h h0p (by omega) (by omega)
  by_cases hbig : (1048576 : Int) < nlSize x.ds x.ps
  · simp only [if_pos hbig] at HSZ0
    have HZ0 := Lib.hid HSZ0
    clear HSZ0 hbig
    have HV0 := Lib.hid hV0
    have HV1 := Lib.hid hV1
    have HV2 := Lib.hid hV2
    obtain ⟨a0, c0, a0d, c0d, rfl⟩ := hV0.sized
    obtain ⟨a1, c1, a1d, c1d, rfl⟩ := hV1.sized
    obtain ⟨a2, c2, a2d, c2d, rfl⟩ := hV2.sized
    clear hV0 hV1 hV2
    go_enter Try.func7, Try.ntmps7
    go_wp2_with fail
    refine (HZ0.out _ (HV0.out.by (by ((repeat (first | (with_reducible exact Below.refl _ _) | (with_reducible refine below_drewN ?_ _) | (with_reducible refine Below.drew ?_) | (with_reducible refine below_al ?_ _) | (with_reducible refine below_on (by assumption) ?_) | ((with_reducible refine Below.setCell ?_ ?_ _); rotate_left; focus (first | omega | (simp; done) | (simp; omega))) | (with_reducible assumption))); done)))).mono ?_
    rintro e s0 ⟨rfl, hb⟩
    go_wp2
    go_ret
    exact ⟨rfl, (by ((repeat (first | (with_reducible exact Below.refl _ _) | (with_reducible refine below_drewN ?_ _) | (with_reducible refine Below.drew ?_) | (with_reducible refine below_al ?_ _) | (with_reducible refine below_on (by assumption) ?_) | ((with_reducible refine Below.setCell ?_ ?_ _); rotate_left; focus (first | omega | (simp; done) | (simp; omega))) | (with_reducible assumption))); done))⟩
  simp only [if_neg hbig] at HSZ0
  obtain ⟨n0a, n0b, n0c⟩ := nlSize_bounds hbig
  have hsn0 : 0 ≤ nlSize x.ds x.ps := by exact nlSize_nonneg _
  obtain ⟨l0, hl0⟩ : ∃ l : Int, (1048576 : Int) - nlSize x.ds x.ps = l := ⟨_, rfl⟩
  have hl0a : 0 ≤ l0 := by omega
  have hl0b : l0 ≤ 1048576 := by omega
  rw [hl0] at HSZ0
  have HZ0 := Lib.hid HSZ0
  clear HSZ0 hbig hl0 hsn0
  have HSZ1 := fun w h => szNl_any v1 y l0 w h h1p (by omega) (by omega)
  by_cases hbig : l0 < nlSize y.ds y.ps
  · simp only [if_pos hbig] at HSZ1
    have HZ1 := Lib.hid HSZ1
    clear HSZ1 hbig
    have HV0 := Lib.hid hV0
    have HV1 := Lib.hid hV1
    have HV2 := Lib.hid hV2
    obtain ⟨a0, c0, a0d, c0d, rfl⟩ := hV0.sized
    obtain ⟨a1, c1, a1d, c1d, rfl⟩ := hV1.sized
    obtain ⟨a2, c2, a2d, c2d, rfl⟩ := hV2.sized
    clear hV0 hV1 hV2
    go_enter Try.func7, Try.ntmps7
    go_wp2_with fail
    refine (HZ0.out _ (HV0.out.by (by ((repeat (first | (with_reducible exact Below.refl _ _) | (with_reducible refine below_drewN ?_ _) | (with_reducible refine Below.drew ?_) | (with_reducible refine below_al ?_ _) | (with_reducible refine below_on (by assumption) ?_) | ((with_reducible refine Below.setCell ?_ ?_ _); rotate_left; focus (first | omega | (simp; done) | (simp; omega))) | (with_reducible assumption))); done)))).mono ?_
    rintro e s0 ⟨rfl, hb⟩
    have kA0 : Blk s0 (w.heap.size) #[.int .i64 x.nets, .slice a0 x.ds.length c0, .slice a0d x.ps.length c0d] 25 := (by ((repeat (first | (with_reducible assumption) | (with_reducible refine Blk.drewN ?_ _) | (with_reducible refine Blk.drew ?_) | ((with_reducible refine Blk.new _ ?_); focus (first | omega | (simp; done) | (simp; omega))) | (with_reducible refine Blk.past ?_ _) | ((with_reducible refine Blk.apart ?_ _ _ _ ?_); rotate_left; focus (first | omega | (simp; done) | (simp; omega))) | (with_reducible refine Blk.by (by assumption) ?_))); done))
    have kA1 : Blk s0 (w.heap.size + 1) #[.int .i64 y.nets, .slice a1 y.ds.length c1, .slice a1d y.ps.length c1d] 25 := (by ((repeat (first | (with_reducible assumption) | (with_reducible refine Blk.drewN ?_ _) | (with_reducible refine Blk.drew ?_) | ((with_reducible refine Blk.new _ ?_); focus (first | omega | (simp; done) | (simp; omega))) | (with_reducible refine Blk.past ?_ _) | ((with_reducible refine Blk.apart ?_ _ _ _ ?_); rotate_left; focus (first | omega | (simp; done) | (simp; omega))) | (with_reducible refine Blk.by (by assumption) ?_))); done))
    have kA2 : Blk s0 (w.heap.size + 1 + 1) #[.slice a2 z.1.length c2, .slice a2d z.2.length c2d] 51 := (by ((repeat (first | (with_reducible assumption) | (with_reducible refine Blk.drewN ?_ _) | (with_reducible refine Blk.drew ?_) | ((with_reducible refine Blk.new _ ?_); focus (first | omega | (simp; done) | (simp; omega))) | (with_reducible refine Blk.past ?_ _) | ((with_reducible refine Blk.apart ?_ _ _ _ ?_); rotate_left; focus (first | omega | (simp; done) | (simp; omega))) | (with_reducible refine Blk.by (by assumption) ?_))); done))
    have hW : Below w.heap.size w s0 := (by ((repeat (first | (with_reducible exact Below.refl _ _) | (with_reducible refine below_drewN ?_ _) | (with_reducible refine Below.drew ?_) | (with_reducible refine below_al ?_ _) | (with_reducible refine below_on (by assumption) ?_) | ((with_reducible refine Below.setCell ?_ ?_ _); rotate_left; focus (first | omega | (simp; done) | (simp; omega))) | (with_reducible assumption))); done))
    clear hb 
    have cA0 := kA0.cell
    have cA1 := kA1.cell
    have cA2 := kA2.cell
    go_wp2_with fail
    refine (HZ1.out _ (HV1.out.by hW)).mono ?_
    rintro e s1 ⟨rfl, hb⟩
    go_wp2
    go_ret
    exact ⟨rfl, (by ((repeat (first | (with_reducible exact Below.refl _ _) | (with_reducible refine below_drewN ?_ _) | (with_reducible refine Below.drew ?_) | (with_reducible refine below_al ?_ _) | (with_reducible refine below_on (by assumption) ?_) | ((with_reducible refine Below.setCell ?_ ?_ _); rotate_left; focus (first | omega | (simp; done) | (simp; omega))) | (with_reducible assumption))); done))⟩
  simp only [if_neg hbig] at HSZ1
  obtain ⟨n1a, n1b, n1c⟩ := nlSize_bounds (x := y) (by omega)
  have hsn1 : 0 ≤ nlSize y.ds y.ps := by exact nlSize_nonneg _
  obtain ⟨l1, hl1⟩ : ∃ l : Int, (l0 : Int) - nlSize y.ds y.ps = l := ⟨_, rfl⟩
  have hl1a : 0 ≤ l1 := by omega
  have hl1b : l1 ≤ 1048576 := by omega
  rw [hl1] at HSZ1
  have HZ1 := Lib.hid HSZ1
  clear HSZ1 hbig hl1 hsn1
  have HSZ2 := fun w h => szMatching_any v2 z l1 w h (by omega) (by omega)
  by_cases hbig : l1 < ((z.1.length : Int) + z.2.length)
  · simp only [if_pos hbig] at HSZ2
    have HZ2 := Lib.hid HSZ2
    clear HSZ2 hbig
    have HV0 := Lib.hid hV0
    have HV1 := Lib.hid hV1
    have HV2 := Lib.hid hV2
    obtain ⟨a0, c0, a0d, c0d, rfl⟩ := hV0.sized
    obtain ⟨a1, c1, a1d, c1d, rfl⟩ := hV1.sized
    obtain ⟨a2, c2, a2d, c2d, rfl⟩ := hV2.sized
    clear hV0 hV1 hV2
    go_enter Try.func7, Try.ntmps7
    go_wp2_with fail
    refine (HZ0.out _ (HV0.out.by (by ((repeat (first | (with_reducible exact Below.refl _ _) | (with_reducible refine below_drewN ?_ _) | (with_reducible refine Below.drew ?_) | (with_reducible refine below_al ?_ _) | (with_reducible refine below_on (by assumption) ?_) | ((with_reducible refine Below.setCell ?_ ?_ _); rotate_left; focus (first | omega | (simp; done) | (simp; omega))) | (with_reducible assumption))); done)))).mono ?_
    rintro e s0 ⟨rfl, hb⟩
    have kA0 : Blk s0 (w.heap.size) #[.int .i64 x.nets, .slice a0 x.ds.length c0, .slice a0d x.ps.length c0d] 25 := (by ((repeat (first | (with_reducible assumption) | (with_reducible refine Blk.drewN ?_ _) | (with_reducible refine Blk.drew ?_) | ((with_reducible refine Blk.new _ ?_); focus (first | omega | (simp; done) | (simp; omega))) | (with_reducible refine Blk.past ?_ _) | ((with_reducible refine Blk.apart ?_ _ _ _ ?_); rotate_left; focus (first | omega | (simp; done) | (simp; omega))) | (with_reducible refine Blk.by (by assumption) ?_))); done))
    have kA1 : Blk s0 (w.heap.size + 1) #[.int .i64 y.nets, .slice a1 y.ds.length c1, .slice a1d y.ps.length c1d] 25 := (by ((repeat (first | (with_reducible assumption) | (with_reducible refine Blk.drewN ?_ _) | (with_reducible refine Blk.drew ?_) | ((with_reducible refine Blk.new _ ?_); focus (first | omega | (simp; done) | (simp; omega))) | (with_reducible refine Blk.past ?_ _) | ((with_reducible refine Blk.apart ?_ _ _ _ ?_); rotate_left; focus (first | omega | (simp; done) | (simp; omega))) | (with_reducible refine Blk.by (by assumption) ?_))); done))
    have kA2 : Blk s0 (w.heap.size + 1 + 1) #[.slice a2 z.1.length c2, .slice a2d z.2.length c2d] 51 := (by ((repeat (first | (with_reducible assumption) | (with_reducible refine Blk.drewN ?_ _) | (with_reducible refine Blk.drew ?_) | ((with_reducible refine Blk.new _ ?_); focus (first | omega | (simp; done) | (simp; omega))) | (with_reducible refine Blk.past ?_ _) | ((with_reducible refine Blk.apart ?_ _ _ _ ?_); rotate_left; focus (first | omega | (simp; done) | (simp; omega))) | (with_reducible refine Blk.by (by assumption) ?_))); done))
    have hW : Below w.heap.size w s0 := (by ((repeat (first | (with_reducible exact Below.refl _ _) | (with_reducible refine below_drewN ?_ _) | (with_reducible refine Below.drew ?_) | (with_reducible refine below_al ?_ _) | (with_reducible refine below_on (by assumption) ?_) | ((with_reducible refine Below.setCell ?_ ?_ _); rotate_left; focus (first | omega | (simp; done) | (simp; omega))) | (with_reducible assumption))); done))
    clear hb 
    have cA0 := kA0.cell
    have cA1 := kA1.cell
    have cA2 := kA2.cell
    go_wp2_with fail
    refine (HZ1.out _ (HV1.out.by hW)).mono ?_
    rintro e s1 ⟨rfl, hb⟩
    replace kA0 := Blk.by hb kA0
    replace kA1 := Blk.by hb kA1
    replace kA2 := Blk.by hb kA2
    replace hW := below_on hb hW
    clear hb cA0 cA1 cA2
    have cA0 := kA0.cell
    have cA1 := kA1.cell
    have cA2 := kA2.cell
    go_wp2_with fail
    refine (HZ2.out _ (HV2.out.by hW)).mono ?_
    rintro e s2 ⟨rfl, hb⟩
    go_wp2
    go_ret
    exact ⟨rfl, (by ((repeat (first | (with_reducible exact Below.refl _ _) | (with_reducible refine below_drewN ?_ _) | (with_reducible refine Below.drew ?_) | (with_reducible refine below_al ?_ _) | (with_reducible refine below_on (by assumption) ?_) | ((with_reducible refine Below.setCell ?_ ?_ _); rotate_left; focus (first | omega | (simp; done) | (simp; omega))) | (with_reducible assumption))); done))⟩
  simp only [if_neg hbig] at HSZ2
  have n2a : z.1.length ≤ 1048576 := by omega
  have n2b : z.2.length ≤ 1048576 := by omega
  have hsn2 : 0 ≤ ((z.1.length : Int) + z.2.length) := by omega
  obtain ⟨l2, hl2⟩ : ∃ l : Int, (l1 : Int) - ((z.1.length : Int) + z.2.length) = l := ⟨_, rfl⟩
  have hl2a : 0 ≤ l2 := by omega
  have hl2b : l2 ≤ 1048576 := by omega
  rw [hl2] at HSZ2
  have HZ2 := Lib.hid HSZ2
  clear HSZ2 hbig hl2 hsn2
  have HTO0 := Lib.hid (fun v w h => toNetlist_nl v x w h n0a n0b n0c)
  have HEQ0 := Lib.hid (fun v1 v2 w h1 h2 => eqNetlist_refl v1 v2 x w h1 h2)
  have HTO1 := Lib.hid (fun v w h => toNetlist_nl v y w h n1a n1b n1c)
  have HEQ1 := Lib.hid (fun v1 v2 w h1 h2 => eqNetlist_refl v1 v2 y w h1 h2)
  have HTO2 := Lib.hid (fun v w h => toMatching_any v z w h n2a n2b)
  have HEQ2 := Lib.hid (fun v1 v2 w h1 h2 => eqMatching_refl v1 v2 z w h1 h2)
  have HSP := Lib.hid (fun u0 u1 u2 w h0 h1 h2 => specIso_any x y z u0 u1 u2 w h0 h1 h2 h0p h1p h0f h1f n2a n2b)
  have HIM := Lib.hid (fun u0 u1 u2 w h0 h1 h2 => implIso_any x y z u0 u1 u2 w h0 h1 h2 h0p h1p h0f h1f n2a n2b)
  generalize isoB x y z = r0 at *
  have HV0 := Lib.hid hV0
  have HV1 := Lib.hid hV1
  have HV2 := Lib.hid hV2
  obtain ⟨a0, c0, a0d, c0d, rfl⟩ := hV0.sized
  obtain ⟨a1, c1, a1d, c1d, rfl⟩ := hV1.sized
  obtain ⟨a2, c2, a2d, c2d, rfl⟩ := hV2.sized
  clear hV0 hV1 hV2 n0a n0b n0c h0f h0d h0p n1a n1b n1c h1f h1d h1p n2a n2b h2z h2y
  go_enter Try.func7, Try.ntmps7
  go_wp2_with fail
  refine (HZ0.out _ (HV0.out.by (by ((repeat (first | (with_reducible exact Below.refl _ _) | (with_reducible refine below_drewN ?_ _) | (with_reducible refine Below.drew ?_) | (with_reducible refine below_al ?_ _) | (with_reducible refine below_on (by assumption) ?_) | ((with_reducible refine Below.setCell ?_ ?_ _); rotate_left; focus (first | omega | (simp; done) | (simp; omega))) | (with_reducible assumption))); done)))).mono ?_
  rintro e s0 ⟨rfl, hb⟩
  have kA0 : Blk s0 (w.heap.size) #[.int .i64 x.nets, .slice a0 x.ds.length c0, .slice a0d x.ps.length c0d] 25 := (by ((repeat (first | (with_reducible assumption) | (with_reducible refine Blk.drewN ?_ _) | (with_reducible refine Blk.drew ?_) | ((with_reducible refine Blk.new _ ?_); focus (first | omega | (simp; done) | (simp; omega))) | (with_reducible refine Blk.past ?_ _) | ((with_reducible refine Blk.apart ?_ _ _ _ ?_); rotate_left; focus (first | omega | (simp; done) | (simp; omega))) | (with_reducible refine Blk.by (by assumption) ?_))); done))
  have kA1 : Blk s0 (w.heap.size + 1) #[.int .i64 y.nets, .slice a1 y.ds.length c1, .slice a1d y.ps.length c1d] 25 := (by ((repeat (first | (with_reducible assumption) | (with_reducible refine Blk.drewN ?_ _) | (with_reducible refine Blk.drew ?_) | ((with_reducible refine Blk.new _ ?_); focus (first | omega | (simp; done) | (simp; omega))) | (with_reducible refine Blk.past ?_ _) | ((with_reducible refine Blk.apart ?_ _ _ _ ?_); rotate_left; focus (first | omega | (simp; done) | (simp; omega))) | (with_reducible refine Blk.by (by assumption) ?_))); done))
  have kA2 : Blk s0 (w.heap.size + 1 + 1) #[.slice a2 z.1.length c2, .slice a2d z.2.length c2d] 51 := (by ((repeat (first | (with_reducible assumption) | (with_reducible refine Blk.drewN ?_ _) | (with_reducible refine Blk.drew ?_) | ((with_reducible refine Blk.new _ ?_); focus (first | omega | (simp; done) | (simp; omega))) | (with_reducible refine Blk.past ?_ _) | ((with_reducible refine Blk.apart ?_ _ _ _ ?_); rotate_left; focus (first | omega | (simp; done) | (simp; omega))) | (with_reducible refine Blk.by (by assumption) ?_))); done))
  have hW : Below w.heap.size w s0 := (by ((repeat (first | (with_reducible exact Below.refl _ _) | (with_reducible refine below_drewN ?_ _) | (with_reducible refine Below.drew ?_) | (with_reducible refine below_al ?_ _) | (with_reducible refine below_on (by assumption) ?_) | ((with_reducible refine Below.setCell ?_ ?_ _); rotate_left; focus (first | omega | (simp; done) | (simp; omega))) | (with_reducible assumption))); done))
  clear hb 
  have cA0 := kA0.cell
  have cA1 := kA1.cell
  have cA2 := kA2.cell
  go_wp2_with fail
  refine (HZ1.out _ (HV1.out.by hW)).mono ?_
  rintro e s1 ⟨rfl, hb⟩
  replace kA0 := Blk.by hb kA0
  replace kA1 := Blk.by hb kA1
  replace kA2 := Blk.by hb kA2
  replace hW := below_on hb hW
  clear hb cA0 cA1 cA2
  have cA0 := kA0.cell
  have cA1 := kA1.cell
  have cA2 := kA2.cell
  go_wp2_with fail
  refine (HZ2.out _ (HV2.out.by hW)).mono ?_
  rintro e s2 ⟨rfl, hb⟩
  replace kA0 := Blk.by hb kA0
  replace kA1 := Blk.by hb kA1
  replace kA2 := Blk.by hb kA2
  replace hW := below_on hb hW
  clear hb cA0 cA1 cA2
  have cA0 := kA0.cell
  have cA1 := kA1.cell
  have cA2 := kA2.cell
  go_wp2_with fail
  go_region_held3 (fun w' => (Blk w' (w.heap.size) #[.int .i64 x.nets, .slice a0 x.ds.length c0, .slice a0d x.ps.length c0d] 25 ∧ ∀ o, w'.cell? ⟨w.heap.size, o, none⟩ = (#[.int .i64 x.nets, .slice a0 x.ds.length c0, .slice a0d x.ps.length c0d] : Array Value)[o]?) ∧ (Blk w' (w.heap.size + 1) #[.int .i64 y.nets, .slice a1 y.ds.length c1, .slice a1d y.ps.length c1d] 25 ∧ ∀ o, w'.cell? ⟨w.heap.size + 1, o, none⟩ = (#[.int .i64 y.nets, .slice a1 y.ds.length c1, .slice a1d y.ps.length c1d] : Array Value)[o]?) ∧ (Blk w' (w.heap.size + 1 + 1) #[.slice a2 z.1.length c2, .slice a2d z.2.length c2d] 51 ∧ ∀ o, w'.cell? ⟨w.heap.size + 1 + 1, o, none⟩ = (#[.slice a2 z.1.length c2, .slice a2d z.2.length c2d] : Array Value)[o]?) ∧ Below w.heap.size w w') (((try (obtain ⟨⟨hS0, _⟩, ⟨hS1, _⟩, ⟨hS2, _⟩, hSB⟩ := hHeld)); refine ⟨Blk.both ?_, Blk.both ?_, Blk.both ?_, ?_⟩ <;> first | ((repeat (first | (with_reducible assumption) | (with_reducible refine Blk.drewN ?_ _) | (with_reducible refine Blk.drew ?_) | ((with_reducible refine Blk.new _ ?_); focus (first | omega | (simp; done) | (simp; omega))) | (with_reducible refine Blk.past ?_ _) | ((with_reducible refine Blk.apart ?_ _ _ _ ?_); rotate_left; focus (first | omega | (simp; done) | (simp; omega))) | (with_reducible refine Blk.by (by assumption) ?_))); done) | ((repeat (first | (with_reducible exact Below.refl _ _) | (with_reducible refine below_drewN ?_ _) | (with_reducible refine Below.drew ?_) | (with_reducible refine below_al ?_ _) | (with_reducible refine below_on (by assumption) ?_) | ((with_reducible refine Below.setCell ?_ ?_ _); rotate_left; focus (first | omega | (simp; done) | (simp; omega))) | (with_reducible assumption))); done)))
    (first | (go_at_call_of 14 (Value.slice a0 x.ds.length c0); refine (HTO0.out _ _ ((HV0.out.by hW).by (below_of_drewN s2 1))).mono ?_; rintro e t10 ⟨v10_, rfl, hN, hb10⟩; have HN10 := Lib.hid hN; obtain ⟨a10, c10, a10d, c10d, rfl⟩ := hN.sized; clear hN) | (go_at_call_of 14 (Value.slice a1 y.ds.length c1); refine (HTO1.out _ _ (((HV1.out.by hW).by (below_of_drewN s2 1)).by hb10)).mono ?_; rintro e t11 ⟨v11_, rfl, hN, hb11⟩; have HN11 := Lib.hid hN; obtain ⟨a11, c11, a11d, c11d, rfl⟩ := hN.sized; clear hN) | (go_at_call 31; refine (HTO2.out _ _ ((((HV2.out.by hW).by (below_of_drewN s2 1)).by hb10).by hb11)).mono ?_; rintro e t12 ⟨v12_, rfl, hN, hb12⟩; have HN12 := Lib.hid hN; obtain ⟨a12, c12, a12d, c12d, rfl⟩ := hN.sized; clear hN) | (go_at_call 35; refine (HSP.out _ _ _ _ ((HN10.out.by hb11).by hb12) (HN11.out.by hb12) HN12.out).mono ?_; rintro e t20 ⟨rfl, hb20⟩))
  replace kA0 := (Blk.by hb20 (Blk.by hb12 (Blk.by hb11 (Blk.by hb10 (kA0.drewN 1)))))
  replace kA1 := (Blk.by hb20 (Blk.by hb12 (Blk.by hb11 (Blk.by hb10 (kA1.drewN 1)))))
  replace kA2 := (Blk.by hb20 (Blk.by hb12 (Blk.by hb11 (Blk.by hb10 (kA2.drewN 1)))))
  replace hW := (below_on hb20 (below_on hb12 (below_on hb11 (below_on hb10 (below_drewN hW 1)))))
  clear hb10 hb11 hb12 hb20 cA0 cA1 cA2
  have cA0 := kA0.cell
  have cA1 := kA1.cell
  have cA2 := kA2.cell
  clear HN10 HN11 HN12
  go_wp2_with fail
  refine (HTO0.out _ _ (HV0.out.by hW)).mono ?_
  rintro e t30 ⟨v, rfl, hN, hb⟩
  replace kA0 := Blk.by hb kA0
  replace kA1 := Blk.by hb kA1
  replace kA2 := Blk.by hb kA2
  replace hW := below_on hb hW
  clear hb cA0 cA1 cA2
  have cA0 := kA0.cell
  have cA1 := kA1.cell
  have cA2 := kA2.cell
  have HN30 := Lib.hid hN
  obtain ⟨a30, c30, a30d, c30d, rfl⟩ := hN.sized
  clear hN
  have kX0 : Blk (t30.alloc (.cells #[.int .i64 x.nets, .slice a30 x.ds.length c30, .slice a30d x.ps.length c30d] 35)) t30.heap.size #[.int .i64 x.nets, .slice a30 x.ds.length c30, .slice a30d x.ps.length c30d] 35 := Blk.new _ rfl
  replace kA0 := kA0.past (.cells #[.int .i64 x.nets, .slice a30 x.ds.length c30, .slice a30d x.ps.length c30d] 35)
  replace kA1 := kA1.past (.cells #[.int .i64 x.nets, .slice a30 x.ds.length c30, .slice a30d x.ps.length c30d] 35)
  replace kA2 := kA2.past (.cells #[.int .i64 x.nets, .slice a30 x.ds.length c30, .slice a30d x.ps.length c30d] 35)
  replace hW := below_al hW (.cells #[.int .i64 x.nets, .slice a30 x.ds.length c30, .slice a30d x.ps.length c30d] 35)
  replace HN30 := Lib.hid (HN30.out.by ((Below.refl _ t30).alloc (Nat.le_refl _) (.cells #[.int .i64 x.nets, .slice a30 x.ds.length c30, .slice a30d x.ps.length c30d] 35)))
  clear cA0 cA1 cA2
  have cA0 := kA0.cell
  have lA0 := kA0.lt
  have cA1 := kA1.cell
  have lA1 := kA1.lt
  have cA2 := kA2.cell
  have lA2 := kA2.lt
  have cX0 := kX0.cell
  have lX0 := kX0.lt
  go_wp2_with fail
  refine (HTO1.out _ _ (HV1.out.by hW)).mono ?_
  rintro e t31 ⟨v, rfl, hN, hb⟩
  replace kA0 := Blk.by hb kA0
  replace kA1 := Blk.by hb kA1
  replace kA2 := Blk.by hb kA2
  replace kX0 := Blk.by hb kX0
  replace hW := below_on hb hW
  replace HN30 := Lib.hid (HN30.out.by hb)
  clear hb cA0 cA1 cA2 cX0
  have cA0 := kA0.cell
  have cA1 := kA1.cell
  have cA2 := kA2.cell
  have cX0 := kX0.cell
  clear lA0 lA1 lA2 lX0
  generalize t30.heap.size = p0 at *
  have HN31 := Lib.hid hN
  obtain ⟨a31, c31, a31d, c31d, rfl⟩ := hN.sized
  clear hN
  have lA0 := kA0.lt
  have lA1 := kA1.lt
  have lA2 := kA2.lt
  have lX0 := kX0.lt
  have kX1 : Blk (t31.alloc (.cells #[.int .i64 y.nets, .slice a31 y.ds.length c31, .slice a31d y.ps.length c31d] 35)) t31.heap.size #[.int .i64 y.nets, .slice a31 y.ds.length c31, .slice a31d y.ps.length c31d] 35 := Blk.new _ rfl
  replace kA0 := kA0.past (.cells #[.int .i64 y.nets, .slice a31 y.ds.length c31, .slice a31d y.ps.length c31d] 35)
  replace kA1 := kA1.past (.cells #[.int .i64 y.nets, .slice a31 y.ds.length c31, .slice a31d y.ps.length c31d] 35)
  replace kA2 := kA2.past (.cells #[.int .i64 y.nets, .slice a31 y.ds.length c31, .slice a31d y.ps.length c31d] 35)
  replace kX0 := kX0.past (.cells #[.int .i64 y.nets, .slice a31 y.ds.length c31, .slice a31d y.ps.length c31d] 35)
  replace hW := below_al hW (.cells #[.int .i64 y.nets, .slice a31 y.ds.length c31, .slice a31d y.ps.length c31d] 35)
  replace HN30 := Lib.hid (HN30.out.by ((Below.refl _ t31).alloc (Nat.le_refl _) (.cells #[.int .i64 y.nets, .slice a31 y.ds.length c31, .slice a31d y.ps.length c31d] 35)))
  replace HN31 := Lib.hid (HN31.out.by ((Below.refl _ t31).alloc (Nat.le_refl _) (.cells #[.int .i64 y.nets, .slice a31 y.ds.length c31, .slice a31d y.ps.length c31d] 35)))
  clear cA0 cA1 cA2 cX0
  have cA0 := kA0.cell
  have lA0 := kA0.lt
  have cA1 := kA1.cell
  have lA1 := kA1.lt
  have cA2 := kA2.cell
  have lA2 := kA2.lt
  have cX0 := kX0.cell
  have lX0 := kX0.lt
  have cX1 := kX1.cell
  have lX1 := kX1.lt
  go_wp2_with fail
  refine (HTO2.out _ _ (HV2.out.by hW)).mono ?_
  rintro e t32 ⟨v, rfl, hN, hb⟩
  replace kA0 := Blk.by hb kA0
  replace kA1 := Blk.by hb kA1
  replace kA2 := Blk.by hb kA2
  replace kX0 := Blk.by hb kX0
  replace kX1 := Blk.by hb kX1
  replace hW := below_on hb hW
  replace HN30 := Lib.hid (HN30.out.by hb)
  replace HN31 := Lib.hid (HN31.out.by hb)
  clear hb cA0 cA1 cA2 cX0 cX1
  have cA0 := kA0.cell
  have cA1 := kA1.cell
  have cA2 := kA2.cell
  have cX0 := kX0.cell
  have cX1 := kX1.cell
  clear lA0 lA1 lA2 lX0 lX1
  generalize t31.heap.size = p1 at *
  have HN32 := Lib.hid hN
  obtain ⟨a32, c32, a32d, c32d, rfl⟩ := hN.sized
  clear hN
  have lA0 := kA0.lt
  have lA1 := kA1.lt
  have lA2 := kA2.lt
  have lX0 := kX0.lt
  have lX1 := kX1.lt
  have kX2 : Blk (t32.alloc (.cells #[.slice a32 z.1.length c32, .slice a32d z.2.length c32d] 54)) t32.heap.size #[.slice a32 z.1.length c32, .slice a32d z.2.length c32d] 54 := Blk.new _ rfl
  replace kA0 := kA0.past (.cells #[.slice a32 z.1.length c32, .slice a32d z.2.length c32d] 54)
  replace kA1 := kA1.past (.cells #[.slice a32 z.1.length c32, .slice a32d z.2.length c32d] 54)
  replace kA2 := kA2.past (.cells #[.slice a32 z.1.length c32, .slice a32d z.2.length c32d] 54)
  replace kX0 := kX0.past (.cells #[.slice a32 z.1.length c32, .slice a32d z.2.length c32d] 54)
  replace kX1 := kX1.past (.cells #[.slice a32 z.1.length c32, .slice a32d z.2.length c32d] 54)
  replace hW := below_al hW (.cells #[.slice a32 z.1.length c32, .slice a32d z.2.length c32d] 54)
  replace HN30 := Lib.hid (HN30.out.by ((Below.refl _ t32).alloc (Nat.le_refl _) (.cells #[.slice a32 z.1.length c32, .slice a32d z.2.length c32d] 54)))
  replace HN31 := Lib.hid (HN31.out.by ((Below.refl _ t32).alloc (Nat.le_refl _) (.cells #[.slice a32 z.1.length c32, .slice a32d z.2.length c32d] 54)))
  replace HN32 := Lib.hid (HN32.out.by ((Below.refl _ t32).alloc (Nat.le_refl _) (.cells #[.slice a32 z.1.length c32, .slice a32d z.2.length c32d] 54)))
  clear cA0 cA1 cA2 cX0 cX1
  have cA0 := kA0.cell
  have lA0 := kA0.lt
  have cA1 := kA1.cell
  have lA1 := kA1.lt
  have cA2 := kA2.cell
  have lA2 := kA2.lt
  have cX0 := kX0.cell
  have lX0 := kX0.lt
  have cX1 := kX1.cell
  have lX1 := kX1.lt
  have cX2 := kX2.cell
  have lX2 := kX2.lt
  go_wp2_with fail
  refine (HIM.out _ _ _ _ HN30.out HN31.out HN32.out).mono ?_
  rintro e t50 ⟨rfl, hb⟩
  replace kA0 := Blk.by hb kA0
  replace kA1 := Blk.by hb kA1
  replace kA2 := Blk.by hb kA2
  replace kX0 := Blk.by hb kX0
  replace kX1 := Blk.by hb kX1
  replace kX2 := Blk.by hb kX2
  replace hW := below_on hb hW
  replace HN30 := Lib.hid (HN30.out.by hb)
  replace HN31 := Lib.hid (HN31.out.by hb)
  replace HN32 := Lib.hid (HN32.out.by hb)
  clear hb cA0 cA1 cA2 cX0 cX1 cX2
  have cA0 := kA0.cell
  have cA1 := kA1.cell
  have cA2 := kA2.cell
  have cX0 := kX0.cell
  have cX1 := kX1.cell
  have cX2 := kX2.cell
  clear lA0 lA1 lA2 lX0 lX1 lX2
  generalize t32.heap.size = p2 at *
  go_wp2_with fail
  go_region_held3 (fun w' => (Blk w' (w.heap.size) #[.int .i64 x.nets, .slice a0 x.ds.length c0, .slice a0d x.ps.length c0d] 25 ∧ ∀ o, w'.cell? ⟨w.heap.size, o, none⟩ = (#[.int .i64 x.nets, .slice a0 x.ds.length c0, .slice a0d x.ps.length c0d] : Array Value)[o]?) ∧ (Blk w' (w.heap.size + 1) #[.int .i64 y.nets, .slice a1 y.ds.length c1, .slice a1d y.ps.length c1d] 25 ∧ ∀ o, w'.cell? ⟨w.heap.size + 1, o, none⟩ = (#[.int .i64 y.nets, .slice a1 y.ds.length c1, .slice a1d y.ps.length c1d] : Array Value)[o]?) ∧ (Blk w' (w.heap.size + 1 + 1) #[.slice a2 z.1.length c2, .slice a2d z.2.length c2d] 51 ∧ ∀ o, w'.cell? ⟨w.heap.size + 1 + 1, o, none⟩ = (#[.slice a2 z.1.length c2, .slice a2d z.2.length c2d] : Array Value)[o]?) ∧ (Blk w' (p0) #[.int .i64 x.nets, .slice a30 x.ds.length c30, .slice a30d x.ps.length c30d] 35 ∧ ∀ o, w'.cell? ⟨p0, o, none⟩ = (#[.int .i64 x.nets, .slice a30 x.ds.length c30, .slice a30d x.ps.length c30d] : Array Value)[o]?) ∧ (Blk w' (p1) #[.int .i64 y.nets, .slice a31 y.ds.length c31, .slice a31d y.ps.length c31d] 35 ∧ ∀ o, w'.cell? ⟨p1, o, none⟩ = (#[.int .i64 y.nets, .slice a31 y.ds.length c31, .slice a31d y.ps.length c31d] : Array Value)[o]?) ∧ (Blk w' (p2) #[.slice a32 z.1.length c32, .slice a32d z.2.length c32d] 54 ∧ ∀ o, w'.cell? ⟨p2, o, none⟩ = (#[.slice a32 z.1.length c32, .slice a32d z.2.length c32d] : Array Value)[o]?) ∧ Below w.heap.size w w') (((try (obtain ⟨⟨hS0, _⟩, ⟨hS1, _⟩, ⟨hS2, _⟩, ⟨hS3, _⟩, ⟨hS4, _⟩, ⟨hS5, _⟩, hSB⟩ := hHeld)); refine ⟨Blk.both ?_, Blk.both ?_, Blk.both ?_, Blk.both ?_, Blk.both ?_, Blk.both ?_, ?_⟩ <;> first | ((repeat (first | (with_reducible assumption) | (with_reducible refine Blk.drewN ?_ _) | (with_reducible refine Blk.drew ?_) | ((with_reducible refine Blk.new _ ?_); focus (first | omega | (simp; done) | (simp; omega))) | (with_reducible refine Blk.past ?_ _) | ((with_reducible refine Blk.apart ?_ _ _ _ ?_); rotate_left; focus (first | omega | (simp; done) | (simp; omega))) | (with_reducible refine Blk.by (by assumption) ?_))); done) | ((repeat (first | (with_reducible exact Below.refl _ _) | (with_reducible refine below_drewN ?_ _) | (with_reducible refine Below.drew ?_) | (with_reducible refine below_al ?_ _) | (with_reducible refine below_on (by assumption) ?_) | ((with_reducible refine Below.setCell ?_ ?_ _); rotate_left; focus (first | omega | (simp; done) | (simp; omega))) | (with_reducible assumption))); done)))
    (first | (go_at_call_of 14 (Value.slice a0 x.ds.length c0); refine (HTO0.out _ _ ((HV0.out.by hW).by (below_of_drewN t50 1))).mono ?_; rintro e t60 ⟨v60_, rfl, hN, hb60⟩; have HN60 := Lib.hid hN; obtain ⟨a60, c60, a60d, c60d, rfl⟩ := hN.sized; clear hN) | (go_at_call 18; refine (HEQ0.out _ _ _ ((HN30.out.by (below_of_drewN t50 1)).by hb60) HN60.out).mono ?_; rintro e t61 ⟨rfl, hb61⟩))
  replace kA0 := (Blk.by hb61 (Blk.by hb60 (kA0.drewN 1)))
  replace kA1 := (Blk.by hb61 (Blk.by hb60 (kA1.drewN 1)))
  replace kA2 := (Blk.by hb61 (Blk.by hb60 (kA2.drewN 1)))
  replace kX0 := (Blk.by hb61 (Blk.by hb60 (kX0.drewN 1)))
  replace kX1 := (Blk.by hb61 (Blk.by hb60 (kX1.drewN 1)))
  replace kX2 := (Blk.by hb61 (Blk.by hb60 (kX2.drewN 1)))
  replace hW := (below_on hb61 (below_on hb60 (below_drewN hW 1)))
  replace HN30 := Lib.hid (((HN30.out.by (below_of_drewN t50 1)).by hb60).by hb61)
  replace HN31 := Lib.hid (((HN31.out.by (below_of_drewN t50 1)).by hb60).by hb61)
  replace HN32 := Lib.hid (((HN32.out.by (below_of_drewN t50 1)).by hb60).by hb61)
  clear hb60 hb61 cA0 cA1 cA2 cX0 cX1 cX2
  have cA0 := kA0.cell
  have cA1 := kA1.cell
  have cA2 := kA2.cell
  have cX0 := kX0.cell
  have cX1 := kX1.cell
  have cX2 := kX2.cell
  go_wp2_with fail
  go_region_held3 (fun w' => (Blk w' (w.heap.size) #[.int .i64 x.nets, .slice a0 x.ds.length c0, .slice a0d x.ps.length c0d] 25 ∧ ∀ o, w'.cell? ⟨w.heap.size, o, none⟩ = (#[.int .i64 x.nets, .slice a0 x.ds.length c0, .slice a0d x.ps.length c0d] : Array Value)[o]?) ∧ (Blk w' (w.heap.size + 1) #[.int .i64 y.nets, .slice a1 y.ds.length c1, .slice a1d y.ps.length c1d] 25 ∧ ∀ o, w'.cell? ⟨w.heap.size + 1, o, none⟩ = (#[.int .i64 y.nets, .slice a1 y.ds.length c1, .slice a1d y.ps.length c1d] : Array Value)[o]?) ∧ (Blk w' (w.heap.size + 1 + 1) #[.slice a2 z.1.length c2, .slice a2d z.2.length c2d] 51 ∧ ∀ o, w'.cell? ⟨w.heap.size + 1 + 1, o, none⟩ = (#[.slice a2 z.1.length c2, .slice a2d z.2.length c2d] : Array Value)[o]?) ∧ (Blk w' (p0) #[.int .i64 x.nets, .slice a30 x.ds.length c30, .slice a30d x.ps.length c30d] 35 ∧ ∀ o, w'.cell? ⟨p0, o, none⟩ = (#[.int .i64 x.nets, .slice a30 x.ds.length c30, .slice a30d x.ps.length c30d] : Array Value)[o]?) ∧ (Blk w' (p1) #[.int .i64 y.nets, .slice a31 y.ds.length c31, .slice a31d y.ps.length c31d] 35 ∧ ∀ o, w'.cell? ⟨p1, o, none⟩ = (#[.int .i64 y.nets, .slice a31 y.ds.length c31, .slice a31d y.ps.length c31d] : Array Value)[o]?) ∧ (Blk w' (p2) #[.slice a32 z.1.length c32, .slice a32d z.2.length c32d] 54 ∧ ∀ o, w'.cell? ⟨p2, o, none⟩ = (#[.slice a32 z.1.length c32, .slice a32d z.2.length c32d] : Array Value)[o]?) ∧ Below w.heap.size w w') (((try (obtain ⟨⟨hS0, _⟩, ⟨hS1, _⟩, ⟨hS2, _⟩, ⟨hS3, _⟩, ⟨hS4, _⟩, ⟨hS5, _⟩, hSB⟩ := hHeld)); refine ⟨Blk.both ?_, Blk.both ?_, Blk.both ?_, Blk.both ?_, Blk.both ?_, Blk.both ?_, ?_⟩ <;> first | ((repeat (first | (with_reducible assumption) | (with_reducible refine Blk.drewN ?_ _) | (with_reducible refine Blk.drew ?_) | ((with_reducible refine Blk.new _ ?_); focus (first | omega | (simp; done) | (simp; omega))) | (with_reducible refine Blk.past ?_ _) | ((with_reducible refine Blk.apart ?_ _ _ _ ?_); rotate_left; focus (first | omega | (simp; done) | (simp; omega))) | (with_reducible refine Blk.by (by assumption) ?_))); done) | ((repeat (first | (with_reducible exact Below.refl _ _) | (with_reducible refine below_drewN ?_ _) | (with_reducible refine Below.drew ?_) | (with_reducible refine below_al ?_ _) | (with_reducible refine below_on (by assumption) ?_) | ((with_reducible refine Below.setCell ?_ ?_ _); rotate_left; focus (first | omega | (simp; done) | (simp; omega))) | (with_reducible assumption))); done)))
    (first | (go_at_call_of 14 (Value.slice a1 y.ds.length c1); refine (HTO1.out _ _ ((HV1.out.by hW).by (below_of_drewN t61 1))).mono ?_; rintro e t62 ⟨v62_, rfl, hN, hb62⟩; have HN62 := Lib.hid hN; obtain ⟨a62, c62, a62d, c62d, rfl⟩ := hN.sized; clear hN) | (go_at_call 18; refine (HEQ1.out _ _ _ ((HN31.out.by (below_of_drewN t61 1)).by hb62) HN62.out).mono ?_; rintro e t63 ⟨rfl, hb63⟩))
  replace kA0 := (Blk.by hb63 (Blk.by hb62 (kA0.drewN 1)))
  replace kA1 := (Blk.by hb63 (Blk.by hb62 (kA1.drewN 1)))
  replace kA2 := (Blk.by hb63 (Blk.by hb62 (kA2.drewN 1)))
  replace kX0 := (Blk.by hb63 (Blk.by hb62 (kX0.drewN 1)))
  replace kX1 := (Blk.by hb63 (Blk.by hb62 (kX1.drewN 1)))
  replace kX2 := (Blk.by hb63 (Blk.by hb62 (kX2.drewN 1)))
  replace hW := (below_on hb63 (below_on hb62 (below_drewN hW 1)))
  replace HN30 := Lib.hid (((HN30.out.by (below_of_drewN t61 1)).by hb62).by hb63)
  replace HN31 := Lib.hid (((HN31.out.by (below_of_drewN t61 1)).by hb62).by hb63)
  replace HN32 := Lib.hid (((HN32.out.by (below_of_drewN t61 1)).by hb62).by hb63)
  clear hb62 hb63 cA0 cA1 cA2 cX0 cX1 cX2
  have cA0 := kA0.cell
  have cA1 := kA1.cell
  have cA2 := kA2.cell
  have cX0 := kX0.cell
  have cX1 := kX1.cell
  have cX2 := kX2.cell
  go_wp2_with fail
  go_region_held3 (fun w' => (Blk w' (w.heap.size) #[.int .i64 x.nets, .slice a0 x.ds.length c0, .slice a0d x.ps.length c0d] 25 ∧ ∀ o, w'.cell? ⟨w.heap.size, o, none⟩ = (#[.int .i64 x.nets, .slice a0 x.ds.length c0, .slice a0d x.ps.length c0d] : Array Value)[o]?) ∧ (Blk w' (w.heap.size + 1) #[.int .i64 y.nets, .slice a1 y.ds.length c1, .slice a1d y.ps.length c1d] 25 ∧ ∀ o, w'.cell? ⟨w.heap.size + 1, o, none⟩ = (#[.int .i64 y.nets, .slice a1 y.ds.length c1, .slice a1d y.ps.length c1d] : Array Value)[o]?) ∧ (Blk w' (w.heap.size + 1 + 1) #[.slice a2 z.1.length c2, .slice a2d z.2.length c2d] 51 ∧ ∀ o, w'.cell? ⟨w.heap.size + 1 + 1, o, none⟩ = (#[.slice a2 z.1.length c2, .slice a2d z.2.length c2d] : Array Value)[o]?) ∧ (Blk w' (p0) #[.int .i64 x.nets, .slice a30 x.ds.length c30, .slice a30d x.ps.length c30d] 35 ∧ ∀ o, w'.cell? ⟨p0, o, none⟩ = (#[.int .i64 x.nets, .slice a30 x.ds.length c30, .slice a30d x.ps.length c30d] : Array Value)[o]?) ∧ (Blk w' (p1) #[.int .i64 y.nets, .slice a31 y.ds.length c31, .slice a31d y.ps.length c31d] 35 ∧ ∀ o, w'.cell? ⟨p1, o, none⟩ = (#[.int .i64 y.nets, .slice a31 y.ds.length c31, .slice a31d y.ps.length c31d] : Array Value)[o]?) ∧ (Blk w' (p2) #[.slice a32 z.1.length c32, .slice a32d z.2.length c32d] 54 ∧ ∀ o, w'.cell? ⟨p2, o, none⟩ = (#[.slice a32 z.1.length c32, .slice a32d z.2.length c32d] : Array Value)[o]?) ∧ Below w.heap.size w w') (((try (obtain ⟨⟨hS0, _⟩, ⟨hS1, _⟩, ⟨hS2, _⟩, ⟨hS3, _⟩, ⟨hS4, _⟩, ⟨hS5, _⟩, hSB⟩ := hHeld)); refine ⟨Blk.both ?_, Blk.both ?_, Blk.both ?_, Blk.both ?_, Blk.both ?_, Blk.both ?_, ?_⟩ <;> first | ((repeat (first | (with_reducible assumption) | (with_reducible refine Blk.drewN ?_ _) | (with_reducible refine Blk.drew ?_) | ((with_reducible refine Blk.new _ ?_); focus (first | omega | (simp; done) | (simp; omega))) | (with_reducible refine Blk.past ?_ _) | ((with_reducible refine Blk.apart ?_ _ _ _ ?_); rotate_left; focus (first | omega | (simp; done) | (simp; omega))) | (with_reducible refine Blk.by (by assumption) ?_))); done) | ((repeat (first | (with_reducible exact Below.refl _ _) | (with_reducible refine below_drewN ?_ _) | (with_reducible refine Below.drew ?_) | (with_reducible refine below_al ?_ _) | (with_reducible refine below_on (by assumption) ?_) | ((with_reducible refine Below.setCell ?_ ?_ _); rotate_left; focus (first | omega | (simp; done) | (simp; omega))) | (with_reducible assumption))); done)))
    (first | (go_at_call 31; refine (HTO2.out _ _ ((HV2.out.by hW).by (below_of_drewN t63 1))).mono ?_; rintro e t64 ⟨v64_, rfl, hN, hb64⟩; have HN64 := Lib.hid hN; obtain ⟨a64, c64, a64d, c64d, rfl⟩ := hN.sized; clear hN) | (go_at_call 33; refine (HEQ2.out _ _ _ ((HN32.out.by (below_of_drewN t63 1)).by hb64) HN64.out).mono ?_; rintro e t65 ⟨rfl, hb65⟩))
  go_wp2
  go_ret
  exact ⟨rfl, (by ((repeat (first | (with_reducible exact Below.refl _ _) | (with_reducible refine below_drewN ?_ _) | (with_reducible refine Below.drew ?_) | (with_reducible refine below_al ?_ _) | (with_reducible refine below_on (by assumption) ?_) | ((with_reducible refine Below.setCell ?_ ?_ _); rotate_left; focus (first | omega | (simp; done) | (simp; omega))) | (with_reducible assumption))); done))⟩
end Go.Proofs.Ytaiadcfgmichpaa.fnExactIsIsomorphism
