/- The walk of FnExactFormatNetlist. -/
import Derived.Test.YtglddnkpccgchaaDoorImplFmt
import Derived.Test.YtglddnkpccgchaaDoorFmtS
import Derived.Test.YtglddnkpccgchaaDoorNls
namespace Go.Proofs.YtglddnkpccgchaaDoor.fnExactFormatNetlist
open Go.RowKit Go.Proofs.YtglddnkpccgchaaDoor
set_option linter.unusedVariables false
set_option linter.unusedSimpArgs false



theorem _root_.Go.Proofs.YtglddnkpccgchaaDoor.Tab10.up {B B' : Nat} {w : World} (h : Tab10 B w) (hB : B ≤ B') : Tab10 B' w := fun w' hb => h w' (hb.mono hB)

set_option maxRecDepth 100000 in
set_option maxHeartbeats 8000000 in
theorem walk (v0 : Value) (w : World) (x : Nl) (w0 : IsNlV w v0 x) (hT : Tab10 w.heap.size w) :
    Calls Tryd.prog 3 #[v0] w fun e w' => e = .returned (.bool true) ∧ Below w.heap.size w w' := by
  obtain ⟨hV0, h0f, h0d, h0p⟩ := w0
  have HT := Lib.hid hT
  clear hT
  have HSZ0 := fun w h => szNl_any v0 x 1048576 w h h0p (by omega) (by omega)
  by_cases hbig : (1048576 : Int) < nlSize x.ds x.ps
  · simp only [if_pos hbig] at HSZ0
    have HZ0 := Lib.hid HSZ0
    clear HSZ0 hbig
    have HV0 := Lib.hid hV0
    obtain ⟨a0, c0, a0d, c0d, rfl⟩ := hV0.sized
    clear hV0
    go_enter Tryd.func3, Tryd.ntmps3
    go_wp2_with fail
    refine (HZ0.out _ (HV0.out.by (by ((repeat (first | (with_reducible exact Below.refl _ _) | (with_reducible refine below_drewN ?_ _) | (with_reducible refine Below.drew ?_) | (with_reducible refine below_al ?_ _) | (with_reducible refine below_on (by assumption) ?_) | ((with_reducible refine Below.setCell ?_ ?_ _); rotate_left; focus (first | omega | (simp; done) | (simp; omega))) | (with_reducible assumption))); done)))).mono ?_
    rintro e s0 ⟨rfl, hb⟩
    go_wp2
    go_ret
    exact ⟨rfl, (by ((repeat (first | (with_reducible exact Below.refl _ _) | (with_reducible refine below_drewN ?_ _) | (with_reducible refine Below.drew ?_) | (with_reducible refine below_al ?_ _) | (with_reducible refine below_on (by assumption) ?_) | ((with_reducible refine Below.setCell ?_ ?_ _); rotate_left; focus (first | omega | (simp; done) | (simp; omega))) | (with_reducible assumption))); done))⟩
  simp only [if_neg hbig] at HSZ0
  obtain ⟨n0a, n0b, n0c⟩ := nlSize_bounds hbig
  have hsn0 : 0 ≤ nlSize x.ds x.ps := by exact nlSize_nonneg _
  obtain ⟨l0, hl0⟩ : ∃ l : Int, (1048576 : Int) - nlSize x.ds x.ps = l := ⟨_, rfl⟩
  have hl0a : 0 ≤ l0 := by omega
  have hl0b : l0 ≤ 1048576 := by omega
  rw [hl0] at HSZ0
  have HZ0 := Lib.hid HSZ0
  clear HSZ0 hbig hl0 hsn0
  have HTO0 := Lib.hid (fun v w h => toNetlist_nl v x w h n0a n0b n0c)
  have HEQ0 := Lib.hid (fun v1 v2 w h1 h2 => eqNetlist_refl v1 v2 x w h1 h2)
  have HSP := Lib.hid (fun u0 w h0 => specFormat_any x u0 w h0 h0p h0f)
  have HIM := Lib.hid (fun u0 w hT h0 => implFormat_any x u0 w hT h0 h0p h0f)
  generalize fmtS x = r0 at *
  have eR : (r0.toList != r0.toList) = false := by simp
  have HV0 := Lib.hid hV0
  obtain ⟨a0, c0, a0d, c0d, rfl⟩ := hV0.sized
  clear hV0 n0a n0b n0c h0f h0d h0p
  go_enter Tryd.func3, Tryd.ntmps3
  go_wp2_with fail
  refine (HZ0.out _ (HV0.out.by (by ((repeat (first | (with_reducible exact Below.refl _ _) | (with_reducible refine below_drewN ?_ _) | (with_reducible refine Below.drew ?_) | (with_reducible refine below_al ?_ _) | (with_reducible refine below_on (by assumption) ?_) | ((with_reducible refine Below.setCell ?_ ?_ _); rotate_left; focus (first | omega | (simp; done) | (simp; omega))) | (with_reducible assumption))); done)))).mono ?_
  rintro e s0 ⟨rfl, hb⟩
  have kA0 : Blk s0 (w.heap.size) #[.int .i64 x.nets, .slice a0 x.ds.length c0, .slice a0d x.ps.length c0d] 25 := (by ((repeat (first | (with_reducible assumption) | (with_reducible refine Blk.drewN ?_ _) | (with_reducible refine Blk.drew ?_) | ((with_reducible refine Blk.new _ ?_); focus (first | omega | (simp; done) | (simp; omega))) | (with_reducible refine Blk.past ?_ _) | ((with_reducible refine Blk.apart ?_ _ _ _ ?_); rotate_left; focus (first | omega | (simp; done) | (simp; omega))) | (with_reducible refine Blk.by (by assumption) ?_))); done))
  have hW : Below w.heap.size w s0 := (by ((repeat (first | (with_reducible exact Below.refl _ _) | (with_reducible refine below_drewN ?_ _) | (with_reducible refine Below.drew ?_) | (with_reducible refine below_al ?_ _) | (with_reducible refine below_on (by assumption) ?_) | ((with_reducible refine Below.setCell ?_ ?_ _); rotate_left; focus (first | omega | (simp; done) | (simp; omega))) | (with_reducible assumption))); done))
  clear hb 
  have cA0 := kA0.cell
  go_wp2_with fail
  refine (HTO0.out _ _ (HV0.out.by hW)).mono ?_
  rintro e t10 ⟨v, rfl, hN, hb⟩
  replace kA0 := Blk.by hb kA0
  replace hW := below_on hb hW
  clear hb cA0
  have cA0 := kA0.cell
  have HN10 := Lib.hid hN
  obtain ⟨a10, c10, a10d, c10d, rfl⟩ := hN.sized
  clear hN
  go_wp2_with fail
  refine (HSP.out _ _ HN10.out).mono ?_
  rintro e t20 ⟨rfl, hb⟩
  replace kA0 := Blk.by hb kA0
  replace hW := below_on hb hW
  clear hb cA0
  have cA0 := kA0.cell
  clear HN10
  go_wp2_with fail
  refine (HTO0.out _ _ (HV0.out.by hW)).mono ?_
  rintro e t30 ⟨v, rfl, hN, hb⟩
  replace kA0 := Blk.by hb kA0
  replace hW := below_on hb hW
  clear hb cA0
  have cA0 := kA0.cell
  have HN30 := Lib.hid hN
  obtain ⟨a30, c30, a30d, c30d, rfl⟩ := hN.sized
  clear hN
  have kX0 : Blk (t30.alloc (.cells #[.int .i64 x.nets, .slice a30 x.ds.length c30, .slice a30d x.ps.length c30d] 31)) t30.heap.size #[.int .i64 x.nets, .slice a30 x.ds.length c30, .slice a30d x.ps.length c30d] 31 := Blk.new _ rfl
  replace kA0 := kA0.past (.cells #[.int .i64 x.nets, .slice a30 x.ds.length c30, .slice a30d x.ps.length c30d] 31)
  replace hW := below_al hW (.cells #[.int .i64 x.nets, .slice a30 x.ds.length c30, .slice a30d x.ps.length c30d] 31)
  replace HN30 := Lib.hid (HN30.out.by ((Below.refl _ t30).alloc (Nat.le_refl _) (.cells #[.int .i64 x.nets, .slice a30 x.ds.length c30, .slice a30d x.ps.length c30d] 31)))
  clear cA0
  have cA0 := kA0.cell
  have lA0 := kA0.lt
  have cX0 := kX0.cell
  have lX0 := kX0.lt
  go_wp2_with fail
  refine (HIM.out _ _ ((HT.out.on hW).up hW.size) HN30.out).mono ?_
  rintro e t50 ⟨rfl, hb⟩
  replace kA0 := Blk.by hb kA0
  replace kX0 := Blk.by hb kX0
  replace hW := below_on hb hW
  replace HN30 := Lib.hid (HN30.out.by hb)
  clear hb cA0 cX0
  have cA0 := kA0.cell
  have cX0 := kX0.cell
  clear lA0 lX0
  generalize t30.heap.size = p0 at *
  go_wp2_with fail
  go_region_held3 (fun w' => (Blk w' (w.heap.size) #[.int .i64 x.nets, .slice a0 x.ds.length c0, .slice a0d x.ps.length c0d] 25 ∧ ∀ o, w'.cell? ⟨w.heap.size, o, none⟩ = (#[.int .i64 x.nets, .slice a0 x.ds.length c0, .slice a0d x.ps.length c0d] : Array Value)[o]?) ∧ (Blk w' (p0) #[.int .i64 x.nets, .slice a30 x.ds.length c30, .slice a30d x.ps.length c30d] 31 ∧ ∀ o, w'.cell? ⟨p0, o, none⟩ = (#[.int .i64 x.nets, .slice a30 x.ds.length c30, .slice a30d x.ps.length c30d] : Array Value)[o]?) ∧ Below w.heap.size w w') (((try (obtain ⟨⟨hS0, _⟩, ⟨hS1, _⟩, hSB⟩ := hHeld)); refine ⟨Blk.both ?_, Blk.both ?_, ?_⟩ <;> first | ((repeat (first | (with_reducible assumption) | (with_reducible refine Blk.drewN ?_ _) | (with_reducible refine Blk.drew ?_) | ((with_reducible refine Blk.new _ ?_); focus (first | omega | (simp; done) | (simp; omega))) | (with_reducible refine Blk.past ?_ _) | ((with_reducible refine Blk.apart ?_ _ _ _ ?_); rotate_left; focus (first | omega | (simp; done) | (simp; omega))) | (with_reducible refine Blk.by (by assumption) ?_))); done) | ((repeat (first | (with_reducible exact Below.refl _ _) | (with_reducible refine below_drewN ?_ _) | (with_reducible refine Below.drew ?_) | (with_reducible refine below_al ?_ _) | (with_reducible refine below_on (by assumption) ?_) | ((with_reducible refine Below.setCell ?_ ?_ _); rotate_left; focus (first | omega | (simp; done) | (simp; omega))) | (with_reducible assumption))); done)))
    (first | (go_at_call 8; refine (HTO0.out _ _ ((HV0.out.by hW).by (below_of_drewN t50 1))).mono ?_; rintro e t60 ⟨v60_, rfl, hN, hb60⟩; have HN60 := Lib.hid hN; obtain ⟨a60, c60, a60d, c60d, rfl⟩ := hN.sized; clear hN) | (go_at_call 10; refine (HEQ0.out _ _ _ ((HN30.out.by (below_of_drewN t50 1)).by hb60) HN60.out).mono ?_; rintro e t61 ⟨rfl, hb61⟩))
  go_wp2
  go_ret
  exact ⟨rfl, (by ((repeat (first | (with_reducible exact Below.refl _ _) | (with_reducible refine below_drewN ?_ _) | (with_reducible refine Below.drew ?_) | (with_reducible refine below_al ?_ _) | (with_reducible refine below_on (by assumption) ?_) | ((with_reducible refine Below.setCell ?_ ?_ _); rotate_left; focus (first | omega | (simp; done) | (simp; omega))) | (with_reducible assumption))); done))⟩
end Go.Proofs.YtglddnkpccgchaaDoor.fnExactFormatNetlist
