/- toNetlist and eqNetlist. -/
import Derived.Test.YthcaipohdeigeaaNl
namespace Go.Proofs.Ythcaipohdeigeaa
open Go.RowKit
set_option linter.unusedVariables false
set_option linter.unusedSimpArgs false

theorem DvBlk.past {w : World} {g : Nat} {xs : List Dv} (h : DvBlk w g xs) (o : Obj) : DvBlk (w.alloc o) g xs := h.by ((Below.refl _ w).alloc (Nat.le_refl _) o)
theorem DvBlk.off {w : World} {g : Nat} {xs : List Dv} (h : DvBlk w g xs) (b o : Nat) (v : Value) (hb : b < g) : DvBlk (w.setCell ⟨b, o, none⟩ v) g xs := h.apart b o v hb

set_option maxRecDepth 100000 in
set_option maxHeartbeats 2000000 in
theorem toNetlist_any (nets : Int) (s1 s2 : Value) (ds : List Dv) (ps : List Pt) (w : World) (h : DvSl w s1 ds) (h' : PtSl w s2 ps) (hn : ds.length ≤ 1048576) (hpn : ∀ x ∈ ds, x.pins.length ≤ 1048576) (hn' : ps.length ≤ 1048576) :
    Calls Try.prog 26 #[.agg #[.int .i64 nets, s1, s2]] w fun e w' => ∃ g f, e = .returned (.agg #[.int .i64 nets, .slice (some ⟨g, 0, none⟩) ds.length ds.length, .slice (some ⟨f, 0, none⟩) ps.length ps.length]) ∧ DvBlk w' g ds ∧ PtBlk w' f ps ∧ w.heap.size ≤ g ∧ g < f ∧ Below w.heap.size w w' := by
  have HD := Lib.hid (fun w h => toDeviceS_any s1 ds w h hn hpn)
  have HP := Lib.hid (fun w h => toPortS_any s2 ps w h hn')
  obtain ⟨a, c, rfl⟩ := h.sized
  obtain ⟨a', c', rfl⟩ := h'.sized
  go_enter Try.func26, Try.ntmps26
  go_wp2_with fail
  refine (HD.out _ (h.by (by ((repeat (first | (with_reducible exact Below.refl _ _) | (with_reducible refine below_drewN ?_ _) | (with_reducible refine Below.drew ?_) | (with_reducible refine below_al ?_ _) | (with_reducible refine below_on (by assumption) ?_) | ((with_reducible refine Below.setCell ?_ ?_ _); rotate_left; focus (first | omega | (simp; done) | (simp; omega))) | (with_reducible assumption))); done)))).mono ?_
  rintro e w1 ⟨g, rfl, hG, hge, hb1⟩
  have k0 : Blk w1 w.heap.size #[.int .i64 nets, .slice a ds.length c, .slice a' ps.length c'] 37 := (by ((repeat (first | (with_reducible assumption) | (with_reducible refine Blk.drewN ?_ _) | (with_reducible refine Blk.drew ?_) | ((with_reducible refine Blk.new _ ?_); focus (first | omega | (simp; done) | (simp; omega))) | (with_reducible refine Blk.past ?_ _) | ((with_reducible refine Blk.apart ?_ _ _ _ ?_); rotate_left; focus (first | omega | (simp; done) | (simp; omega))) | (with_reducible refine Blk.by (by assumption) ?_))); done))
  have k1 : Blk w1 (w.heap.size + 1) #[.int .i64 0, .slice none 0 0, .slice none 0 0] 43 := (by ((repeat (first | (with_reducible assumption) | (with_reducible refine Blk.drewN ?_ _) | (with_reducible refine Blk.drew ?_) | ((with_reducible refine Blk.new _ ?_); focus (first | omega | (simp; done) | (simp; omega))) | (with_reducible refine Blk.past ?_ _) | ((with_reducible refine Blk.apart ?_ _ _ _ ?_); rotate_left; focus (first | omega | (simp; done) | (simp; omega))) | (with_reducible refine Blk.by (by assumption) ?_))); done))
  have k2 : Blk w1 (w.heap.size + 1 + 1) #[.int .i64 nets, .slice none 0 0, .slice none 0 0] 43 := (by ((repeat (first | (with_reducible assumption) | (with_reducible refine Blk.drewN ?_ _) | (with_reducible refine Blk.drew ?_) | ((with_reducible refine Blk.new _ ?_); focus (first | omega | (simp; done) | (simp; omega))) | (with_reducible refine Blk.past ?_ _) | ((with_reducible refine Blk.apart ?_ _ _ _ ?_); rotate_left; focus (first | omega | (simp; done) | (simp; omega))) | (with_reducible refine Blk.by (by assumption) ?_))); done))
  have l2 := k2.lt
  have c0 := k0.cell
  have c2 := k2.cell
  have f2 := k2.free
  simp at hge
  go_wp2_with fail
  have hbw : Below w.heap.size w (w1.setCell ⟨w.heap.size + 1 + 1, 1, none⟩ (.slice (some ⟨g, 0, none⟩) ds.length ds.length)) := (by ((repeat (first | (with_reducible exact Below.refl _ _) | (with_reducible refine below_drewN ?_ _) | (with_reducible refine Below.drew ?_) | (with_reducible refine below_al ?_ _) | (with_reducible refine below_on (by assumption) ?_) | ((with_reducible refine Below.setCell ?_ ?_ _); rotate_left; focus (first | omega | (simp; done) | (simp; omega))) | (with_reducible assumption))); done))
  refine (HP.out _ (h'.by hbw)).mono ?_
  rintro e w2 ⟨f, rfl, hF, hfe, hb2⟩
  replace k1 : Blk w2 (w.heap.size + 1) #[.int .i64 0, .slice none 0 0, .slice none 0 0] 43 := (by ((repeat (first | (with_reducible assumption) | (with_reducible refine Blk.drewN ?_ _) | (with_reducible refine Blk.drew ?_) | ((with_reducible refine Blk.new _ ?_); focus (first | omega | (simp; done) | (simp; omega))) | (with_reducible refine Blk.past ?_ _) | ((with_reducible refine Blk.apart ?_ _ _ _ ?_); rotate_left; focus (first | omega | (simp; done) | (simp; omega))) | (with_reducible refine Blk.by (by assumption) ?_))); done))
  replace k2 : Blk w2 (w.heap.size + 1 + 1) #[.int .i64 nets, .slice (some ⟨g, 0, none⟩) ds.length ds.length, .slice none 0 0] 43 := Blk.by hb2 (k2.set 1 _)
  have hgl := hG.lt
  replace hG := (hG.apart (w.heap.size + 1 + 1) 1 (.slice (some ⟨g, 0, none⟩) ds.length ds.length) (by omega)).by hb2
  replace hbw := below_on hb2 hbw
  have hgf : g < f := by simp at hfe; omega
  clear c0 k0 c2 f2 hb1 hb2
  have c1 := k1.cell
  have f1 := k1.free
  have c2 := k2.cell
  have f2 := k2.free
  have l1 := k1.lt
  have l2 := k2.lt
  go_wp2
  refine bodyPost_ret (v := .agg #[.int .i64 nets, .slice (some ⟨g, 0, none⟩) ds.length ds.length, .slice (some ⟨f, 0, none⟩) ps.length ps.length]) (by simp [results, Try.results26, go_sem, *]) rfl ⟨g, f, rfl, ?_, ?_, by omega, hgf, ?_⟩
  · repeat (first | (with_reducible exact hG) | ((with_reducible refine DvBlk.apart ?_ _ _ _ ?_); rotate_left; focus omega))
  · repeat (first | (with_reducible exact hF) | ((with_reducible refine PtBlk.apart ?_ _ _ _ ?_); rotate_left; focus omega))
  · repeat (first | (with_reducible exact hbw) | ((with_reducible refine Below.setCell ?_ ?_ _); rotate_left; focus (simp; try omega)))
end Go.Proofs.Ythcaipohdeigeaa
