/- The walk of FnExactIsValidNetwork. -/
import Derived.Test.YtdlnmpkjpdhhpaaNet
import Derived.Test.YtdlnmpkjpdhhpaaNetValid
import Derived.Test.YtdlnmpkjpdhhpaaNetOpen
namespace Go.Proofs.Ytdlnmpkjpdhhpaa.fnExactIsValidNetwork
open Go.RowKit Go.Proofs.Ytdlnmpkjpdhhpaa
set_option linter.unusedVariables false

set_option maxRecDepth 100000 in
set_option maxHeartbeats 4000000 in
theorem walk (v0 : Value) (w : World) (x : Int × List Res) (w0 : IsNetV w v0 x) :
    Calls Try.prog 8 #[v0] w fun e w' => e = .returned (.bool true) ∧ Below w.heap.size w w' := by
  obtain ⟨nodes, xs⟩ := x
  obtain ⟨sv, rfl, hnn, hS, hok⟩ := w0
  dsimp only at hnn hS hok ⊢
  have HSZ := Lib.hid (fun w h => szNetwork_any nodes sv xs 1048576 w h (by omega) (by omega))
  have hS0 := hS.by ((Below.refl _ w).alloc (Nat.le_refl _) (.cells #[.int .i64 nodes, sv] 46))
  obtain ⟨a, c, rfl⟩ := hS.len
  by_cases hbig : (1048576 : Int) < xs.length
  · have HZ := HSZ.out
    rw [if_pos hbig] at HZ
    have HZ' := Lib.hid HZ
    clear HSZ HZ
    go_enter Try.func8, Try.ntmps8
    go_wp2_with fail
    refine (HZ'.out _ hS0).mono ?_
    rintro e w1 ⟨rfl, hb1⟩
    go_wp2
    go_ret
    exact ⟨rfl, (by ((repeat (first | (with_reducible exact Below.refl _ _) | (with_reducible refine below_drewN ?_ _) | (with_reducible refine Below.drew ?_) | (with_reducible refine below_al ?_ _) | (with_reducible refine below_on (by assumption) ?_) | ((with_reducible refine Below.setCell ?_ ?_ _); rotate_left; focus (first | omega | (simp; done) | (simp; omega))) | (with_reducible assumption))); done))⟩
  · have HZ := HSZ.out
    rw [if_neg hbig] at HZ
    have HZ' := Lib.hid HZ
    have hlen : xs.length ≤ 1048576 := by omega
    obtain ⟨l, hl⟩ : ∃ l : Int, (1048576 : Int) - xs.length = l := ⟨_, rfl⟩
    have hl0 : 0 ≤ l := by omega
    rw [hl] at HZ
    have HZ' := Lib.hid HZ
    have HTO := Lib.hid (fun w h => toNetwork_any nodes (.slice a xs.length c) xs w h hlen)
    have HSP := Lib.hid (fun sv w h => specValid_any nodes sv xs w h hok hnn)
    have HIM := Lib.hid (fun sv w h => implValid_any nodes sv xs w h hok hnn)
    generalize nwB nodes xs = r at *
    clear HSZ HZ hl hbig hok hnn
    go_enter Try.func8, Try.ntmps8
    go_wp2_with fail
    refine (HZ'.out _ hS0).mono ?_
    rintro e w1 ⟨rfl, hb1⟩
    have hS1 := hS0.by hb1
    have kA : Blk w1 w.heap.size #[.int .i64 nodes, .slice a xs.length c] 46 := (by ((repeat (first | (with_reducible assumption) | (with_reducible refine Blk.drewN ?_ _) | (with_reducible refine Blk.drew ?_) | ((with_reducible refine Blk.new _ ?_); focus (first | omega | (simp; done) | (simp; omega))) | (with_reducible refine Blk.past ?_ _) | ((with_reducible refine Blk.apart ?_ _ _ _ ?_); rotate_left; focus (first | omega | (simp; done) | (simp; omega))) | (with_reducible refine Blk.by (by assumption) ?_))); done))
    have cA := kA.cell
    have hW := below_on hb1 (below_al (Below.refl _ w) _)
    clear hb1 hS hS0
    go_wp2_with fail
    refine (HTO.out _ hS1).mono ?_
    rintro e w2 ⟨g, rfl, hG, hge, hb2⟩
    have hS2 := hS1.by hb2
    have hG2 := hG.sl (by unfold maxLen; omega)
    replace kA := Blk.by hb2 kA
    replace hW := below_on hb2 hW
    clear cA hb2 hS1 hG hge
    have cA := kA.cell
    go_wp2_with fail
    refine (HSP.out _ _ hG2).mono ?_
    rintro e w3 ⟨rfl, hb3⟩
    have hS3 := hS2.by hb3
    replace kA := Blk.by hb3 kA
    replace hW := below_on hb3 hW
    clear cA hb3 hS2 hG2
    have cA := kA.cell
    go_wp2_with fail
    refine (HTO.out _ hS3).mono ?_
    rintro e w4 ⟨f, rfl, hG, hge, hb4⟩
    replace kA := Blk.by hb4 kA
    have lA := kA.lt
    replace hW := below_on hb4 hW
    have hS4 := hS3.by hb4
    clear cA hb4 hS3 hge
    have cA := kA.cell
    have kX : Blk (w4.alloc (.cells #[.int .i64 nodes, .slice (some ⟨f, 0, none⟩) xs.length xs.length] 51)) w4.heap.size #[.int .i64 nodes, .slice (some ⟨f, 0, none⟩) xs.length xs.length] 51 := Blk.new _ rfl
    have hG4 := hG.alloc (.cells #[.int .i64 nodes, .slice (some ⟨f, 0, none⟩) xs.length xs.length] 51)
    have hS5 := hS4.by ((Below.refl _ w4).alloc (Nat.le_refl _) (.cells #[.int .i64 nodes, .slice (some ⟨f, 0, none⟩) xs.length xs.length] 51))
    go_wp2_with fail
    refine (HIM.out _ _ (hG4.sl (by unfold maxLen; omega))).mono ?_
    rintro e w5 ⟨rfl, hb5⟩
    replace kX := Blk.by hb5 kX
    replace kA := Blk.by hb5 (kA.past _)
    replace hW := below_on hb5 (below_al hW _)
    replace hS5 := hS5.by hb5
    replace hG4 := hG4.by hb5
    clear cA hb5 hG hS4 lA
    generalize w4.heap.size = p at *
    have cA := kA.cell
    have cX := kX.cell
    go_wp2_with fail
    go_region_held3 (fun w' => (Blk w' w.heap.size #[.int .i64 nodes, .slice a xs.length c] 46 ∧ ∀ o, w'.cell? ⟨w.heap.size, o, none⟩ = (#[.int .i64 nodes, .slice a xs.length c] : Array Value)[o]?) ∧ (Blk w' p #[.int .i64 nodes, .slice (some ⟨f, 0, none⟩) xs.length xs.length] 51 ∧ ∀ o, w'.cell? ⟨p, o, none⟩ = (#[.int .i64 nodes, .slice (some ⟨f, 0, none⟩) xs.length xs.length] : Array Value)[o]?) ∧ Below w.heap.size w w') (((try (obtain ⟨⟨hS0, _⟩, ⟨hS1, _⟩, hSB⟩ := hHeld)); refine ⟨Blk.both ?_, Blk.both ?_, ?_⟩ <;> first | ((repeat (first | (with_reducible assumption) | (with_reducible refine Blk.drewN ?_ _) | (with_reducible refine Blk.drew ?_) | ((with_reducible refine Blk.new _ ?_); focus (first | omega | (simp; done) | (simp; omega))) | (with_reducible refine Blk.past ?_ _) | ((with_reducible refine Blk.apart ?_ _ _ _ ?_); rotate_left; focus (first | omega | (simp; done) | (simp; omega))) | (with_reducible refine Blk.by (by assumption) ?_))); done) | ((repeat (first | (with_reducible exact Below.refl _ _) | (with_reducible refine below_drewN ?_ _) | (with_reducible refine Below.drew ?_) | (with_reducible refine below_al ?_ _) | (with_reducible refine below_on (by assumption) ?_) | ((with_reducible refine Below.setCell ?_ ?_ _); rotate_left; focus (first | omega | (simp; done) | (simp; omega))) | (with_reducible assumption))); done)))
      (first | (go_at_call 31; refine (HTO.out _ (hS5.by (below_of_drewN w5 1))).mono ?_; rintro e w6 ⟨g6, rfl, hG6, hge6, hb6⟩) | (go_at_call 33; refine (eqNetwork_refl nodes _ _ xs _ (((hG4.sl (by unfold maxLen; omega)).by (below_of_drewN w5 1)).by hb6) (hG6.sl (by unfold maxLen; omega))).mono ?_; rintro e w7 ⟨rfl, hb7⟩))
    go_wp2
    go_ret
    exact ⟨rfl, (by ((repeat (first | (with_reducible exact Below.refl _ _) | (with_reducible refine below_drewN ?_ _) | (with_reducible refine Below.drew ?_) | (with_reducible refine below_al ?_ _) | (with_reducible refine below_on (by assumption) ?_) | ((with_reducible refine Below.setCell ?_ ?_ _); rotate_left; focus (first | omega | (simp; done) | (simp; omega))) | (with_reducible assumption))); done))⟩
end Go.Proofs.Ytdlnmpkjpdhhpaa.fnExactIsValidNetwork
