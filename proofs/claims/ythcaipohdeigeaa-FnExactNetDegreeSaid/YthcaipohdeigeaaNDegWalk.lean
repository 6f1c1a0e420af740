/- The walk of FnExactNetDegree. -/
import Derived.Test.YthcaipohdeigeaaNDeg
namespace Go.Proofs.Ythcaipohdeigeaa.fnExactNetDegree
open Go.RowKit Go.Proofs.Ythcaipohdeigeaa
set_option linter.unusedVariables false

set_option maxRecDepth 100000 in
set_option maxHeartbeats 4000000 in
theorem walk (v0 : Value) (v1 : Value) (w : World) (x : Nl) (w0 : IsNlV w v0 x) (net : Int) (w1 : IsI64 v1 net) :
    Calls Try.prog 6 #[v0, v1] w fun e w' => e = .returned (.bool true) ∧ Below w.heap.size w w' := by
  obtain ⟨hV, hf, hdk, hpk⟩ := w0
  obtain ⟨rfl, netb⟩ := w1
  have HSZ := Lib.hid (fun w h => szNl_any v0 x 1048576 w h hpk (by omega) (by omega))
  by_cases hbig : (1048576 : Int) < nlSize x.ds x.ps
  · have HZ := HSZ.out
    rw [if_pos hbig] at HZ
    have HZ' := Lib.hid HZ
    have HV := Lib.hid hV
    obtain ⟨a, c, a', c', rfl⟩ := hV.sized
    clear HSZ HZ hV
    go_enter Try.func6, Try.ntmps6
    go_wp2_with fail
    refine (HZ'.out _ (HV.out.by (by ((repeat (first | (with_reducible exact Below.refl _ _) | (with_reducible refine below_drewN ?_ _) | (with_reducible refine Below.drew ?_) | (with_reducible refine below_al ?_ _) | (with_reducible refine below_on (by assumption) ?_) | ((with_reducible refine Below.setCell ?_ ?_ _); rotate_left; focus (first | omega | (simp; done) | (simp; omega))) | (with_reducible assumption))); done)))).mono ?_
    rintro e w1 ⟨rfl, hb1⟩
    go_wp2
    go_ret
    exact ⟨rfl, (by ((repeat (first | (with_reducible exact Below.refl _ _) | (with_reducible refine below_drewN ?_ _) | (with_reducible refine Below.drew ?_) | (with_reducible refine below_al ?_ _) | (with_reducible refine below_on (by assumption) ?_) | ((with_reducible refine Below.setCell ?_ ?_ _); rotate_left; focus (first | omega | (simp; done) | (simp; omega))) | (with_reducible assumption))); done))⟩
  · have HZ := HSZ.out
    rw [if_neg hbig] at HZ
    obtain ⟨n1, n2, n3⟩ := nlSize_bounds hbig
    obtain ⟨l, hl⟩ : ∃ l : Int, (1048576 : Int) - nlSize x.ds x.ps = l := ⟨_, rfl⟩
    have hl0 : 0 ≤ l := by omega
    rw [hl] at HZ
    have HZ' := Lib.hid HZ
    have HTO := Lib.hid (fun v w h => toNetlist_nl v x w h n1 n2 n3)
    have HSP := Lib.hid (fun v w h => specNetDegree_any x net v w h hpk hf)
    have HIM := Lib.hid (fun v w h => implNetDegree_any x net v w h hpk hf)
    have HEQ := Lib.hid (fun v1 v2 w h1 h2 => eqNetlist_refl v1 v2 x w h1 h2)
    generalize ndeg x net = r0 at *
    have HV := Lib.hid hV
    obtain ⟨a, c, a', c', rfl⟩ := hV.sized
    clear HSZ HZ hl hbig hpk hf hdk n1 n2 n3 hV
    go_enter Try.func6, Try.ntmps6
    go_wp2_with fail
    refine (HZ'.out _ (HV.out.by (by ((repeat (first | (with_reducible exact Below.refl _ _) | (with_reducible refine below_drewN ?_ _) | (with_reducible refine Below.drew ?_) | (with_reducible refine below_al ?_ _) | (with_reducible refine below_on (by assumption) ?_) | ((with_reducible refine Below.setCell ?_ ?_ _); rotate_left; focus (first | omega | (simp; done) | (simp; omega))) | (with_reducible assumption))); done)))).mono ?_
    rintro e w1 ⟨rfl, hb1⟩
    have kA : Blk w1 w.heap.size #[.int .i64 x.nets, .slice a x.ds.length c, .slice a' x.ps.length c'] 37 := (by ((repeat (first | (with_reducible assumption) | (with_reducible refine Blk.drewN ?_ _) | (with_reducible refine Blk.drew ?_) | ((with_reducible refine Blk.new _ ?_); focus (first | omega | (simp; done) | (simp; omega))) | (with_reducible refine Blk.past ?_ _) | ((with_reducible refine Blk.apart ?_ _ _ _ ?_); rotate_left; focus (first | omega | (simp; done) | (simp; omega))) | (with_reducible refine Blk.by (by assumption) ?_))); done))
    have hW : Below w.heap.size w w1 := (by ((repeat (first | (with_reducible exact Below.refl _ _) | (with_reducible refine below_drewN ?_ _) | (with_reducible refine Below.drew ?_) | (with_reducible refine below_al ?_ _) | (with_reducible refine below_on (by assumption) ?_) | ((with_reducible refine Below.setCell ?_ ?_ _); rotate_left; focus (first | omega | (simp; done) | (simp; omega))) | (with_reducible assumption))); done))
    clear hb1
    have cA := kA.cell
    go_wp2_with fail
    refine (HTO.out _ _ (HV.out.by hW)).mono ?_
    rintro e w2 ⟨v, rfl, hN2, hb2⟩
    replace kA := Blk.by hb2 kA
    replace hW := below_on hb2 hW
    clear cA hb2
    have cA := kA.cell
    have HN := Lib.hid hN2
    obtain ⟨a2, c2, a2', c2', rfl⟩ := hN2.sized
    clear hN2
    go_wp2_with fail
    refine (HSP.out _ _ HN.out).mono ?_
    rintro e w3 ⟨rfl, hb3⟩
    replace kA := Blk.by hb3 kA
    replace hW := below_on hb3 hW
    clear cA hb3 HN
    have cA := kA.cell
    go_wp2_with fail
    refine (HTO.out _ _ (HV.out.by hW)).mono ?_
    rintro e w4 ⟨v, rfl, hN4, hb4⟩
    replace kA := Blk.by hb4 kA
    replace hW := below_on hb4 hW
    clear cA hb4
    have cA := kA.cell
    have lA := kA.lt
    have HN4 := Lib.hid hN4
    obtain ⟨a4, c4, a4', c4', rfl⟩ := hN4.sized
    clear hN4
    have kX : Blk (w4.alloc (.cells #[.int .i64 x.nets, .slice a4 x.ds.length c4, .slice a4' x.ps.length c4'] 43)) w4.heap.size #[.int .i64 x.nets, .slice a4 x.ds.length c4, .slice a4' x.ps.length c4'] 43 := Blk.new _ rfl
    have hW5 := below_al hW (.cells #[.int .i64 x.nets, .slice a4 x.ds.length c4, .slice a4' x.ps.length c4'] 43)
    have HN5 := Lib.hid (HN4.out.by ((Below.refl _ w4).alloc (Nat.le_refl _) (.cells #[.int .i64 x.nets, .slice a4 x.ds.length c4, .slice a4' x.ps.length c4'] 43)))
    go_wp2_with fail
    refine (HIM.out _ _ HN5.out).mono ?_
    rintro e w5 ⟨rfl, hb5⟩
    replace kX := Blk.by hb5 kX
    replace kA := Blk.by hb5 (kA.past _)
    replace hW := below_on hb5 hW5
    have HN6 := Lib.hid (HN5.out.by hb5)
    clear cA hb5 HN5 hW5 lA HN4
    generalize w4.heap.size = p at *
    have cA := kA.cell
    have cX := kX.cell
    go_wp2_with fail
    go_region_held3 (fun w' => (Blk w' w.heap.size #[.int .i64 x.nets, .slice a x.ds.length c, .slice a' x.ps.length c'] 37 ∧ ∀ o, w'.cell? ⟨w.heap.size, o, none⟩ = (#[.int .i64 x.nets, .slice a x.ds.length c, .slice a' x.ps.length c'] : Array Value)[o]?) ∧ (Blk w' p #[.int .i64 x.nets, .slice a4 x.ds.length c4, .slice a4' x.ps.length c4'] 43 ∧ ∀ o, w'.cell? ⟨p, o, none⟩ = (#[.int .i64 x.nets, .slice a4 x.ds.length c4, .slice a4' x.ps.length c4'] : Array Value)[o]?) ∧ Below w.heap.size w w') (((try (obtain ⟨⟨hS0, _⟩, ⟨hS1, _⟩, hSB⟩ := hHeld)); refine ⟨Blk.both ?_, Blk.both ?_, ?_⟩ <;> first | ((repeat (first | (with_reducible assumption) | (with_reducible refine Blk.drewN ?_ _) | (with_reducible refine Blk.drew ?_) | ((with_reducible refine Blk.new _ ?_); focus (first | omega | (simp; done) | (simp; omega))) | (with_reducible refine Blk.past ?_ _) | ((with_reducible refine Blk.apart ?_ _ _ _ ?_); rotate_left; focus (first | omega | (simp; done) | (simp; omega))) | (with_reducible refine Blk.by (by assumption) ?_))); done) | ((repeat (first | (with_reducible exact Below.refl _ _) | (with_reducible refine below_drewN ?_ _) | (with_reducible refine Below.drew ?_) | (with_reducible refine below_al ?_ _) | (with_reducible refine below_on (by assumption) ?_) | ((with_reducible refine Below.setCell ?_ ?_ _); rotate_left; focus (first | omega | (simp; done) | (simp; omega))) | (with_reducible assumption))); done)))
      (first | (go_at_call 26; refine (HTO.out _ _ ((HV.out.by hW).by (below_of_drewN w5 1))).mono ?_; rintro e w6 ⟨v6, rfl, hN6, hb6⟩; have HN7 := Lib.hid hN6; obtain ⟨a6, c6, a6', c6', rfl⟩ := hN6.sized; clear hN6) | (go_at_call 28; refine (HEQ.out _ _ _ ((HN6.out.by (below_of_drewN w5 1)).by hb6) HN7.out).mono ?_; rintro e w7 ⟨rfl, hb7⟩))
    go_wp2
    go_ret
    exact ⟨rfl, (by ((repeat (first | (with_reducible exact Below.refl _ _) | (with_reducible refine below_drewN ?_ _) | (with_reducible refine Below.drew ?_) | (with_reducible refine below_al ?_ _) | (with_reducible refine below_on (by assumption) ?_) | ((with_reducible refine Below.setCell ?_ ?_ _); rotate_left; focus (first | omega | (simp; done) | (simp; omega))) | (with_reducible assumption))); done))⟩
end Go.Proofs.Ythcaipohdeigeaa.fnExactNetDegree
