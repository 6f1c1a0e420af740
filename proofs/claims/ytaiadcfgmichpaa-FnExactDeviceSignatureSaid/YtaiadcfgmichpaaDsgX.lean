/- Both DeviceSignature: the wrappers. -/
import Derived.Test.YtaiadcfgmichpaaDsgW
namespace Go.Proofs.Ytaiadcfgmichpaa
open Go.RowKit
set_option linter.unusedVariables false
set_option linter.unusedSimpArgs false

theorem dsgS_no {x : Nl} {c : List Int × List Int} (k : Int) (h : coB x c = false) : dsgS x c k = [] := by simp [dsgS, h]
theorem dsgS_out {x : Nl} {c : List Int × List Int} {k : Int} (h : inB k 0 ((x.ds.length : Int) - 1) = false) : dsgS x c k = [] := by
  unfold dsgS
  rw [if_neg]
  rintro ⟨_, h1, h2⟩
  have := inB_iff.2 (show 0 ≤ k ∧ k ≤ (x.ds.length : Int) - 1 by omega)
  rw [h] at this; cases this
theorem dsgS_in {x : Nl} {c : List Int × List Int} {k : Nat} {d : Dv} (h : coB x c = true) (hx : x.ds[k]? = some d) : dsgS x c k = dsgL d (nmOf c.2 k) c.1 := by
  have := (List.getElem?_eq_some_iff.1 hx).1
  unfold dsgS
  rw [if_pos ⟨h, by omega, by omega⟩]
  simp [hx]

set_option maxRecDepth 100000 in
set_option maxHeartbeats 1000000 in
theorem specDsg_any (x : Nl) (c : List Int × List Int) (k : Int) (v u : Value) (w : World) (h : NlV w v x) (hc : CoV w u c) (hok : ∀ p ∈ x.ps, p.ok) (hnn : Fits x.nets) (hlen : x.ds.length ≤ 1048576) :
    Calls Try.prog 13 #[v, u, .int .i64 k] w fun e w' => ∃ v', e = .returned v' ∧ OwnR w' w.heap.size w'.heap.size v' (dsgS x c k) ∧ Below w.heap.size w w' := by
  have HC := Lib.hid (fun v u w h h' => specIsColoring_any x c v u w h h' hok hnn)
  have HN := Lib.hid h
  have HU := Lib.hid hc
  obtain ⟨a, ca, a', ca', rfl⟩ := h.sized
  obtain ⟨b, cb, b', cb', rfl⟩ := hc.sized
  cases hv : coB x c with
  | false =>
    rw [hv] at HC
    rw [dsgS_no k hv]
    clear hv h hc hok
    go_enter Try.func13, Try.ntmps13
    go_wp2_with (go_at_call 51; refine (HC.out _ _ _ (HN.out.by (by ((repeat (first | (with_reducible exact Below.refl _ _) | (with_reducible refine below_drewN ?_ _) | (with_reducible refine Below.drew ?_) | (with_reducible refine below_al ?_ _) | (with_reducible refine below_on (by assumption) ?_) | ((with_reducible refine Below.setCell ?_ ?_ _); rotate_left; focus (first | omega | (simp; done) | (simp; omega))) | (with_reducible assumption))); done))) (HU.out.by (by ((repeat (first | (with_reducible exact Below.refl _ _) | (with_reducible refine below_drewN ?_ _) | (with_reducible refine Below.drew ?_) | (with_reducible refine below_al ?_ _) | (with_reducible refine below_on (by assumption) ?_) | ((with_reducible refine Below.setCell ?_ ?_ _); rotate_left; focus (first | omega | (simp; done) | (simp; omega))) | (with_reducible assumption))); done)))).mono ?_; rintro e w1 ⟨rfl, hb1⟩)
    go_ret
    exact ⟨_, rfl, .inl ⟨_, _, rfl, rfl⟩, (by ((repeat (first | (with_reducible exact Below.refl _ _) | (with_reducible refine below_drewN ?_ _) | (with_reducible refine Below.drew ?_) | (with_reducible refine below_al ?_ _) | (with_reducible refine below_on (by assumption) ?_) | ((with_reducible refine Below.setCell ?_ ?_ _); rotate_left; focus (first | omega | (simp; done) | (simp; omega))) | (with_reducible assumption))); done))⟩
  | true =>
    rw [hv] at HC
    cases hi : inB k 0 ((x.ds.length : Int) - 1) with
    | false =>
      rw [dsgS_out hi]
      have HI := Lib.hid hi
      clear hv h hc hok hi
      go_enter Try.func13, Try.ntmps13
      go_wp2_with fail
      refine (HC.out _ _ _ (HN.out.by (by ((repeat (first | (with_reducible exact Below.refl _ _) | (with_reducible refine below_drewN ?_ _) | (with_reducible refine Below.drew ?_) | (with_reducible refine below_al ?_ _) | (with_reducible refine below_on (by assumption) ?_) | ((with_reducible refine Below.setCell ?_ ?_ _); rotate_left; focus (first | omega | (simp; done) | (simp; omega))) | (with_reducible assumption))); done))) (HU.out.by (by ((repeat (first | (with_reducible exact Below.refl _ _) | (with_reducible refine below_drewN ?_ _) | (with_reducible refine Below.drew ?_) | (with_reducible refine below_al ?_ _) | (with_reducible refine below_on (by assumption) ?_) | ((with_reducible refine Below.setCell ?_ ?_ _); rotate_left; focus (first | omega | (simp; done) | (simp; omega))) | (with_reducible assumption))); done)))).mono ?_
      rintro e w1 ⟨rfl, hb1⟩
      have k0 : Blk w1 w.heap.size #[.int .i64 x.nets, .slice a x.ds.length ca, .slice a' x.ps.length ca'] 35 := (by ((repeat (first | (with_reducible assumption) | (with_reducible refine Blk.drewN ?_ _) | (with_reducible refine Blk.drew ?_) | ((with_reducible refine Blk.new _ ?_); focus (first | omega | (simp; done) | (simp; omega))) | (with_reducible refine Blk.past ?_ _) | ((with_reducible refine Blk.apart ?_ _ _ _ ?_); rotate_left; focus (first | omega | (simp; done) | (simp; omega))) | (with_reducible refine Blk.by (by assumption) ?_))); done))
      have c0 := k0.cell
      have hbw : Below w.heap.size w w1 := (by ((repeat (first | (with_reducible exact Below.refl _ _) | (with_reducible refine below_drewN ?_ _) | (with_reducible refine Below.drew ?_) | (with_reducible refine below_al ?_ _) | (with_reducible refine below_on (by assumption) ?_) | ((with_reducible refine Below.setCell ?_ ?_ _); rotate_left; focus (first | omega | (simp; done) | (simp; omega))) | (with_reducible assumption))); done))
      clear hb1
      go_wp2_with fail
      refine (l16In_any _ _ _ _).mono ?_
      rintro e w2 ⟨rfl, rfl⟩
      rw [HI.out]
      go_wp2
      go_ret
      exact ⟨_, rfl, .inl ⟨_, _, rfl, rfl⟩, (by ((repeat (first | (with_reducible exact Below.refl _ _) | (with_reducible refine below_drewN ?_ _) | (with_reducible refine Below.drew ?_) | (with_reducible refine below_al ?_ _) | (with_reducible refine below_on (by assumption) ?_) | ((with_reducible refine Below.setCell ?_ ?_ _); rotate_left; focus (first | omega | (simp; done) | (simp; omega))) | (with_reducible assumption))); done))⟩
    | true =>
      have hk := inB_iff.1 hi
      obtain ⟨k', rfl⟩ : ∃ k' : Nat, k = k' := ⟨k.toNat, by omega⟩
      obtain ⟨d, hx⟩ : ∃ d, x.ds[k']? = some d := ⟨x.ds[k']'(by omega), List.getElem?_eq_getElem (by omega)⟩
      obtain ⟨f1, f2, f3, f4⟩ := coB_facts hv
      obtain ⟨f5, f6⟩ := f4 d (List.mem_of_getElem? hx)
      rw [dsgS_in hv hx]
      have HD := Lib.hid (fun v u w h h' => l29Device_any x c k' d v u w h h' hx (by omega) f5 f6 f1 f2)
      have HI := Lib.hid hi
      clear hv h hc hok hi hk hx f1 f2 f3 f4 f5 f6
      generalize dsgL d (nmOf c.2 (k' : Int)) c.1 = R at *
      go_enter Try.func13, Try.ntmps13
      go_wp2_with fail
      refine (HC.out _ _ _ (HN.out.by (by ((repeat (first | (with_reducible exact Below.refl _ _) | (with_reducible refine below_drewN ?_ _) | (with_reducible refine Below.drew ?_) | (with_reducible refine below_al ?_ _) | (with_reducible refine below_on (by assumption) ?_) | ((with_reducible refine Below.setCell ?_ ?_ _); rotate_left; focus (first | omega | (simp; done) | (simp; omega))) | (with_reducible assumption))); done))) (HU.out.by (by ((repeat (first | (with_reducible exact Below.refl _ _) | (with_reducible refine below_drewN ?_ _) | (with_reducible refine Below.drew ?_) | (with_reducible refine below_al ?_ _) | (with_reducible refine below_on (by assumption) ?_) | ((with_reducible refine Below.setCell ?_ ?_ _); rotate_left; focus (first | omega | (simp; done) | (simp; omega))) | (with_reducible assumption))); done)))).mono ?_
      rintro e w1 ⟨rfl, hb1⟩
      have k0 : Blk w1 w.heap.size #[.int .i64 x.nets, .slice a x.ds.length ca, .slice a' x.ps.length ca'] 35 := (by ((repeat (first | (with_reducible assumption) | (with_reducible refine Blk.drewN ?_ _) | (with_reducible refine Blk.drew ?_) | ((with_reducible refine Blk.new _ ?_); focus (first | omega | (simp; done) | (simp; omega))) | (with_reducible refine Blk.past ?_ _) | ((with_reducible refine Blk.apart ?_ _ _ _ ?_); rotate_left; focus (first | omega | (simp; done) | (simp; omega))) | (with_reducible refine Blk.by (by assumption) ?_))); done))
      have k1 : Blk w1 (w.heap.size + 1) #[.slice b c.1.length cb, .slice b' c.2.length cb'] 37 := (by ((repeat (first | (with_reducible assumption) | (with_reducible refine Blk.drewN ?_ _) | (with_reducible refine Blk.drew ?_) | ((with_reducible refine Blk.new _ ?_); focus (first | omega | (simp; done) | (simp; omega))) | (with_reducible refine Blk.past ?_ _) | ((with_reducible refine Blk.apart ?_ _ _ _ ?_); rotate_left; focus (first | omega | (simp; done) | (simp; omega))) | (with_reducible refine Blk.by (by assumption) ?_))); done))
      have c0 := k0.cell
      have c1 := k1.cell
      have hbw : Below w.heap.size w w1 := (by ((repeat (first | (with_reducible exact Below.refl _ _) | (with_reducible refine below_drewN ?_ _) | (with_reducible refine Below.drew ?_) | (with_reducible refine below_al ?_ _) | (with_reducible refine below_on (by assumption) ?_) | ((with_reducible refine Below.setCell ?_ ?_ _); rotate_left; focus (first | omega | (simp; done) | (simp; omega))) | (with_reducible assumption))); done))
      clear hb1
      go_wp2_with fail
      refine (l16In_any _ _ _ _).mono ?_
      rintro e w2 ⟨rfl, rfl⟩
      rw [HI.out]
      go_wp2_with fail
      refine (HD.out _ _ _ (HN.out.by hbw) (HU.out.by hbw)).mono ?_
      rintro e w2 ⟨v2, rfl, hO, hb2⟩
      go_wp2
      go_ret
      exact ⟨_, rfl, OwnR.wide' hO (by have := hbw.size; omega) (Nat.le_refl _), below_on hb2 hbw⟩

set_option maxRecDepth 100000 in
set_option maxHeartbeats 1000000 in
theorem implDsg_any (x : Nl) (c : List Int × List Int) (k : Int) (v u : Value) (w : World) (h : NlV w v x) (hc : CoV w u c) (hok : ∀ p ∈ x.ps, p.ok) (hnn : Fits x.nets) (hlen : x.ds.length ≤ 1048576) :
    Calls Try.prog 16 #[v, u, .int .i64 k] w fun e w' => ∃ v', e = .returned v' ∧ OwnR w' w.heap.size w'.heap.size v' (dsgS x c k) ∧ Below w.heap.size w w' := by
  have HC := Lib.hid (fun v u w h h' => implIsColoring_any x c v u w h h' hok hnn)
  have HN := Lib.hid h
  have HU := Lib.hid hc
  obtain ⟨a, ca, a', ca', rfl⟩ := h.sized
  obtain ⟨b, cb, b', cb', rfl⟩ := hc.sized
  cases hv : coB x c with
  | false =>
    rw [hv] at HC
    rw [dsgS_no k hv]
    clear hv h hc hok
    go_enter Try.func16, Try.ntmps16
    go_wp2_with (go_at_call 56; refine (HC.out _ _ _ (HN.out.by (by ((repeat (first | (with_reducible exact Below.refl _ _) | (with_reducible refine below_drewN ?_ _) | (with_reducible refine Below.drew ?_) | (with_reducible refine below_al ?_ _) | (with_reducible refine below_on (by assumption) ?_) | ((with_reducible refine Below.setCell ?_ ?_ _); rotate_left; focus (first | omega | (simp; done) | (simp; omega))) | (with_reducible assumption))); done))) (HU.out.by (by ((repeat (first | (with_reducible exact Below.refl _ _) | (with_reducible refine below_drewN ?_ _) | (with_reducible refine Below.drew ?_) | (with_reducible refine below_al ?_ _) | (with_reducible refine below_on (by assumption) ?_) | ((with_reducible refine Below.setCell ?_ ?_ _); rotate_left; focus (first | omega | (simp; done) | (simp; omega))) | (with_reducible assumption))); done)))).mono ?_; rintro e w1 ⟨rfl, hb1⟩)
    go_ret
    exact ⟨_, rfl, .inl ⟨_, _, rfl, rfl⟩, (by ((repeat (first | (with_reducible exact Below.refl _ _) | (with_reducible refine below_drewN ?_ _) | (with_reducible refine Below.drew ?_) | (with_reducible refine below_al ?_ _) | (with_reducible refine below_on (by assumption) ?_) | ((with_reducible refine Below.setCell ?_ ?_ _); rotate_left; focus (first | omega | (simp; done) | (simp; omega))) | (with_reducible assumption))); done))⟩
  | true =>
    rw [hv] at HC
    cases hi : inB k 0 ((x.ds.length : Int) - 1) with
    | false =>
      rw [dsgS_out hi]
      have HI := Lib.hid hi
      clear hv h hc hok hi
      go_enter Try.func16, Try.ntmps16
      go_wp2_with fail
      refine (HC.out _ _ _ (HN.out.by (by ((repeat (first | (with_reducible exact Below.refl _ _) | (with_reducible refine below_drewN ?_ _) | (with_reducible refine Below.drew ?_) | (with_reducible refine below_al ?_ _) | (with_reducible refine below_on (by assumption) ?_) | ((with_reducible refine Below.setCell ?_ ?_ _); rotate_left; focus (first | omega | (simp; done) | (simp; omega))) | (with_reducible assumption))); done))) (HU.out.by (by ((repeat (first | (with_reducible exact Below.refl _ _) | (with_reducible refine below_drewN ?_ _) | (with_reducible refine Below.drew ?_) | (with_reducible refine below_al ?_ _) | (with_reducible refine below_on (by assumption) ?_) | ((with_reducible refine Below.setCell ?_ ?_ _); rotate_left; focus (first | omega | (simp; done) | (simp; omega))) | (with_reducible assumption))); done)))).mono ?_
      rintro e w1 ⟨rfl, hb1⟩
      have k0 : Blk w1 w.heap.size #[.int .i64 x.nets, .slice a x.ds.length ca, .slice a' x.ps.length ca'] 35 := (by ((repeat (first | (with_reducible assumption) | (with_reducible refine Blk.drewN ?_ _) | (with_reducible refine Blk.drew ?_) | ((with_reducible refine Blk.new _ ?_); focus (first | omega | (simp; done) | (simp; omega))) | (with_reducible refine Blk.past ?_ _) | ((with_reducible refine Blk.apart ?_ _ _ _ ?_); rotate_left; focus (first | omega | (simp; done) | (simp; omega))) | (with_reducible refine Blk.by (by assumption) ?_))); done))
      have c0 := k0.cell
      have hbw : Below w.heap.size w w1 := (by ((repeat (first | (with_reducible exact Below.refl _ _) | (with_reducible refine below_drewN ?_ _) | (with_reducible refine Below.drew ?_) | (with_reducible refine below_al ?_ _) | (with_reducible refine below_on (by assumption) ?_) | ((with_reducible refine Below.setCell ?_ ?_ _); rotate_left; focus (first | omega | (simp; done) | (simp; omega))) | (with_reducible assumption))); done))
      clear hb1
      go_wp2_with fail
      refine (within_any _ _ _ _).mono ?_
      rintro e w2 ⟨rfl, rfl⟩
      rw [HI.out]
      go_wp2
      go_ret
      exact ⟨_, rfl, .inl ⟨_, _, rfl, rfl⟩, (by ((repeat (first | (with_reducible exact Below.refl _ _) | (with_reducible refine below_drewN ?_ _) | (with_reducible refine Below.drew ?_) | (with_reducible refine below_al ?_ _) | (with_reducible refine below_on (by assumption) ?_) | ((with_reducible refine Below.setCell ?_ ?_ _); rotate_left; focus (first | omega | (simp; done) | (simp; omega))) | (with_reducible assumption))); done))⟩
    | true =>
      have hk := inB_iff.1 hi
      obtain ⟨k', rfl⟩ : ∃ k' : Nat, k = k' := ⟨k.toNat, by omega⟩
      obtain ⟨d, hx⟩ : ∃ d, x.ds[k']? = some d := ⟨x.ds[k']'(by omega), List.getElem?_eq_getElem (by omega)⟩
      obtain ⟨f1, f2, f3, f4⟩ := coB_facts hv
      obtain ⟨f5, f6⟩ := f4 d (List.mem_of_getElem? hx)
      rw [dsgS_in hv hx]
      have HD := Lib.hid (fun v u w h h' => dsgDevice_any x c k' d v u w h h' hx (by omega) f5 f6 f1 f2)
      have HI := Lib.hid hi
      clear hv h hc hok hi hk hx f1 f2 f3 f4 f5 f6
      generalize dsgL d (nmOf c.2 (k' : Int)) c.1 = R at *
      go_enter Try.func16, Try.ntmps16
      go_wp2_with fail
      refine (HC.out _ _ _ (HN.out.by (by ((repeat (first | (with_reducible exact Below.refl _ _) | (with_reducible refine below_drewN ?_ _) | (with_reducible refine Below.drew ?_) | (with_reducible refine below_al ?_ _) | (with_reducible refine below_on (by assumption) ?_) | ((with_reducible refine Below.setCell ?_ ?_ _); rotate_left; focus (first | omega | (simp; done) | (simp; omega))) | (with_reducible assumption))); done))) (HU.out.by (by ((repeat (first | (with_reducible exact Below.refl _ _) | (with_reducible refine below_drewN ?_ _) | (with_reducible refine Below.drew ?_) | (with_reducible refine below_al ?_ _) | (with_reducible refine below_on (by assumption) ?_) | ((with_reducible refine Below.setCell ?_ ?_ _); rotate_left; focus (first | omega | (simp; done) | (simp; omega))) | (with_reducible assumption))); done)))).mono ?_
      rintro e w1 ⟨rfl, hb1⟩
      have k0 : Blk w1 w.heap.size #[.int .i64 x.nets, .slice a x.ds.length ca, .slice a' x.ps.length ca'] 35 := (by ((repeat (first | (with_reducible assumption) | (with_reducible refine Blk.drewN ?_ _) | (with_reducible refine Blk.drew ?_) | ((with_reducible refine Blk.new _ ?_); focus (first | omega | (simp; done) | (simp; omega))) | (with_reducible refine Blk.past ?_ _) | ((with_reducible refine Blk.apart ?_ _ _ _ ?_); rotate_left; focus (first | omega | (simp; done) | (simp; omega))) | (with_reducible refine Blk.by (by assumption) ?_))); done))
      have k1 : Blk w1 (w.heap.size + 1) #[.slice b c.1.length cb, .slice b' c.2.length cb'] 37 := (by ((repeat (first | (with_reducible assumption) | (with_reducible refine Blk.drewN ?_ _) | (with_reducible refine Blk.drew ?_) | ((with_reducible refine Blk.new _ ?_); focus (first | omega | (simp; done) | (simp; omega))) | (with_reducible refine Blk.past ?_ _) | ((with_reducible refine Blk.apart ?_ _ _ _ ?_); rotate_left; focus (first | omega | (simp; done) | (simp; omega))) | (with_reducible refine Blk.by (by assumption) ?_))); done))
      have c0 := k0.cell
      have c1 := k1.cell
      have hbw : Below w.heap.size w w1 := (by ((repeat (first | (with_reducible exact Below.refl _ _) | (with_reducible refine below_drewN ?_ _) | (with_reducible refine Below.drew ?_) | (with_reducible refine below_al ?_ _) | (with_reducible refine below_on (by assumption) ?_) | ((with_reducible refine Below.setCell ?_ ?_ _); rotate_left; focus (first | omega | (simp; done) | (simp; omega))) | (with_reducible assumption))); done))
      clear hb1
      go_wp2_with fail
      refine (within_any _ _ _ _).mono ?_
      rintro e w2 ⟨rfl, rfl⟩
      rw [HI.out]
      go_wp2_with fail
      refine (HD.out _ _ _ (HN.out.by hbw) (HU.out.by hbw)).mono ?_
      rintro e w2 ⟨v2, rfl, hO, hb2⟩
      go_wp2
      go_ret
      exact ⟨_, rfl, OwnR.wide' hO (by have := hbw.size; omega) (Nat.le_refl _), below_on hb2 hbw⟩
end Go.Proofs.Ytaiadcfgmichpaa
