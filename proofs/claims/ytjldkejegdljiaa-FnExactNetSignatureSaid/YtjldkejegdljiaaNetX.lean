/- The program's NetSignature. -/
import Derived.Test.YtjldkejegdljiaaImplNet
import Derived.Test.YtjldkejegdljiaaNetC
namespace Go.Proofs.Ytjldkejegdljiaa
open Go.RowKit
set_option linter.unusedVariables false
set_option linter.unusedSimpArgs false

theorem implNets_any (x : Nl) (c : List Int × List Int) (m : Nat) (v u : Value) (w : World) (h : NlV w v x) (hc : CoV w u c) (hm : x.nets = m) (hm24 : m ≤ 24) (hl : x.ds.length ≤ 24) (hcn : c.1.length = m) (hcd : c.2.length = x.ds.length)
    (hpn : ∀ d ∈ x.ds, d.pins.length ≤ 3 ∧ ∀ p ∈ d.pins, 0 ≤ p ∧ p < m) (hO : ∀ net, ∀ o ∈ occs x.ds c.2 net x.ds.length, ∃ q r : Nat, q < 24 ∧ r < 3 ∧ o = [(q : Int), (r : Int)]) :
    Calls Try.prog 67 #[v, u] w fun e w' => ∃ v', e = .returned v' ∧ BldL w' w.heap.size w'.heap.size v' ((List.range m).map fun j : Nat => netL' x c (j : Int)) ∧ Below w.heap.size w w' :=
  implNet_any x c m v u w h hc hm hm24 hl hcn hcd hpn hO (Lib.hid (fun L P v ls w h hn => sortRow_any L P v ls w h hn))
theorem BldL.at {w : World} {lo hi : Nat} {v : Value} {ls : List (List Int)} (h : BldL w lo hi v ls) (i : Nat) (x : List Int) (hx : ls[i]? = some x) :
    ∃ g cap s fi, v = .slice (some ⟨g, 0, none⟩) ls.length cap ∧ w.cell? ⟨g, i, none⟩ = some s ∧ OwnR w fi (fi + 1) s x ∧ lo ≤ fi ∧ fi < hi := by
  obtain ⟨hs, vs, f, ⟨hlen, h1⟩, h2, h3, h4⟩ := h
  have hi' : i < ls.length := (List.getElem?_eq_some_iff.1 hx).1
  rcases h1 with ⟨h1, hn⟩ | ⟨g, cap, cur, e1, e2, e3, e4, e5, e6, e7⟩
  · omega
  · obtain ⟨s, hsv⟩ : ∃ s, vs[i]? = some s := ⟨vs[i]'(by omega), List.getElem?_eq_getElem (by omega)⟩
    have h6 := hsv
    rw [← e7, List.getElem?_take_of_lt (by omega)] at h6
    have hB : Blk w g cur 39 := e3
    obtain ⟨a, b, c⟩ := h4 i x s hx hsv
    exact ⟨g, cap, s, f i, e1, by rw [hB.cell]; simpa using h6, a, b.1, b.2⟩

set_option maxRecDepth 100000 in
set_option maxHeartbeats 1000000 in
theorem implNSig_any (x : Nl) (c : List Int × List Int) (k : Int) (v u : Value) (w : World) (h : NlV w v x) (hc : CoV w u c) (hok : ∀ p ∈ x.ps, p.ok) (hnn : Fits x.nets) :
    Calls Try.prog 27 #[v, u, .int .i64 k] w fun e w' => ∃ v', e = .returned v' ∧ OwnR w' w.heap.size w'.heap.size v' (netS x c k) ∧ Below w.heap.size w w' := by
  have HC := Lib.hid (fun v u w h h' => implIsColoring_any x c v u w h h' hok hnn)
  have HN := Lib.hid h
  have HU := Lib.hid hc
  obtain ⟨a, ca, a', ca', rfl⟩ := h.sized
  obtain ⟨b, cb, b', cb', rfl⟩ := hc.sized
  cases hv : coB x c with
  | false =>
    rw [hv] at HC
    rw [netS_no k hv]
    clear hv h hc hok
    go_enter Try.func27, Try.ntmps27
    go_wp2_with (go_at_call 65; refine (HC.out _ _ _ (HN.out.by (by ((repeat (first | (with_reducible exact Below.refl _ _) | (with_reducible refine below_drewN ?_ _) | (with_reducible refine Below.drew ?_) | (with_reducible refine below_al ?_ _) | (with_reducible refine below_on (by assumption) ?_) | ((with_reducible refine Below.setCell ?_ ?_ _); rotate_left; focus (first | omega | (simp; done) | (simp; omega))) | (with_reducible assumption))); done))) (HU.out.by (by ((repeat (first | (with_reducible exact Below.refl _ _) | (with_reducible refine below_drewN ?_ _) | (with_reducible refine Below.drew ?_) | (with_reducible refine below_al ?_ _) | (with_reducible refine below_on (by assumption) ?_) | ((with_reducible refine Below.setCell ?_ ?_ _); rotate_left; focus (first | omega | (simp; done) | (simp; omega))) | (with_reducible assumption))); done)))).mono ?_; rintro e w1 ⟨rfl, hb1⟩)
    go_ret
    exact ⟨_, rfl, .inl ⟨_, _, rfl, rfl⟩, (by ((repeat (first | (with_reducible exact Below.refl _ _) | (with_reducible refine below_drewN ?_ _) | (with_reducible refine Below.drew ?_) | (with_reducible refine below_al ?_ _) | (with_reducible refine below_on (by assumption) ?_) | ((with_reducible refine Below.setCell ?_ ?_ _); rotate_left; focus (first | omega | (simp; done) | (simp; omega))) | (with_reducible assumption))); done))⟩
  | true =>
    rw [hv] at HC
    have HWR := Lib.hid (show wrap64 (x.nets - 1) = x.nets - 1 from by have := (coB_nets hv).2.1; unfold wrap64; omega)
    cases hi : inB k 0 (x.nets - 1) with
    | false =>
      rw [netS_out hi]
      have HI := Lib.hid hi
      clear hv h hc hok hi
      go_enter Try.func27, Try.ntmps27
      go_wp2_with fail
      refine (HC.out _ _ _ (HN.out.by (by ((repeat (first | (with_reducible exact Below.refl _ _) | (with_reducible refine below_drewN ?_ _) | (with_reducible refine Below.drew ?_) | (with_reducible refine below_al ?_ _) | (with_reducible refine below_on (by assumption) ?_) | ((with_reducible refine Below.setCell ?_ ?_ _); rotate_left; focus (first | omega | (simp; done) | (simp; omega))) | (with_reducible assumption))); done))) (HU.out.by (by ((repeat (first | (with_reducible exact Below.refl _ _) | (with_reducible refine below_drewN ?_ _) | (with_reducible refine Below.drew ?_) | (with_reducible refine below_al ?_ _) | (with_reducible refine below_on (by assumption) ?_) | ((with_reducible refine Below.setCell ?_ ?_ _); rotate_left; focus (first | omega | (simp; done) | (simp; omega))) | (with_reducible assumption))); done)))).mono ?_
      rintro e w1 ⟨rfl, hb1⟩
      have k0 : Blk w1 w.heap.size #[.int .i64 x.nets, .slice a x.ds.length ca, .slice a' x.ps.length ca'] 30 := (by ((repeat (first | (with_reducible assumption) | (with_reducible refine Blk.drewN ?_ _) | (with_reducible refine Blk.drew ?_) | ((with_reducible refine Blk.new _ ?_); focus (first | omega | (simp; done) | (simp; omega))) | (with_reducible refine Blk.past ?_ _) | ((with_reducible refine Blk.apart ?_ _ _ _ ?_); rotate_left; focus (first | omega | (simp; done) | (simp; omega))) | (with_reducible refine Blk.by (by assumption) ?_))); done))
      have c0 := k0.cell
      have hbw : Below w.heap.size w w1 := (by ((repeat (first | (with_reducible exact Below.refl _ _) | (with_reducible refine below_drewN ?_ _) | (with_reducible refine Below.drew ?_) | (with_reducible refine below_al ?_ _) | (with_reducible refine below_on (by assumption) ?_) | ((with_reducible refine Below.setCell ?_ ?_ _); rotate_left; focus (first | omega | (simp; done) | (simp; omega))) | (with_reducible assumption))); done))
      clear hb1
      go_wp2_with fail
      refine (within_any _ _ _ _).mono ?_
      rintro e w2 ⟨rfl, rfl⟩
      rw [HWR.out, HI.out]
      go_wp2
      go_ret
      exact ⟨_, rfl, .inl ⟨_, _, rfl, rfl⟩, (by ((repeat (first | (with_reducible exact Below.refl _ _) | (with_reducible refine below_drewN ?_ _) | (with_reducible refine Below.drew ?_) | (with_reducible refine below_al ?_ _) | (with_reducible refine below_on (by assumption) ?_) | ((with_reducible refine Below.setCell ?_ ?_ _); rotate_left; focus (first | omega | (simp; done) | (simp; omega))) | (with_reducible assumption))); done))⟩
    | true =>
      have hk := inB_iff.1 hi
      obtain ⟨k', rfl⟩ : ∃ k' : Nat, k = k' := ⟨k.toNat, by omega⟩
      obtain ⟨f1, f2, f3, f4⟩ := coB_facts hv
      obtain ⟨g1, g2, g3, g4⟩ := coB_nets hv
      rw [netS_in hv hi]
      have hkm : k' < c.1.length := by omega
      obtain ⟨Z, hZ⟩ : ∃ Z, ((List.range c.1.length).map fun j : Nat => netL' x c (j : Int)) = Z := ⟨_, rfl⟩
      have hZk : Z[k']? = some (netL' x c (k' : Int)) := by rw [← hZ]; simp [hkm]
      have hZl : Z.length = c.1.length := by rw [← hZ]; simp
      have HD := Lib.hid (fun v u w h h' => implNets_any x c c.1.length v u w h h' (by omega) f2 f1 rfl f3 (fun d hd => ⟨g3 d hd, fun p hp => (f4 d hd).2 p hp⟩) (occs_ok hv))
      rw [hZ] at HD
      have HI := Lib.hid hi
      have HZK := Lib.hid hZk
      have hzl : k' < Z.length := by omega
      clear hv h hc hok hi hk f1 f2 f3 f4 g1 g2 g3 g4 hZ hZk hZl
      generalize netL' x c (k' : Int) = R at *
      go_enter Try.func27, Try.ntmps27
      go_wp2_with fail
      refine (HC.out _ _ _ (HN.out.by (by ((repeat (first | (with_reducible exact Below.refl _ _) | (with_reducible refine below_drewN ?_ _) | (with_reducible refine Below.drew ?_) | (with_reducible refine below_al ?_ _) | (with_reducible refine below_on (by assumption) ?_) | ((with_reducible refine Below.setCell ?_ ?_ _); rotate_left; focus (first | omega | (simp; done) | (simp; omega))) | (with_reducible assumption))); done))) (HU.out.by (by ((repeat (first | (with_reducible exact Below.refl _ _) | (with_reducible refine below_drewN ?_ _) | (with_reducible refine Below.drew ?_) | (with_reducible refine below_al ?_ _) | (with_reducible refine below_on (by assumption) ?_) | ((with_reducible refine Below.setCell ?_ ?_ _); rotate_left; focus (first | omega | (simp; done) | (simp; omega))) | (with_reducible assumption))); done)))).mono ?_
      rintro e w1 ⟨rfl, hb1⟩
      have k0 : Blk w1 w.heap.size #[.int .i64 x.nets, .slice a x.ds.length ca, .slice a' x.ps.length ca'] 30 := (by ((repeat (first | (with_reducible assumption) | (with_reducible refine Blk.drewN ?_ _) | (with_reducible refine Blk.drew ?_) | ((with_reducible refine Blk.new _ ?_); focus (first | omega | (simp; done) | (simp; omega))) | (with_reducible refine Blk.past ?_ _) | ((with_reducible refine Blk.apart ?_ _ _ _ ?_); rotate_left; focus (first | omega | (simp; done) | (simp; omega))) | (with_reducible refine Blk.by (by assumption) ?_))); done))
      have k1 : Blk w1 (w.heap.size + 1) #[.slice b c.1.length cb, .slice b' c.2.length cb'] 52 := (by ((repeat (first | (with_reducible assumption) | (with_reducible refine Blk.drewN ?_ _) | (with_reducible refine Blk.drew ?_) | ((with_reducible refine Blk.new _ ?_); focus (first | omega | (simp; done) | (simp; omega))) | (with_reducible refine Blk.past ?_ _) | ((with_reducible refine Blk.apart ?_ _ _ _ ?_); rotate_left; focus (first | omega | (simp; done) | (simp; omega))) | (with_reducible refine Blk.by (by assumption) ?_))); done))
      have c0 := k0.cell
      have c1 := k1.cell
      have hbw : Below w.heap.size w w1 := (by ((repeat (first | (with_reducible exact Below.refl _ _) | (with_reducible refine below_drewN ?_ _) | (with_reducible refine Below.drew ?_) | (with_reducible refine below_al ?_ _) | (with_reducible refine below_on (by assumption) ?_) | ((with_reducible refine Below.setCell ?_ ?_ _); rotate_left; focus (first | omega | (simp; done) | (simp; omega))) | (with_reducible assumption))); done))
      clear hb1
      go_wp2_with fail
      refine (within_any _ _ _ _).mono ?_
      rintro e w2 ⟨rfl, rfl⟩
      rw [HWR.out, HI.out]
      go_wp2_with fail
      refine (HD.out _ _ _ (HN.out.by hbw) (HU.out.by hbw)).mono ?_
      rintro e w2 ⟨v2, rfl, hB, hb2⟩
      obtain ⟨g, cap, s, fi, rfl, hcell, hO, hf1, hf2⟩ := hB.at k' R HZK.out
      have hsz := hB.1
      have HO := Lib.hid hO
      have hz0 : (0 : Int) ≤ (k' : Int) := by omega
      have hz1 : (k' : Int) < (Z.length : Int) := by omega
      clear hB hO
      go_wp2
      go_ret
      exact ⟨_, rfl, OwnR.wide' HO.out (by have := hbw.size; omega) (by omega), below_on hb2 hbw⟩
theorem length_netS (x : Nl) (c : List Int × List Int) (k : Int) : (netS x c k).length ≤ 1048576 := by
  unfold netS
  split
  · rename_i h
    obtain ⟨f1, f2, f3, f4⟩ := coB_facts h.1
    obtain ⟨g1, g2, g3, g4⟩ := coB_nets h.1
    have := cTo_len g3 c.2 k 24
    unfold netL'
    rw [List.length_append]
    simp
    omega
  · simp
end Go.Proofs.Ytjldkejegdljiaa
