/- The reference's NetSignature, and the program's closure that compares pairs. -/
import Derived.Test.YtjldkejegdljiaaSpecNet
import Derived.Test.YtjldkejegdljiaaNetP
import Derived.Test.YtjldkejegdljiaaCoF
import Derived.Test.YtjldkejegdljiaaLl0
namespace Go.Proofs.Ytjldkejegdljiaa
open Go.RowKit
set_option linter.unusedVariables false
set_option linter.unusedSimpArgs false

/-- What NetSignature answers. -/
def netS (x : Nl) (c : List Int × List Int) (k : Int) : List Int := if coB x c = true ∧ 0 ≤ k ∧ k < x.nets then netL' x c k else []
theorem netS_no {x : Nl} {c : List Int × List Int} (k : Int) (h : coB x c = false) : netS x c k = [] := by simp [netS, h]
theorem netS_out {x : Nl} {c : List Int × List Int} {k : Int} (h : inB k 0 (x.nets - 1) = false) : netS x c k = [] := by
  unfold netS
  rw [if_neg]
  rintro ⟨_, h1, h2⟩
  have := inB_iff.2 (show 0 ≤ k ∧ k ≤ x.nets - 1 by omega)
  rw [h] at this; cases this
theorem netS_in {x : Nl} {c : List Int × List Int} {k : Int} (h : coB x c = true) (hi : inB k 0 (x.nets - 1) = true) : netS x c k = netL' x c k := by
  have := inB_iff.1 hi
  unfold netS
  rw [if_pos ⟨h, by omega, by omega⟩]
theorem coB_nets {x : Nl} {c : List Int × List Int} (h : coB x c = true) : (c.1.length : Int) = x.nets ∧ (0 ≤ x.nets ∧ x.nets ≤ 24) ∧ (∀ d ∈ x.ds, d.pins.length ≤ 3) ∧ (∀ z ∈ c.2, 0 ≤ z ∧ z < 24) := by
  simp only [coB, colsB, Bool.and_eq_true, decide_eq_true_eq, List.all_eq_true] at h
  obtain ⟨hb, ⟨_, h1⟩, h3, h2⟩ := h
  obtain ⟨hn, hd24, _, hdv, _⟩ := nlB_facts hb
  exact ⟨h1, hn, fun d hd => (dvB_pins (hdv d hd)).1, fun z hz => by have := inB_iff.1 (h3 z hz); omega⟩
/-- Every pair of a valid netlist is a colour and a role. -/
theorem occs_ok {x : Nl} {c : List Int × List Int} (h : coB x c = true) (net : Int) : ∀ o ∈ occs x.ds c.2 net x.ds.length, ∃ q r : Nat, q < 24 ∧ r < 3 ∧ o = [(q : Int), (r : Int)] := by
  obtain ⟨_, _, _, h4⟩ := coB_nets h
  obtain ⟨_, _, h5, _⟩ := coB_facts h
  intro o ho
  simp only [occs, occD, List.mem_flatMap, List.mem_range] at ho
  obtain ⟨j, hj, k, hk, hm⟩ := ho
  split at hm
  · simp only [List.mem_singleton] at hm
    have hz : nmOf c.2 (j : Int) ∈ c.2 := by
      have hj' : j < c.2.length := by omega
      have : nmOf c.2 (j : Int) = c.2[j] := by simp [nmOf, List.getD_eq_getElem?_getD, List.getElem?_eq_getElem hj']
      rw [this]
      exact List.getElem_mem hj'
    have := h4 _ hz
    have hr : 0 ≤ roleOf (dAt x.ds j).kind k ∧ roleOf (dAt x.ds j).kind k < 3 := by unfold roleOf; split <;> omega
    refine ⟨(nmOf c.2 (j : Int)).toNat, (roleOf (dAt x.ds j).kind k).toNat, by omega, by omega, ?_⟩
    rw [hm, Int.toNat_of_nonneg this.1, Int.toNat_of_nonneg hr.1]
  · simp at hm

set_option maxRecDepth 100000 in
theorem nsig1_any (s1 s2 : Value) (xs ys : List Int) (w : World) (h : IntSl w s1 xs) (h' : IntSl w s2 ys) :
    Calls Try.prog 111 #[s1, s2] w fun e w' => e = .returned (.int .i64 (lcmp xs ys)) ∧ ∃ n, w' = w.drewN n := by
  have HC := Lib.hid (slicesCompare_any s1 s2 xs ys w h h')
  obtain ⟨a, c, rfl⟩ := h.len
  obtain ⟨a', c', rfl⟩ := h'.len
  generalize lcmp xs ys = r at *
  clear h h'
  go_enter Try.func111, Try.ntmps111
  go_wp2_with fail
  refine HC.out.mono ?_
  rintro e w1 ⟨rfl, n, rfl⟩
  go_wp2
  go_ret
  exact ⟨rfl, n, rfl⟩

set_option maxRecDepth 100000 in
set_option maxHeartbeats 2000000 in
theorem specNSig_any (x : Nl) (c : List Int × List Int) (k : Int) (v u : Value) (w : World) (h : NlV w v x) (hc : CoV w u c) (hok : ∀ p ∈ x.ps, p.ok) (hnn : Fits x.nets) :
    Calls Try.prog 25 #[v, u, .int .i64 k] w fun e w' => ∃ v', e = .returned v' ∧ OwnR w' w.heap.size w'.heap.size v' (netS x c k) ∧ Below w.heap.size w w' := by
  have HC := Lib.hid (fun v u w h h' => specIsColoring_any x c v u w h h' hok hnn)
  have HN := Lib.hid h
  have HU := Lib.hid hc
  obtain ⟨a, ca, a', ca', rfl⟩ := h.sized
  obtain ⟨b, cb, b', cb', rfl⟩ := hc.sized
  cases hv : coB x c with
  | false =>
    rw [hv] at HC
    rw [netS_no k hv]
    clear hv h hc hok
    go_enter Try.func25, Try.ntmps25
    go_wp2_with (go_at_call 62; refine (HC.out _ _ _ (HN.out.by (by ((repeat (first | (with_reducible exact Below.refl _ _) | (with_reducible refine below_drewN ?_ _) | (with_reducible refine Below.drew ?_) | (with_reducible refine below_al ?_ _) | (with_reducible refine below_on (by assumption) ?_) | ((with_reducible refine Below.setCell ?_ ?_ _); rotate_left; focus (first | omega | (simp; done) | (simp; omega))) | (with_reducible assumption))); done))) (HU.out.by (by ((repeat (first | (with_reducible exact Below.refl _ _) | (with_reducible refine below_drewN ?_ _) | (with_reducible refine Below.drew ?_) | (with_reducible refine below_al ?_ _) | (with_reducible refine below_on (by assumption) ?_) | ((with_reducible refine Below.setCell ?_ ?_ _); rotate_left; focus (first | omega | (simp; done) | (simp; omega))) | (with_reducible assumption))); done)))).mono ?_; rintro e w1 ⟨rfl, hb1⟩)
    go_ret
    exact ⟨_, rfl, .inr ⟨w1.heap.size, 0, #[], rfl, by have := hb1.size; simp at this; omega, by simp, by simp, by simp [maxLen], Blk.new _ rfl, fun i x hx => by simp at hx⟩, (by ((repeat (first | (with_reducible exact Below.refl _ _) | (with_reducible refine below_drewN ?_ _) | (with_reducible refine Below.drew ?_) | (with_reducible refine below_al ?_ _) | (with_reducible refine below_on (by assumption) ?_) | ((with_reducible refine Below.setCell ?_ ?_ _); rotate_left; focus (first | omega | (simp; done) | (simp; omega))) | (with_reducible assumption))); done))⟩
  | true =>
    rw [hv] at HC
    have HWR := Lib.hid (show wrap64 (x.nets - 1) = x.nets - 1 from by have := (coB_nets hv).2.1; unfold wrap64; omega)
    cases hi : inB k 0 (x.nets - 1) with
    | false =>
      rw [netS_out hi]
      have HI := Lib.hid hi
      clear hv h hc hok hi
      go_enter Try.func25, Try.ntmps25
      go_wp2_with fail
      refine (HC.out _ _ _ (HN.out.by (by ((repeat (first | (with_reducible exact Below.refl _ _) | (with_reducible refine below_drewN ?_ _) | (with_reducible refine Below.drew ?_) | (with_reducible refine below_al ?_ _) | (with_reducible refine below_on (by assumption) ?_) | ((with_reducible refine Below.setCell ?_ ?_ _); rotate_left; focus (first | omega | (simp; done) | (simp; omega))) | (with_reducible assumption))); done))) (HU.out.by (by ((repeat (first | (with_reducible exact Below.refl _ _) | (with_reducible refine below_drewN ?_ _) | (with_reducible refine Below.drew ?_) | (with_reducible refine below_al ?_ _) | (with_reducible refine below_on (by assumption) ?_) | ((with_reducible refine Below.setCell ?_ ?_ _); rotate_left; focus (first | omega | (simp; done) | (simp; omega))) | (with_reducible assumption))); done)))).mono ?_
      rintro e w1 ⟨rfl, hb1⟩
      have k0 : Blk w1 w.heap.size #[.int .i64 x.nets, .slice a x.ds.length ca, .slice a' x.ps.length ca'] 30 := (by ((repeat (first | (with_reducible assumption) | (with_reducible refine Blk.drewN ?_ _) | (with_reducible refine Blk.drew ?_) | ((with_reducible refine Blk.new _ ?_); focus (first | omega | (simp; done) | (simp; omega))) | (with_reducible refine Blk.past ?_ _) | ((with_reducible refine Blk.apart ?_ _ _ _ ?_); rotate_left; focus (first | omega | (simp; done) | (simp; omega))) | (with_reducible refine Blk.by (by assumption) ?_))); done))
      have c0 := k0.cell
      have hbw : Below w.heap.size w w1 := (by ((repeat (first | (with_reducible exact Below.refl _ _) | (with_reducible refine below_drewN ?_ _) | (with_reducible refine Below.drew ?_) | (with_reducible refine below_al ?_ _) | (with_reducible refine below_on (by assumption) ?_) | ((with_reducible refine Below.setCell ?_ ?_ _); rotate_left; focus (first | omega | (simp; done) | (simp; omega))) | (with_reducible assumption))); done))
      clear hb1
      go_wp2_with fail
      refine (l16In_any _ _ _ _).mono ?_
      rintro e w2 ⟨rfl, rfl⟩
      rw [HWR.out, HI.out]
      go_wp2
      go_ret
      exact ⟨_, rfl, .inr ⟨w1.heap.size, 0, #[], rfl, by have := hbw.size; omega, by simp, by simp, by simp [maxLen], Blk.new _ rfl, fun i x hx => by simp at hx⟩, (by ((repeat (first | (with_reducible exact Below.refl _ _) | (with_reducible refine below_drewN ?_ _) | (with_reducible refine Below.drew ?_) | (with_reducible refine below_al ?_ _) | (with_reducible refine below_on (by assumption) ?_) | ((with_reducible refine Below.setCell ?_ ?_ _); rotate_left; focus (first | omega | (simp; done) | (simp; omega))) | (with_reducible assumption))); done))⟩
    | true =>
      have hk := inB_iff.1 hi
      obtain ⟨k', rfl⟩ : ∃ k' : Nat, k = k' := ⟨k.toNat, by omega⟩
      obtain ⟨f1, f2, f3, f4⟩ := coB_facts hv
      obtain ⟨g1, g2, g3, g4⟩ := coB_nets hv
      rw [netS_in hv hi]
      have HD := Lib.hid (fun v u w h h' => specNet_any x c k' v u w h h' (by omega) f3 f1 g3)
      have HI := Lib.hid hi
      clear hv h hc hok hi hk f1 f2 f3 f4 g1 g2 g3 g4
      generalize netL' x c (k' : Int) = R at *
      go_enter Try.func25, Try.ntmps25
      go_wp2_with fail
      refine (HC.out _ _ _ (HN.out.by (by ((repeat (first | (with_reducible exact Below.refl _ _) | (with_reducible refine below_drewN ?_ _) | (with_reducible refine Below.drew ?_) | (with_reducible refine below_al ?_ _) | (with_reducible refine below_on (by assumption) ?_) | ((with_reducible refine Below.setCell ?_ ?_ _); rotate_left; focus (first | omega | (simp; done) | (simp; omega))) | (with_reducible assumption))); done))) (HU.out.by (by ((repeat (first | (with_reducible exact Below.refl _ _) | (with_reducible refine below_drewN ?_ _) | (with_reducible refine Below.drew ?_) | (with_reducible refine below_al ?_ _) | (with_reducible refine below_on (by assumption) ?_) | ((with_reducible refine Below.setCell ?_ ?_ _); rotate_left; focus (first | omega | (simp; done) | (simp; omega))) | (with_reducible assumption))); done)))).mono ?_
      rintro e w1 ⟨rfl, hb1⟩
      have k0 : Blk w1 w.heap.size #[.int .i64 x.nets, .slice a x.ds.length ca, .slice a' x.ps.length ca'] 30 := (by ((repeat (first | (with_reducible assumption) | (with_reducible refine Blk.drewN ?_ _) | (with_reducible refine Blk.drew ?_) | ((with_reducible refine Blk.new _ ?_); focus (first | omega | (simp; done) | (simp; omega))) | (with_reducible refine Blk.past ?_ _) | ((with_reducible refine Blk.apart ?_ _ _ _ ?_); rotate_left; focus (first | omega | (simp; done) | (simp; omega))) | (with_reducible refine Blk.by (by assumption) ?_))); done))
      have k1 : Blk w1 (w.heap.size + 1) #[.slice b c.1.length cb, .slice b' c.2.length cb'] 52 := (by ((repeat (first | (with_reducible assumption) | (with_reducible refine Blk.drewN ?_ _) | (with_reducible refine Blk.drew ?_) | ((with_reducible refine Blk.new _ ?_); focus (first | omega | (simp; done) | (simp; omega))) | (with_reducible refine Blk.past ?_ _) | ((with_reducible refine Blk.apart ?_ _ _ _ ?_); rotate_left; focus (first | omega | (simp; done) | (simp; omega))) | (with_reducible refine Blk.by (by assumption) ?_))); done))
      have c0 := k0.cell
      have c1 := k1.cell
      have hbw : Below w.heap.size w w1 := (by ((repeat (first | (with_reducible exact Below.refl _ _) | (with_reducible refine below_drewN ?_ _) | (with_reducible refine Below.drew ?_) | (with_reducible refine below_al ?_ _) | (with_reducible refine below_on (by assumption) ?_) | ((with_reducible refine Below.setCell ?_ ?_ _); rotate_left; focus (first | omega | (simp; done) | (simp; omega))) | (with_reducible assumption))); done))
      clear hb1
      go_wp2_with fail
      refine (l16In_any _ _ _ _).mono ?_
      rintro e w2 ⟨rfl, rfl⟩
      rw [HWR.out, HI.out]
      go_wp2_with fail
      refine (HD.out _ _ _ (HN.out.by hbw) (HU.out.by hbw)).mono ?_
      rintro e w2 ⟨v2, rfl, hO, hb2⟩
      go_wp2
      go_ret
      exact ⟨_, rfl, OwnR.wide' hO (by have := hbw.size; omega) (Nat.le_refl _), below_on hb2 hbw⟩
end Go.Proofs.Ytjldkejegdljiaa
