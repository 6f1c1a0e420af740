/- What the walk of FnReduceAgain wants of the plain law. -/
import Derived.Test.YtdljbmfmmlcmmaaRdAgs
import Derived.Test.YtdljbmfmmlcmmaaRedX
import Derived.Test.YtdljbmfmmlcmmaaIsRed
import Derived.Test.YtdljbmfmmlcmmaaDrawLads
import Derived.Test.YtdljbmfmmlcmmaaSrc
import Derived.Test.YtdljbmfmmlcmmaaFmtS
import Derived.Test.YtdljbmfmmlcmmaaNls
import Derived.BigRegion
import Derived.Deep.RegionHeldLaw
namespace Go.Proofs.Ytdljbmfmmlcmmaa
open Go.RowKit
set_option linter.unusedVariables false
set_option linter.unusedSimpArgs false

theorem redB_red {x : Nl} (h : Red x) : redB x = true := by
  have hs : x.ds.any shB = false := by
    rw [List.any_eq_false]
    intro d hd
    have := h.2.1 d hd
    rw [show okD d = !shB d from rfl] at this
    simpa using this
  rw [redB_of h.1 hs, h.2.2.1.first, h.2.2.2.first]; rfl
theorem names_at {xs ys : List Pt} (h : xs.map Pt.name = ys.map Pt.name) {k : Nat} {p q : Pt} (hp : xs[k]? = some p) (hq : ys[k]? = some q) : p.name = q.name := by
  have e := congrArg (fun l => l[k]?) h
  simp only [List.getElem?_map, hp, hq, Option.map_some] at e
  exact Option.some.inj e
theorem rdS_fits {x : Nl} (h : nlB (rdS x) = true) : Fits (rdS x).nets := by
  obtain ⟨⟨n0, n1⟩, _⟩ := nlB_facts h
  exact ⟨by omega, by omega⟩
theorem valid_ok {z : Nl} (h : nlB z = true) : ∀ p ∈ z.ps, p.name.size ≤ 8 ∧ 0 ≤ p.net ∧ p.net ≤ 24 := fun p hp => by
  obtain ⟨⟨n0, n1⟩, _, _, _, hpt⟩ := nlB_facts h
  obtain ⟨i, hi, e⟩ := List.getElem_of_mem hp
  have h1 := hpt i hi
  unfold ptOk at h1
  rw [List.getElem?_eq_getElem hi, e] at h1
  simp only [Bool.and_eq_true] at h1
  have h2 := inB_iff.1 h1.2.1
  have h3 := h1.1
  unfold nameB at h3
  rw [Bool.and_eq_true, decide_eq_true_eq] at h3
  exact ⟨h3.2.2, by omega, by omega⟩
end Go.Proofs.Ytdljbmfmmlcmmaa

/- DrawReduceNetlist: some small netlist. -/
namespace Go.Proofs.Ytdljbmfmmlcmmaa
open Go.RowKit
set_option linter.unusedVariables false
set_option linter.unusedSimpArgs false

set_option maxRecDepth 100000 in
set_option maxHeartbeats 2000000 in
theorem drawRd_any (v0 : Value) (n : Nat) (w : World) (h : Bytes w v0 n) (hn : n ≤ 4096) :
    Calls Try.prog 12 #[v0] w fun e w' => ∃ (v : Value) (x : Nl), e = .returned v ∧ Hid (NlV w' v x) ∧ Hid (Small x) ∧ Below w.heap.size w w' := by
  have HB := Lib.hid h
  obtain ⟨w0, hw0⟩ : ∃ z, z = w.alloc (.cells #[.int .i64 0, .slice none 0 0, .slice none 0 0] 27) := ⟨_, rfl⟩
  have kR0 : Blk w0 w.heap.size #[.int .i64 0, .slice none 0 0, .slice none 0 0] 27 := by rw [hw0]; exact Blk.new _ rfl
  have hb0 : Below w.heap.size w w0 := by rw [hw0]; exact (Below.refl _ w).alloc (Nat.le_refl _) _
  have hs0 : w0.heap.size = w.heap.size + 1 := by rw [hw0]; simp
  have hf := l01From_any v0 n w0 (HB.out.by hb0) hn
  obtain ⟨G, hG⟩ : ∃ G, w0.heap.size = G := ⟨_, rfl⟩
  rw [hG] at hf hs0
  have HF := Lib.hid hf
  have HD := Lib.hid (fun w h => l28DrawNetlist_any w0 G v0 n w h)
  have hGw : w.heap.size < G := by omega
  have HG := Lib.hid hG
  clear h hf hs0 hG
  go_enter Try.func12, Try.ntmps12
  go_wp2_with fail
  (try rw [← hw0])
  clear hw0
  refine HF.out.mono ?_
  rintro e w1 ⟨rfl, hD1, hb1⟩
  have kR1 : Blk w1 w.heap.size _ 27 := Blk.by (by rw [HG.out]; exact hb1) kR0
  have HD1 := Lib.hid hD1
  have hG1 := hD1.lt
  clear hD1 hb1
  go_wp2_with fail
  refine (HD.out _ HD1.out).mono ?_
  rintro e w2 ⟨v, x, rfl, HO, HS, HD2, HW2⟩
  obtain ⟨s1, s2, rfl, r1, r2⟩ := HO.out
  obtain ⟨a1, c1, rfl⟩ := (show ∃ a c, s1 = .slice a x.ds.length c by obtain ⟨l, h, r, o⟩ := r1; exact o.sl.sized)
  obtain ⟨a2, c2, rfl⟩ := (show ∃ a c, s2 = .slice a x.ps.length c by obtain ⟨l, h, r, o⟩ := r2; exact o.sl.sized)
  have kR2 := HW2.out.blk kR1 (by omega)
  have hb2 : Below w.heap.size w w2 := below_on HD2.out.2.1 hb0
  have hsz2 := HW2.out.size
  have f2 := kR2.free
  have c2' := kR2.cell
  have l2 := kR2.lt
  have HNL := Lib.hid ((HO.out.past (Within.off (g := w.heap.size) (o := 0) (.int .i64 x.nets)) (by omega)).past (Within.off (g := w.heap.size) (o := 1) (.slice a1 x.ds.length c1)) (by omega) |>.past (Within.off (g := w.heap.size) (o := 2) (.slice a2 x.ps.length c2)) (by omega))
  clear HD2 HW2 kR1 r1 r2 HD1 hb0 kR0
  go_wp2
  refine bodyPost_ret (v := .agg #[.int .i64 x.nets, .slice a1 x.ds.length c1, .slice a2 x.ps.length c2]) (by simp [results, Try.results12, go_sem, *]) rfl ⟨_, x, rfl, Lib.hid HNL.out.nl, HS, ?_⟩
  repeat (first | (with_reducible exact hb2) | ((with_reducible refine Below.setCell ?_ ?_ _); rotate_left; focus (simp; try omega)))
end Go.Proofs.Ytdljbmfmmlcmmaa

/- The walk of FnReduceAgain. -/
namespace Go.Proofs.Ytdljbmfmmlcmmaa.fnReduceAgain
open Go.RowKit Go.Proofs.Ytdljbmfmmlcmmaa
set_option linter.unusedVariables false
set_option linter.unusedSimpArgs false

set_option maxRecDepth 100000 in
set_option maxHeartbeats 8000000 in
theorem walk (v0 : Value) (w : World) (n : Nat) (hB : Bytes w v0 n) :
    Calls Try.prog 4 #[v0] w fun e w' => e = .returned (.bool true) ∧ Below w.heap.size w w' := by
  have HB := Lib.hid hB
  have HBG := Lib.hid (fun w h => big_any v0 n w h)
  by_cases hn : 4096 < n
  · rw [decide_eq_true hn] at HBG
    clear hB hn
    go_enter Try.func4, Try.ntmps4
    go_wp2_with fail
    refine (HBG.out _ HB.out).mono ?_
    rintro e w1 ⟨rfl, rfl⟩
    go_wp2
    go_ret
    exact ⟨rfl, Below.refl _ _⟩
  · rw [decide_eq_false hn] at HBG
    have HDR := Lib.hid (fun w h => drawRd_any v0 n w h (by omega))
    clear hB hn
    go_enter Try.func4, Try.ntmps4
    go_wp2_with fail
    refine (HBG.out _ HB.out).mono ?_
    rintro e w1 ⟨rfl, rfl⟩
    go_wp2_with fail
    refine (HDR.out _ HB.out).mono ?_
    rintro e w1 ⟨v, x, rfl, HNV, HS, hb1⟩
    have HIM := Lib.hid (fun v w h => implRd_any x v w h HS.out.2.2.2.2 HS.out.fits)
    have HVX := Lib.hid (fun v w h => specNl_any x v w h HS.out.2.2.2.2 HS.out.fits)
    obtain ⟨a1, c1, a2, c2, rfl⟩ := HNV.out.sized
    have hbA : Below w1.heap.size w1 (w1.alloc (.cells #[.int .i64 x.nets, .slice a1 x.ds.length c1, .slice a2 x.ps.length c2] 27)) := (Below.refl _ w1).alloc (Nat.le_refl _) _
    have k3 : Blk (w1.alloc (.cells #[.int .i64 x.nets, .slice a1 x.ds.length c1, .slice a2 x.ps.length c2] 27)) w1.heap.size #[.int .i64 x.nets, .slice a1 x.ds.length c1, .slice a2 x.ps.length c2] 27 := Blk.new _ rfl
    have HN2 := Lib.hid (HNV.out.by hbA)
    have hb2 := below_on hbA hb1
    clear HNV hbA hb1
    go_upto_region 4 with fail
    generalize w1.alloc (.cells #[.int .i64 x.nets, .slice a1 x.ds.length c1, .slice a2 x.ps.length c2] 27) = w2 at *
    obtain ⟨T3, hT⟩ : ∃ T, w1.heap.size = T := ⟨_, rfl⟩
    (try rw [hT])
    rw [hT] at k3
    clear hT
    have c3 := k3.cell
    have l3 := k3.lt
    go_wp2_with fail
    refine (HIM.out _ _ HN2.out).mono ?_
    rintro e w3 ⟨v6, rfl, hO3, hb3⟩
    have HX3 := Lib.hid hO3.nl
    obtain ⟨b1, d1, b2, d2, rfl⟩ := hO3.nl.sized
    have k33 := Blk.by hb3 k3
    have HN3 := Lib.hid (HN2.out.by hb3)
    have hb3w := below_on hb3 hb2
    have hyb := HS.out.fits
    obtain ⟨y, hy⟩ : ∃ y, rdS x = y := ⟨_, rfl⟩
    obtain ⟨p0, hp0⟩ : ∃ p, rdC x = p := ⟨_, rfl⟩
    have HY := Lib.hid hy
    have HP0 := Lib.hid hp0
    rw [hy] at HX3
    rw [hy, hp0]
    clear hy hp0 hO3 HN2 k3 c3 l3 hb2 hb3 HIM hyb
    have hbB : Below w3.heap.size w3 (w3.alloc (.cells #[.int .i64 y.nets, .slice b1 y.ds.length d1, .slice b2 y.ps.length d2] 27)) := (Below.refl _ w3).alloc (Nat.le_refl _) _
    have k4 : Blk (w3.alloc (.cells #[.int .i64 y.nets, .slice b1 y.ds.length d1, .slice b2 y.ps.length d2] 27)) w3.heap.size #[.int .i64 y.nets, .slice b1 y.ds.length d1, .slice b2 y.ps.length d2] 27 := Blk.new _ rfl
    have k34 := Blk.by hbB k33
    have HN4 := Lib.hid (HN3.out.by hbB)
    have HX4 := Lib.hid (HX3.out.by hbB)
    have hb4 := below_on hbB hb3w
    clear hb3w hbB HN3 HX3 k33
    go_upto_region 5 with fail
    generalize w3.alloc (.cells #[.int .i64 y.nets, .slice b1 y.ds.length d1, .slice b2 y.ps.length d2] 27) = w4 at *
    obtain ⟨T4, hU⟩ : ∃ U, w3.heap.size = U := ⟨_, rfl⟩
    (try rw [hU])
    rw [hU] at k4
    clear hU
    have c3 := k34.cell
    have l3 := k34.lt
    have c4 := k4.cell
    have l4 := k4.lt
    by_cases hp : p0 = 0
    · as_aux_lemma =>
      have hv : nlB x = true := by
        cases hv : nlB x with
        | true => rfl
        | false => have := (rd_bad (x := x) (by rw [(rd_no hv).2]; decide)).2; rw [(rd_no hv).2] at HP0; rw [← HP0.out] at hp; exact absurd hp (by decide)
      obtain ⟨hdn, e1, e2, e3, e4⟩ := rd_again hv (by rw [HP0.out]; exact hp)
      rw [HY.out] at hdn e1 e2 e3 e4
      have hvy : nlB y = true := hdn.1.1
      have hok : ∀ p ∈ y.ps, p.ok := fun p hp => by
        obtain ⟨h1, h2, h3⟩ := valid_ok hvy p hp
        exact ⟨by omega, ⟨by omega, by omega⟩⟩
      have hft : Fits y.nets := by have := rdS_fits (x := x) (by rw [HY.out]; exact hvy); rwa [HY.out] at this
      have hred := redB_red hdn.1
      have hpl : y.ps.length = x.ps.length := by have := congrArg List.length e3; simpa using this
      have hp8 : x.ps.length ≤ 8 := (nlB_facts hv).2.2.1
      have HIM := Lib.hid (fun v w h => implRd_any y v w h hok hft)
      rw [e1, e2] at HIM
      have HFM := Lib.hid (fun v w h => specFormat_any y v w h hok hft)
      have HIR := Lib.hid (fun v w h => implIsReduced_any y v w h hok hft)
      rw [hred] at HIR
      generalize fmtS y = F at HFM
      have hF : (F.toList != F.toList) = false := by simp
      have HE3 := Lib.hid e3
      have HPL := Lib.hid hpl
      have hdle : ¬ (y.ds.length : Int) > (x.ds.length : Int) := by omega
      obtain ⟨PP, hPP⟩ : ∃ P, x.ps.length = P := ⟨_, rfl⟩
      have HPP := Lib.hid hPP
      rw [hpl] at c4 k4 HX4
      rw [hPP] at c3 k34 c4 k4 HX4 HN4 hp8
      have hpe : ((PP : Int) != (PP : Int)) = false := by simp
      subst hp
      clear hdn e1 e2 e3 e4 hvy hok hft hred hpl hPP hv HVX HS HB HBG HDR
      go_wp2_with fail
      refine (HIM.out _ _ HX4.out).mono ?_
      rintro e w5 ⟨v8, rfl, hO5, hb5⟩
      have HZ5 := Lib.hid hO5.nl
      obtain ⟨e1, f1, e2, f2, rfl⟩ := hO5.nl.sized
      rw [HPL.out, HPP.out] at HZ5 ⊢
      have hbC : Below w4.heap.size w4 (w5.alloc (.cells #[.int .i64 y.nets, .slice e1 y.ds.length f1, .slice e2 PP f2] 27)) := below_al hb5 _
      have k5 : Blk (w5.alloc (.cells #[.int .i64 y.nets, .slice e1 y.ds.length f1, .slice e2 PP f2] 27)) w5.heap.size #[.int .i64 y.nets, .slice e1 y.ds.length f1, .slice e2 PP f2] 27 := Blk.new _ rfl
      have k36 := Blk.by hbC k34
      have k46 := Blk.by hbC k4
      have HN6 := Lib.hid (HN4.out.by hbC)
      have HX6 := Lib.hid (HX4.out.by hbC)
      have HY6 := Lib.hid (HZ5.out.by ((Below.refl _ w5).alloc (Nat.le_refl _) (.cells #[.int .i64 y.nets, .slice e1 y.ds.length f1, .slice e2 PP f2] 27)))
      have hb6 := below_on hbC hb4
      clear hb5 hbC hO5 HX4 HN4 HZ5 k34 k4 c3 l3 c4 l4 hb4 HIM
      go_upto_region 8 with fail
      generalize w5.alloc (.cells #[.int .i64 y.nets, .slice e1 y.ds.length f1, .slice e2 PP f2] 27) = w6 at *
      obtain ⟨T5, hU⟩ : ∃ U, w5.heap.size = U := ⟨_, rfl⟩
      (try rw [hU])
      rw [hU] at k5
      clear hU
      have c3 := k36.cell
      have l3 := k36.lt
      have c4 := k46.cell
      have l4 := k46.lt
      have c5 := k5.cell
      have l5 := k5.lt
      have HSB : ∀ w' : World, Below w6.heap.size w6 w' → (fun w' => (Blk w' T3 #[.int .i64 x.nets, .slice a1 x.ds.length c1, .slice a2 PP c2] 27 ∧ ∀ o, w'.cell? ⟨T3, o, none⟩ = (#[.int .i64 x.nets, .slice a1 x.ds.length c1, .slice a2 PP c2] : Array Value)[o]?) ∧ (Blk w' T4 #[.int .i64 y.nets, .slice b1 y.ds.length d1, .slice b2 PP d2] 27 ∧ ∀ o, w'.cell? ⟨T4, o, none⟩ = (#[.int .i64 y.nets, .slice b1 y.ds.length d1, .slice b2 PP d2] : Array Value)[o]?) ∧ (Blk w' T5 #[.int .i64 y.nets, .slice e1 y.ds.length f1, .slice e2 PP f2] 27 ∧ ∀ o, w'.cell? ⟨T5, o, none⟩ = (#[.int .i64 y.nets, .slice e1 y.ds.length f1, .slice e2 PP f2] : Array Value)[o]?) ∧ Below w6.heap.size w6 w') w' := fun w' hb => ⟨(Blk.by hb k36).both, (Blk.by hb k46).both, (Blk.by hb k5).both, hb⟩
      go_region_held3 (fun w' => (Blk w' T3 #[.int .i64 x.nets, .slice a1 x.ds.length c1, .slice a2 PP c2] 27 ∧ ∀ o, w'.cell? ⟨T3, o, none⟩ = (#[.int .i64 x.nets, .slice a1 x.ds.length c1, .slice a2 PP c2] : Array Value)[o]?) ∧ (Blk w' T4 #[.int .i64 y.nets, .slice b1 y.ds.length d1, .slice b2 PP d2] 27 ∧ ∀ o, w'.cell? ⟨T4, o, none⟩ = (#[.int .i64 y.nets, .slice b1 y.ds.length d1, .slice b2 PP d2] : Array Value)[o]?) ∧ (Blk w' T5 #[.int .i64 y.nets, .slice e1 y.ds.length f1, .slice e2 PP f2] 27 ∧ ∀ o, w'.cell? ⟨T5, o, none⟩ = (#[.int .i64 y.nets, .slice e1 y.ds.length f1, .slice e2 PP f2] : Array Value)[o]?) ∧ Below w6.heap.size w6 w') (((try (obtain ⟨_, _, _, hSB⟩ := hHeld)); refine HSB _ ?_; ((repeat (first | (with_reducible exact Below.refl _ _) | (with_reducible refine below_drewN ?_ _) | (with_reducible refine Below.drew ?_) | (with_reducible refine below_al ?_ _) | (with_reducible refine below_on (by assumption) ?_) | ((with_reducible refine Below.setCell ?_ ?_ _); rotate_left; focus (first | omega | (simp; done) | (simp; omega))) | (with_reducible assumption))); done)))
        (first | (go_at_call_of 11 (Value.agg #[.int .i64 y.nets, .slice b1 y.ds.length d1, .slice b2 PP d2]); refine (HFM.out _ _ (HX6.out.by (by ((repeat (first | (with_reducible exact Below.refl _ _) | (with_reducible refine below_drewN ?_ _) | (with_reducible refine Below.drew ?_) | (with_reducible refine below_al ?_ _) | (with_reducible refine below_on (by assumption) ?_) | ((with_reducible refine Below.setCell ?_ ?_ _); rotate_left; focus (first | omega | (simp; done) | (simp; omega))) | (with_reducible assumption))); done)))).mono ?_; rintro e w11 ⟨rfl, hb11⟩) | (go_at_call_of 11 (Value.agg #[.int .i64 y.nets, .slice e1 y.ds.length f1, .slice e2 PP f2]); refine (HFM.out _ _ (HY6.out.by (by ((repeat (first | (with_reducible exact Below.refl _ _) | (with_reducible refine below_drewN ?_ _) | (with_reducible refine Below.drew ?_) | (with_reducible refine below_al ?_ _) | (with_reducible refine below_on (by assumption) ?_) | ((with_reducible refine Below.setCell ?_ ?_ _); rotate_left; focus (first | omega | (simp; done) | (simp; omega))) | (with_reducible assumption))); done)))).mono ?_; rintro e w12 ⟨rfl, hb12⟩) | (go_at_call 14; refine (HIR.out _ _ (HX6.out.by (by ((repeat (first | (with_reducible exact Below.refl _ _) | (with_reducible refine below_drewN ?_ _) | (with_reducible refine Below.drew ?_) | (with_reducible refine below_al ?_ _) | (with_reducible refine below_on (by assumption) ?_) | ((with_reducible refine Below.setCell ?_ ?_ _); rotate_left; focus (first | omega | (simp; done) | (simp; omega))) | (with_reducible assumption))); done)))).mono ?_; rintro e w13 ⟨rfl, hb13⟩))
      all_goals as_aux_lemma =>
        have hbz : Below w6.heap.size w6 w13 := (by ((repeat (first | (with_reducible exact Below.refl _ _) | (with_reducible refine below_drewN ?_ _) | (with_reducible refine Below.drew ?_) | (with_reducible refine below_al ?_ _) | (with_reducible refine below_on (by assumption) ?_) | ((with_reducible refine Below.setCell ?_ ?_ _); rotate_left; focus (first | omega | (simp; done) | (simp; omega))) | (with_reducible assumption))); done))
        go_wp2_with fail
        clear hb11 hb12 hb13 HSB HFM HIR hF hdle c3 c4 c5 l3 l4 l5 HP0
        obtain ⟨nx1, nx2, en, _, hpx⟩ := HN6.out
        obtain rfl : Value.slice a2 PP c2 = nx2 := by have := congrArg (fun v => match v with | .agg a => a[2]? | _ => none) en; simpa using this
        obtain ⟨ny1, ny2, em, _, hpy⟩ := HX6.out
        obtain rfl : Value.slice b2 PP d2 = ny2 := by have := congrArg (fun v => match v with | .agg a => a[2]? | _ => none) em; simpa using this
        have HPX := Lib.hid hpx
        have HPY := Lib.hid hpy
        clear en em hpx hpy
        go_loopw [8] (fun vi wr => ∃ k : Nat, k ≤ PP ∧ vi = .int .i64 k ∧ Below w6.heap.size w6 wr) (fun vi _ => PP - (intOf vi).toNat)
        case atStart => exact ⟨0, Nat.zero_le _, rfl, hbz⟩
        case round => as_aux_lemma =>
          clear hbz
          obtain ⟨k, hk, rfl, hbr⟩ := hrel
          have k3r := Blk.by hbr k36
          have c3 := k3r.cell
          have l3 := k3r.lt
          by_cases hlt : k < PP
          · have hlt2 : k < x.ps.length := by rw [HPP.out]; exact hlt
            have hlt3 : k < y.ps.length := by rw [HPL.out]; exact hlt2
            obtain ⟨p, hp⟩ : ∃ p, x.ps[k]? = some p := ⟨_, List.getElem?_eq_getElem hlt2⟩
            obtain ⟨q, hq⟩ : ∃ q, y.ps[k]? = some q := ⟨_, List.getElem?_eq_getElem hlt3⟩
            have hn := names_at HE3.out hq hp
            rcases HPX.out with ⟨_, _, _, h2⟩ | ⟨bp, op, cp, ep, hp2, hp3, hp4⟩
            · rw [h2] at hlt2; simp at hlt2
            rw [HPP.out] at ep
            obtain ⟨rfl, rfl⟩ : a2 = some ⟨bp, op, none⟩ ∧ c2 = cp := by simpa using ep
            rcases HPY.out with ⟨_, _, _, h2⟩ | ⟨bq, oq, cq, eq, hq2, hq3, hq4⟩
            · rw [h2] at hlt3; simp at hlt3
            rw [HPL.out, HPP.out] at eq
            obtain ⟨rfl, rfl⟩ : b2 = some ⟨bq, oq, none⟩ ∧ d2 = cq := by simpa using eq
            have f1 := cell_by' hbr (hp4 k p hp).1
            have f2 := cell_by' hbr (hq4 k q hq).1
            rw [hn] at f2
            have k4r := Blk.by hbr k46
            have c4 := k4r.cell
            have l4 := k4r.lt
            have i1 : (0 : Int) ≤ (k : Int) := by omega
            have i2 : (k : Int) < (PP : Int) := by omega
            have hN : (p.name.toList != p.name.toList) = false := by simp
            generalize p.name = NM at f1 f2 hN
            clear hp4 hq4 hp hq hn ep eq hp2 hp3 hq2 hq3 hlt2 hlt3 k3r k4r
            go_wp2
            go_region
            all_goals
              go_wp2
              exact ⟨⟨k + 1, by omega, by go_num, below_drewN hbr _⟩, by first | (simp [intOf]; done) | (simp [intOf]; omega)⟩
          · obtain rfl : k = PP := by omega
            have i2 : ¬ (k : Int) < (k : Int) := by omega
            go_wp2
            go_ret
            exact ⟨rfl, below_on hbr hb6⟩
    · as_aux_lemma =>
      obtain ⟨z1, z2⟩ := rd_bad (x := x) (by rw [HP0.out]; exact hp)
      rw [HY.out] at z1
      rw [HP0.out] at z2
      rw [z1] at c4 k4 HX4
      have hpb : (p0 != 0) = true := by simpa using hp
      have hpe : ((p0 == 1) == !nlB x) = true := by
        cases hv : nlB x with
        | true => have : ¬ p0 = 1 := fun e => by rw [z2.1 e] at hv; cases hv
                  simp [this]
        | false => simp [z2.2 hv]
      have HPE := Lib.hid hpe
      clear z1 z2 hpe HY HP0 hp
      go_wp2_with fail
      refine (HVX.out _ _ HN4.out).mono ?_
      rintro e w5 ⟨rfl, hb5⟩
      have hb5w := below_on hb5 hb4
      replace k34 := Blk.by hb5 k34
      replace k4 := Blk.by hb5 k4
      clear c3 l3 c4 l4
      have c3 := k34.cell
      have l3 := k34.lt
      have c4 := k4.cell
      have l4 := k4.lt
      go_wp2
      go_ret
      exact ⟨by first | (rw [HPE.out]; rfl) | rfl, hb5w⟩
end Go.Proofs.Ytdljbmfmmlcmmaa.fnReduceAgain
