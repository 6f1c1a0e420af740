/- Both SeriesPair. -/
import Derived.Test.YthcaipohdeigeaaPairS
import Derived.Test.YthcaipohdeigeaaFirstPair
namespace Go.Proofs.Ythcaipohdeigeaa
open Go.RowKit
set_option linter.unusedVariables false
set_option linter.unusedSimpArgs false

/-- What SeriesPair answers. -/
noncomputable def serPair (x : Nl) : Int × Int × Bool := if nlB x = true then firstP (serB x) x.ds else (0, 0, false)
theorem serPair_no {x : Nl} (h : nlB x = false) : serPair x = (0, 0, false) := by simp [serPair, h]
theorem serPair_yes {x : Nl} (h : nlB x = true) : serPair x = firstP (serB x) x.ds := by simp [serPair, h]

set_option maxRecDepth 100000 in
set_option maxHeartbeats 2000000 in
theorem specSeriesPair_any (x : Nl) (v : Value) (w : World) (h : NlV w v x) (hok : ∀ p ∈ x.ps, p.ok) (hnn : Fits x.nets) :
    Calls Try.prog 48 #[v] w fun e w' => e = .returned (.tuple #[.int .i64 (serPair x).1, .int .i64 (serPair x).2.1, .bool (serPair x).2.2]) ∧ Below w.heap.size w w' := by
  have HV := Lib.hid (fun v w h => specNl_any x v w h hok hnn)
  have HN := Lib.hid h
  obtain ⟨a, c, a', c', rfl⟩ := h.sized
  cases hv : nlB x with
  | false =>
    rw [hv] at HV
    rw [serPair_no hv]
    clear hv h hok
    go_enter Try.func48, Try.ntmps48
    go_wp2_with (go_at_call 25; refine (HV.out _ _ (HN.out.by (by ((repeat (first | (with_reducible exact Below.refl _ _) | (with_reducible refine below_drewN ?_ _) | (with_reducible refine Below.drew ?_) | (with_reducible refine below_al ?_ _) | (with_reducible refine below_on (by assumption) ?_) | ((with_reducible refine Below.setCell ?_ ?_ _); rotate_left; focus (first | omega | (simp; done) | (simp; omega))) | (with_reducible assumption))); done)))).mono ?_; rintro e w1 ⟨rfl, hb1⟩)
    go_ret3
    exact ⟨rfl, (by ((repeat (first | (with_reducible exact Below.refl _ _) | (with_reducible refine below_drewN ?_ _) | (with_reducible refine Below.drew ?_) | (with_reducible refine below_al ?_ _) | (with_reducible refine below_on (by assumption) ?_) | ((with_reducible refine Below.setCell ?_ ?_ _); rotate_left; focus (first | omega | (simp; done) | (simp; omega))) | (with_reducible assumption))); done))⟩
  | true =>
    rw [hv] at HV
    rw [serPair_yes hv]
    have HP := Lib.hid (fun v w h => l28PairS_any x v w h hv)
    generalize firstP (serB x) x.ds = r at *
    clear hv h hok
    go_enter Try.func48, Try.ntmps48
    go_wp2_with (first | (go_at_call 25; refine (HV.out _ _ (HN.out.by (by ((repeat (first | (with_reducible exact Below.refl _ _) | (with_reducible refine below_drewN ?_ _) | (with_reducible refine Below.drew ?_) | (with_reducible refine below_al ?_ _) | (with_reducible refine below_on (by assumption) ?_) | ((with_reducible refine Below.setCell ?_ ?_ _); rotate_left; focus (first | omega | (simp; done) | (simp; omega))) | (with_reducible assumption))); done)))).mono ?_; rintro e w1 ⟨rfl, hb1⟩; have k0 : Blk w1 w.heap.size #[.int .i64 x.nets, .slice a x.ds.length c, .slice a' x.ps.length c'] 43 := (by ((repeat (first | (with_reducible assumption) | (with_reducible refine Blk.drewN ?_ _) | (with_reducible refine Blk.drew ?_) | ((with_reducible refine Blk.new _ ?_); focus (first | omega | (simp; done) | (simp; omega))) | (with_reducible refine Blk.past ?_ _) | ((with_reducible refine Blk.apart ?_ _ _ _ ?_); rotate_left; focus (first | omega | (simp; done) | (simp; omega))) | (with_reducible refine Blk.by (by assumption) ?_))); done)); have c0 := k0.cell; have hbw : Below w.heap.size w w1 := (by ((repeat (first | (with_reducible exact Below.refl _ _) | (with_reducible refine below_drewN ?_ _) | (with_reducible refine Below.drew ?_) | (with_reducible refine below_al ?_ _) | (with_reducible refine below_on (by assumption) ?_) | ((with_reducible refine Below.setCell ?_ ?_ _); rotate_left; focus (first | omega | (simp; done) | (simp; omega))) | (with_reducible assumption))); done))) | (go_at_call 88; refine (HP.out _ _ (HN.out.by hbw)).mono ?_; rintro e w2 ⟨rfl, hb2⟩))
    go_ret3
    exact ⟨rfl, below_on hb2 hbw⟩

set_option maxRecDepth 100000 in
set_option maxHeartbeats 2000000 in
theorem spClosure_any (n : Nl) (m : Nat) (x y : Dv) (B1 B2 : Nat) (v su sx sy : Value) (W : World) (hn : nlB n = true) (hm : n.nets = (m : Int)) (hx : x ∈ n.ds) (hy : y ∈ n.ds) (hv : NlV W v n) (hu : IntSl W su (degs m n.ds)) (h : IntSl W sx x.pins) (h' : IntSl W sy y.pins)
    (cs : Array Value) (hvc : v = .agg cs) (hB1 : Blk W B1 cs 43) (hB2 : Blk W B2 #[su] 22) :
    Calls Try.prog 97 #[.agg #[.int .i64 x.kind, sx, .int .i64 x.wd, .int .i64 x.len], .agg #[.int .i64 y.kind, sy, .int .i64 y.wd, .int .i64 y.len], .pointer (some ⟨B1, 0, none⟩), .pointer (some ⟨B2, 0, none⟩)] W fun e w' => e = .returned (.bool (serB n x y)) ∧ Below W.heap.size W w' := by
  have HS := fun w hv hu h h' => (serial_any n m x y v su sx sy w hn hm hx hy hv hu h h').mono (R' := fun e w' => ∃ r1 : Int, e = .returned (.tuple #[.int .i64 r1, .bool (serB n x y)]) ∧ Below w.heap.size w w') (fun _ _ ⟨r1, h, _, hb⟩ => ⟨r1, h, hb⟩)
  have HNV := Lib.hid hv
  have HU := Lib.hid hu
  have HX := Lib.hid h
  have HY := Lib.hid h'
  replace HS := Lib.hid HS
  obtain ⟨an, cn, an', cn', rfl⟩ := hv.sized
  simp only [Value.agg.injEq] at hvc
  subst hvc
  obtain ⟨au, cu, rfl⟩ := hu.len
  obtain ⟨a, c, rfl⟩ := h.len
  obtain ⟨a', c', rfl⟩ := h'.len
  generalize (degs m n.ds).length = dl at *
  generalize serB n x y = sb at *
  have c1 := hB1.cell
  have c2 := hB2.cell
  have l1 := hB1.lt
  have l2 := hB2.lt
  clear hv hu h h' hn hm hx hy
  go_enter Try.func97, Try.ntmps97
  go_wp2_with (go_at_call 98; refine (HS.out _ (HNV.out.by (by ((repeat (first | (with_reducible exact Below.refl _ _) | (with_reducible refine below_drewN ?_ _) | (with_reducible refine Below.drew ?_) | (with_reducible refine below_al ?_ _) | (with_reducible refine below_on (by assumption) ?_) | ((with_reducible refine Below.setCell ?_ ?_ _); rotate_left; focus (first | omega | (simp; done) | (simp; omega))) | (with_reducible assumption))); done))) (HU.out.by (by ((repeat (first | (with_reducible exact Below.refl _ _) | (with_reducible refine below_drewN ?_ _) | (with_reducible refine Below.drew ?_) | (with_reducible refine below_al ?_ _) | (with_reducible refine below_on (by assumption) ?_) | ((with_reducible refine Below.setCell ?_ ?_ _); rotate_left; focus (first | omega | (simp; done) | (simp; omega))) | (with_reducible assumption))); done))) (HX.out.by (by ((repeat (first | (with_reducible exact Below.refl _ _) | (with_reducible refine below_drewN ?_ _) | (with_reducible refine Below.drew ?_) | (with_reducible refine below_al ?_ _) | (with_reducible refine below_on (by assumption) ?_) | ((with_reducible refine Below.setCell ?_ ?_ _); rotate_left; focus (first | omega | (simp; done) | (simp; omega))) | (with_reducible assumption))); done))) (HY.out.by (by ((repeat (first | (with_reducible exact Below.refl _ _) | (with_reducible refine below_drewN ?_ _) | (with_reducible refine Below.drew ?_) | (with_reducible refine below_al ?_ _) | (with_reducible refine below_on (by assumption) ?_) | ((with_reducible refine Below.setCell ?_ ?_ _); rotate_left; focus (first | omega | (simp; done) | (simp; omega))) | (with_reducible assumption))); done)))).mono ?_; rintro e w1 ⟨r1, rfl, hb1⟩)
  go_ret
  exact ⟨rfl, (by ((repeat (first | (with_reducible exact Below.refl _ _) | (with_reducible refine below_drewN ?_ _) | (with_reducible refine Below.drew ?_) | (with_reducible refine below_al ?_ _) | (with_reducible refine below_on (by assumption) ?_) | ((with_reducible refine Below.setCell ?_ ?_ _); rotate_left; focus (first | omega | (simp; done) | (simp; omega))) | (with_reducible assumption))); done))⟩

set_option maxRecDepth 100000 in
set_option maxHeartbeats 4000000 in
theorem implSeriesPair_any (x : Nl) (v : Value) (w : World) (h : NlV w v x) (hok : ∀ p ∈ x.ps, p.ok) (hnn : Fits x.nets) :
    Calls Try.prog 49 #[v] w fun e w' => e = .returned (.tuple #[.int .i64 (serPair x).1, .int .i64 (serPair x).2.1, .bool (serPair x).2.2]) ∧ Below w.heap.size w w' := by
  have HV := Lib.hid (fun v w h => implNl_any x v w h hok hnn)
  have HN := Lib.hid h
  have hmf : ∀ (fn : Fn) (first cap : Array Value) (w : World), (Instr.makeFunc fn first cap).run Try.prog w = .ok (.func fn first cap) w := fun _ _ _ _ => rfl
  obtain ⟨a, c, a', c', rfl⟩ := h.sized
  cases hv : nlB x with
  | false =>
    rw [hv] at HV
    have HP := Lib.hid (fun v f w h => firstPair_no x v f w h hok hnn hv)
    rw [serPair_no hv]
    clear hv h hok
    go_enter Try.func49, Try.ntmps49
    go_wp2_with (first | (go_at_call 27; refine (HV.out _ _ (HN.out.by (by ((repeat (first | (with_reducible exact Below.refl _ _) | (with_reducible refine below_drewN ?_ _) | (with_reducible refine Below.drew ?_) | (with_reducible refine below_al ?_ _) | (with_reducible refine below_on (by assumption) ?_) | ((with_reducible refine Below.setCell ?_ ?_ _); rotate_left; focus (first | omega | (simp; done) | (simp; omega))) | (with_reducible assumption))); done)))).mono ?_; rintro e w1 ⟨rfl, hb1⟩; have k0 : Blk w1 w.heap.size #[.int .i64 x.nets, .slice a x.ds.length c, .slice a' x.ps.length c'] 43 := (by ((repeat (first | (with_reducible assumption) | (with_reducible refine Blk.drewN ?_ _) | (with_reducible refine Blk.drew ?_) | ((with_reducible refine Blk.new _ ?_); focus (first | omega | (simp; done) | (simp; omega))) | (with_reducible refine Blk.past ?_ _) | ((with_reducible refine Blk.apart ?_ _ _ _ ?_); rotate_left; focus (first | omega | (simp; done) | (simp; omega))) | (with_reducible refine Blk.by (by assumption) ?_))); done)); have c0 := k0.cell; have hbw : Below w.heap.size w w1 := (by ((repeat (first | (with_reducible exact Below.refl _ _) | (with_reducible refine below_drewN ?_ _) | (with_reducible refine Below.drew ?_) | (with_reducible refine below_al ?_ _) | (with_reducible refine below_on (by assumption) ?_) | ((with_reducible refine Below.setCell ?_ ?_ _); rotate_left; focus (first | omega | (simp; done) | (simp; omega))) | (with_reducible assumption))); done))) | (go_at_call 89; refine (HP.out _ _ _ (HN.out.by hbw)).mono ?_; rintro e w2 ⟨rfl, hb2⟩))
    go_ret3
    exact ⟨rfl, below_on hb2 hbw⟩
  | true =>
    rw [hv] at HV
    rw [serPair_yes hv]
    obtain ⟨⟨n0, n24⟩, hl, hp, hdv, _⟩ := nlB_facts hv
    obtain ⟨m, hm⟩ : ∃ m : Nat, x.nets = (m : Int) := ⟨x.nets.toNat, by omega⟩
    have HG := Lib.hid (fun v w h => degrees_any x m v w h hm (by omega) hl (fun d hd => (dvB_pins (hdv d hd)).1) (fun d hd => (dvB_pins (hdv d hd)).2.2))
    have eg : ∀ args w, (callFunc 97 args).run Try.prog w = .ok (.enter 97 args) w := enters_of Try.func97 (by kernel_rfl) rfl
    have hm24 : m ≤ 24 := by omega
    have hFP : ∀ (W : World) (gu : Nat), Blk W w.heap.size #[.int .i64 x.nets, .slice a x.ds.length c, .slice a' x.ps.length c'] 43 → Blk W (w.heap.size + 1) #[.slice (some ⟨gu, 0, none⟩) m m] 22 → NlV W (.agg #[.int .i64 x.nets, .slice a x.ds.length c, .slice a' x.ps.length c']) x → IntSl W (.slice (some ⟨gu, 0, none⟩) m m) (degs m x.ds) →
        Calls Try.prog 89 #[.agg #[.int .i64 x.nets, .slice a x.ds.length c, .slice a' x.ps.length c'], .func (.func 97) #[] #[.pointer (some ⟨w.heap.size, 0, none⟩), .pointer (some ⟨w.heap.size + 1, 0, none⟩)]] W fun e w' => e = .returned (.tuple #[.int .i64 (firstP (serB x) x.ds).1, .int .i64 (firstP (serB x) x.ds).2.1, .bool (firstP (serB x) x.ds).2.2]) ∧ Below W.heap.size W w' := by
      intro W gu hk0 hk1 hNW hUW
      refine firstPair_yes 97 #[.pointer (some ⟨w.heap.size, 0, none⟩), .pointer (some ⟨w.heap.size + 1, 0, none⟩)] eg (serB x) x _ W hNW hok hnn hv ?_
      intro W' x' y' sx sy hb hx hy hsx hsy
      show Calls Try.prog 97 #[.agg #[.int .i64 x'.kind, sx, .int .i64 x'.wd, .int .i64 x'.len], .agg #[.int .i64 y'.kind, sy, .int .i64 y'.wd, .int .i64 y'.len], .pointer (some ⟨w.heap.size, 0, none⟩), .pointer (some ⟨w.heap.size + 1, 0, none⟩)] W' _
      exact spClosure_any x m x' y' w.heap.size (w.heap.size + 1) _ (.slice (some ⟨gu, 0, none⟩) m m) sx sy W' hv hm hx hy (hNW.by hb) (hUW.by hb) hsx hsy _ rfl (Blk.by hb hk0) (Blk.by hb hk1)
    have HFP := Lib.hid hFP
    have HLD := Lib.hid (length_degs m x.ds)
    generalize firstP (serB x) x.ds = r at *
    clear hv h hok eg hFP hdv hm
    go_enter Try.func49, Try.ntmps49
    go_wp2_with fail
    refine (HV.out _ _ (HN.out.by (by ((repeat (first | (with_reducible exact Below.refl _ _) | (with_reducible refine below_drewN ?_ _) | (with_reducible refine Below.drew ?_) | (with_reducible refine below_al ?_ _) | (with_reducible refine below_on (by assumption) ?_) | ((with_reducible refine Below.setCell ?_ ?_ _); rotate_left; focus (first | omega | (simp; done) | (simp; omega))) | (with_reducible assumption))); done)))).mono ?_
    rintro e w1 ⟨rfl, hb1⟩
    have k0 : Blk w1 w.heap.size #[.int .i64 x.nets, .slice a x.ds.length c, .slice a' x.ps.length c'] 43 := (by ((repeat (first | (with_reducible assumption) | (with_reducible refine Blk.drewN ?_ _) | (with_reducible refine Blk.drew ?_) | ((with_reducible refine Blk.new _ ?_); focus (first | omega | (simp; done) | (simp; omega))) | (with_reducible refine Blk.past ?_ _) | ((with_reducible refine Blk.apart ?_ _ _ _ ?_); rotate_left; focus (first | omega | (simp; done) | (simp; omega))) | (with_reducible refine Blk.by (by assumption) ?_))); done))
    have k1 : Blk w1 (w.heap.size + 1) #[.slice none 0 0] 22 := (by ((repeat (first | (with_reducible assumption) | (with_reducible refine Blk.drewN ?_ _) | (with_reducible refine Blk.drew ?_) | ((with_reducible refine Blk.new _ ?_); focus (first | omega | (simp; done) | (simp; omega))) | (with_reducible refine Blk.past ?_ _) | ((with_reducible refine Blk.apart ?_ _ _ _ ?_); rotate_left; focus (first | omega | (simp; done) | (simp; omega))) | (with_reducible refine Blk.by (by assumption) ?_))); done))
    have hbw : Below w.heap.size w w1 := (by ((repeat (first | (with_reducible exact Below.refl _ _) | (with_reducible refine below_drewN ?_ _) | (with_reducible refine Below.drew ?_) | (with_reducible refine below_al ?_ _) | (with_reducible refine below_on (by assumption) ?_) | ((with_reducible refine Below.setCell ?_ ?_ _); rotate_left; focus (first | omega | (simp; done) | (simp; omega))) | (with_reducible assumption))); done))
    have c0 := k0.cell
    have l1w := k1.lt
    clear hb1
    go_wp2_with fail
    refine (HG.out _ _ (HN.out.by hbw)).mono ?_
    rintro e w2 ⟨g, rfl, hG, hge, hb2⟩
    replace k0 := Blk.by hb2 k0
    replace k1 := Blk.by hb2 k1
    have l1 := k1.lt
    replace hbw := below_on hb2 hbw
    have hne : g ≠ w.heap.size + 1 := by omega
    clear c0 hb2
    have c0 := k0.cell
    have c1 := k1.cell
    have f1 := k1.free
    have k1' := k1.set 0 (.slice (some ⟨g, 0, none⟩) m m)
    have k0' := k0.apart (w.heap.size + 1) 0 (.slice (some ⟨g, 0, none⟩) m m) (by omega)
    have hG' := hG.apart (w.heap.size + 1) 0 (.slice (some ⟨g, 0, none⟩) m m) hne
    have hbw' : Below w.heap.size w (w2.setCell ⟨w.heap.size + 1, 0, none⟩ (.slice (some ⟨g, 0, none⟩) m m)) := hbw.setCell (by simp) _
    have hsl := hG'.sl (by rw [HLD.out]; omega)
    rw [HLD.out] at hsl
    have HSL := Lib.hid hsl
    clear hsl hG hG'
    go_wp2_with fail
    refine (HFP.out _ g k0' k1' (HN.out.by hbw') HSL.out).mono ?_
    rintro e w3 ⟨rfl, hb3⟩
    go_wp2
    go_ret3
    exact ⟨rfl, below_on hb3 hbw'⟩
end Go.Proofs.Ythcaipohdeigeaa
