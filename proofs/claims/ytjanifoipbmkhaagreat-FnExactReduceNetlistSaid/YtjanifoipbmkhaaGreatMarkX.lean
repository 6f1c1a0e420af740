/- Netlists of the call's own whose ports' block may lie between the blocks of the devices: marking them. -/
import Derived.Test.YtjanifoipbmkhaaGreatNlOwns
namespace Go.Proofs.YtjanifoipbmkhaaGreat
open Go.RowKit
set_option linter.unusedVariables false
set_option linter.unusedSimpArgs false

/-- As Within, and block P is as it was. -/
structure WithX (lo hi P : Nat) (w w' : World) : Prop where
  within : Within lo hi w w'
  keep : P < w.heap.size → w'.heap[P]? = w.heap[P]?
section
variable {lo hi P : Nat} {a w w' : World}
theorem WithX.refl (lo hi P : Nat) (w : World) : WithX lo hi P w w := ⟨Within.refl _ _ _, fun _ => rfl⟩
theorem WithX.set (h : WithX lo hi P a w) (g o : Nat) (v : Value) (h1 : lo ≤ g) (h2 : g < hi) (h3 : g ≠ P) : WithX lo hi P a (w.setCell ⟨g, o, none⟩ v) :=
  ⟨h.within.set g o v h1 h2, fun hp => (Below.heap_setCell w ⟨g, o, none⟩ v P (fun e => h3 e.symm)).trans (h.keep hp)⟩
theorem WithX.on (h : WithX lo hi P a w) (h' : WithX lo hi P w w') : WithX lo hi P a w' :=
  ⟨h.within.on h'.within, fun hp => (h'.keep (by have := h.within.size; omega)).trans (h.keep hp)⟩
theorem Within.subX {lo' hi' : Nat} (h : Within lo hi w w') (h1 : lo' ≤ lo) (h2 : hi ≤ hi') (h3 : P < lo ∨ hi ≤ P) : WithX lo' hi' P w w' := ⟨h.sub h1 h2, fun hp => h.block P hp h3⟩
end
/-- A slice of devices of the call's own, none of whose blocks is P. -/
def OwnDsX (w : World) (lo hi P : Nat) (sv : Value) (ds : List Dv) : Prop :=
  (∃ a c, sv = .slice a 0 c ∧ ds = []) ∨ ∃ (g cap : Nat) (cs : Array Value) (f : Nat → Nat), sv = .slice (some ⟨g, 0, none⟩) ds.length cap ∧ ((lo ≤ g ∧ g < hi) ∧ g ≠ P) ∧ ds.length ≤ cap ∧ cap ≤ maxLen ∧ Blk w g cs 46 ∧
    (∀ (i : Nat) (x : Dv), ds[i]? = some x → (∃ pv, Cs4 cs i (.int .i64 x.kind) pv (.int .i64 x.wd) (.int .i64 x.len) ∧ OwnR w (f i) (f i + 1) pv x.pins) ∧ (lo ≤ f i ∧ f i < hi ∧ f i ≠ g ∧ f i ≠ P)) ∧ (∀ i j, i < ds.length → j < ds.length → i ≠ j → f i ≠ f j)
section
variable {w w' : World} {lo hi P lo' hi' : Nat} {sv : Value} {ds : List Dv} {ps : List Pt}
theorem OwnDsX.ods (h : OwnDsX w lo hi P sv ds) : OwnDs w lo hi sv ds := by
  rcases h with h | ⟨g, cap, cs, f, h1, h2, h3, h4, h5, h6, h7⟩
  · exact .inl h
  · exact .inr ⟨g, cap, cs, f, h1, h2.1, h3, h4, h5, fun i x hx => ⟨(h6 i x hx).1, (h6 i x hx).2.1, (h6 i x hx).2.2.1, (h6 i x hx).2.2.2.1⟩, h7⟩
theorem OwnDs.x (h : OwnDs w lo hi sv ds) (hP : P < lo ∨ hi ≤ P) : OwnDsX w lo hi P sv ds := by
  rcases h with h | ⟨g, cap, cs, f, h1, h2, h3, h4, h5, h6, h7⟩
  · exact .inl h
  · refine .inr ⟨g, cap, cs, f, h1, ⟨h2, by omega⟩, h3, h4, h5, fun i x hx => ⟨(h6 i x hx).1, (h6 i x hx).2.1, (h6 i x hx).2.2.1, (h6 i x hx).2.2.2, ?_⟩, h7⟩
    have := (h6 i x hx).2
    omega
theorem OwnDsX.by (hb : Below w.heap.size w w') (h : OwnDsX w lo hi P sv ds) : OwnDsX w' lo hi P sv ds := by
  rcases h with h | ⟨g, cap, cs, f, h1, h2, h3, h4, h5, h6, h7⟩
  · exact .inl h
  · refine .inr ⟨g, cap, cs, f, h1, h2, h3, h4, Blk.by hb h5, fun i x hx => ?_, h7⟩
    obtain ⟨⟨pv, a, b⟩, c⟩ := h6 i x hx
    exact ⟨⟨pv, a, OwnR.by hb b⟩, c⟩
theorem OwnDsX.past (hb : Within lo' hi' w w') (h : OwnDsX w lo hi P sv ds) (hd : hi ≤ lo' ∨ hi' ≤ lo) : OwnDsX w' lo hi P sv ds := by
  rcases h with h | ⟨g, cap, cs, f, h1, h2, h3, h4, h5, h6, h7⟩
  · exact .inl h
  · refine .inr ⟨g, cap, cs, f, h1, h2, h3, h4, hb.blk h5 (by omega), fun i x hx => ?_, h7⟩
    obtain ⟨⟨pv, a, b⟩, c⟩ := h6 i x hx
    exact ⟨⟨pv, a, OwnR.past hb b (by omega)⟩, c⟩
/-- Writing into block P alone. -/
theorem OwnDsX.off (h : OwnDsX w lo hi P sv ds) (hb : Within P (P + 1) w w') : OwnDsX w' lo hi P sv ds := by
  rcases h with h | ⟨g, cap, cs, f, h1, h2, h3, h4, h5, h6, h7⟩
  · exact .inl h
  · refine .inr ⟨g, cap, cs, f, h1, h2, h3, h4, hb.blk h5 (by omega), fun i x hx => ?_, h7⟩
    obtain ⟨⟨pv, a, b⟩, c⟩ := h6 i x hx
    exact ⟨⟨pv, a, OwnR.past hb b (by omega)⟩, c⟩
theorem OwnDsX.wide (h : OwnDsX w lo hi P sv ds) (h1 : lo' ≤ lo) (h2 : hi ≤ hi') : OwnDsX w lo' hi' P sv ds := by
  rcases h with h | ⟨g, cap, cs, f, e1, e2, e3, e4, e5, e6, e7⟩
  · exact .inl h
  · refine .inr ⟨g, cap, cs, f, e1, by omega, e3, e4, e5, fun i x hx => ?_, e7⟩
    obtain ⟨a, b⟩ := e6 i x hx
    exact ⟨a, by omega⟩
theorem OwnPs.pastX (hb : WithX lo hi P w w') (h : OwnPs w P (P + 1) sv ps) : OwnPs w' P (P + 1) sv ps := by
  rcases h with h | ⟨g, cap, cs, h1, h2, h3, h4, h5, h6⟩
  · exact .inl h
  · obtain rfl : g = P := by omega
    exact .inr ⟨g, cap, cs, h1, h2, h3, h4, (hb.keep h5.lt).trans h5, h6⟩
theorem OwnPs.at (h : OwnPs w lo hi sv ps) (hl : lo < hi) : ∃ P, OwnPs w P (P + 1) sv ps ∧ lo ≤ P ∧ P < hi := by
  rcases h with h | ⟨g, cap, cs, h1, h2, h3, h4, h5, h6⟩
  · exact ⟨lo, .inl h, Nat.le_refl _, hl⟩
  · exact ⟨g, .inr ⟨g, cap, cs, h1, by omega, h3, h4, h5, h6⟩, h2.1, h2.2⟩
end
/-- A netlist of the call's own; the ports' block lies anywhere among those of the devices. -/
def OwnNlX (w : World) (lo hi : Nat) (v : Value) (x : Nl) : Prop := ∃ s1 s2 P, v = .agg #[.int .i64 x.nets, s1, s2] ∧ OwnDsX w lo hi P s1 x.ds ∧ OwnPs w P (P + 1) s2 x.ps ∧ (lo ≤ P ∧ P < hi)
section
variable {w w' : World} {lo hi lo' hi' : Nat} {v : Value} {x : Nl}
theorem OwnNlX.by (hb : Below w.heap.size w w') (h : OwnNlX w lo hi v x) : OwnNlX w' lo hi v x := by
  obtain ⟨s1, s2, P, e, a, b, c⟩ := h; exact ⟨s1, s2, P, e, a.by hb, b.by hb, c⟩
theorem OwnNlX.past (hb : Within lo' hi' w w') (h : OwnNlX w lo hi v x) (hd : hi ≤ lo' ∨ hi' ≤ lo) : OwnNlX w' lo hi v x := by
  obtain ⟨s1, s2, P, e, a, b, c⟩ := h; exact ⟨s1, s2, P, e, a.past hb hd, b.past hb (by omega), c⟩
theorem OwnNlX.wide (h : OwnNlX w lo hi v x) (h1 : lo' ≤ lo) (h2 : hi ≤ hi') : OwnNlX w lo' hi' v x := by
  obtain ⟨s1, s2, P, e, a, b, c⟩ := h; exact ⟨s1, s2, P, e, a.wide h1 h2, b, by omega⟩
theorem OwnNlX.nl (h : OwnNlX w lo hi v x) : NlV w v x := by
  obtain ⟨s1, s2, P, e, a, b, c⟩ := h; exact ⟨s1, s2, e, a.ods.sl, b.sl⟩
theorem nlZeroX (w : World) (lo hi : Nat) (h : lo < hi) : OwnNlX w lo hi (.agg #[.int .i64 0, .slice none 0 0, .slice none 0 0]) ⟨0, [], []⟩ :=
  ⟨_, _, lo, rfl, .inl ⟨_, _, rfl, rfl⟩, .inl ⟨_, _, rfl, rfl⟩, Nat.le_refl _, h⟩
end

set_option maxRecDepth 100000 in
set_option maxHeartbeats 4000000 in
theorem markDeviceSX_any (lo hi P : Nat) (sv : Value) (ds : List Dv) (k0 : Int) (w : World) (h : OwnDsX w lo hi P sv ds) (hpn : ∀ d ∈ ds, d.pins.length ≤ 1048576) (hk : 0 ≤ k0) (hk' : k0 + dsum ds ≤ 1000000000000) :
    Calls Tryz.prog 32 #[sv, .int .i64 k0] w fun e w' => e = .returned (.int .i64 (k0 + dsum ds)) ∧ OwnDsX w' lo hi P sv (markDs k0 ds) ∧ WithX lo hi P w w' := by
  rcases h with ⟨a, c, rfl, rfl⟩ | ⟨g, cap, cs0, f, rfl, ⟨hg, hgP⟩, hcap, hmax, hB0, hel, hinj⟩
  · go_enter Tryz.func32, Tryz.ntmps32
    go_wp2
    go_loopw [1, 5] (fun v i wr => i = .int .i64 0 ∧ v = .int .i64 k0 ∧ wr = w) (fun _ _ _ => 0)
    case atStart => exact ⟨rfl, rfl, rfl⟩
    case round =>
      obtain ⟨rfl, rfl, rfl⟩ := hrel
      go_wp2
      go_ret
      exact ⟨ret_i64 (by simp [dsum]), .inl ⟨_, _, rfl, rfl⟩, WithX.refl _ _ _ _⟩
  · unfold maxLen at hmax
    have HPN := Lib.hid hpn
    have HEL := Lib.hid hel
    have HINJ := Lib.hid hinj
    have HDT := Lib.hid (dsum_take ds)
    have HDM := Lib.hid (dsum_mono ds)
    have HD0 := Lib.hid (fun k => dsum_nonneg (ds.take k))
    have HDF := Lib.hid (show dsum (ds.take ds.length) = dsum ds by rw [List.take_length])
    have HM := Lib.hid (markDs_inv k0 ds)
    have HLM := Lib.hid (length_markDs k0 ds)
    clear hpn hel hinj
    go_enter Tryz.func32, Tryz.ntmps32
    go_wp2
    go_loopw [1, 5] (fun v i wr => ∃ k : Nat, k ≤ ds.length ∧ i = .int .i64 k ∧ (∃ s : Int, v = .int .i64 s ∧ s = k0 + dsum (ds.take k)) ∧
      (∃ cs : Array Value, Blk wr g cs 46 ∧ Hid (∀ (j : Nat) (x : Dv), ds[j]? = some x → (j < k → ∃ pv, Cs4 cs j (.int .i64 (k0 + dsum (ds.take j))) pv (.int .i64 (k0 + dsum (ds.take j) + 1 + x.pins.length)) (.int .i64 (k0 + dsum (ds.take j) + 2 + x.pins.length)) ∧ OwnR wr (f j) (f j + 1) pv (marks (k0 + dsum (ds.take j) + 1) x.pins.length)) ∧ (k ≤ j → ∃ pv, Cs4 cs j (.int .i64 x.kind) pv (.int .i64 x.wd) (.int .i64 x.len) ∧ OwnR wr (f j) (f j + 1) pv x.pins))) ∧ WithX lo hi P w wr) (fun _ i _ => ds.length - (intOf i).toNat)
    case atStart => exact ⟨0, Nat.zero_le _, rfl, ⟨k0, rfl, by simp [dsum]⟩, ⟨cs0, hB0, Lib.hid (fun j x hx => ⟨fun h => by omega, fun _ => (HEL.out j x hx).1⟩)⟩, WithX.refl _ _ _ _⟩
    case round =>
      obtain ⟨k, hkl, rfl, ⟨s, rfl, hs⟩, ⟨cs, hB, HO⟩, ho⟩ := hrel
      by_cases hlt : k < ds.length
      · obtain ⟨x, hx⟩ : ∃ x, ds[k]? = some x := ⟨ds[k], List.getElem?_eq_getElem hlt⟩
        have hxl : x.pins.length ≤ 1048576 := HPN.out x (List.mem_of_getElem? hx)
        obtain ⟨pv, ⟨c0, c1, c2, c3⟩, hOR⟩ := (HO.out k x hx).2 (Nat.le_refl _)
        obtain ⟨hf1, hf2, hf3, hf4⟩ := (HEL.out k x hx).2
        have hst := HDT.out k x hx
        have hsm := HDM.out (k + 1)
        have hs0 := HD0.out k
        have HX := Lib.hid hx
        have HS := Lib.hid hs
        have HST := Lib.hid hst
        have hsb : 0 ≤ s := by omega
        have hsb' : s + 3 + x.pins.length ≤ 1000000000000 := by omega
        have HMK := Lib.hid (fun w h => markR_any (f k) (f k + 1) pv x.pins (s + 1) w h hxl (by omega) (by omega))
        have hBf := hB.free
        have hBc := hB.cell
        have hz : k * 4 + 3 < cs.size := (Array.getElem?_eq_some_iff.1 c3).1
        have i1 : (0 : Int) ≤ (k : Int) := by omega
        have i2 : (k : Int) < (ds.length : Int) := by omega
        have HOR := Lib.hid hOR
        obtain ⟨ap, cp, rfl⟩ := hOR.sl.len
        obtain ⟨t, ht⟩ : ∃ t : Int, s + 1 + x.pins.length = t := ⟨_, rfl⟩
        rw [ht] at HMK
        have HT := Lib.hid ht
        have ht0 : 0 ≤ t := by omega
        have ht1 : t + 2 ≤ 1000000000000 := by omega
        have hb1 := hB.set (k * 4) (.int .i64 s)
        have hO1 : OwnR (wr.setCell ⟨g, k * 4, none⟩ (.int .i64 s)) (f k) (f k + 1) (.slice ap x.pins.length cp) x.pins := HOR.out.past (Within.set (Within.refl g (g + 1) wr) g (k * 4) (.int .i64 s) (Nat.le_refl _) (by omega)) (by omega)
        have HO1 := Lib.hid hO1
        clear hx hs hst hOR hO1 ht
        go_wp2_with fail
        refine (HMK.out _ HO1.out).mono ?_
        rintro e w1 ⟨rfl, hO2, hw1⟩
        have hb2 := hw1.blk hb1 (by omega)
        have e2 := hb2.cell
        have f2 := hb2.free
        have HO2 := Lib.hid hO2
        have HW1 := Lib.hid hw1
        clear hO2 hw1 hBc hBf
        go_wp2
        have w3 : WithX lo hi P w (w1.setCell ⟨g, k * 4 + 2, none⟩ (.int .i64 t)) := ((ho.set g (k * 4) (.int .i64 s) hg.1 hg.2 hgP).on (HW1.out.subX hf1 (by omega) (by omega))).set g _ _ hg.1 hg.2 hgP
        have hmv : ∀ (j : Nat) (pv : Value) (zs : List Int), j < ds.length → j ≠ k → f j ≠ g → OwnR wr (f j) (f j + 1) pv zs → OwnR ((w1.setCell ⟨g, k * 4 + 2, none⟩ (.int .i64 t)).setCell ⟨g, k * 4 + 3, none⟩ (.int .i64 (t + 1))) (f j) (f j + 1) pv zs := by
          intro j pv zs hj hjk hjg hR
          have hne := HINJ.out j k hj hlt hjk
          have r1 := hR.past (Within.set (Within.refl g (g + 1) wr) g (k * 4) (.int .i64 s) (Nat.le_refl _) (by omega)) (by omega)
          have r2 := r1.past HW1.out (by omega)
          have r3 := r2.past (Within.set (Within.refl g (g + 1) w1) g (k * 4 + 2) (.int .i64 t) (Nat.le_refl _) (by omega)) (by omega)
          exact r3.past (Within.set (Within.refl g (g + 1) _) g (k * 4 + 3) (.int .i64 (t + 1)) (Nat.le_refl _) (by omega)) (by omega)
        refine ⟨⟨k + 1, by omega, by go_num, ⟨t + 1 + 1, rfl, by have := HS.out; have := HST.out; have := HT.out; omega⟩, ⟨set3 cs k (.int .i64 s) (.int .i64 t) (.int .i64 (t + 1)), (hb2.set _ _).set _ _, Lib.hid (fun j y hy => ⟨fun hj => ?_, fun hj => ?_⟩)⟩, w3.set g _ _ hg.1 hg.2 hgP⟩, by simp [intOf]; omega⟩
        · have hjl : j < ds.length := (List.getElem?_eq_some_iff.1 hy).1
          by_cases hjk : j = k
          · subst hjk
            obtain rfl : y = x := Option.some.inj (hy.symm.trans HX.out)
            have e1 := HS.out
            have e2 := HT.out
            rw [← e1]
            have e3 : s + 1 + (y.pins.length : Int) = t := e2
            have e4 : s + 2 + (y.pins.length : Int) = t + 1 := by omega
            rw [e3, e4]
            refine ⟨.slice ap y.pins.length cp, set3_same _ _ _ c1 hz, ?_⟩
            have r3 := HO2.out.past (Within.set (Within.refl g (g + 1) w1) g (j * 4 + 2) (.int .i64 t) (Nat.le_refl _) (by omega)) (by omega)
            exact r3.past (Within.set (Within.refl g (g + 1) _) g (j * 4 + 3) (.int .i64 (t + 1)) (Nat.le_refl _) (by omega)) (by omega)
          · obtain ⟨pv, hC, hR⟩ := (HO.out j y hy).1 (by omega)
            exact ⟨pv, set3_other _ _ _ hjk hC, hmv j pv _ hjl hjk (HEL.out j y hy).2.2.2.1 hR⟩
        · have hjl : j < ds.length := (List.getElem?_eq_some_iff.1 hy).1
          have hjk : j ≠ k := by omega
          obtain ⟨pv, hC, hR⟩ := (HO.out j y hy).2 (by omega)
          exact ⟨pv, set3_other _ _ _ hjk hC, hmv j pv _ hjl hjk (HEL.out j y hy).2.2.2.1 hR⟩
      · obtain rfl : k = ds.length := by omega
        go_wp2
        go_ret
        refine ⟨ret_i64 (by rw [hs, HDF.out]), .inr ⟨g, cap, cs, f, by rw [HLM.out], ⟨hg, hgP⟩, by rw [HLM.out]; exact hcap, by unfold maxLen; exact hmax, hB, fun i y hy => ?_, fun i j hi hj hij => HINJ.out i j (by rwa [HLM.out] at hi) (by rwa [HLM.out] at hj) hij⟩, ho⟩
        obtain ⟨d, hd, rfl⟩ := HM.out i y hy
        obtain ⟨pv, hC, hR⟩ := (HO.out i d hd).1 (List.getElem?_eq_some_iff.1 hd).1
        exact ⟨⟨pv, hC, hR⟩, (HEL.out i d hd).2⟩


set_option maxRecDepth 100000 in
set_option maxHeartbeats 2000000 in
theorem markNetlistX_any (lo hi : Nat) (v : Value) (x : Nl) (k0 : Nat) (w : World) (h : OwnNlX w lo hi v x) (hlw : hi ≤ w.heap.size) (hpn : ∀ d ∈ x.ds, d.pins.length ≤ 1048576) (hk : 0 < k0) (hk' : k0 + nsum x ≤ 1000000000) :
    Calls Tryz.prog 9 #[v, .int .i64 (k0 : Int)] w fun e w' => e = .returned (.int .i64 ((k0 + nsum x : Nat) : Int)) ∧ OwnNlX w' lo hi v (markNl k0 x) ∧ Within lo hi w w' := by
  obtain ⟨s1, s2, P, rfl, hD, hP, q1⟩ := h
  obtain ⟨nets, ds, ps⟩ := x
  simp only [nsum, markNl] at hk' ⊢
  dsimp only at hD hP hpn ⊢
  have hd0 := dsum_nonneg ds
  obtain ⟨dn, hdn⟩ : ∃ dn : Nat, dsum ds = (dn : Int) := ⟨(dsum ds).toNat, by omega⟩
  have HMD := Lib.hid (fun w h => markDeviceSX_any lo hi P s1 ds k0 w h hpn (by omega) (by omega))
  rw [hdn] at HMD hk' ⊢
  simp only [Int.toNat_natCast] at hk' ⊢
  have HMP := Lib.hid (fun w h hlw => markPortS_any P (P + 1) s2 ps (k0 + dn) w h hlw (by omega) (by omega))
  have HD := Lib.hid hD
  have HP := Lib.hid hP
  obtain ⟨a, c, rfl⟩ := hD.ods.sl.sized
  obtain ⟨a', c', rfl⟩ := hP.sl.sized
  obtain ⟨T, hT⟩ : ∃ T : Nat, k0 + dn + 2 * ps.length = T := ⟨_, rfl⟩
  have hT' : k0 + (dn + 2 * ps.length) = T := by omega
  rw [hT] at HMP
  rw [hT']
  have hcast : ((k0 : Int) + (dn : Int)) = ((k0 + dn : Nat) : Int) := by omega
  rw [hcast] at HMD
  obtain ⟨m, hm⟩ : ∃ m : Nat, k0 + dn = m := ⟨_, rfl⟩
  rw [hm] at HMD HMP ⊢
  clear hD hP hdn hT hT' hd0 hcast hm
  go_enter Tryz.func9, Tryz.ntmps9
  go_wp2_with fail
  refine (HMD.out _ (HD.out.by (by ((repeat (first | (with_reducible exact Below.refl _ _) | (with_reducible refine below_drewN ?_ _) | (with_reducible refine Below.drew ?_) | (with_reducible refine below_al ?_ _) | (with_reducible refine below_on (by assumption) ?_) | ((with_reducible refine Below.setCell ?_ ?_ _); rotate_left; focus (first | omega | (simp; done) | (simp; omega))) | (with_reducible assumption))); done)))).mono ?_
  rintro e w1 ⟨rfl, hD1, hw1⟩
  have k0_ : Blk w1 w.heap.size #[.int .i64 nets, .slice a ds.length c, .slice a' ps.length c'] 30 := hw1.within.blk (Blk.new _ rfl) (by omega)
  have hWt : Within lo hi w w1 := ((Within.refl lo hi w).alloc _).on hw1.within
  have hP1 := (HP.out.by ((Below.refl _ w).alloc (Nat.le_refl _) (.cells #[.int .i64 nets, .slice a ds.length c, .slice a' ps.length c'] 30))).pastX hw1
  have c0 := k0_.cell
  have hsz := hWt.size
  have HD1 := Lib.hid hD1
  have HP1 := Lib.hid hP1
  clear hD1 hP1 hw1
  go_wp2_with fail
  refine (HMP.out _ HP1.out (by omega)).mono ?_
  rintro e w2 ⟨rfl, hP2, hw2⟩
  have hD2 := HD1.out.off hw2
  go_wp2
  go_ret
  exact ⟨rfl, ⟨_, _, P, by rfl, hD2, hP2, q1⟩, hWt.on (hw2.sub q1.1 (by omega))⟩


end Go.Proofs.YtjanifoipbmkhaaGreat
