/- Slices of devices and of ports in memory of the call's own. -/
import Derived.Test.YtjanifoipbmkhaaGreatNormB
import Derived.Test.YtjanifoipbmkhaaGreatNls
import Derived.Test.YtjanifoipbmkhaaGreatMText
namespace Go.Proofs.YtjanifoipbmkhaaGreat
open Go.RowKit
set_option linter.unusedVariables false
set_option linter.unusedSimpArgs false

/-- A slice of devices, all of whose memory lies in blocks from lo on and below hi, the pins of each in a block of its own. -/
def OwnDs (w : World) (lo hi : Nat) (sv : Value) (ds : List Dv) : Prop :=
  (∃ a c, sv = .slice a 0 c ∧ ds = []) ∨ ∃ (g cap : Nat) (cs : Array Value) (f : Nat → Nat), sv = .slice (some ⟨g, 0, none⟩) ds.length cap ∧ (lo ≤ g ∧ g < hi) ∧ ds.length ≤ cap ∧ cap ≤ maxLen ∧ Blk w g cs 46 ∧
    (∀ (i : Nat) (x : Dv), ds[i]? = some x → (∃ pv, Cs4 cs i (.int .i64 x.kind) pv (.int .i64 x.wd) (.int .i64 x.len) ∧ OwnR w (f i) (f i + 1) pv x.pins) ∧ (lo ≤ f i ∧ f i < hi ∧ f i ≠ g)) ∧ (∀ i j, i < ds.length → j < ds.length → i ≠ j → f i ≠ f j)
/-- A slice of ports, all of whose memory lies in blocks from lo on and below hi. -/
def OwnPs (w : World) (lo hi : Nat) (sv : Value) (ps : List Pt) : Prop :=
  (∃ a c, sv = .slice a 0 c ∧ ps = []) ∨ ∃ (g cap : Nat) (cs : Array Value), sv = .slice (some ⟨g, 0, none⟩) ps.length cap ∧ (lo ≤ g ∧ g < hi) ∧ ps.length ≤ cap ∧ cap ≤ maxLen ∧ Blk w g cs 63 ∧
    (∀ (i : Nat) (x : Pt), ps[i]? = some x → Cs2 cs i (.string x.name) (.int .i64 x.net))
section
variable {w w' : World} {lo hi lo' hi' : Nat} {sv : Value} {ds : List Dv} {ps : List Pt}
theorem OwnDs.by (hb : Below w.heap.size w w') (h : OwnDs w lo hi sv ds) : OwnDs w' lo hi sv ds := by
  rcases h with h | ⟨g, cap, cs, f, h1, h2, h3, h4, h5, h6, h7⟩
  · exact .inl h
  · refine .inr ⟨g, cap, cs, f, h1, h2, h3, h4, Blk.by hb h5, fun i x hx => ?_, h7⟩
    obtain ⟨⟨pv, a, b⟩, c⟩ := h6 i x hx
    exact ⟨⟨pv, a, OwnR.by hb b⟩, c⟩
theorem OwnPs.by (hb : Below w.heap.size w w') (h : OwnPs w lo hi sv ps) : OwnPs w' lo hi sv ps := by
  rcases h with h | ⟨g, cap, cs, h1, h2, h3, h4, h5, h6⟩
  · exact .inl h
  · exact .inr ⟨g, cap, cs, h1, h2, h3, h4, Blk.by hb h5, h6⟩
theorem OwnDs.past (hb : Within lo' hi' w w') (h : OwnDs w lo hi sv ds) (hd : hi ≤ lo' ∨ hi' ≤ lo) : OwnDs w' lo hi sv ds := by
  rcases h with h | ⟨g, cap, cs, f, h1, h2, h3, h4, h5, h6, h7⟩
  · exact .inl h
  · refine .inr ⟨g, cap, cs, f, h1, h2, h3, h4, hb.blk h5 (by omega), fun i x hx => ?_, h7⟩
    obtain ⟨⟨pv, a, b⟩, c⟩ := h6 i x hx
    exact ⟨⟨pv, a, OwnR.past hb b (by omega)⟩, c⟩
theorem OwnPs.past (hb : Within lo' hi' w w') (h : OwnPs w lo hi sv ps) (hd : hi ≤ lo' ∨ hi' ≤ lo) : OwnPs w' lo hi sv ps := by
  rcases h with h | ⟨g, cap, cs, h1, h2, h3, h4, h5, h6⟩
  · exact .inl h
  · exact .inr ⟨g, cap, cs, h1, h2, h3, h4, hb.blk h5 (by omega), h6⟩
theorem OwnDs.wide (h : OwnDs w lo hi sv ds) (h1 : lo' ≤ lo) (h2 : hi ≤ hi') : OwnDs w lo' hi' sv ds := by
  rcases h with h | ⟨g, cap, cs, f, e1, e2, e3, e4, e5, e6, e7⟩
  · exact .inl h
  · refine .inr ⟨g, cap, cs, f, e1, by omega, e3, e4, e5, fun i x hx => ?_, e7⟩
    obtain ⟨a, b⟩ := e6 i x hx
    exact ⟨a, by omega⟩
theorem OwnPs.wide (h : OwnPs w lo hi sv ps) (h1 : lo' ≤ lo) (h2 : hi ≤ hi') : OwnPs w lo' hi' sv ps := by
  rcases h with h | ⟨g, cap, cs, e1, e2, e3, e4, e5, e6⟩
  · exact .inl h
  · exact .inr ⟨g, cap, cs, e1, by omega, e3, e4, e5, e6⟩
theorem OwnDs.sl (h : OwnDs w lo hi sv ds) : DvSl w sv ds := by
  rcases h with h | ⟨g, cap, cs, f, h1, h2, h3, h4, h5, h6, h7⟩
  · exact .inl h
  · refine .inr ⟨g, 0, cap, h1, h3, h4, fun i x hx => ?_⟩
    obtain ⟨⟨pv, ⟨e1, e2, e3, e4⟩, b⟩, c⟩ := h6 i x hx
    have hc := h5.cell
    simp only [Nat.zero_add]
    exact ⟨pv, by rw [hc]; exact e1, by rw [hc]; exact e2, by rw [hc]; exact e3, by rw [hc]; exact e4, b.sl⟩
theorem OwnPs.sl (h : OwnPs w lo hi sv ps) : PtSl w sv ps := by
  rcases h with h | ⟨g, cap, cs, h1, h2, h3, h4, h5, h6⟩
  · exact .inl h
  · refine .inr ⟨g, 0, cap, h1, h3, h4, fun i x hx => ?_⟩
    obtain ⟨e1, e2⟩ := h6 i x hx
    have hc := h5.cell
    simp only [Nat.zero_add]
    exact ⟨by rw [hc]; exact e1, by rw [hc]; exact e2⟩
end

/-- What a device, a slice of devices, of ports takes up in marks. -/
def dsum : List Dv → Int
  | [] => 0
  | d :: ds => 3 + d.pins.length + dsum ds
theorem dsum_nonneg : ∀ ds : List Dv, 0 ≤ dsum ds
  | [] => by simp [dsum]
  | d :: ds => by have := dsum_nonneg ds; simp only [dsum]; omega
theorem dsum_take (ds : List Dv) (k : Nat) (d : Dv) (h : ds[k]? = some d) : dsum (ds.take (k + 1)) = dsum (ds.take k) + (3 + d.pins.length) := by
  induction ds generalizing k with
  | nil => simp at h
  | cons y ys ih =>
    cases k with
    | zero => simp at h; subst h; simp [dsum]
    | succ k => simp at h; have := ih k h; simp only [List.take_succ_cons, dsum]; omega
theorem dsum_mono (ds : List Dv) (k : Nat) : dsum (ds.take k) ≤ dsum ds := by
  induction ds generalizing k with
  | nil => simp
  | cons y ys ih =>
    cases k with
    | zero => simp [dsum]; have := dsum_nonneg ys; omega
    | succ k => have := ih k; simp only [List.take_succ_cons, dsum]; omega
/-- A marked device. -/
def mkd (k : Int) (n : Nat) : Dv := ⟨k, marks (k + 1) n, k + 1 + n, k + 2 + n⟩
def markDs (k : Int) : List Dv → List Dv
  | [] => []
  | d :: ds => mkd k d.pins.length :: markDs (k + (3 + d.pins.length)) ds
theorem length_markDs (k : Int) (ds : List Dv) : (markDs k ds).length = ds.length := by
  induction ds generalizing k with
  | nil => rfl
  | cons d ds ih => simp [markDs, ih]
theorem markDs_get (k : Int) (ds : List Dv) (i : Nat) (d : Dv) (h : ds[i]? = some d) : (markDs k ds)[i]? = some (mkd (k + dsum (ds.take i)) d.pins.length) := by
  induction ds generalizing k i with
  | nil => simp at h
  | cons y ys ih =>
    cases i with
    | zero => simp at h; subst h; simp [markDs, dsum]
    | succ i =>
      simp at h
      simp only [markDs, List.getElem?_cons_succ, List.take_succ_cons, dsum]
      rw [ih _ i h]; congr 2; omega
theorem markDs_inv (k : Int) (ds : List Dv) (i : Nat) (y : Dv) (h : (markDs k ds)[i]? = some y) : ∃ d, ds[i]? = some d ∧ y = mkd (k + dsum (ds.take i)) d.pins.length := by
  have hi : i < ds.length := by have := (List.getElem?_eq_some_iff.1 h).1; rwa [length_markDs] at this
  refine ⟨ds[i], List.getElem?_eq_getElem hi, ?_⟩
  rw [markDs_get k ds i ds[i] (List.getElem?_eq_getElem hi)] at h
  exact (Option.some.inj h).symm
end Go.Proofs.YtjanifoipbmkhaaGreat

/- markDeviceS and heldDeviceS. -/
namespace Go.Proofs.YtjanifoipbmkhaaGreat
open Go.RowKit
set_option linter.unusedVariables false
set_option linter.unusedSimpArgs false

theorem Within.sub {lo hi lo' hi' : Nat} {w w' : World} (h : Within lo hi w w') (h1 : lo' ≤ lo) (h2 : hi ≤ hi') : Within lo' hi' w w' := ⟨h.os, h.tape, h.output, h.size, fun k hk hk' => h.block k hk (by omega)⟩

def set3 (cs : Array Value) (k : Nat) (u v z : Value) : Array Value := ((cs.setIfInBounds (k * 4) u).setIfInBounds (k * 4 + 2) v).setIfInBounds (k * 4 + 3) z
theorem set3_other {cs : Array Value} {j k : Nat} {a b c d : Value} (u v z : Value) (hne : j ≠ k) (h : Cs4 cs j a b c d) : Cs4 (set3 cs k u v z) j a b c d := by
  obtain ⟨h1, h2, h3, h4⟩ := h
  refine ⟨?_, ?_, ?_, ?_⟩ <;> simp only [set3, Array.getElem?_setIfInBounds, Array.size_setIfInBounds] <;> (repeat rw [if_neg (by omega)]) <;> assumption
theorem set3_same {cs : Array Value} {k : Nat} {b : Value} (u v z : Value) (hb : cs[k * 4 + 1]? = some b) (hs : k * 4 + 3 < cs.size) : Cs4 (set3 cs k u v z) k u b v z := by
  refine ⟨?_, ?_, ?_, ?_⟩ <;> simp only [set3, Array.getElem?_setIfInBounds, Array.size_setIfInBounds] <;> repeat (first | rw [if_pos trivial] | rw [if_pos (by omega)] | rw [if_neg (by omega)] | assumption)

set_option maxRecDepth 100000 in
set_option maxHeartbeats 4000000 in
theorem markDeviceS_any (lo hi : Nat) (sv : Value) (ds : List Dv) (k0 : Int) (w : World) (h : OwnDs w lo hi sv ds) (hpn : ∀ d ∈ ds, d.pins.length ≤ 1048576) (hk : 0 ≤ k0) (hk' : k0 + dsum ds ≤ 1000000000000) :
    Calls Tryz.prog 32 #[sv, .int .i64 k0] w fun e w' => e = .returned (.int .i64 (k0 + dsum ds)) ∧ OwnDs w' lo hi sv (markDs k0 ds) ∧ Within lo hi w w' := by
  rcases h with ⟨a, c, rfl, rfl⟩ | ⟨g, cap, cs0, f, rfl, hg, hcap, hmax, hB0, hel, hinj⟩
  · go_enter Tryz.func32, Tryz.ntmps32
    go_wp2
    go_loopw [1, 5] (fun v i wr => i = .int .i64 0 ∧ v = .int .i64 k0 ∧ wr = w) (fun _ _ _ => 0)
    case atStart => exact ⟨rfl, rfl, rfl⟩
    case round =>
      obtain ⟨rfl, rfl, rfl⟩ := hrel
      go_wp2
      go_ret
      exact ⟨ret_i64 (by simp [dsum]), .inl ⟨_, _, rfl, rfl⟩, Within.refl _ _ _⟩
  · unfold maxLen at hmax
    have HPN := Lib.hid hpn
    have HEL := Lib.hid hel
    have HINJ := Lib.hid hinj
    have HDT := Lib.hid (dsum_take ds)
    have HDM := Lib.hid (dsum_mono ds)
    have HD0 := Lib.hid (fun k => dsum_nonneg (ds.take k))
    have HDF := Lib.hid (show dsum (ds.take ds.length) = dsum ds by rw [List.take_length])
    have HM := Lib.hid (markDs_inv k0 ds)
    have HLM := Lib.hid (length_markDs k0 ds)
    clear hpn hel hinj
    go_enter Tryz.func32, Tryz.ntmps32
    go_wp2
    go_loopw [1, 5] (fun v i wr => ∃ k : Nat, k ≤ ds.length ∧ i = .int .i64 k ∧ (∃ s : Int, v = .int .i64 s ∧ s = k0 + dsum (ds.take k)) ∧
      (∃ cs : Array Value, Blk wr g cs 46 ∧ Hid (∀ (j : Nat) (x : Dv), ds[j]? = some x → (j < k → ∃ pv, Cs4 cs j (.int .i64 (k0 + dsum (ds.take j))) pv (.int .i64 (k0 + dsum (ds.take j) + 1 + x.pins.length)) (.int .i64 (k0 + dsum (ds.take j) + 2 + x.pins.length)) ∧ OwnR wr (f j) (f j + 1) pv (marks (k0 + dsum (ds.take j) + 1) x.pins.length)) ∧ (k ≤ j → ∃ pv, Cs4 cs j (.int .i64 x.kind) pv (.int .i64 x.wd) (.int .i64 x.len) ∧ OwnR wr (f j) (f j + 1) pv x.pins))) ∧ Within lo hi w wr) (fun _ i _ => ds.length - (intOf i).toNat)
    case atStart => exact ⟨0, Nat.zero_le _, rfl, ⟨k0, rfl, by simp [dsum]⟩, ⟨cs0, hB0, Lib.hid (fun j x hx => ⟨fun h => by omega, fun _ => (HEL.out j x hx).1⟩)⟩, Within.refl _ _ _⟩
    case round =>
      obtain ⟨k, hkl, rfl, ⟨s, rfl, hs⟩, ⟨cs, hB, HO⟩, ho⟩ := hrel
      by_cases hlt : k < ds.length
      · obtain ⟨x, hx⟩ : ∃ x, ds[k]? = some x := ⟨ds[k], List.getElem?_eq_getElem hlt⟩
        have hxl : x.pins.length ≤ 1048576 := HPN.out x (List.mem_of_getElem? hx)
        obtain ⟨pv, ⟨c0, c1, c2, c3⟩, hOR⟩ := (HO.out k x hx).2 (Nat.le_refl _)
        obtain ⟨hf1, hf2, hf3⟩ := (HEL.out k x hx).2
        have hst := HDT.out k x hx
        have hsm := HDM.out (k + 1)
        have hs0 := HD0.out k
        have HX := Lib.hid hx
        have HS := Lib.hid hs
        have HST := Lib.hid hst
        have hsb : 0 ≤ s := by omega
        have hsb' : s + 3 + x.pins.length ≤ 1000000000000 := by omega
        have HMK := Lib.hid (fun w h => markR_any (f k) (f k + 1) pv x.pins (s + 1) w h hxl (by omega) (by omega))
        have hBf := hB.free
        have hBc := hB.cell
        have hz : k * 4 + 3 < cs.size := (Array.getElem?_eq_some_iff.1 c3).1
        have i1 : (0 : Int) ≤ (k : Int) := by omega
        have i2 : (k : Int) < (ds.length : Int) := by omega
        have HOR := Lib.hid hOR
        obtain ⟨ap, cp, rfl⟩ := hOR.sl.len
        obtain ⟨t, ht⟩ : ∃ t : Int, s + 1 + x.pins.length = t := ⟨_, rfl⟩
        rw [ht] at HMK
        have HT := Lib.hid ht
        have ht0 : 0 ≤ t := by omega
        have ht1 : t + 2 ≤ 1000000000000 := by omega
        have hb1 := hB.set (k * 4) (.int .i64 s)
        have hO1 : OwnR (wr.setCell ⟨g, k * 4, none⟩ (.int .i64 s)) (f k) (f k + 1) (.slice ap x.pins.length cp) x.pins := HOR.out.past (Within.set (Within.refl g (g + 1) wr) g (k * 4) (.int .i64 s) (Nat.le_refl _) (by omega)) (by omega)
        have HO1 := Lib.hid hO1
        clear hx hs hst hOR hO1 ht
        go_wp2_with fail
        refine (HMK.out _ HO1.out).mono ?_
        rintro e w1 ⟨rfl, hO2, hw1⟩
        have hb2 := hw1.blk hb1 (by omega)
        have e2 := hb2.cell
        have f2 := hb2.free
        have HO2 := Lib.hid hO2
        have HW1 := Lib.hid hw1
        clear hO2 hw1 hBc hBf
        go_wp2
        have w3 : Within lo hi w (w1.setCell ⟨g, k * 4 + 2, none⟩ (.int .i64 t)) := ((ho.set g (k * 4) (.int .i64 s) hg.1 hg.2).on (HW1.out.sub hf1 (by omega))).set g _ _ hg.1 hg.2
        have hmv : ∀ (j : Nat) (pv : Value) (zs : List Int), j < ds.length → j ≠ k → f j ≠ g → OwnR wr (f j) (f j + 1) pv zs → OwnR ((w1.setCell ⟨g, k * 4 + 2, none⟩ (.int .i64 t)).setCell ⟨g, k * 4 + 3, none⟩ (.int .i64 (t + 1))) (f j) (f j + 1) pv zs := by
          intro j pv zs hj hjk hjg hR
          have hne := HINJ.out j k hj hlt hjk
          have r1 := hR.past (Within.set (Within.refl g (g + 1) wr) g (k * 4) (.int .i64 s) (Nat.le_refl _) (by omega)) (by omega)
          have r2 := r1.past HW1.out (by omega)
          have r3 := r2.past (Within.set (Within.refl g (g + 1) w1) g (k * 4 + 2) (.int .i64 t) (Nat.le_refl _) (by omega)) (by omega)
          exact r3.past (Within.set (Within.refl g (g + 1) _) g (k * 4 + 3) (.int .i64 (t + 1)) (Nat.le_refl _) (by omega)) (by omega)
        refine ⟨⟨k + 1, by omega, by go_num, ⟨t + 1 + 1, rfl, by have := HS.out; have := HST.out; have := HT.out; omega⟩, ⟨set3 cs k (.int .i64 s) (.int .i64 t) (.int .i64 (t + 1)), (hb2.set _ _).set _ _, Lib.hid (fun j y hy => ⟨fun hj => ?_, fun hj => ?_⟩)⟩, w3.set g _ _ hg.1 hg.2⟩, by simp [intOf]; omega⟩
        · have hjl : j < ds.length := (List.getElem?_eq_some_iff.1 hy).1
          by_cases hjk : j = k
          · subst hjk
            obtain rfl : y = x := Option.some.inj (hy.symm.trans HX.out)
            have e1 := HS.out
            have e2 := HT.out
            rw [← e1]
            have e3 : s + 1 + (y.pins.length : Int) = t := e2
            have e4 : s + 2 + (y.pins.length : Int) = t + 1 := by omega
            rw [e3, e4]
            refine ⟨.slice ap y.pins.length cp, set3_same _ _ _ c1 hz, ?_⟩
            have r3 := HO2.out.past (Within.set (Within.refl g (g + 1) w1) g (j * 4 + 2) (.int .i64 t) (Nat.le_refl _) (by omega)) (by omega)
            exact r3.past (Within.set (Within.refl g (g + 1) _) g (j * 4 + 3) (.int .i64 (t + 1)) (Nat.le_refl _) (by omega)) (by omega)
          · obtain ⟨pv, hC, hR⟩ := (HO.out j y hy).1 (by omega)
            exact ⟨pv, set3_other _ _ _ hjk hC, hmv j pv _ hjl hjk (HEL.out j y hy).2.2.2 hR⟩
        · have hjl : j < ds.length := (List.getElem?_eq_some_iff.1 hy).1
          have hjk : j ≠ k := by omega
          obtain ⟨pv, hC, hR⟩ := (HO.out j y hy).2 (by omega)
          exact ⟨pv, set3_other _ _ _ hjk hC, hmv j pv _ hjl hjk (HEL.out j y hy).2.2.2 hR⟩
      · obtain rfl : k = ds.length := by omega
        go_wp2
        go_ret
        refine ⟨ret_i64 (by rw [hs, HDF.out]), .inr ⟨g, cap, cs, f, by rw [HLM.out], hg, by rw [HLM.out]; exact hcap, by unfold maxLen; exact hmax, hB, fun i y hy => ?_, fun i j hi hj hij => HINJ.out i j (by rwa [HLM.out] at hi) (by rwa [HLM.out] at hj) hij⟩, ho⟩
        obtain ⟨d, hd, rfl⟩ := HM.out i y hy
        obtain ⟨pv, hC, hR⟩ := (HO.out i d hd).1 (List.getElem?_eq_some_iff.1 hd).1
        exact ⟨⟨pv, hC, hR⟩, (HEL.out i d hd).2⟩

set_option maxRecDepth 100000 in
set_option maxHeartbeats 4000000 in
theorem heldDeviceS_any (sv : Value) (ds : List Dv) (k0 : Int) (w : World) (h : DvSl w sv (markDs k0 ds)) (hpn : ∀ d ∈ ds, d.pins.length ≤ 1048576) (hk : 0 ≤ k0) (hk' : k0 + dsum ds ≤ 1000000000000) :
    Calls Tryz.prog 34 #[sv, .int .i64 k0] w fun e w' => e = .returned (.int .i64 (k0 + dsum ds)) ∧ ∃ m, w' = w.drewN m := by
  have hlm := length_markDs k0 ds
  have HPN := Lib.hid hpn
  have HDT := Lib.hid (dsum_take ds)
  have HDM := Lib.hid (dsum_mono ds)
  have HD0 := Lib.hid (fun k => dsum_nonneg (ds.take k))
  have HDF := Lib.hid (show dsum (ds.take ds.length) = dsum ds by rw [List.take_length])
  have HG := Lib.hid (fun i d h => markDs_get k0 ds i d h)
  have HH := Lib.hid h
  have hdl : (markDs k0 ds).length ≤ 9223372036854775807 := by
    rcases h with ⟨_, _, _, h2⟩ | ⟨b, off, cap, h1, h2, h3, _⟩
    · rw [h2]; simp
    · unfold maxLen at h3; omega
  obtain ⟨a, c, rfl⟩ := h.sized
  rw [hlm] at hdl ⊢
  clear h hlm hpn
  go_enter Tryz.func34, Tryz.ntmps34
  go_wp2
  go_loopw [1, 5] (fun v i wr => ∃ k m : Nat, k ≤ ds.length ∧ i = .int .i64 k ∧ (∃ s : Int, v = .int .i64 s ∧ s = k0 + dsum (ds.take k)) ∧ wr = w.drewN m) (fun _ i _ => ds.length - (intOf i).toNat)
  case atStart => exact ⟨0, 0, Nat.zero_le _, rfl, ⟨k0, rfl, by simp [dsum]⟩, rfl⟩
  case round =>
    obtain ⟨k, m, hkl, rfl, ⟨s, rfl, hs⟩, rfl⟩ := hrel
    by_cases hlt : k < ds.length
    · obtain ⟨x, hx⟩ : ∃ x, ds[k]? = some x := ⟨ds[k], List.getElem?_eq_getElem hlt⟩
      have hxl : x.pins.length ≤ 1048576 := HPN.out x (List.mem_of_getElem? hx)
      have hm := HG.out k x hx
      rw [← hs] at hm
      have HHS := HH.out
      rcases HHS with ⟨_, _, e1, e2⟩ | ⟨b, off, cap, he, h2, h3, h4⟩
      · rw [e2] at hm; simp at hm
      obtain ⟨sp, d1, d2, d3, d4, hS⟩ := h4 k _ hm
      obtain ⟨rfl, rfl⟩ : a = some ⟨b, off, none⟩ ∧ c = cap := by simpa [length_markDs] using he
      simp only [mkd] at d1 d2 d3 d4 hS
      have hst := HDT.out k x hx
      have hsm := HDM.out (k + 1)
      have hs0 := HD0.out k
      have HS := Lib.hid hs
      have HST := Lib.hid hst
      have hsb : 0 ≤ s := by omega
      have hsb' : s + 3 + x.pins.length ≤ 1000000000000 := by omega
      have HHL := Lib.hid (fun w h => heldInt64S_any sp x.pins.length (s + 1) w h hxl (by omega) (by omega))
      have HSP := Lib.hid (hS.by (below_of_drewN w m))
      have i1 : (0 : Int) ≤ (k : Int) := by omega
      have i2 : (k : Int) < (ds.length : Int) := by omega
      obtain ⟨ap, cp, rfl⟩ := hS.len
      obtain ⟨t, ht⟩ : ∃ t : Int, s + 1 + x.pins.length = t := ⟨_, rfl⟩
      have ht2 : s + 2 + x.pins.length = t + 1 := by omega
      rw [ht] at HHL d3
      rw [ht2] at d4
      have HT := Lib.hid ht
      have ht0 : 0 ≤ t := by omega
      have ht1 : t + 2 ≤ 1000000000000 := by omega
      clear hx hs hst ht ht2 hm he h4 hS
      go_wp2_with fail
      refine (HHL.out _ HSP.out).mono ?_
      rintro e w1 ⟨rfl, m', rfl⟩
      go_wp2
      exact ⟨⟨k + 1, _, by omega, by go_num, ⟨t + 1 + 1, rfl, by have := HS.out; have := HST.out; have := HT.out; omega⟩, rfl⟩, by simp [intOf]; omega⟩
    · obtain rfl : k = ds.length := by omega
      go_wp2
      go_ret
      exact ⟨ret_i64 (by rw [hs, HDF.out]), m, rfl⟩
end Go.Proofs.YtjanifoipbmkhaaGreat

/- markPortS and heldPortS. -/
namespace Go.Proofs.YtjanifoipbmkhaaGreat
open Go.RowKit
set_option linter.unusedVariables false
set_option linter.unusedSimpArgs false

def markPs (k n : Nat) : List Pt := (List.range n).map fun i => ⟨mtxt (k + 2 * i), ((k + 2 * i + 1 : Nat) : Int)⟩
theorem length_markPs (k n : Nat) : (markPs k n).length = n := by simp [markPs]
theorem markPs_get (k n i : Nat) (h : i < n) : (markPs k n)[i]? = some ⟨mtxt (k + 2 * i), ((k + 2 * i + 1 : Nat) : Int)⟩ := by simp [markPs, h]

set_option maxRecDepth 100000 in
set_option maxHeartbeats 4000000 in
theorem markPortS_any (lo hi : Nat) (sv : Value) (ps : List Pt) (k0 : Nat) (w : World) (h : OwnPs w lo hi sv ps) (hlw : hi ≤ w.heap.size) (hk : 0 < k0) (hk' : k0 + 2 * ps.length ≤ 1000000000000) :
    Calls Tryz.prog 33 #[sv, .int .i64 (k0 : Int)] w fun e w' => e = .returned (.int .i64 ((k0 + 2 * ps.length : Nat) : Int)) ∧ OwnPs w' lo hi sv (markPs k0 ps.length) ∧ Within lo hi w w' := by
  rcases h with ⟨a, c, rfl, rfl⟩ | ⟨g, cap, cs0, rfl, hg, hcap, hmax, hB0, hel⟩
  · go_enter Tryz.func33, Tryz.ntmps33
    go_wp2
    go_loopw [1, 5] (fun v i wr => i = .int .i64 0 ∧ v = .int .i64 (k0 : Int) ∧ wr = w) (fun _ _ _ => 0)
    case atStart => exact ⟨rfl, rfl, rfl⟩
    case round =>
      obtain ⟨rfl, rfl, rfl⟩ := hrel
      go_wp2
      go_ret
      exact ⟨ret_i64 (by simp), .inl ⟨_, _, rfl, by simp [markPs]⟩, Within.refl _ _ _⟩
  · unfold maxLen at hmax
    have HEL := Lib.hid hel
    clear hel
    go_enter Tryz.func33, Tryz.ntmps33
    go_wp2
    go_loopw [1, 5] (fun v i wr => ∃ k : Nat, k ≤ ps.length ∧ i = .int .i64 k ∧ v = .int .i64 ((k0 + 2 * k : Nat) : Int) ∧
      (∃ cs : Array Value, Blk wr g cs 63 ∧ cs.size = cs0.size ∧ Hid (∀ (j : Nat), j < k → Cs2 cs j (.string (mtxt (k0 + 2 * j))) (.int .i64 ((k0 + 2 * j + 1 : Nat) : Int)))) ∧ Within lo hi w wr) (fun _ i _ => ps.length - (intOf i).toNat)
    case atStart => exact ⟨0, Nat.zero_le _, rfl, by simp, ⟨cs0, hB0, rfl, Lib.hid (fun j h => by omega)⟩, Within.refl _ _ _⟩
    case round =>
      obtain ⟨k, hkl, rfl, rfl, ⟨cs, hB, hsz, HO⟩, ho⟩ := hrel
      by_cases hlt : k < ps.length
      · obtain ⟨x, hx⟩ : ∃ x, ps[k]? = some x := ⟨ps[k], List.getElem?_eq_getElem hlt⟩
        obtain ⟨c0, c1⟩ := HEL.out k x hx
        have hz : k * 2 + 1 < cs.size := by rw [hsz]; exact (Array.getElem?_eq_some_iff.1 c1).1
        have HMT := Lib.hid (fun w => markText_any (k0 + 2 * k) w (by omega) (by omega))
        have HSZ := Lib.hid hsz
        obtain ⟨s, hs⟩ : ∃ s : Nat, k0 + 2 * k = s := ⟨_, rfl⟩
        rw [hs] at HMT ⊢
        have HS := Lib.hid hs
        have hs1 : s + 2 ≤ 1000000000000 := by omega
        obtain ⟨u0_, d0⟩ : ∃ u, cs[k * 2]? = some u := ⟨_, Array.getElem?_eq_getElem (by omega)⟩
        obtain ⟨u1_, d1⟩ : ∃ u, cs[k * 2 + 1]? = some u := ⟨_, Array.getElem?_eq_getElem (by omega)⟩
        have i1 : (0 : Int) ≤ (k : Int) := by omega
        have i2 : (k : Int) < (ps.length : Int) := by omega
        have hsl := ho.size
        clear hx hs hsz c0 c1
        generalize hmt : mtxt s = mt at *
        have HMM := Lib.hid hmt
        clear hmt
        go_wp2_with fail
        refine (HMT.out _).mono ?_
        rintro e w1 ⟨rfl, hb1⟩
        have hb2 := Blk.by hb1 hB
        have e2 := hb2.cell
        have f2 := hb2.free
        have ho1 : Within lo hi w w1 := ho.on ⟨hb1.os, hb1.tape, hb1.output, hb1.size, fun k hk _ => hb1.block k hk⟩
        clear hb1 hB
        go_wp2
        refine ⟨⟨k + 1, by omega, by go_num, by have := HS.out; congr 1; omega, ⟨put2 cs k (.string mt) (.int .i64 ((s : Int) + 1)), (hb2.set _ _).set _ _, by rw [size_put2]; exact HSZ.out, Lib.hid (fun j hj => ?_)⟩, (ho1.set g _ _ hg.1 hg.2).set g _ _ hg.1 hg.2⟩, by simp [intOf]; omega⟩
        by_cases hjk : j = k
        · subst hjk
          rw [HS.out, HMM.out]
          exact put2_same cs j _ _ (by omega)
        · exact put2_other cs k j _ _ _ _ hjk (HO.out j (by omega))
      · obtain rfl : k = ps.length := by omega
        go_wp2
        go_ret
        refine ⟨rfl, .inr ⟨g, cap, cs, by rw [length_markPs], hg, by rw [length_markPs]; exact hcap, by unfold maxLen; exact hmax, hB, fun i y hy => ?_⟩, ho⟩
        have hi : i < ps.length := by have := (List.getElem?_eq_some_iff.1 hy).1; rwa [length_markPs] at this
        rw [markPs_get k0 _ i hi] at hy
        cases hy
        exact HO.out i hi

set_option maxRecDepth 100000 in
set_option maxHeartbeats 4000000 in
theorem heldPortS_any (sv : Value) (n k0 : Nat) (w : World) (h : PtSl w sv (markPs k0 n)) (hk : 0 < k0) (hk' : k0 + 2 * n ≤ 1000000000000) :
    Calls Tryz.prog 35 #[sv, .int .i64 (k0 : Int)] w fun e w' => e = .returned (.int .i64 ((k0 + 2 * n : Nat) : Int)) ∧ Below w.heap.size w w' := by
  have hlm := length_markPs k0 n
  have HH := Lib.hid h
  have hdl : (markPs k0 n).length ≤ 9223372036854775807 := by
    rcases h with ⟨_, _, _, h2⟩ | ⟨b, off, cap, h1, h2, h3, _⟩
    · rw [h2]; simp
    · unfold maxLen at h3; omega
  obtain ⟨a, c, rfl⟩ := h.sized
  rw [hlm] at hdl HH ⊢
  clear h hlm
  go_enter Tryz.func35, Tryz.ntmps35
  go_wp2
  go_loopw [1, 5] (fun v i wr => ∃ k : Nat, k ≤ n ∧ i = .int .i64 k ∧ v = .int .i64 ((k0 + 2 * k : Nat) : Int) ∧ Below w.heap.size w wr) (fun _ i _ => n - (intOf i).toNat)
  case atStart => exact ⟨0, Nat.zero_le _, rfl, by simp, (by ((repeat (first | (with_reducible exact Below.refl _ _) | (with_reducible refine below_drewN ?_ _) | (with_reducible refine Below.drew ?_) | (with_reducible refine below_al ?_ _) | (with_reducible refine below_on (by assumption) ?_) | ((with_reducible refine Below.setCell ?_ ?_ _); rotate_left; focus (first | omega | (simp; done) | (simp; omega))) | (with_reducible assumption))); done))⟩
  case round =>
    obtain ⟨k, hkl, rfl, rfl, hb⟩ := hrel
    by_cases hlt : k < n
    · have hm := markPs_get k0 n k hlt
      have HHS := HH.out
      rcases HHS with ⟨_, _, e1, e2⟩ | ⟨b, off, cap, he, h2, h3, h4⟩
      · rw [e2] at hm; simp at hm
      obtain ⟨d1, d2⟩ := (h4 k _ hm).by hb
      obtain ⟨rfl, rfl⟩ : a = some ⟨b, off, none⟩ ∧ c = cap := by simpa [length_markPs] using he
      dsimp only at d1 d2
      have HMT := Lib.hid (fun w => markText_any (k0 + 2 * k) w (by omega) (by omega))
      obtain ⟨s, hs⟩ : ∃ s : Nat, k0 + 2 * k = s := ⟨_, rfl⟩
      rw [hs] at HMT d1 d2 ⊢
      have HS := Lib.hid hs
      have hs1 : s + 2 ≤ 1000000000000 := by omega
      generalize mtxt s = mt at *
      have i1 : (0 : Int) ≤ (k : Int) := by omega
      have i2 : (k : Int) < (n : Int) := by omega
      have d2' := d2
      simp only [Int.natCast_add, Int.natCast_one] at d2'
      clear hm he h4 hs d2
      go_wp2_with fail
      go_region_held3 (fun w' => (w'.cell? ⟨b, off + k * 2, none⟩ = some (.string mt) ∧ w'.cell? ⟨b, off + k * 2 + 1, none⟩ = some (.int .i64 ((s : Int) + 1))) ∧ Below w.heap.size w w')
        (first | exact ⟨⟨d1, d2'⟩, hb.drew⟩ | exact ⟨⟨cell_by' hb1 d1, cell_by' hb1 d2'⟩, below_on hb1 hb.drew⟩)
        (first | (go_at_call 77; refine (HMT.out _).mono ?_; rintro e w1 ⟨rfl, hb1⟩))
      go_wp2
      exact ⟨⟨k + 1, by omega, by go_num, by have := HS.out; congr 1; omega, below_on hb1 hb.drew⟩, by simp [intOf]; omega⟩
    · obtain rfl : k = n := by omega
      go_wp2
      go_ret
      exact ⟨rfl, hb⟩
end Go.Proofs.YtjanifoipbmkhaaGreat

/- toDeviceS, toPortS, toNetlist: with the memory of the call's own; marking netlists. -/
namespace Go.Proofs.YtjanifoipbmkhaaGreat
open Go.RowKit
set_option linter.unusedVariables false
set_option linter.unusedSimpArgs false

set_option maxRecDepth 100000 in
set_option maxHeartbeats 2000000 in
theorem toDeviceS_own (sv : Value) (xs : List Dv) (w : World) (h : DvSl w sv xs) (hn : xs.length ≤ 1048576) (hpn : ∀ x ∈ xs, x.pins.length ≤ 1048576) :
    Calls Tryz.prog 20 #[sv] w fun e w' => ∃ v, e = .returned v ∧ OwnDs w' w.heap.size w'.heap.size v xs ∧ Below w.heap.size w w' := by
  rcases h with ⟨a, c, rfl, rfl⟩ | ⟨b, off, cap, rfl, h2, h3, h4⟩
  · obtain ⟨cs, hcs, hmk⟩ := make_dev 0 (by omega) w
    simp only [Int.natCast_zero] at hmk
    go_enter Tryz.func20, Tryz.ntmps20
    go_wp2
    go_loopw [4] (fun i wr => i = .int .i64 0 ∧ Blk wr w.heap.size cs 46 ∧ Below w.heap.size w wr) (fun _ _ => 0)
    case atStart => exact ⟨rfl, (by ((repeat (first | (with_reducible assumption) | (with_reducible refine Blk.drewN ?_ _) | (with_reducible refine Blk.drew ?_) | ((with_reducible refine Blk.new _ ?_); focus (first | omega | (simp; done) | (simp; omega))) | (with_reducible refine Blk.past ?_ _) | ((with_reducible refine Blk.apart ?_ _ _ _ ?_); rotate_left; focus (first | omega | (simp; done) | (simp; omega))) | (with_reducible refine Blk.by (by assumption) ?_))); done)), (by ((repeat (first | (with_reducible exact Below.refl _ _) | (with_reducible refine below_drewN ?_ _) | (with_reducible refine Below.drew ?_) | (with_reducible refine below_al ?_ _) | (with_reducible refine below_on (by assumption) ?_) | ((with_reducible refine Below.setCell ?_ ?_ _); rotate_left; focus (first | omega | (simp; done) | (simp; omega))) | (with_reducible assumption))); done))⟩
    case round =>
      obtain ⟨rfl, hx, hb⟩ := hrel
      go_wp2
      go_ret
      exact ⟨_, rfl, .inl ⟨_, _, rfl, rfl⟩, hb⟩
  · obtain ⟨cs0, hcs0, hmk⟩ := make_dev xs.length hn w
    unfold maxLen at h3
    go_enter Tryz.func20, Tryz.ntmps20
    go_wp2
    clear hmk
    go_loopw [4] (fun i wr => ∃ k : Nat, k ≤ xs.length ∧ i = .int .i64 k ∧ (∃ (cs : Array Value) (f : Nat → Nat), Blk wr w.heap.size cs 46 ∧ cs.size = xs.length * 4 ∧ (∀ j y, j < k → xs[j]? = some y → Cs4 cs j (.int .i64 y.kind) (.slice (some ⟨f j, 0, none⟩) y.pins.length y.pins.length) (.int .i64 y.wd) (.int .i64 y.len) ∧ IBlk wr (f j) y.pins ∧ w.heap.size < f j) ∧ (∀ i j, i < j → j < k → f i ≠ f j)) ∧ Below w.heap.size w wr) (fun i _ => xs.length - (intOf i).toNat)
    case atStart => exact ⟨0, Nat.zero_le _, rfl, ⟨cs0, fun _ => 0, (by ((repeat (first | (with_reducible assumption) | (with_reducible refine Blk.drewN ?_ _) | (with_reducible refine Blk.drew ?_) | ((with_reducible refine Blk.new _ ?_); focus (first | omega | (simp; done) | (simp; omega))) | (with_reducible refine Blk.past ?_ _) | ((with_reducible refine Blk.apart ?_ _ _ _ ?_); rotate_left; focus (first | omega | (simp; done) | (simp; omega))) | (with_reducible refine Blk.by (by assumption) ?_))); done)), hcs0, by intro j y hj; omega, by intro i j _ hj; omega⟩, (by ((repeat (first | (with_reducible exact Below.refl _ _) | (with_reducible refine below_drewN ?_ _) | (with_reducible refine Below.drew ?_) | (with_reducible refine below_al ?_ _) | (with_reducible refine below_on (by assumption) ?_) | ((with_reducible refine Below.setCell ?_ ?_ _); rotate_left; focus (first | omega | (simp; done) | (simp; omega))) | (with_reducible assumption))); done))⟩
    case round =>
      obtain ⟨k, hk, rfl, ⟨cs, f, hB, hsz, hold, hinj⟩, hb⟩ := hrel
      by_cases hlt : k < xs.length
      · obtain ⟨x, hx⟩ : ∃ x, xs[k]? = some x := ⟨xs[k], List.getElem?_eq_getElem hlt⟩
        obtain ⟨sv, c1, c2, c3, c4, hS⟩ := (h4 k x hx).by hb
        have HS := Lib.hid hsz
        have HO := Lib.hid hold
        have HINJ := Lib.hid hinj
        have HX := Lib.hid hx
        have hxm : x.pins.length ≤ 1048576 := hpn x (List.mem_of_getElem? hx)
        have HT := Lib.hid (fun w h => toDevice_any x.kind x.wd x.len sv x.pins w h hxm)
        have hin : k * 4 + 4 ≤ cs.size := by omega
        have hlB := hB.lt
        obtain ⟨u0_, d0⟩ : ∃ u, cs[k * 4]? = some u := ⟨_, Array.getElem?_eq_getElem (by omega)⟩
        obtain ⟨u1_, d1⟩ : ∃ u, cs[k * 4 + 1]? = some u := ⟨_, Array.getElem?_eq_getElem (by omega)⟩
        obtain ⟨u2_, d2⟩ : ∃ u, cs[k * 4 + 2]? = some u := ⟨_, Array.getElem?_eq_getElem (by omega)⟩
        obtain ⟨u3_, d3⟩ : ∃ u, cs[k * 4 + 3]? = some u := ⟨_, Array.getElem?_eq_getElem (by omega)⟩
        obtain ⟨a', c', rfl⟩ := hS.len
        clear hsz hold hinj hx h4 hcs0 hpn
        go_wp2_with fail
        refine (HT.out _ hS).mono ?_
        rintro e w1 ⟨gp, rfl, hG, hge, hb1⟩
        replace hB := Blk.by hb1 hB
        have hBc := hB.cell
        have hBf := hB.free
        go_wp2
        have hlt' : ∀ j y, j < k → xs[j]? = some y → f j < wr.heap.size := fun j y hj hy => (HO.out j y hj hy).2.1.lt
        refine ⟨⟨k + 1, by omega, by go_num, ⟨put4 cs k (.int .i64 x.kind) (.slice (some ⟨gp, 0, none⟩) x.pins.length x.pins.length) (.int .i64 x.wd) (.int .i64 x.len), fun j => if j = k then gp else f j, (((hB.set _ _).set _ _).set _ _).set _ _, by rw [size_put4]; exact HS.out, ?_, ?_⟩, (by ((repeat (first | (with_reducible exact Below.refl _ _) | (with_reducible refine below_drewN ?_ _) | (with_reducible refine Below.drew ?_) | (with_reducible refine below_al ?_ _) | (with_reducible refine below_on (by assumption) ?_) | ((with_reducible refine Below.setCell ?_ ?_ _); rotate_left; focus (first | omega | (simp; done) | (simp; omega))) | (with_reducible assumption))); done))⟩, by simp [intOf]; omega⟩
        · intro j y hj hy
          by_cases hjk : j = k
          · subst hjk
            have hxy := HX.out
            obtain rfl : y = x := Option.some.inj (hy.symm.trans hxy)
            simp only [if_true]
            exact ⟨put4_same cs j _ _ _ _ hin, (((hG.apart _ _ _ (by omega)).apart _ _ _ (by omega)).apart _ _ _ (by omega)).apart _ _ _ (by omega), by omega⟩
          · obtain ⟨q1, q2, q3⟩ := HO.out j y (by omega) hy
            simp only [if_neg hjk]
            exact ⟨put4_other cs k j _ _ _ _ _ _ _ _ hjk q1, ((((q2.by hb1).apart _ _ _ (by omega)).apart _ _ _ (by omega)).apart _ _ _ (by omega)).apart _ _ _ (by omega), q3⟩
        · intro i j hij hj
          obtain ⟨y, hy⟩ : ∃ y, xs[i]? = some y := ⟨xs[i]'(by omega), List.getElem?_eq_getElem (by omega)⟩
          have hfi := hlt' i y (by omega) hy
          by_cases hjk : j = k
          · subst hjk
            simp only [if_true, if_neg (show i ≠ j by omega)]
            omega
          · simp only [if_neg hjk, if_neg (show i ≠ k by omega)]
            exact HINJ.out i j hij (by omega)
      · go_wp2
        go_ret
        have hlB := hB.lt
        obtain rfl : k = xs.length := by omega
        refine ⟨_, rfl, .inr ⟨w.heap.size, xs.length, cs, f, rfl, by omega, Nat.le_refl _, by unfold maxLen; omega, hB, fun i x hx => ?_, fun i j hi hj hij => ?_⟩, hb⟩
        · have hi := (List.getElem?_eq_some_iff.1 hx).1
          obtain ⟨q1, q2, q3⟩ := hold i x hi hx
          have := q2.lt
          exact ⟨⟨_, q1, q2.r (by have := hpn x (List.mem_of_getElem? hx); omega)⟩, by omega⟩
        · rcases Nat.lt_or_ge i j with h | h
          · exact hinj i j h hj
          · exact fun e => hinj j i (by omega) hi e.symm
end Go.Proofs.YtjanifoipbmkhaaGreat
