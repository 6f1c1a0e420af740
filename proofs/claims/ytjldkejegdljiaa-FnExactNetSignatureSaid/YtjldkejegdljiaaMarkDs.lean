/- markDeviceS and heldDeviceS. -/
import Derived.Test.YtjldkejegdljiaaOwnDs
namespace Go.Proofs.Ytjldkejegdljiaa
open Go.RowKit
set_option linter.unusedVariables false
set_option linter.unusedSimpArgs false

theorem Within.sub {lo hi lo' hi' : Nat} {w w' : World} (h : Within lo hi w w') (h1 : lo' ≤ lo) (h2 : hi ≤ hi') : Within lo' hi' w w' := ⟨h.os, h.tape, h.output, h.size, fun k hk hk' => h.block k hk (by omega)⟩

def set3 (cs : Array Value) (k : Nat) (u v z : Value) : Array Value := ((cs.setIfInBounds (k * 4) u).setIfInBounds (k * 4 + 2) v).setIfInBounds (k * 4 + 3) z
theorem set3_other {cs : Array Value} {j k : Nat} {a b c d : Value} (u v z : Value) (hne : j ≠ k) (h : Cs4 cs j a b c d) : Cs4 (set3 cs k u v z) j a b c d := by
  obtain ⟨h1, h2, h3, h4⟩ := h
  refine ⟨?_, ?_, ?_, ?_⟩ <;> simp only [set3, Array.getElem?_setIfInBounds, Array.size_setIfInBounds] <;> (repeat rw [if_neg (by omega)]) <;> assumption
theorem set3_same {cs : Array Value} {k : Nat} {b : Value} (u v z : Value) (hb : cs[k * 4 + 1]? = some b) (hs : k * 4 + 3 < cs.size) : Cs4 (set3 cs k u v z) k u b v z := by
  refine ⟨?_, ?_, ?_, ?_⟩ <;> simp only [set3, Array.getElem?_setIfInBounds, Array.size_setIfInBounds] <;> repeat (first | rw [if_pos trivial] | rw [if_pos (by omega)] | rw [if_neg (by omega)] | assumption)

set_option maxRecDepth 100000 in
set_option maxHeartbeats 4000000 in
theorem markDeviceS_any (lo hi : Nat) (sv : Value) (ds : List Dv) (k0 : Int) (w : World) (h : OwnDs w lo hi sv ds) (hpn : ∀ d ∈ ds, d.pins.length ≤ 1048576) (hk : 0 ≤ k0) (hk' : k0 + dsum ds ≤ 1000000000000) :
    Calls Try.prog 41 #[sv, .int .i64 k0] w fun e w' => e = .returned (.int .i64 (k0 + dsum ds)) ∧ OwnDs w' lo hi sv (markDs k0 ds) ∧ Within lo hi w w' := by
  rcases h with ⟨a, c, rfl, rfl⟩ | ⟨g, cap, cs0, f, rfl, hg, hcap, hmax, hB0, hel, hinj⟩
  · go_enter Try.func41, Try.ntmps41
    go_wp2
    go_loopw [1, 5] (fun v i wr => i = .int .i64 0 ∧ v = .int .i64 k0 ∧ wr = w) (fun _ _ _ => 0)
    case atStart => exact ⟨rfl, rfl, rfl⟩
    case round =>
      obtain ⟨rfl, rfl, rfl⟩ := hrel
      go_wp2
      go_ret
      exact ⟨ret_i64 (by simp [dsum]), .inl ⟨_, _, rfl, rfl⟩, Within.refl _ _ _⟩
  · unfold maxLen at hmax
    have HPN := Lib.hid hpn
    have HEL := Lib.hid hel
    have HINJ := Lib.hid hinj
    have HDT := Lib.hid (dsum_take ds)
    have HDM := Lib.hid (dsum_mono ds)
    have HD0 := Lib.hid (fun k => dsum_nonneg (ds.take k))
    have HDF := Lib.hid (show dsum (ds.take ds.length) = dsum ds by rw [List.take_length])
    have HM := Lib.hid (markDs_inv k0 ds)
    have HLM := Lib.hid (length_markDs k0 ds)
    clear hpn hel hinj
    go_enter Try.func41, Try.ntmps41
    go_wp2
    go_loopw [1, 5] (fun v i wr => ∃ k : Nat, k ≤ ds.length ∧ i = .int .i64 k ∧ (∃ s : Int, v = .int .i64 s ∧ s = k0 + dsum (ds.take k)) ∧
      (∃ cs : Array Value, Blk wr g cs 68 ∧ Hid (∀ (j : Nat) (x : Dv), ds[j]? = some x → (j < k → ∃ pv, Cs4 cs j (.int .i64 (k0 + dsum (ds.take j))) pv (.int .i64 (k0 + dsum (ds.take j) + 1 + x.pins.length)) (.int .i64 (k0 + dsum (ds.take j) + 2 + x.pins.length)) ∧ OwnR wr (f j) (f j + 1) pv (marks (k0 + dsum (ds.take j) + 1) x.pins.length)) ∧ (k ≤ j → ∃ pv, Cs4 cs j (.int .i64 x.kind) pv (.int .i64 x.wd) (.int .i64 x.len) ∧ OwnR wr (f j) (f j + 1) pv x.pins))) ∧ Within lo hi w wr) (fun _ i _ => ds.length - (intOf i).toNat)
    case atStart => exact ⟨0, Nat.zero_le _, rfl, ⟨k0, rfl, by simp [dsum]⟩, ⟨cs0, hB0, Lib.hid (fun j x hx => ⟨fun h => by omega, fun _ => (HEL.out j x hx).1⟩)⟩, Within.refl _ _ _⟩
    case round =>
      obtain ⟨k, hkl, rfl, ⟨s, rfl, hs⟩, ⟨cs, hB, HO⟩, ho⟩ := hrel
      by_cases hlt : k < ds.length
      · obtain ⟨x, hx⟩ : ∃ x, ds[k]? = some x := ⟨ds[k], List.getElem?_eq_getElem hlt⟩
        have hxl : x.pins.length ≤ 1048576 := HPN.out x (List.mem_of_getElem? hx)
        obtain ⟨pv, ⟨c0, c1, c2, c3⟩, hOR⟩ := (HO.out k x hx).2 (Nat.le_refl _)
        obtain ⟨hf1, hf2, hf3⟩ := (HEL.out k x hx).2
        have hst := HDT.out k x hx
        have hsm := HDM.out (k + 1)
        have hs0 := HD0.out k
        have HX := Lib.hid hx
        have HS := Lib.hid hs
        have HST := Lib.hid hst
        have hsb : 0 ≤ s := by omega
        have hsb' : s + 3 + x.pins.length ≤ 1000000000000 := by omega
        have HMK := Lib.hid (fun w h => markR_any (f k) (f k + 1) pv x.pins (s + 1) w h hxl (by omega) (by omega))
        have hBf := hB.free
        have hBc := hB.cell
        have hz : k * 4 + 3 < cs.size := (Array.getElem?_eq_some_iff.1 c3).1
        have i1 : (0 : Int) ≤ (k : Int) := by omega
        have i2 : (k : Int) < (ds.length : Int) := by omega
        have HOR := Lib.hid hOR
        obtain ⟨ap, cp, rfl⟩ := hOR.sl.len
        obtain ⟨t, ht⟩ : ∃ t : Int, s + 1 + x.pins.length = t := ⟨_, rfl⟩
        rw [ht] at HMK
        have HT := Lib.hid ht
        have ht0 : 0 ≤ t := by omega
        have ht1 : t + 2 ≤ 1000000000000 := by omega
        have hb1 := hB.set (k * 4) (.int .i64 s)
        have hO1 : OwnR (wr.setCell ⟨g, k * 4, none⟩ (.int .i64 s)) (f k) (f k + 1) (.slice ap x.pins.length cp) x.pins := HOR.out.past (Within.set (Within.refl g (g + 1) wr) g (k * 4) (.int .i64 s) (Nat.le_refl _) (by omega)) (by omega)
        have HO1 := Lib.hid hO1
        clear hx hs hst hOR hO1 ht
        go_wp2_with fail
        refine (HMK.out _ HO1.out).mono ?_
        rintro e w1 ⟨rfl, hO2, hw1⟩
        have hb2 := hw1.blk hb1 (by omega)
        have e2 := hb2.cell
        have f2 := hb2.free
        have HO2 := Lib.hid hO2
        have HW1 := Lib.hid hw1
        clear hO2 hw1 hBc hBf
        go_wp2
        have w3 : Within lo hi w (w1.setCell ⟨g, k * 4 + 2, none⟩ (.int .i64 t)) := ((ho.set g (k * 4) (.int .i64 s) hg.1 hg.2).on (HW1.out.sub hf1 (by omega))).set g _ _ hg.1 hg.2
        have hmv : ∀ (j : Nat) (pv : Value) (zs : List Int), j < ds.length → j ≠ k → f j ≠ g → OwnR wr (f j) (f j + 1) pv zs → OwnR ((w1.setCell ⟨g, k * 4 + 2, none⟩ (.int .i64 t)).setCell ⟨g, k * 4 + 3, none⟩ (.int .i64 (t + 1))) (f j) (f j + 1) pv zs := by
          intro j pv zs hj hjk hjg hR
          have hne := HINJ.out j k hj hlt hjk
          have r1 := hR.past (Within.set (Within.refl g (g + 1) wr) g (k * 4) (.int .i64 s) (Nat.le_refl _) (by omega)) (by omega)
          have r2 := r1.past HW1.out (by omega)
          have r3 := r2.past (Within.set (Within.refl g (g + 1) w1) g (k * 4 + 2) (.int .i64 t) (Nat.le_refl _) (by omega)) (by omega)
          exact r3.past (Within.set (Within.refl g (g + 1) _) g (k * 4 + 3) (.int .i64 (t + 1)) (Nat.le_refl _) (by omega)) (by omega)
        refine ⟨⟨k + 1, by omega, by go_num, ⟨t + 1 + 1, rfl, by have := HS.out; have := HST.out; have := HT.out; omega⟩, ⟨set3 cs k (.int .i64 s) (.int .i64 t) (.int .i64 (t + 1)), (hb2.set _ _).set _ _, Lib.hid (fun j y hy => ⟨fun hj => ?_, fun hj => ?_⟩)⟩, w3.set g _ _ hg.1 hg.2⟩, by simp [intOf]; omega⟩
        · have hjl : j < ds.length := (List.getElem?_eq_some_iff.1 hy).1
          by_cases hjk : j = k
          · subst hjk
            obtain rfl : y = x := Option.some.inj (hy.symm.trans HX.out)
            have e1 := HS.out
            have e2 := HT.out
            rw [← e1]
            have e3 : s + 1 + (y.pins.length : Int) = t := e2
            have e4 : s + 2 + (y.pins.length : Int) = t + 1 := by omega
            rw [e3, e4]
            refine ⟨.slice ap y.pins.length cp, set3_same _ _ _ c1 hz, ?_⟩
            have r3 := HO2.out.past (Within.set (Within.refl g (g + 1) w1) g (j * 4 + 2) (.int .i64 t) (Nat.le_refl _) (by omega)) (by omega)
            exact r3.past (Within.set (Within.refl g (g + 1) _) g (j * 4 + 3) (.int .i64 (t + 1)) (Nat.le_refl _) (by omega)) (by omega)
          · obtain ⟨pv, hC, hR⟩ := (HO.out j y hy).1 (by omega)
            exact ⟨pv, set3_other _ _ _ hjk hC, hmv j pv _ hjl hjk (HEL.out j y hy).2.2.2 hR⟩
        · have hjl : j < ds.length := (List.getElem?_eq_some_iff.1 hy).1
          have hjk : j ≠ k := by omega
          obtain ⟨pv, hC, hR⟩ := (HO.out j y hy).2 (by omega)
          exact ⟨pv, set3_other _ _ _ hjk hC, hmv j pv _ hjl hjk (HEL.out j y hy).2.2.2 hR⟩
      · obtain rfl : k = ds.length := by omega
        go_wp2
        go_ret
        refine ⟨ret_i64 (by rw [hs, HDF.out]), .inr ⟨g, cap, cs, f, by rw [HLM.out], hg, by rw [HLM.out]; exact hcap, by unfold maxLen; exact hmax, hB, fun i y hy => ?_, fun i j hi hj hij => HINJ.out i j (by rwa [HLM.out] at hi) (by rwa [HLM.out] at hj) hij⟩, ho⟩
        obtain ⟨d, hd, rfl⟩ := HM.out i y hy
        obtain ⟨pv, hC, hR⟩ := (HO.out i d hd).1 (List.getElem?_eq_some_iff.1 hd).1
        exact ⟨⟨pv, hC, hR⟩, (HEL.out i d hd).2⟩

set_option maxRecDepth 100000 in
set_option maxHeartbeats 4000000 in
theorem heldDeviceS_any (sv : Value) (ds : List Dv) (k0 : Int) (w : World) (h : DvSl w sv (markDs k0 ds)) (hpn : ∀ d ∈ ds, d.pins.length ≤ 1048576) (hk : 0 ≤ k0) (hk' : k0 + dsum ds ≤ 1000000000000) :
    Calls Try.prog 43 #[sv, .int .i64 k0] w fun e w' => e = .returned (.int .i64 (k0 + dsum ds)) ∧ ∃ m, w' = w.drewN m := by
  have hlm := length_markDs k0 ds
  have HPN := Lib.hid hpn
  have HDT := Lib.hid (dsum_take ds)
  have HDM := Lib.hid (dsum_mono ds)
  have HD0 := Lib.hid (fun k => dsum_nonneg (ds.take k))
  have HDF := Lib.hid (show dsum (ds.take ds.length) = dsum ds by rw [List.take_length])
  have HG := Lib.hid (fun i d h => markDs_get k0 ds i d h)
  have HH := Lib.hid h
  have hdl : (markDs k0 ds).length ≤ 9223372036854775807 := by
    rcases h with ⟨_, _, _, h2⟩ | ⟨b, off, cap, h1, h2, h3, _⟩
    · rw [h2]; simp
    · unfold maxLen at h3; omega
  obtain ⟨a, c, rfl⟩ := h.sized
  rw [hlm] at hdl ⊢
  clear h hlm hpn
  go_enter Try.func43, Try.ntmps43
  go_wp2
  go_loopw [1, 5] (fun v i wr => ∃ k m : Nat, k ≤ ds.length ∧ i = .int .i64 k ∧ (∃ s : Int, v = .int .i64 s ∧ s = k0 + dsum (ds.take k)) ∧ wr = w.drewN m) (fun _ i _ => ds.length - (intOf i).toNat)
  case atStart => exact ⟨0, 0, Nat.zero_le _, rfl, ⟨k0, rfl, by simp [dsum]⟩, rfl⟩
  case round =>
    obtain ⟨k, m, hkl, rfl, ⟨s, rfl, hs⟩, rfl⟩ := hrel
    by_cases hlt : k < ds.length
    · obtain ⟨x, hx⟩ : ∃ x, ds[k]? = some x := ⟨ds[k], List.getElem?_eq_getElem hlt⟩
      have hxl : x.pins.length ≤ 1048576 := HPN.out x (List.mem_of_getElem? hx)
      have hm := HG.out k x hx
      rw [← hs] at hm
      have HHS := HH.out
      rcases HHS with ⟨_, _, e1, e2⟩ | ⟨b, off, cap, he, h2, h3, h4⟩
      · rw [e2] at hm; simp at hm
      obtain ⟨sp, d1, d2, d3, d4, hS⟩ := h4 k _ hm
      obtain ⟨rfl, rfl⟩ : a = some ⟨b, off, none⟩ ∧ c = cap := by simpa [length_markDs] using he
      simp only [mkd] at d1 d2 d3 d4 hS
      have hst := HDT.out k x hx
      have hsm := HDM.out (k + 1)
      have hs0 := HD0.out k
      have HS := Lib.hid hs
      have HST := Lib.hid hst
      have hsb : 0 ≤ s := by omega
      have hsb' : s + 3 + x.pins.length ≤ 1000000000000 := by omega
      have HHL := Lib.hid (fun w h => heldInt64S_any sp x.pins.length (s + 1) w h hxl (by omega) (by omega))
      have HSP := Lib.hid (hS.by (below_of_drewN w m))
      have i1 : (0 : Int) ≤ (k : Int) := by omega
      have i2 : (k : Int) < (ds.length : Int) := by omega
      obtain ⟨ap, cp, rfl⟩ := hS.len
      obtain ⟨t, ht⟩ : ∃ t : Int, s + 1 + x.pins.length = t := ⟨_, rfl⟩
      have ht2 : s + 2 + x.pins.length = t + 1 := by omega
      rw [ht] at HHL d3
      rw [ht2] at d4
      have HT := Lib.hid ht
      have ht0 : 0 ≤ t := by omega
      have ht1 : t + 2 ≤ 1000000000000 := by omega
      clear hx hs hst ht ht2 hm he h4 hS
      go_wp2_with fail
      refine (HHL.out _ HSP.out).mono ?_
      rintro e w1 ⟨rfl, m', rfl⟩
      go_wp2
      exact ⟨⟨k + 1, _, by omega, by go_num, ⟨t + 1 + 1, rfl, by have := HS.out; have := HST.out; have := HT.out; omega⟩, rfl⟩, by simp [intOf]; omega⟩
    · obtain rfl : k = ds.length := by omega
      go_wp2
      go_ret
      exact ⟨ret_i64 (by rw [hs, HDF.out]), m, rfl⟩
end Go.Proofs.Ytjldkejegdljiaa
