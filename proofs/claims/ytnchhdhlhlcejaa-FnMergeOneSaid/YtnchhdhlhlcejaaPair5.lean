/- l28Pair, for parallel devices. -/
import Derived.Test.YtnchhdhlhlcejaaPar2
import Derived.Test.YtnchhdhlhlcejaaSerAny
namespace Go.Proofs.Ytnchhdhlhlcejaa
open Go.RowKit
set_option linter.unusedVariables false
set_option linter.unusedSimpArgs false

theorem DvSl.le {w : World} {sv : Value} {xs : List Dv} (h : DvSl w sv xs) : xs.length ≤ 9223372036854775807 := by
  rcases h with ⟨_, _, _, h2⟩ | ⟨b, off, cap, h1, h2, h3, _⟩
  · subst h2; simp
  · unfold maxLen at h3; omega

set_option maxRecDepth 100000 in
set_option maxHeartbeats 4000000 in
theorem l28PairP_any (x : Nl) (v : Value) (w : World) (h : NlV w v x) (hpn : ∀ d ∈ x.ds, d.pins.length ≤ 1048576) :
    Calls Try.prog 103 #[v, .bool true] w fun e w' => e = .returned (.tuple #[.int .i64 (firstP parS x.ds).1, .int .i64 (firstP parS x.ds).2.1, .bool (firstP parS x.ds).2.2]) ∧ Below w.heap.size w w' := by
  obtain ⟨s1, s2, rfl, hd, hp⟩ := h
  obtain ⟨nets, ds, ps⟩ := x
  dsimp only at hd hp hpn ⊢
  have hdl := hd.le
  have HH := Lib.hid (fun i j => @firstP_hit parS ds i j)
  have HM := Lib.hid (@firstP_miss parS ds)
  have HD := Lib.hid hd
  have HPN := Lib.hid hpn
  obtain ⟨p, hpe⟩ : ∃ p, parS = p := ⟨_, rfl⟩
  have HPC := fun x y s t w h h' hl hl' => l28Parallel_any x y s t w h h' hl hl'
  rw [hpe] at HH HM ⊢
  simp only [hpe] at HPC
  have HP := Lib.hid HPC
  clear hpe HPC hpn
  generalize firstP p ds = r at *
  obtain ⟨r1, r2, r3⟩ := r
  dsimp only
  obtain ⟨a1, c1, rfl⟩ := hd.sized
  obtain ⟨a2, c2, rfl⟩ := hp.sized
  clear hd hp
  go_enter Try.func103, Try.ntmps103
  go_wp2
  go_loopw [7] (fun i wr => ∃ k : Nat, k ≤ ds.length ∧ i = .int .i64 k ∧ Hid (∀ (i' j' : Nat) x y, i' < k → i' < j' → ds[i']? = some x → ds[j']? = some y → p x y = false) ∧ Blk wr w.heap.size #[.int .i64 nets, .slice a1 ds.length c1, .slice a2 ps.length c2] 30 ∧ Below w.heap.size w wr) (fun i _ => ds.length - (intOf i).toNat)
  case atStart => exact ⟨0, Nat.zero_le _, rfl, Lib.hid (by intro i' j' x y h; omega), (by ((repeat (first | (with_reducible assumption) | (with_reducible refine Blk.drewN ?_ _) | (with_reducible refine Blk.drew ?_) | ((with_reducible refine Blk.new _ ?_); focus (first | omega | (simp; done) | (simp; omega))) | (with_reducible refine Blk.past ?_ _) | ((with_reducible refine Blk.apart ?_ _ _ _ ?_); rotate_left; focus (first | omega | (simp; done) | (simp; omega))) | (with_reducible refine Blk.by (by assumption) ?_))); done)), (by ((repeat (first | (with_reducible exact Below.refl _ _) | (with_reducible refine below_drewN ?_ _) | (with_reducible refine Below.drew ?_) | (with_reducible refine below_al ?_ _) | (with_reducible refine below_on (by assumption) ?_) | ((with_reducible refine Below.setCell ?_ ?_ _); rotate_left; focus (first | omega | (simp; done) | (simp; omega))) | (with_reducible assumption))); done))⟩
  case round =>
    obtain ⟨k, hk, rfl, HI, kN, hb⟩ := hrel
    have cN := kN.cell
    by_cases hlt : k < ds.length
    · obtain ⟨x, hx⟩ : ∃ x, ds[k]? = some x := ⟨ds[k], List.getElem?_eq_getElem hlt⟩
      have HDS := HD.out
      rcases HDS with ⟨_, _, _, h2⟩ | ⟨b, off, cap, he, h2, h3, h4⟩
      · rw [h2] at hlt; simp at hlt
      obtain ⟨rfl, rfl⟩ : a1 = some ⟨b, off, none⟩ ∧ c1 = cap := by simpa using he
      have HXX := Lib.hid hx
      have HDA := Lib.hid h4
      have i1 : (0 : Int) ≤ (k : Int) := by omega
      have i2 : (k : Int) < (ds.length : Int) := by omega
      clear h4 hx he
      obtain ⟨sx, e1, e2, e3, e4, hSx⟩ := HDA.out k x HXX.out
      have hxl : x.pins.length ≤ 1048576 := HPN.out x (List.mem_of_getElem? HXX.out)
      have HSX := Lib.hid hSx
      obtain ⟨ax, cx, rfl⟩ := hSx.len
      clear hSx
      go_wp2
      go_loopw [8] (fun j wr => ∃ m : Nat, k < m ∧ m ≤ ds.length ∧ j = .int .i64 m ∧ Hid (∀ (i' j' : Nat) x y, (i' < k ∨ i' = k ∧ j' < m) → i' < j' → ds[i']? = some x → ds[j']? = some y → p x y = false) ∧ Blk wr w.heap.size #[.int .i64 nets, .slice (some ⟨b, off, none⟩) ds.length c1, .slice a2 ps.length c2] 30 ∧ Below w.heap.size w wr) (fun j _ => ds.length - (intOf j).toNat)
      case atStart => exact ⟨k + 1, by omega, by omega, by go_num, Lib.hid (by intro i' j' x y h1 h2 h3 h4; exact HI.out i' j' x y (by omega) h2 h3 h4), kN, hb⟩
      case round =>
        clear kN hb cN HI
        obtain ⟨m, hkm, hm, rfl, HI, kN, hb⟩ := hrel
        have cN := kN.cell
        by_cases hlm : m < ds.length
        · obtain ⟨y, hy⟩ : ∃ y, ds[m]? = some y := ⟨ds[m], List.getElem?_eq_getElem hlm⟩
          obtain ⟨sy, f1, f2, f3, f4, hSy⟩ := HDA.out m y hy
          have hyl : y.pins.length ≤ 1048576 := HPN.out y (List.mem_of_getElem? hy)
          have HYY := Lib.hid hy
          have HSY := Lib.hid hSy
          obtain ⟨ay, cy, rfl⟩ := hSy.len
          have d1 := cell_by' hb e1
          have d2 := cell_by' hb e2
          have d3 := cell_by' hb e3
          have d4 := cell_by' hb e4
          have g1 := cell_by' hb f1
          have g2 := cell_by' hb f2
          have g3 := cell_by' hb f3
          have g4 := cell_by' hb f4
          have HC := fun w h h' => HP.out x y (.slice ax x.pins.length cx) (.slice ay y.pins.length cy) w h h' hxl hyl
          have j1 : (0 : Int) ≤ (m : Int) := by omega
          have j2 : (m : Int) < (ds.length : Int) := by omega
          clear hSy hy f1 f2 f3 f4
          cases hq : p x y with
          | true =>
            simp only [hq] at HC
            have HC' := Lib.hid HC
            have hr := Lib.hid (HH.out k m ⟨hkm, ⟨x, y, HXX.out, HYY.out, hq⟩, HI.out⟩)
            clear HC hq
            go_wp2_with fail
            go_region_held3 (fun w' => (Blk w' w.heap.size #[.int .i64 nets, .slice (some ⟨b, off, none⟩) ds.length c1, .slice a2 ps.length c2] 30 ∧ ∀ o, w'.cell? ⟨w.heap.size, o, none⟩ = (#[.int .i64 nets, .slice (some ⟨b, off, none⟩) ds.length c1, .slice a2 ps.length c2] : Array Value)[o]?) ∧ (w'.cell? ⟨b, off + k * 4, none⟩ = some (.int .i64 x.kind) ∧ w'.cell? ⟨b, off + k * 4 + 1, none⟩ = some (.slice ax x.pins.length cx) ∧ w'.cell? ⟨b, off + k * 4 + 2, none⟩ = some (.int .i64 x.wd) ∧ w'.cell? ⟨b, off + k * 4 + 3, none⟩ = some (.int .i64 x.len)) ∧ (w'.cell? ⟨b, off + m * 4, none⟩ = some (.int .i64 y.kind) ∧ w'.cell? ⟨b, off + m * 4 + 1, none⟩ = some (.slice ay y.pins.length cy) ∧ w'.cell? ⟨b, off + m * 4 + 2, none⟩ = some (.int .i64 y.wd) ∧ w'.cell? ⟨b, off + m * 4 + 3, none⟩ = some (.int .i64 y.len)) ∧ Below w.heap.size w w')
              (first | exact ⟨kN.both, ⟨d1, d2, d3, d4⟩, ⟨g1, g2, g3, g4⟩, hb.drew⟩ | exact ⟨(Blk.by hb1 kN).both, ⟨cell_by' hb1 d1, cell_by' hb1 d2, cell_by' hb1 d3, cell_by' hb1 d4⟩, ⟨cell_by' hb1 g1, cell_by' hb1 g2, cell_by' hb1 g3, cell_by' hb1 g4⟩, below_on hb1 hb.drew⟩)
              (first | (go_at_call 41; refine (HC'.out _ (HSX.out.by (hb.drew)) (HSY.out.by (hb.drew))).mono ?_; rintro e w1 ⟨rfl, hb1⟩))
            go_wp2
            go_ret3
            exact ⟨by have := hr.out; simp only [Prod.mk.injEq] at this; obtain ⟨h1, h2, h3⟩ := this; subst h1 h2 h3; rfl, below_on hb1 hb.drew⟩
          | false =>
            simp only [hq] at HC
            have HC' := Lib.hid HC
            have HQ := Lib.hid hq
            clear HC hq
            go_wp2_with fail
            go_region_held3 (fun w' => (Blk w' w.heap.size #[.int .i64 nets, .slice (some ⟨b, off, none⟩) ds.length c1, .slice a2 ps.length c2] 30 ∧ ∀ o, w'.cell? ⟨w.heap.size, o, none⟩ = (#[.int .i64 nets, .slice (some ⟨b, off, none⟩) ds.length c1, .slice a2 ps.length c2] : Array Value)[o]?) ∧ (w'.cell? ⟨b, off + k * 4, none⟩ = some (.int .i64 x.kind) ∧ w'.cell? ⟨b, off + k * 4 + 1, none⟩ = some (.slice ax x.pins.length cx) ∧ w'.cell? ⟨b, off + k * 4 + 2, none⟩ = some (.int .i64 x.wd) ∧ w'.cell? ⟨b, off + k * 4 + 3, none⟩ = some (.int .i64 x.len)) ∧ (w'.cell? ⟨b, off + m * 4, none⟩ = some (.int .i64 y.kind) ∧ w'.cell? ⟨b, off + m * 4 + 1, none⟩ = some (.slice ay y.pins.length cy) ∧ w'.cell? ⟨b, off + m * 4 + 2, none⟩ = some (.int .i64 y.wd) ∧ w'.cell? ⟨b, off + m * 4 + 3, none⟩ = some (.int .i64 y.len)) ∧ Below w.heap.size w w')
              (first | exact ⟨kN.both, ⟨d1, d2, d3, d4⟩, ⟨g1, g2, g3, g4⟩, hb.drew⟩ | exact ⟨(Blk.by hb1 kN).both, ⟨cell_by' hb1 d1, cell_by' hb1 d2, cell_by' hb1 d3, cell_by' hb1 d4⟩, ⟨cell_by' hb1 g1, cell_by' hb1 g2, cell_by' hb1 g3, cell_by' hb1 g4⟩, below_on hb1 hb.drew⟩)
              (first | (go_at_call 41; refine (HC'.out _ (HSX.out.by (hb.drew)) (HSY.out.by (hb.drew))).mono ?_; rintro e w1 ⟨rfl, hb1⟩))
            go_wp2
            exact ⟨⟨m + 1, by omega, by omega, by go_num, Lib.hid (fun i' j' x' y' h1 h2 h3 h4 => by
              by_cases e : i' = k ∧ j' = m
              · obtain ⟨rfl, rfl⟩ := e
                obtain rfl : x' = x := Option.some.inj (h3.symm.trans HXX.out)
                obtain rfl : y' = y := Option.some.inj (h4.symm.trans HYY.out)
                exact HQ.out
              · exact HI.out i' j' x' y' (by omega) h2 h3 h4), Blk.by hb1 kN, below_on hb1 hb.drew⟩, by simp [intOf]; omega⟩
        · obtain rfl : m = ds.length := by omega
          go_wp2
          exact ⟨⟨k + 1, by omega, by go_num, Lib.hid (fun i' j' x' y' h1 h2 h3 h4 => HI.out i' j' x' y' (by have := (List.getElem?_eq_some_iff.1 h4).1; omega) h2 h3 h4), kN, hb⟩, by simp [intOf]; omega⟩
    · obtain rfl : k = ds.length := by omega
      have hr := Lib.hid (HM.out (fun i j x y hij hx hy => HI.out i j x y (List.getElem?_eq_some_iff.1 hx).1 hij hx hy))
      go_wp2
      go_ret3
      exact ⟨by have := hr.out; simp only [Prod.mk.injEq] at this; obtain ⟨h1, h2, h3⟩ := this; subst h1 h2 h3; rfl, hb⟩
end Go.Proofs.Ytnchhdhlhlcejaa

/- firstPair over any closure. -/
namespace Go.Proofs.Ytnchhdhlhlcejaa
open Go.RowKit
set_option linter.unusedVariables false
set_option linter.unusedSimpArgs false

end Go.Proofs.Ytnchhdhlhlcejaa

/- l28Pair, for devices in series. -/
namespace Go.Proofs.Ytnchhdhlhlcejaa
open Go.RowKit
set_option linter.unusedVariables false
set_option linter.unusedSimpArgs false

set_option maxRecDepth 100000 in
set_option maxHeartbeats 4000000 in
theorem l28PairS_any (x : Nl) (v : Value) (w : World) (h : NlV w v x) (hv : nlB x = true) :
    Calls Try.prog 103 #[v, .bool false] w fun e w' => e = .returned (.tuple #[.int .i64 (firstP (serB x) x.ds).1, .int .i64 (firstP (serB x) x.ds).2.1, .bool (firstP (serB x) x.ds).2.2]) ∧ Below w.heap.size w w' := by
  have HNV := Lib.hid h
  have HSE := fun a b v sx sy w h1 ha hb h2 h3 => (l28Series_any x a b v sx sy w hv ha hb h1 h2 h3).mono (R' := fun e w' => ∃ r1 : Int, e = .returned (.tuple #[.int .i64 r1, .bool (serB x a b)]) ∧ Below w.heap.size w w') (fun _ _ ⟨r1, h, _, hb⟩ => ⟨r1, h, hb⟩)
  have hpn : ∀ d ∈ x.ds, d.pins.length ≤ 1048576 := fun d hd => by have := (dvB_pins ((nlB_facts hv).2.2.2.1 d hd)).1; omega
  obtain ⟨s1, s2, rfl, hd, hp⟩ := h
  obtain ⟨p, hpe⟩ : ∃ p, serB x = p := ⟨_, rfl⟩
  rw [hpe]
  simp only [hpe] at HSE
  replace HSE := Lib.hid HSE
  clear hpe hv
  obtain ⟨nets, ds, ps⟩ := x
  dsimp only at hd hp hpn HSE HNV ⊢
  have hdl := hd.le
  have HH := Lib.hid (fun i j => @firstP_hit p ds i j)
  have HM := Lib.hid (@firstP_miss p ds)
  have HD := Lib.hid hd
  have HPN := Lib.hid hpn
  have HP := Lib.hid (fun x y s t w h h' hl hl' => l28Parallel_any x y s t w h h' hl hl')
  clear hpn
  generalize firstP p ds = r at *
  obtain ⟨r1, r2, r3⟩ := r
  dsimp only
  obtain ⟨a1, c1, rfl⟩ := hd.sized
  obtain ⟨a2, c2, rfl⟩ := hp.sized
  clear hd hp
  go_enter Try.func103, Try.ntmps103
  go_wp2
  go_loopw [7] (fun i wr => ∃ k : Nat, k ≤ ds.length ∧ i = .int .i64 k ∧ Hid (∀ (i' j' : Nat) x y, i' < k → i' < j' → ds[i']? = some x → ds[j']? = some y → p x y = false) ∧ Blk wr w.heap.size #[.int .i64 nets, .slice a1 ds.length c1, .slice a2 ps.length c2] 30 ∧ Below w.heap.size w wr) (fun i _ => ds.length - (intOf i).toNat)
  case atStart => exact ⟨0, Nat.zero_le _, rfl, Lib.hid (by intro i' j' x y h; omega), (by ((repeat (first | (with_reducible assumption) | (with_reducible refine Blk.drewN ?_ _) | (with_reducible refine Blk.drew ?_) | ((with_reducible refine Blk.new _ ?_); focus (first | omega | (simp; done) | (simp; omega))) | (with_reducible refine Blk.past ?_ _) | ((with_reducible refine Blk.apart ?_ _ _ _ ?_); rotate_left; focus (first | omega | (simp; done) | (simp; omega))) | (with_reducible refine Blk.by (by assumption) ?_))); done)), (by ((repeat (first | (with_reducible exact Below.refl _ _) | (with_reducible refine below_drewN ?_ _) | (with_reducible refine Below.drew ?_) | (with_reducible refine below_al ?_ _) | (with_reducible refine below_on (by assumption) ?_) | ((with_reducible refine Below.setCell ?_ ?_ _); rotate_left; focus (first | omega | (simp; done) | (simp; omega))) | (with_reducible assumption))); done))⟩
  case round =>
    obtain ⟨k, hk, rfl, HI, kN, hb⟩ := hrel
    have cN := kN.cell
    by_cases hlt : k < ds.length
    · obtain ⟨x, hx⟩ : ∃ x, ds[k]? = some x := ⟨ds[k], List.getElem?_eq_getElem hlt⟩
      have HDS := HD.out
      rcases HDS with ⟨_, _, _, h2⟩ | ⟨b, off, cap, he, h2, h3, h4⟩
      · rw [h2] at hlt; simp at hlt
      obtain ⟨rfl, rfl⟩ : a1 = some ⟨b, off, none⟩ ∧ c1 = cap := by simpa using he
      have HXX := Lib.hid hx
      have HDA := Lib.hid h4
      have i1 : (0 : Int) ≤ (k : Int) := by omega
      have i2 : (k : Int) < (ds.length : Int) := by omega
      clear h4 hx he
      obtain ⟨sx, e1, e2, e3, e4, hSx⟩ := HDA.out k x HXX.out
      have hxl : x.pins.length ≤ 1048576 := HPN.out x (List.mem_of_getElem? HXX.out)
      have HSX := Lib.hid hSx
      obtain ⟨ax, cx, rfl⟩ := hSx.len
      clear hSx
      go_wp2
      go_loopw [8] (fun j wr => ∃ m : Nat, k < m ∧ m ≤ ds.length ∧ j = .int .i64 m ∧ Hid (∀ (i' j' : Nat) x y, (i' < k ∨ i' = k ∧ j' < m) → i' < j' → ds[i']? = some x → ds[j']? = some y → p x y = false) ∧ Blk wr w.heap.size #[.int .i64 nets, .slice (some ⟨b, off, none⟩) ds.length c1, .slice a2 ps.length c2] 30 ∧ Below w.heap.size w wr) (fun j _ => ds.length - (intOf j).toNat)
      case atStart => exact ⟨k + 1, by omega, by omega, by go_num, Lib.hid (by intro i' j' x y h1 h2 h3 h4; exact HI.out i' j' x y (by omega) h2 h3 h4), kN, hb⟩
      case round =>
        clear kN hb cN HI
        obtain ⟨m, hkm, hm, rfl, HI, kN, hb⟩ := hrel
        have cN := kN.cell
        by_cases hlm : m < ds.length
        · obtain ⟨y, hy⟩ : ∃ y, ds[m]? = some y := ⟨ds[m], List.getElem?_eq_getElem hlm⟩
          obtain ⟨sy, f1, f2, f3, f4, hSy⟩ := HDA.out m y hy
          have hyl : y.pins.length ≤ 1048576 := HPN.out y (List.mem_of_getElem? hy)
          have HYY := Lib.hid hy
          have HSY := Lib.hid hSy
          obtain ⟨ay, cy, rfl⟩ := hSy.len
          have d1 := cell_by' hb e1
          have d2 := cell_by' hb e2
          have d3 := cell_by' hb e3
          have d4 := cell_by' hb e4
          have g1 := cell_by' hb f1
          have g2 := cell_by' hb f2
          have g3 := cell_by' hb f3
          have g4 := cell_by' hb f4
          have HC1 := Lib.hid (fun w h h' => HP.out x y (.slice ax x.pins.length cx) (.slice ay y.pins.length cy) w h h' hxl hyl)
          have HC := fun w hn h h' => HSE.out x y (.agg #[.int .i64 nets, .slice (some ⟨b, off, none⟩) ds.length c1, .slice a2 ps.length c2]) (.slice ax x.pins.length cx) (.slice ay y.pins.length cy) w hn (List.mem_of_getElem? HXX.out) (List.mem_of_getElem? HYY.out) h h'
          generalize parS x y = pxy at *
          have j1 : (0 : Int) ≤ (m : Int) := by omega
          have j2 : (m : Int) < (ds.length : Int) := by omega
          clear hSy hy
          cases hq : p x y with
          | true =>
            simp only [hq] at HC
            have HC' := Lib.hid HC
            have hr := Lib.hid (HH.out k m ⟨hkm, ⟨x, y, HXX.out, HYY.out, hq⟩, HI.out⟩)
            clear HC hq
            go_wp2_with fail
            go_region_held3 (fun w' => (Blk w' w.heap.size #[.int .i64 nets, .slice (some ⟨b, off, none⟩) ds.length c1, .slice a2 ps.length c2] 30 ∧ ∀ o, w'.cell? ⟨w.heap.size, o, none⟩ = (#[.int .i64 nets, .slice (some ⟨b, off, none⟩) ds.length c1, .slice a2 ps.length c2] : Array Value)[o]?) ∧ (w'.cell? ⟨b, off + k * 4, none⟩ = some (.int .i64 x.kind) ∧ w'.cell? ⟨b, off + k * 4 + 1, none⟩ = some (.slice ax x.pins.length cx) ∧ w'.cell? ⟨b, off + k * 4 + 2, none⟩ = some (.int .i64 x.wd) ∧ w'.cell? ⟨b, off + k * 4 + 3, none⟩ = some (.int .i64 x.len)) ∧ (w'.cell? ⟨b, off + m * 4, none⟩ = some (.int .i64 y.kind) ∧ w'.cell? ⟨b, off + m * 4 + 1, none⟩ = some (.slice ay y.pins.length cy) ∧ w'.cell? ⟨b, off + m * 4 + 2, none⟩ = some (.int .i64 y.wd) ∧ w'.cell? ⟨b, off + m * 4 + 3, none⟩ = some (.int .i64 y.len)) ∧ Below w.heap.size w w')
              (first | exact ⟨kN.both, ⟨d1, d2, d3, d4⟩, ⟨g1, g2, g3, g4⟩, hb.drew⟩ | exact ⟨(Blk.by hb1 kN).both, ⟨cell_by' hb1 d1, cell_by' hb1 d2, cell_by' hb1 d3, cell_by' hb1 d4⟩, ⟨cell_by' hb1 g1, cell_by' hb1 g2, cell_by' hb1 g3, cell_by' hb1 g4⟩, below_on hb1 hb.drew⟩)
              (first | (go_at_call 41; refine (HC1.out _ (HSX.out.by (hb.drew)) (HSY.out.by (hb.drew))).mono ?_; rintro e w1 ⟨rfl, hb1⟩))
            replace kN := Blk.by hb1 kN
            replace hb := below_on hb1 hb.drew
            clear d1 d2 d3 d4 g1 g2 g3 g4 cN hb1
            have cN := kN.cell
            have d1 := cell_by' hb e1
            have d2 := cell_by' hb e2
            have d3 := cell_by' hb e3
            have d4 := cell_by' hb e4
            have g1 := cell_by' hb f1
            have g2 := cell_by' hb f2
            have g3 := cell_by' hb f3
            have g4 := cell_by' hb f4
            go_wp2_with fail
            go_region_held3 (fun w' => (Blk w' w.heap.size #[.int .i64 nets, .slice (some ⟨b, off, none⟩) ds.length c1, .slice a2 ps.length c2] 30 ∧ ∀ o, w'.cell? ⟨w.heap.size, o, none⟩ = (#[.int .i64 nets, .slice (some ⟨b, off, none⟩) ds.length c1, .slice a2 ps.length c2] : Array Value)[o]?) ∧ (w'.cell? ⟨b, off + k * 4, none⟩ = some (.int .i64 x.kind) ∧ w'.cell? ⟨b, off + k * 4 + 1, none⟩ = some (.slice ax x.pins.length cx) ∧ w'.cell? ⟨b, off + k * 4 + 2, none⟩ = some (.int .i64 x.wd) ∧ w'.cell? ⟨b, off + k * 4 + 3, none⟩ = some (.int .i64 x.len)) ∧ (w'.cell? ⟨b, off + m * 4, none⟩ = some (.int .i64 y.kind) ∧ w'.cell? ⟨b, off + m * 4 + 1, none⟩ = some (.slice ay y.pins.length cy) ∧ w'.cell? ⟨b, off + m * 4 + 2, none⟩ = some (.int .i64 y.wd) ∧ w'.cell? ⟨b, off + m * 4 + 3, none⟩ = some (.int .i64 y.len)) ∧ Below w.heap.size w w')
              (first | exact ⟨kN.both, ⟨d1, d2, d3, d4⟩, ⟨g1, g2, g3, g4⟩, hb.drew⟩ | exact ⟨(Blk.by hb2 kN).both, ⟨cell_by' hb2 d1, cell_by' hb2 d2, cell_by' hb2 d3, cell_by' hb2 d4⟩, ⟨cell_by' hb2 g1, cell_by' hb2 g2, cell_by' hb2 g3, cell_by' hb2 g4⟩, below_on hb2 hb.drew⟩)
              (first | (go_at_call 42; refine (HC'.out _ (HNV.out.by hb.drew) (HSX.out.by (hb.drew)) (HSY.out.by (hb.drew))).mono ?_; rintro e w2 ⟨q1, rfl, hb2⟩))
            go_wp2
            go_ret3
            exact ⟨by have := hr.out; simp only [Prod.mk.injEq] at this; obtain ⟨h1, h2, h3⟩ := this; subst h1 h2 h3; rfl, below_on hb2 hb.drew⟩
          | false =>
            simp only [hq] at HC
            have HC' := Lib.hid HC
            have HQ := Lib.hid hq
            clear HC hq
            go_wp2_with fail
            go_region_held3 (fun w' => (Blk w' w.heap.size #[.int .i64 nets, .slice (some ⟨b, off, none⟩) ds.length c1, .slice a2 ps.length c2] 30 ∧ ∀ o, w'.cell? ⟨w.heap.size, o, none⟩ = (#[.int .i64 nets, .slice (some ⟨b, off, none⟩) ds.length c1, .slice a2 ps.length c2] : Array Value)[o]?) ∧ (w'.cell? ⟨b, off + k * 4, none⟩ = some (.int .i64 x.kind) ∧ w'.cell? ⟨b, off + k * 4 + 1, none⟩ = some (.slice ax x.pins.length cx) ∧ w'.cell? ⟨b, off + k * 4 + 2, none⟩ = some (.int .i64 x.wd) ∧ w'.cell? ⟨b, off + k * 4 + 3, none⟩ = some (.int .i64 x.len)) ∧ (w'.cell? ⟨b, off + m * 4, none⟩ = some (.int .i64 y.kind) ∧ w'.cell? ⟨b, off + m * 4 + 1, none⟩ = some (.slice ay y.pins.length cy) ∧ w'.cell? ⟨b, off + m * 4 + 2, none⟩ = some (.int .i64 y.wd) ∧ w'.cell? ⟨b, off + m * 4 + 3, none⟩ = some (.int .i64 y.len)) ∧ Below w.heap.size w w')
              (first | exact ⟨kN.both, ⟨d1, d2, d3, d4⟩, ⟨g1, g2, g3, g4⟩, hb.drew⟩ | exact ⟨(Blk.by hb1 kN).both, ⟨cell_by' hb1 d1, cell_by' hb1 d2, cell_by' hb1 d3, cell_by' hb1 d4⟩, ⟨cell_by' hb1 g1, cell_by' hb1 g2, cell_by' hb1 g3, cell_by' hb1 g4⟩, below_on hb1 hb.drew⟩)
              (first | (go_at_call 41; refine (HC1.out _ (HSX.out.by (hb.drew)) (HSY.out.by (hb.drew))).mono ?_; rintro e w1 ⟨rfl, hb1⟩))
            replace kN := Blk.by hb1 kN
            replace hb := below_on hb1 hb.drew
            clear d1 d2 d3 d4 g1 g2 g3 g4 cN hb1
            have cN := kN.cell
            have d1 := cell_by' hb e1
            have d2 := cell_by' hb e2
            have d3 := cell_by' hb e3
            have d4 := cell_by' hb e4
            have g1 := cell_by' hb f1
            have g2 := cell_by' hb f2
            have g3 := cell_by' hb f3
            have g4 := cell_by' hb f4
            go_wp2_with fail
            go_region_held3 (fun w' => (Blk w' w.heap.size #[.int .i64 nets, .slice (some ⟨b, off, none⟩) ds.length c1, .slice a2 ps.length c2] 30 ∧ ∀ o, w'.cell? ⟨w.heap.size, o, none⟩ = (#[.int .i64 nets, .slice (some ⟨b, off, none⟩) ds.length c1, .slice a2 ps.length c2] : Array Value)[o]?) ∧ (w'.cell? ⟨b, off + k * 4, none⟩ = some (.int .i64 x.kind) ∧ w'.cell? ⟨b, off + k * 4 + 1, none⟩ = some (.slice ax x.pins.length cx) ∧ w'.cell? ⟨b, off + k * 4 + 2, none⟩ = some (.int .i64 x.wd) ∧ w'.cell? ⟨b, off + k * 4 + 3, none⟩ = some (.int .i64 x.len)) ∧ (w'.cell? ⟨b, off + m * 4, none⟩ = some (.int .i64 y.kind) ∧ w'.cell? ⟨b, off + m * 4 + 1, none⟩ = some (.slice ay y.pins.length cy) ∧ w'.cell? ⟨b, off + m * 4 + 2, none⟩ = some (.int .i64 y.wd) ∧ w'.cell? ⟨b, off + m * 4 + 3, none⟩ = some (.int .i64 y.len)) ∧ Below w.heap.size w w')
              (first | exact ⟨kN.both, ⟨d1, d2, d3, d4⟩, ⟨g1, g2, g3, g4⟩, hb.drew⟩ | exact ⟨(Blk.by hb2 kN).both, ⟨cell_by' hb2 d1, cell_by' hb2 d2, cell_by' hb2 d3, cell_by' hb2 d4⟩, ⟨cell_by' hb2 g1, cell_by' hb2 g2, cell_by' hb2 g3, cell_by' hb2 g4⟩, below_on hb2 hb.drew⟩)
              (first | (go_at_call 42; refine (HC'.out _ (HNV.out.by hb.drew) (HSX.out.by (hb.drew)) (HSY.out.by (hb.drew))).mono ?_; rintro e w2 ⟨q1, rfl, hb2⟩))
            go_wp2
            exact ⟨⟨m + 1, by omega, by omega, by go_num, Lib.hid (fun i' j' x' y' h1 h2 h3 h4 => by
              by_cases e : i' = k ∧ j' = m
              · obtain ⟨rfl, rfl⟩ := e
                obtain rfl : x' = x := Option.some.inj (h3.symm.trans HXX.out)
                obtain rfl : y' = y := Option.some.inj (h4.symm.trans HYY.out)
                exact HQ.out
              · exact HI.out i' j' x' y' (by omega) h2 h3 h4), Blk.by hb2 kN, below_on hb2 hb.drew⟩, by simp [intOf]; omega⟩
        · obtain rfl : m = ds.length := by omega
          go_wp2
          exact ⟨⟨k + 1, by omega, by go_num, Lib.hid (fun i' j' x' y' h1 h2 h3 h4 => HI.out i' j' x' y' (by have := (List.getElem?_eq_some_iff.1 h4).1; omega) h2 h3 h4), kN, hb⟩, by simp [intOf]; omega⟩
    · obtain rfl : k = ds.length := by omega
      have hr := Lib.hid (HM.out (fun i j x y hij hx hy => HI.out i j x y (List.getElem?_eq_some_iff.1 hx).1 hij hx hy))
      go_wp2
      go_ret3
      exact ⟨by have := hr.out; simp only [Prod.mk.injEq] at this; obtain ⟨h1, h2, h3⟩ := this; subst h1 h2 h3; rfl, hb⟩
end Go.Proofs.Ytnchhdhlhlcejaa

/- Both ParallelPair. -/
namespace Go.Proofs.Ytnchhdhlhlcejaa
open Go.RowKit
set_option linter.unusedVariables false
set_option linter.unusedSimpArgs false

/-- What ParallelPair answers. -/
noncomputable def parPair (x : Nl) : Int × Int × Bool := if nlB x = true then firstP parB x.ds else (0, 0, false)
theorem parPair_no {x : Nl} (h : nlB x = false) : parPair x = (0, 0, false) := by simp [parPair, h]
theorem parPair_yes {x : Nl} (h : nlB x = true) : parPair x = firstP parB x.ds := by simp [parPair, h]
theorem firstP_par {x : Nl} (h : nlB x = true) : firstP parS x.ds = firstP parB x.ds := by
  obtain ⟨_, _, _, hdv, _⟩ := nlB_facts h
  exact firstP_congr (fun a ha b hb => parS_parB (shp_of (hdv a ha)) (shp_of (hdv b hb)))

set_option maxRecDepth 100000 in
set_option maxHeartbeats 2000000 in
theorem specParallelPair_any (x : Nl) (v : Value) (w : World) (h : NlV w v x) (hok : ∀ p ∈ x.ps, p.ok) (hnn : Fits x.nets) :
    Calls Try.prog 53 #[v] w fun e w' => e = .returned (.tuple #[.int .i64 (parPair x).1, .int .i64 (parPair x).2.1, .bool (parPair x).2.2]) ∧ Below w.heap.size w w' := by
  have HV := Lib.hid (fun v w h => specNl_any x v w h hok hnn)
  have HN := Lib.hid h
  obtain ⟨a, c, a', c', rfl⟩ := h.sized
  cases hv : nlB x with
  | false =>
    rw [hv] at HV
    rw [parPair_no hv]
    clear hv h hok
    go_enter Try.func53, Try.ntmps53
    go_wp2_with (go_at_call 19; refine (HV.out _ _ (HN.out.by (by ((repeat (first | (with_reducible exact Below.refl _ _) | (with_reducible refine below_drewN ?_ _) | (with_reducible refine Below.drew ?_) | (with_reducible refine below_al ?_ _) | (with_reducible refine below_on (by assumption) ?_) | ((with_reducible refine Below.setCell ?_ ?_ _); rotate_left; focus (first | omega | (simp; done) | (simp; omega))) | (with_reducible assumption))); done)))).mono ?_; rintro e w1 ⟨rfl, hb1⟩)
    go_ret3
    exact ⟨rfl, (by ((repeat (first | (with_reducible exact Below.refl _ _) | (with_reducible refine below_drewN ?_ _) | (with_reducible refine Below.drew ?_) | (with_reducible refine below_al ?_ _) | (with_reducible refine below_on (by assumption) ?_) | ((with_reducible refine Below.setCell ?_ ?_ _); rotate_left; focus (first | omega | (simp; done) | (simp; omega))) | (with_reducible assumption))); done))⟩
  | true =>
    rw [hv] at HV
    rw [parPair_yes hv, ← firstP_par hv]
    obtain ⟨_, _, _, hdv, _⟩ := nlB_facts hv
    have HP := Lib.hid (fun v w h => l28PairP_any x v w h (fun d hd => by have := (dvB_pins (hdv d hd)).1; omega))
    generalize firstP parS x.ds = r at *
    clear hv h hok hdv
    go_enter Try.func53, Try.ntmps53
    go_wp2_with (first | (go_at_call 19; refine (HV.out _ _ (HN.out.by (by ((repeat (first | (with_reducible exact Below.refl _ _) | (with_reducible refine below_drewN ?_ _) | (with_reducible refine Below.drew ?_) | (with_reducible refine below_al ?_ _) | (with_reducible refine below_on (by assumption) ?_) | ((with_reducible refine Below.setCell ?_ ?_ _); rotate_left; focus (first | omega | (simp; done) | (simp; omega))) | (with_reducible assumption))); done)))).mono ?_; rintro e w1 ⟨rfl, hb1⟩; have k0 : Blk w1 w.heap.size #[.int .i64 x.nets, .slice a x.ds.length c, .slice a' x.ps.length c'] 30 := (by ((repeat (first | (with_reducible assumption) | (with_reducible refine Blk.drewN ?_ _) | (with_reducible refine Blk.drew ?_) | ((with_reducible refine Blk.new _ ?_); focus (first | omega | (simp; done) | (simp; omega))) | (with_reducible refine Blk.past ?_ _) | ((with_reducible refine Blk.apart ?_ _ _ _ ?_); rotate_left; focus (first | omega | (simp; done) | (simp; omega))) | (with_reducible refine Blk.by (by assumption) ?_))); done)); have c0 := k0.cell; have hbw : Below w.heap.size w w1 := (by ((repeat (first | (with_reducible exact Below.refl _ _) | (with_reducible refine below_drewN ?_ _) | (with_reducible refine Below.drew ?_) | (with_reducible refine below_al ?_ _) | (with_reducible refine below_on (by assumption) ?_) | ((with_reducible refine Below.setCell ?_ ?_ _); rotate_left; focus (first | omega | (simp; done) | (simp; omega))) | (with_reducible assumption))); done))) | (go_at_call 103; refine (HP.out _ _ (HN.out.by hbw)).mono ?_; rintro e w2 ⟨rfl, hb2⟩))
    go_ret3
    exact ⟨rfl, below_on hb2 hbw⟩

end Go.Proofs.Ytnchhdhlhlcejaa

/- Both SeriesPair. -/
namespace Go.Proofs.Ytnchhdhlhlcejaa
open Go.RowKit
set_option linter.unusedVariables false
set_option linter.unusedSimpArgs false

/-- What SeriesPair answers. -/
noncomputable def serPair (x : Nl) : Int × Int × Bool := if nlB x = true then firstP (serB x) x.ds else (0, 0, false)
theorem serPair_no {x : Nl} (h : nlB x = false) : serPair x = (0, 0, false) := by simp [serPair, h]
theorem serPair_yes {x : Nl} (h : nlB x = true) : serPair x = firstP (serB x) x.ds := by simp [serPair, h]

set_option maxRecDepth 100000 in
set_option maxHeartbeats 2000000 in
theorem specSeriesPair_any (x : Nl) (v : Value) (w : World) (h : NlV w v x) (hok : ∀ p ∈ x.ps, p.ok) (hnn : Fits x.nets) :
    Calls Try.prog 55 #[v] w fun e w' => e = .returned (.tuple #[.int .i64 (serPair x).1, .int .i64 (serPair x).2.1, .bool (serPair x).2.2]) ∧ Below w.heap.size w w' := by
  have HV := Lib.hid (fun v w h => specNl_any x v w h hok hnn)
  have HN := Lib.hid h
  obtain ⟨a, c, a', c', rfl⟩ := h.sized
  cases hv : nlB x with
  | false =>
    rw [hv] at HV
    rw [serPair_no hv]
    clear hv h hok
    go_enter Try.func55, Try.ntmps55
    go_wp2_with (go_at_call 19; refine (HV.out _ _ (HN.out.by (by ((repeat (first | (with_reducible exact Below.refl _ _) | (with_reducible refine below_drewN ?_ _) | (with_reducible refine Below.drew ?_) | (with_reducible refine below_al ?_ _) | (with_reducible refine below_on (by assumption) ?_) | ((with_reducible refine Below.setCell ?_ ?_ _); rotate_left; focus (first | omega | (simp; done) | (simp; omega))) | (with_reducible assumption))); done)))).mono ?_; rintro e w1 ⟨rfl, hb1⟩)
    go_ret3
    exact ⟨rfl, (by ((repeat (first | (with_reducible exact Below.refl _ _) | (with_reducible refine below_drewN ?_ _) | (with_reducible refine Below.drew ?_) | (with_reducible refine below_al ?_ _) | (with_reducible refine below_on (by assumption) ?_) | ((with_reducible refine Below.setCell ?_ ?_ _); rotate_left; focus (first | omega | (simp; done) | (simp; omega))) | (with_reducible assumption))); done))⟩
  | true =>
    rw [hv] at HV
    rw [serPair_yes hv]
    have HP := Lib.hid (fun v w h => l28PairS_any x v w h hv)
    generalize firstP (serB x) x.ds = r at *
    clear hv h hok
    go_enter Try.func55, Try.ntmps55
    go_wp2_with (first | (go_at_call 19; refine (HV.out _ _ (HN.out.by (by ((repeat (first | (with_reducible exact Below.refl _ _) | (with_reducible refine below_drewN ?_ _) | (with_reducible refine Below.drew ?_) | (with_reducible refine below_al ?_ _) | (with_reducible refine below_on (by assumption) ?_) | ((with_reducible refine Below.setCell ?_ ?_ _); rotate_left; focus (first | omega | (simp; done) | (simp; omega))) | (with_reducible assumption))); done)))).mono ?_; rintro e w1 ⟨rfl, hb1⟩; have k0 : Blk w1 w.heap.size #[.int .i64 x.nets, .slice a x.ds.length c, .slice a' x.ps.length c'] 30 := (by ((repeat (first | (with_reducible assumption) | (with_reducible refine Blk.drewN ?_ _) | (with_reducible refine Blk.drew ?_) | ((with_reducible refine Blk.new _ ?_); focus (first | omega | (simp; done) | (simp; omega))) | (with_reducible refine Blk.past ?_ _) | ((with_reducible refine Blk.apart ?_ _ _ _ ?_); rotate_left; focus (first | omega | (simp; done) | (simp; omega))) | (with_reducible refine Blk.by (by assumption) ?_))); done)); have c0 := k0.cell; have hbw : Below w.heap.size w w1 := (by ((repeat (first | (with_reducible exact Below.refl _ _) | (with_reducible refine below_drewN ?_ _) | (with_reducible refine Below.drew ?_) | (with_reducible refine below_al ?_ _) | (with_reducible refine below_on (by assumption) ?_) | ((with_reducible refine Below.setCell ?_ ?_ _); rotate_left; focus (first | omega | (simp; done) | (simp; omega))) | (with_reducible assumption))); done))) | (go_at_call 103; refine (HP.out _ _ (HN.out.by hbw)).mono ?_; rintro e w2 ⟨rfl, hb2⟩))
    go_ret3
    exact ⟨rfl, below_on hb2 hbw⟩

end Go.Proofs.Ytnchhdhlhlcejaa
