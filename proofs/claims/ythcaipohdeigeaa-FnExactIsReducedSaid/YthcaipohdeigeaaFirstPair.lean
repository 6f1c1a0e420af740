/- firstPair over any closure. -/
import Derived.Test.YthcaipohdeigeaaPairP
namespace Go.Proofs.Ythcaipohdeigeaa
open Go.RowKit
set_option linter.unusedVariables false
set_option linter.unusedSimpArgs false

set_option maxRecDepth 100000 in
set_option maxHeartbeats 1000000 in
theorem firstPair_no (x : Nl) (v f : Value) (w : World) (h : NlV w v x) (hok : ∀ p ∈ x.ps, p.ok) (hnn : Fits x.nets) (hv : nlB x = false) :
    Calls Try.prog 89 #[v, f] w fun e w' => e = .returned (.tuple #[.int .i64 0, .int .i64 0, .bool false]) ∧ Below w.heap.size w w' := by
  have HV := Lib.hid (fun v w h => implNl_any x v w h hok hnn)
  rw [hv] at HV
  have HN := Lib.hid h
  obtain ⟨a, c, a', c', rfl⟩ := h.sized
  clear h hok hv
  go_enter Try.func89, Try.ntmps89
  go_wp2_with (go_at_call 27; refine (HV.out _ _ (HN.out.by (by ((repeat (first | (with_reducible exact Below.refl _ _) | (with_reducible refine below_drewN ?_ _) | (with_reducible refine Below.drew ?_) | (with_reducible refine below_al ?_ _) | (with_reducible refine below_on (by assumption) ?_) | ((with_reducible refine Below.setCell ?_ ?_ _); rotate_left; focus (first | omega | (simp; done) | (simp; omega))) | (with_reducible assumption))); done)))).mono ?_; rintro e w1 ⟨rfl, hb1⟩)
  go_ret3
  exact ⟨rfl, (by ((repeat (first | (with_reducible exact Below.refl _ _) | (with_reducible refine below_drewN ?_ _) | (with_reducible refine Below.drew ?_) | (with_reducible refine below_al ?_ _) | (with_reducible refine below_on (by assumption) ?_) | ((with_reducible refine Below.setCell ?_ ?_ _); rotate_left; focus (first | omega | (simp; done) | (simp; omega))) | (with_reducible assumption))); done))⟩

set_option maxRecDepth 100000 in
set_option maxHeartbeats 4000000 in
theorem firstPair_yes (g : Nat) (lb : Array Value) (eg : ∀ args w, (callFunc g args).run Try.prog w = .ok (.enter g args) w) (p : Dv → Dv → Bool) (x : Nl) (v : Value) (w : World) (h : NlV w v x) (hok : ∀ p ∈ x.ps, p.ok) (hnn : Fits x.nets) (hv : nlB x = true)
    (hp : ∀ (W : World) (x' y' : Dv) (sx sy : Value), Below w.heap.size w W → x' ∈ x.ds → y' ∈ x.ds → IntSl W sx x'.pins → IntSl W sy y'.pins → Calls Try.prog g (#[.agg #[.int .i64 x'.kind, sx, .int .i64 x'.wd, .int .i64 x'.len], .agg #[.int .i64 y'.kind, sy, .int .i64 y'.wd, .int .i64 y'.len]] ++ lb) W fun e w' => e = .returned (.bool (p x' y')) ∧ Below W.heap.size W w') :
    Calls Try.prog 89 #[v, .func (.func g) #[] lb] w fun e w' => e = .returned (.tuple #[.int .i64 (firstP p x.ds).1, .int .i64 (firstP p x.ds).2.1, .bool (firstP p x.ds).2.2]) ∧ Below w.heap.size w w' := by
  have HV := Lib.hid (fun v w h => implNl_any x v w h hok hnn)
  rw [hv] at HV
  have HNV := Lib.hid h
  obtain ⟨s1, s2, rfl, hd, hp2⟩ := h
  obtain ⟨nets, ds, ps⟩ := x
  dsimp only at hd hp2 hp HNV HV ⊢
  have hdl := hd.le
  have HH := Lib.hid (fun i j => @firstP_hit p ds i j)
  have HM := Lib.hid (@firstP_miss p ds)
  have HD := Lib.hid hd
  have HP := Lib.hid hp
  clear hp hok hv hnn
  generalize firstP p ds = r at *
  obtain ⟨r1, r2, r3⟩ := r
  dsimp only
  obtain ⟨a1, c1, rfl⟩ := hd.sized
  obtain ⟨a2, c2, rfl⟩ := hp2.sized
  clear hd hp2
  go_enter Try.func89, Try.ntmps89
  go_wp2_with (go_at_call 27; refine (HV.out _ _ (HNV.out.by (by ((repeat (first | (with_reducible exact Below.refl _ _) | (with_reducible refine below_drewN ?_ _) | (with_reducible refine Below.drew ?_) | (with_reducible refine below_al ?_ _) | (with_reducible refine below_on (by assumption) ?_) | ((with_reducible refine Below.setCell ?_ ?_ _); rotate_left; focus (first | omega | (simp; done) | (simp; omega))) | (with_reducible assumption))); done)))).mono ?_; rintro e w1 ⟨rfl, hb1⟩; have kN : Blk w1 w.heap.size #[.int .i64 nets, .slice a1 ds.length c1, .slice a2 ps.length c2] 43 := (by ((repeat (first | (with_reducible assumption) | (with_reducible refine Blk.drewN ?_ _) | (with_reducible refine Blk.drew ?_) | ((with_reducible refine Blk.new _ ?_); focus (first | omega | (simp; done) | (simp; omega))) | (with_reducible refine Blk.past ?_ _) | ((with_reducible refine Blk.apart ?_ _ _ _ ?_); rotate_left; focus (first | omega | (simp; done) | (simp; omega))) | (with_reducible refine Blk.by (by assumption) ?_))); done)); have cN := kN.cell; have hb : Below w.heap.size w w1 := (by ((repeat (first | (with_reducible exact Below.refl _ _) | (with_reducible refine below_drewN ?_ _) | (with_reducible refine Below.drew ?_) | (with_reducible refine below_al ?_ _) | (with_reducible refine below_on (by assumption) ?_) | ((with_reducible refine Below.setCell ?_ ?_ _); rotate_left; focus (first | omega | (simp; done) | (simp; omega))) | (with_reducible assumption))); done)); clear hb1)
  go_loopw [16] (fun i wr => ∃ k : Nat, k ≤ ds.length ∧ i = .int .i64 k ∧ Hid (∀ (i' j' : Nat) x y, i' < k → i' < j' → ds[i']? = some x → ds[j']? = some y → p x y = false) ∧ Blk wr w.heap.size #[.int .i64 nets, .slice a1 ds.length c1, .slice a2 ps.length c2] 43 ∧ Below w.heap.size w wr) (fun i _ => ds.length - (intOf i).toNat)
  case atStart => exact ⟨0, Nat.zero_le _, rfl, Lib.hid (by intro i' j' x y h; omega), kN, hb⟩
  case round =>
    clear kN cN hb
    obtain ⟨k, hk, rfl, HI, kN, hb⟩ := hrel
    have cN := kN.cell
    have lN := kN.lt
    by_cases hlt : k < ds.length
    · obtain ⟨x, hx⟩ : ∃ x, ds[k]? = some x := ⟨ds[k], List.getElem?_eq_getElem hlt⟩
      have HDS := HD.out
      rcases HDS with ⟨_, _, _, h2⟩ | ⟨b, off, cap, he, h2, h3, h4⟩
      · rw [h2] at hlt; simp at hlt
      obtain ⟨rfl, rfl⟩ : a1 = some ⟨b, off, none⟩ ∧ c1 = cap := by simpa using he
      have HXX := Lib.hid hx
      have HDA := Lib.hid h4
      have i1 : (0 : Int) ≤ (k : Int) := by omega
      have i2 : (k : Int) < (ds.length : Int) := by omega
      clear h4 hx he
      obtain ⟨sx, e1, e2, e3, e4, hSx⟩ := HDA.out k x HXX.out
      have hxm : x ∈ ds := List.mem_of_getElem? HXX.out
      have HSX := Lib.hid hSx
      obtain ⟨ax, cx, rfl⟩ := hSx.len
      have d1 := cell_by' hb e1
      have d2 := cell_by' hb e2
      have d3 := cell_by' hb e3
      have d4 := cell_by' hb e4
      have lX := lt_of_cell d1
      dsimp only at lX
      obtain ⟨wo, rfl⟩ : ∃ wo : World, wo = wr := ⟨_, rfl⟩
      have kA : Blk (wo.alloc (.cells #[.int .i64 x.kind, .slice ax x.pins.length cx, .int .i64 x.wd, .int .i64 x.len] 27)) wo.heap.size #[.int .i64 x.kind, .slice ax x.pins.length cx, .int .i64 x.wd, .int .i64 x.len] 27 := Blk.new _ rfl
      clear hSx e1 e2 e3 e4
      go_wp2
      go_loopw [9] (fun j wr2 => ∃ m : Nat, k < m ∧ m ≤ ds.length ∧ j = .int .i64 m ∧ Hid (∀ (i' j' : Nat) x y, (i' < k ∨ i' = k ∧ j' < m) → i' < j' → ds[i']? = some x → ds[j']? = some y → p x y = false) ∧ Blk wr2 w.heap.size #[.int .i64 nets, .slice (some ⟨b, off, none⟩) ds.length c1, .slice a2 ps.length c2] 43 ∧ Blk wr2 wo.heap.size #[.int .i64 x.kind, .slice ax x.pins.length cx, .int .i64 x.wd, .int .i64 x.len] 27 ∧ Below w.heap.size w wr2) (fun j _ => ds.length - (intOf j).toNat)
      case atStart => exact ⟨k + 1, by omega, by omega, by go_num, Lib.hid (by intro i' j' x y h1 h2 h3 h4; exact HI.out i' j' x y (by omega) h2 h3 h4), kN.past _, kA, below_al hb _⟩
      case round =>
        clear kN kA hb cN HI d1 d2 d3 d4
        generalize wo.heap.size = pa at *
        obtain ⟨m, hkm, hm, rfl, HI, kN, kA, hb⟩ := hrel
        have cN := kN.cell
        have cA := kA.cell
        by_cases hlm : m < ds.length
        · obtain ⟨y, hy⟩ : ∃ y, ds[m]? = some y := ⟨ds[m], List.getElem?_eq_getElem hlm⟩
          obtain ⟨sy, f1, f2, f3, f4, hSy⟩ := HDA.out m y hy
          have hym : y ∈ ds := List.mem_of_getElem? hy
          have HYY := Lib.hid hy
          have HSY := Lib.hid hSy
          obtain ⟨ay, cy, rfl⟩ := hSy.len
          have g1 := cell_by' hb f1
          have g2 := cell_by' hb f2
          have g3 := cell_by' hb f3
          have g4 := cell_by' hb f4
          have HC := HP.out wr.drew x y (.slice ax x.pins.length cx) (.slice ay y.pins.length cy) hb.drew hxm hym (HSX.out.by hb.drew) (HSY.out.by hb.drew)
          have j1 : (0 : Int) ≤ (m : Int) := by omega
          have j2 : (m : Int) < (ds.length : Int) := by omega
          clear hSy hy f1 f2 f3 f4
          cases hq : p x y with
          | true =>
            simp only [hq] at HC
            have HC' := Lib.hid HC
            have hr := Lib.hid (HH.out k m ⟨hkm, ⟨x, y, HXX.out, HYY.out, hq⟩, HI.out⟩)
            clear HC hq
            go_wp2_with fail
            go_region_held3 (fun w' => (Blk w' w.heap.size #[.int .i64 nets, .slice (some ⟨b, off, none⟩) ds.length c1, .slice a2 ps.length c2] 43 ∧ ∀ o, w'.cell? ⟨w.heap.size, o, none⟩ = (#[.int .i64 nets, .slice (some ⟨b, off, none⟩) ds.length c1, .slice a2 ps.length c2] : Array Value)[o]?) ∧ (Blk w' pa #[.int .i64 x.kind, .slice ax x.pins.length cx, .int .i64 x.wd, .int .i64 x.len] 27 ∧ ∀ o, w'.cell? ⟨pa, o, none⟩ = (#[.int .i64 x.kind, .slice ax x.pins.length cx, .int .i64 x.wd, .int .i64 x.len] : Array Value)[o]?) ∧ (w'.cell? ⟨b, off + m * 4, none⟩ = some (.int .i64 y.kind) ∧ w'.cell? ⟨b, off + m * 4 + 1, none⟩ = some (.slice ay y.pins.length cy) ∧ w'.cell? ⟨b, off + m * 4 + 2, none⟩ = some (.int .i64 y.wd) ∧ w'.cell? ⟨b, off + m * 4 + 3, none⟩ = some (.int .i64 y.len)) ∧ Below w.heap.size w w')
              (first | exact ⟨kN.both, kA.both, ⟨g1, g2, g3, g4⟩, hb.drew⟩ | exact ⟨(Blk.by hb1 kN).both, (Blk.by hb1 kA).both, ⟨cell_by' hb1 g1, cell_by' hb1 g2, cell_by' hb1 g3, cell_by' hb1 g4⟩, below_on hb1 hb.drew⟩)
              (first | (go_at_fn g; refine HC'.out.mono ?_; rintro e w1 ⟨rfl, hb1⟩))
            go_wp2
            go_ret3
            exact ⟨by have := hr.out; simp only [Prod.mk.injEq] at this; obtain ⟨h1, h2, h3⟩ := this; subst h1 h2 h3; rfl, below_on hb1 hb.drew⟩
          | false =>
            simp only [hq] at HC
            have HC' := Lib.hid HC
            have HQ := Lib.hid hq
            clear HC hq
            go_wp2_with fail
            go_region_held3 (fun w' => (Blk w' w.heap.size #[.int .i64 nets, .slice (some ⟨b, off, none⟩) ds.length c1, .slice a2 ps.length c2] 43 ∧ ∀ o, w'.cell? ⟨w.heap.size, o, none⟩ = (#[.int .i64 nets, .slice (some ⟨b, off, none⟩) ds.length c1, .slice a2 ps.length c2] : Array Value)[o]?) ∧ (Blk w' pa #[.int .i64 x.kind, .slice ax x.pins.length cx, .int .i64 x.wd, .int .i64 x.len] 27 ∧ ∀ o, w'.cell? ⟨pa, o, none⟩ = (#[.int .i64 x.kind, .slice ax x.pins.length cx, .int .i64 x.wd, .int .i64 x.len] : Array Value)[o]?) ∧ (w'.cell? ⟨b, off + m * 4, none⟩ = some (.int .i64 y.kind) ∧ w'.cell? ⟨b, off + m * 4 + 1, none⟩ = some (.slice ay y.pins.length cy) ∧ w'.cell? ⟨b, off + m * 4 + 2, none⟩ = some (.int .i64 y.wd) ∧ w'.cell? ⟨b, off + m * 4 + 3, none⟩ = some (.int .i64 y.len)) ∧ Below w.heap.size w w')
              (first | exact ⟨kN.both, kA.both, ⟨g1, g2, g3, g4⟩, hb.drew⟩ | exact ⟨(Blk.by hb1 kN).both, (Blk.by hb1 kA).both, ⟨cell_by' hb1 g1, cell_by' hb1 g2, cell_by' hb1 g3, cell_by' hb1 g4⟩, below_on hb1 hb.drew⟩)
              (first | (go_at_fn g; refine HC'.out.mono ?_; rintro e w1 ⟨rfl, hb1⟩))
            go_wp2
            exact ⟨⟨m + 1, by omega, by omega, by go_num, Lib.hid (fun i' j' x' y' h1 h2 h3 h4 => by
              by_cases e : i' = k ∧ j' = m
              · obtain ⟨rfl, rfl⟩ := e
                obtain rfl : x' = x := Option.some.inj (h3.symm.trans HXX.out)
                obtain rfl : y' = y := Option.some.inj (h4.symm.trans HYY.out)
                exact HQ.out
              · exact HI.out i' j' x' y' (by omega) h2 h3 h4), Blk.by hb1 kN, Blk.by hb1 kA, below_on hb1 hb.drew⟩, by simp [intOf]; omega⟩
        · obtain rfl : m = ds.length := by omega
          go_wp2
          exact ⟨⟨k + 1, by omega, by go_num, Lib.hid (fun i' j' x' y' h1 h2 h3 h4 => HI.out i' j' x' y' (by have := (List.getElem?_eq_some_iff.1 h4).1; omega) h2 h3 h4), kN, hb⟩, by simp [intOf]; omega⟩
    · obtain rfl : k = ds.length := by omega
      have hr := Lib.hid (HM.out (fun i j x y hij hx hy => HI.out i j x y (List.getElem?_eq_some_iff.1 hx).1 hij hx hy))
      go_wp2
      go_ret3
      exact ⟨by have := hr.out; simp only [Prod.mk.injEq] at this; obtain ⟨h1, h2, h3⟩ := this; subst h1 h2 h3; rfl, hb⟩
end Go.Proofs.Ythcaipohdeigeaa
