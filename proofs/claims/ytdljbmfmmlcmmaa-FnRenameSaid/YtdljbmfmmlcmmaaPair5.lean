/- l28Pair, for parallel devices. -/
import Derived.Test.YtdljbmfmmlcmmaaSerX
namespace Go.Proofs.Ytdljbmfmmlcmmaa
open Go.RowKit
set_option linter.unusedVariables false
set_option linter.unusedSimpArgs false

theorem DvSl.le {w : World} {sv : Value} {xs : List Dv} (h : DvSl w sv xs) : xs.length ≤ 9223372036854775807 := by
  rcases h with ⟨_, _, _, h2⟩ | ⟨b, off, cap, h1, h2, h3, _⟩
  · subst h2; simp
  · unfold maxLen at h3; omega

end Go.Proofs.Ytdljbmfmmlcmmaa

/- firstPair over any closure. -/
namespace Go.Proofs.Ytdljbmfmmlcmmaa
open Go.RowKit
set_option linter.unusedVariables false
set_option linter.unusedSimpArgs false

set_option maxRecDepth 100000 in
set_option maxHeartbeats 1000000 in
theorem firstPair_no (x : Nl) (v f : Value) (w : World) (h : NlV w v x) (hok : ∀ p ∈ x.ps, p.ok) (hnn : Fits x.nets) (hv : nlB x = false) :
    Calls Try.prog 73 #[v, f] w fun e w' => e = .returned (.tuple #[.int .i64 0, .int .i64 0, .bool false]) ∧ Below w.heap.size w w' := by
  have HV := Lib.hid (fun v w h => implNl_any x v w h hok hnn)
  rw [hv] at HV
  have HN := Lib.hid h
  obtain ⟨a, c, a', c', rfl⟩ := h.sized
  clear h hok hv
  go_enter Try.func73, Try.ntmps73
  go_wp2_with (go_at_call 19; refine (HV.out _ _ (HN.out.by (by ((repeat (first | (with_reducible exact Below.refl _ _) | (with_reducible refine below_drewN ?_ _) | (with_reducible refine Below.drew ?_) | (with_reducible refine below_al ?_ _) | (with_reducible refine below_on (by assumption) ?_) | ((with_reducible refine Below.setCell ?_ ?_ _); rotate_left; focus (first | omega | (simp; done) | (simp; omega))) | (with_reducible assumption))); done)))).mono ?_; rintro e w1 ⟨rfl, hb1⟩)
  go_ret3
  exact ⟨rfl, (by ((repeat (first | (with_reducible exact Below.refl _ _) | (with_reducible refine below_drewN ?_ _) | (with_reducible refine Below.drew ?_) | (with_reducible refine below_al ?_ _) | (with_reducible refine below_on (by assumption) ?_) | ((with_reducible refine Below.setCell ?_ ?_ _); rotate_left; focus (first | omega | (simp; done) | (simp; omega))) | (with_reducible assumption))); done))⟩

set_option maxRecDepth 100000 in
set_option maxHeartbeats 4000000 in
theorem firstPair_yes (g : Nat) (lb : Array Value) (eg : ∀ args w, (callFunc g args).run Try.prog w = .ok (.enter g args) w) (p : Dv → Dv → Bool) (x : Nl) (v : Value) (w : World) (h : NlV w v x) (hok : ∀ p ∈ x.ps, p.ok) (hnn : Fits x.nets) (hv : nlB x = true)
    (hp : ∀ (W : World) (x' y' : Dv) (sx sy : Value), Below w.heap.size w W → x' ∈ x.ds → y' ∈ x.ds → IntSl W sx x'.pins → IntSl W sy y'.pins → Calls Try.prog g (#[.agg #[.int .i64 x'.kind, sx, .int .i64 x'.wd, .int .i64 x'.len], .agg #[.int .i64 y'.kind, sy, .int .i64 y'.wd, .int .i64 y'.len]] ++ lb) W fun e w' => e = .returned (.bool (p x' y')) ∧ Below W.heap.size W w') :
    Calls Try.prog 73 #[v, .func (.func g) #[] lb] w fun e w' => e = .returned (.tuple #[.int .i64 (firstP p x.ds).1, .int .i64 (firstP p x.ds).2.1, .bool (firstP p x.ds).2.2]) ∧ Below w.heap.size w w' := by
  have HV := Lib.hid (fun v w h => implNl_any x v w h hok hnn)
  rw [hv] at HV
  have HNV := Lib.hid h
  obtain ⟨s1, s2, rfl, hd, hp2⟩ := h
  obtain ⟨nets, ds, ps⟩ := x
  dsimp only at hd hp2 hp HNV HV ⊢
  have hdl := hd.le
  have HH := Lib.hid (fun i j => @firstP_hit p ds i j)
  have HM := Lib.hid (@firstP_miss p ds)
  have HD := Lib.hid hd
  have HP := Lib.hid hp
  clear hp hok hv hnn
  generalize firstP p ds = r at *
  obtain ⟨r1, r2, r3⟩ := r
  dsimp only
  obtain ⟨a1, c1, rfl⟩ := hd.sized
  obtain ⟨a2, c2, rfl⟩ := hp2.sized
  clear hd hp2
  go_enter Try.func73, Try.ntmps73
  go_wp2_with (go_at_call 19; refine (HV.out _ _ (HNV.out.by (by ((repeat (first | (with_reducible exact Below.refl _ _) | (with_reducible refine below_drewN ?_ _) | (with_reducible refine Below.drew ?_) | (with_reducible refine below_al ?_ _) | (with_reducible refine below_on (by assumption) ?_) | ((with_reducible refine Below.setCell ?_ ?_ _); rotate_left; focus (first | omega | (simp; done) | (simp; omega))) | (with_reducible assumption))); done)))).mono ?_; rintro e w1 ⟨rfl, hb1⟩; have kN : Blk w1 w.heap.size #[.int .i64 nets, .slice a1 ds.length c1, .slice a2 ps.length c2] 27 := (by ((repeat (first | (with_reducible assumption) | (with_reducible refine Blk.drewN ?_ _) | (with_reducible refine Blk.drew ?_) | ((with_reducible refine Blk.new _ ?_); focus (first | omega | (simp; done) | (simp; omega))) | (with_reducible refine Blk.past ?_ _) | ((with_reducible refine Blk.apart ?_ _ _ _ ?_); rotate_left; focus (first | omega | (simp; done) | (simp; omega))) | (with_reducible refine Blk.by (by assumption) ?_))); done)); have cN := kN.cell; have hb : Below w.heap.size w w1 := (by ((repeat (first | (with_reducible exact Below.refl _ _) | (with_reducible refine below_drewN ?_ _) | (with_reducible refine Below.drew ?_) | (with_reducible refine below_al ?_ _) | (with_reducible refine below_on (by assumption) ?_) | ((with_reducible refine Below.setCell ?_ ?_ _); rotate_left; focus (first | omega | (simp; done) | (simp; omega))) | (with_reducible assumption))); done)); clear hb1)
  go_loopw [16] (fun i wr => ∃ k : Nat, k ≤ ds.length ∧ i = .int .i64 k ∧ Hid (∀ (i' j' : Nat) x y, i' < k → i' < j' → ds[i']? = some x → ds[j']? = some y → p x y = false) ∧ Blk wr w.heap.size #[.int .i64 nets, .slice a1 ds.length c1, .slice a2 ps.length c2] 27 ∧ Below w.heap.size w wr) (fun i _ => ds.length - (intOf i).toNat)
  case atStart => exact ⟨0, Nat.zero_le _, rfl, Lib.hid (by intro i' j' x y h; omega), kN, hb⟩
  case round =>
    clear kN cN hb
    obtain ⟨k, hk, rfl, HI, kN, hb⟩ := hrel
    have cN := kN.cell
    have lN := kN.lt
    by_cases hlt : k < ds.length
    · obtain ⟨x, hx⟩ : ∃ x, ds[k]? = some x := ⟨ds[k], List.getElem?_eq_getElem hlt⟩
      have HDS := HD.out
      rcases HDS with ⟨_, _, _, h2⟩ | ⟨b, off, cap, he, h2, h3, h4⟩
      · rw [h2] at hlt; simp at hlt
      obtain ⟨rfl, rfl⟩ : a1 = some ⟨b, off, none⟩ ∧ c1 = cap := by simpa using he
      have HXX := Lib.hid hx
      have HDA := Lib.hid h4
      have i1 : (0 : Int) ≤ (k : Int) := by omega
      have i2 : (k : Int) < (ds.length : Int) := by omega
      clear h4 hx he
      obtain ⟨sx, e1, e2, e3, e4, hSx⟩ := HDA.out k x HXX.out
      have hxm : x ∈ ds := List.mem_of_getElem? HXX.out
      have HSX := Lib.hid hSx
      obtain ⟨ax, cx, rfl⟩ := hSx.len
      have d1 := cell_by' hb e1
      have d2 := cell_by' hb e2
      have d3 := cell_by' hb e3
      have d4 := cell_by' hb e4
      have lX := lt_of_cell d1
      dsimp only at lX
      obtain ⟨wo, rfl⟩ : ∃ wo : World, wo = wr := ⟨_, rfl⟩
      have kA : Blk (wo.alloc (.cells #[.int .i64 x.kind, .slice ax x.pins.length cx, .int .i64 x.wd, .int .i64 x.len] 35)) wo.heap.size #[.int .i64 x.kind, .slice ax x.pins.length cx, .int .i64 x.wd, .int .i64 x.len] 35 := Blk.new _ rfl
      clear hSx e1 e2 e3 e4
      go_wp2
      go_loopw [9] (fun j wr2 => ∃ m : Nat, k < m ∧ m ≤ ds.length ∧ j = .int .i64 m ∧ Hid (∀ (i' j' : Nat) x y, (i' < k ∨ i' = k ∧ j' < m) → i' < j' → ds[i']? = some x → ds[j']? = some y → p x y = false) ∧ Blk wr2 w.heap.size #[.int .i64 nets, .slice (some ⟨b, off, none⟩) ds.length c1, .slice a2 ps.length c2] 27 ∧ Blk wr2 wo.heap.size #[.int .i64 x.kind, .slice ax x.pins.length cx, .int .i64 x.wd, .int .i64 x.len] 35 ∧ Below w.heap.size w wr2) (fun j _ => ds.length - (intOf j).toNat)
      case atStart => exact ⟨k + 1, by omega, by omega, by go_num, Lib.hid (by intro i' j' x y h1 h2 h3 h4; exact HI.out i' j' x y (by omega) h2 h3 h4), kN.past _, kA, below_al hb _⟩
      case round =>
        clear kN kA hb cN HI d1 d2 d3 d4
        generalize wo.heap.size = pa at *
        obtain ⟨m, hkm, hm, rfl, HI, kN, kA, hb⟩ := hrel
        have cN := kN.cell
        have cA := kA.cell
        by_cases hlm : m < ds.length
        · obtain ⟨y, hy⟩ : ∃ y, ds[m]? = some y := ⟨ds[m], List.getElem?_eq_getElem hlm⟩
          obtain ⟨sy, f1, f2, f3, f4, hSy⟩ := HDA.out m y hy
          have hym : y ∈ ds := List.mem_of_getElem? hy
          have HYY := Lib.hid hy
          have HSY := Lib.hid hSy
          obtain ⟨ay, cy, rfl⟩ := hSy.len
          have g1 := cell_by' hb f1
          have g2 := cell_by' hb f2
          have g3 := cell_by' hb f3
          have g4 := cell_by' hb f4
          have HC := HP.out wr.drew x y (.slice ax x.pins.length cx) (.slice ay y.pins.length cy) hb.drew hxm hym (HSX.out.by hb.drew) (HSY.out.by hb.drew)
          have j1 : (0 : Int) ≤ (m : Int) := by omega
          have j2 : (m : Int) < (ds.length : Int) := by omega
          clear hSy hy f1 f2 f3 f4
          cases hq : p x y with
          | true =>
            simp only [hq] at HC
            have HC' := Lib.hid HC
            have hr := Lib.hid (HH.out k m ⟨hkm, ⟨x, y, HXX.out, HYY.out, hq⟩, HI.out⟩)
            clear HC hq
            go_wp2_with fail
            go_region_held3 (fun w' => (Blk w' w.heap.size #[.int .i64 nets, .slice (some ⟨b, off, none⟩) ds.length c1, .slice a2 ps.length c2] 27 ∧ ∀ o, w'.cell? ⟨w.heap.size, o, none⟩ = (#[.int .i64 nets, .slice (some ⟨b, off, none⟩) ds.length c1, .slice a2 ps.length c2] : Array Value)[o]?) ∧ (Blk w' pa #[.int .i64 x.kind, .slice ax x.pins.length cx, .int .i64 x.wd, .int .i64 x.len] 35 ∧ ∀ o, w'.cell? ⟨pa, o, none⟩ = (#[.int .i64 x.kind, .slice ax x.pins.length cx, .int .i64 x.wd, .int .i64 x.len] : Array Value)[o]?) ∧ (w'.cell? ⟨b, off + m * 4, none⟩ = some (.int .i64 y.kind) ∧ w'.cell? ⟨b, off + m * 4 + 1, none⟩ = some (.slice ay y.pins.length cy) ∧ w'.cell? ⟨b, off + m * 4 + 2, none⟩ = some (.int .i64 y.wd) ∧ w'.cell? ⟨b, off + m * 4 + 3, none⟩ = some (.int .i64 y.len)) ∧ Below w.heap.size w w')
              (first | exact ⟨kN.both, kA.both, ⟨g1, g2, g3, g4⟩, hb.drew⟩ | exact ⟨(Blk.by hb1 kN).both, (Blk.by hb1 kA).both, ⟨cell_by' hb1 g1, cell_by' hb1 g2, cell_by' hb1 g3, cell_by' hb1 g4⟩, below_on hb1 hb.drew⟩)
              (first | (go_at_fn g; refine HC'.out.mono ?_; rintro e w1 ⟨rfl, hb1⟩))
            go_wp2
            go_ret3
            exact ⟨by have := hr.out; simp only [Prod.mk.injEq] at this; obtain ⟨h1, h2, h3⟩ := this; subst h1 h2 h3; rfl, below_on hb1 hb.drew⟩
          | false =>
            simp only [hq] at HC
            have HC' := Lib.hid HC
            have HQ := Lib.hid hq
            clear HC hq
            go_wp2_with fail
            go_region_held3 (fun w' => (Blk w' w.heap.size #[.int .i64 nets, .slice (some ⟨b, off, none⟩) ds.length c1, .slice a2 ps.length c2] 27 ∧ ∀ o, w'.cell? ⟨w.heap.size, o, none⟩ = (#[.int .i64 nets, .slice (some ⟨b, off, none⟩) ds.length c1, .slice a2 ps.length c2] : Array Value)[o]?) ∧ (Blk w' pa #[.int .i64 x.kind, .slice ax x.pins.length cx, .int .i64 x.wd, .int .i64 x.len] 35 ∧ ∀ o, w'.cell? ⟨pa, o, none⟩ = (#[.int .i64 x.kind, .slice ax x.pins.length cx, .int .i64 x.wd, .int .i64 x.len] : Array Value)[o]?) ∧ (w'.cell? ⟨b, off + m * 4, none⟩ = some (.int .i64 y.kind) ∧ w'.cell? ⟨b, off + m * 4 + 1, none⟩ = some (.slice ay y.pins.length cy) ∧ w'.cell? ⟨b, off + m * 4 + 2, none⟩ = some (.int .i64 y.wd) ∧ w'.cell? ⟨b, off + m * 4 + 3, none⟩ = some (.int .i64 y.len)) ∧ Below w.heap.size w w')
              (first | exact ⟨kN.both, kA.both, ⟨g1, g2, g3, g4⟩, hb.drew⟩ | exact ⟨(Blk.by hb1 kN).both, (Blk.by hb1 kA).both, ⟨cell_by' hb1 g1, cell_by' hb1 g2, cell_by' hb1 g3, cell_by' hb1 g4⟩, below_on hb1 hb.drew⟩)
              (first | (go_at_fn g; refine HC'.out.mono ?_; rintro e w1 ⟨rfl, hb1⟩))
            go_wp2
            exact ⟨⟨m + 1, by omega, by omega, by go_num, Lib.hid (fun i' j' x' y' h1 h2 h3 h4 => by
              by_cases e : i' = k ∧ j' = m
              · obtain ⟨rfl, rfl⟩ := e
                obtain rfl : x' = x := Option.some.inj (h3.symm.trans HXX.out)
                obtain rfl : y' = y := Option.some.inj (h4.symm.trans HYY.out)
                exact HQ.out
              · exact HI.out i' j' x' y' (by omega) h2 h3 h4), Blk.by hb1 kN, Blk.by hb1 kA, below_on hb1 hb.drew⟩, by simp [intOf]; omega⟩
        · obtain rfl : m = ds.length := by omega
          go_wp2
          exact ⟨⟨k + 1, by omega, by go_num, Lib.hid (fun i' j' x' y' h1 h2 h3 h4 => HI.out i' j' x' y' (by have := (List.getElem?_eq_some_iff.1 h4).1; omega) h2 h3 h4), kN, hb⟩, by simp [intOf]; omega⟩
    · obtain rfl : k = ds.length := by omega
      have hr := Lib.hid (HM.out (fun i j x y hij hx hy => HI.out i j x y (List.getElem?_eq_some_iff.1 hx).1 hij hx hy))
      go_wp2
      go_ret3
      exact ⟨by have := hr.out; simp only [Prod.mk.injEq] at this; obtain ⟨h1, h2, h3⟩ := this; subst h1 h2 h3; rfl, hb⟩
end Go.Proofs.Ytdljbmfmmlcmmaa

/- l28Pair, for devices in series. -/
namespace Go.Proofs.Ytdljbmfmmlcmmaa
open Go.RowKit
set_option linter.unusedVariables false
set_option linter.unusedSimpArgs false

end Go.Proofs.Ytdljbmfmmlcmmaa

/- Both ParallelPair. -/
namespace Go.Proofs.Ytdljbmfmmlcmmaa
open Go.RowKit
set_option linter.unusedVariables false
set_option linter.unusedSimpArgs false

/-- What ParallelPair answers. -/
noncomputable def parPair (x : Nl) : Int × Int × Bool := if nlB x = true then firstP parB x.ds else (0, 0, false)
theorem parPair_no {x : Nl} (h : nlB x = false) : parPair x = (0, 0, false) := by simp [parPair, h]
theorem parPair_yes {x : Nl} (h : nlB x = true) : parPair x = firstP parB x.ds := by simp [parPair, h]
theorem firstP_par {x : Nl} (h : nlB x = true) : firstP parS x.ds = firstP parB x.ds := by
  obtain ⟨_, _, _, hdv, _⟩ := nlB_facts h
  exact firstP_congr (fun a ha b hb => parS_parB (shp_of (hdv a ha)) (shp_of (hdv b hb)))

set_option maxRecDepth 100000 in
set_option maxHeartbeats 2000000 in
theorem implParallelPair_any (x : Nl) (v : Value) (w : World) (h : NlV w v x) (hok : ∀ p ∈ x.ps, p.ok) (hnn : Fits x.nets) :
    Calls Try.prog 53 #[v] w fun e w' => e = .returned (.tuple #[.int .i64 (parPair x).1, .int .i64 (parPair x).2.1, .bool (parPair x).2.2]) ∧ Below w.heap.size w w' := by
  have HN := Lib.hid h
  obtain ⟨a, c, a', c', rfl⟩ := h.sized
  cases hv : nlB x with
  | false =>
    have HP := Lib.hid (fun v f w h => firstPair_no x v f w h hok hnn hv)
    rw [parPair_no hv]
    clear hv h hok
    go_enter Try.func53, Try.ntmps53
    go_wp2_with (go_at_call 73; refine (HP.out _ _ _ (HN.out.by (by ((repeat (first | (with_reducible exact Below.refl _ _) | (with_reducible refine below_drewN ?_ _) | (with_reducible refine Below.drew ?_) | (with_reducible refine below_al ?_ _) | (with_reducible refine below_on (by assumption) ?_) | ((with_reducible refine Below.setCell ?_ ?_ _); rotate_left; focus (first | omega | (simp; done) | (simp; omega))) | (with_reducible assumption))); done)))).mono ?_; rintro e w1 ⟨rfl, hb1⟩)
    go_ret3
    exact ⟨rfl, (by ((repeat (first | (with_reducible exact Below.refl _ _) | (with_reducible refine below_drewN ?_ _) | (with_reducible refine Below.drew ?_) | (with_reducible refine below_al ?_ _) | (with_reducible refine below_on (by assumption) ?_) | ((with_reducible refine Below.setCell ?_ ?_ _); rotate_left; focus (first | omega | (simp; done) | (simp; omega))) | (with_reducible assumption))); done))⟩
  | true =>
    rw [parPair_yes hv]
    obtain ⟨_, _, _, hdv, _⟩ := nlB_facts hv
    have eg : ∀ args w, (callFunc 56 args).run Try.prog w = .ok (.enter 56 args) w := enters_of Try.func56 (by kernel_rfl) rfl
    have hcl : ∀ (W : World) (x' y' : Dv) (sx sy : Value), x' ∈ x.ds → y' ∈ x.ds → IntSl W sx x'.pins → IntSl W sy y'.pins → Calls Try.prog 56 (#[.agg #[.int .i64 x'.kind, sx, .int .i64 x'.wd, .int .i64 x'.len], .agg #[.int .i64 y'.kind, sy, .int .i64 y'.wd, .int .i64 y'.len]] ++ #[]) W fun e w' => e = .returned (.bool (parB x' y')) ∧ Below W.heap.size W w' := by
      intro W x' y' sx sy hx hy hsx hsy
      show Calls Try.prog 56 #[.agg #[.int .i64 x'.kind, sx, .int .i64 x'.wd, .int .i64 x'.len], .agg #[.int .i64 y'.kind, sy, .int .i64 y'.wd, .int .i64 y'.len]] W _
      exact parallel_any x' y' sx sy W hsx hsy (shp_of (hdv x' hx)) (shp_of (hdv y' hy))
    have HP := Lib.hid (fun v w h => firstPair_yes 56 #[] eg parB x v w h hok hnn hv (fun W x' y' sx sy _ hx hy h1 h2 => hcl W x' y' sx sy hx hy h1 h2))
    generalize firstP parB x.ds = r at *
    clear hv h hok hdv eg hcl
    go_enter Try.func53, Try.ntmps53
    go_wp2_with (go_at_call 73; refine (HP.out _ _ (HN.out.by (by ((repeat (first | (with_reducible exact Below.refl _ _) | (with_reducible refine below_drewN ?_ _) | (with_reducible refine Below.drew ?_) | (with_reducible refine below_al ?_ _) | (with_reducible refine below_on (by assumption) ?_) | ((with_reducible refine Below.setCell ?_ ?_ _); rotate_left; focus (first | omega | (simp; done) | (simp; omega))) | (with_reducible assumption))); done)))).mono ?_; rintro e w1 ⟨rfl, hb1⟩)
    go_ret3
    exact ⟨rfl, (by ((repeat (first | (with_reducible exact Below.refl _ _) | (with_reducible refine below_drewN ?_ _) | (with_reducible refine Below.drew ?_) | (with_reducible refine below_al ?_ _) | (with_reducible refine below_on (by assumption) ?_) | ((with_reducible refine Below.setCell ?_ ?_ _); rotate_left; focus (first | omega | (simp; done) | (simp; omega))) | (with_reducible assumption))); done))⟩
end Go.Proofs.Ytdljbmfmmlcmmaa

/- Both SeriesPair. -/
namespace Go.Proofs.Ytdljbmfmmlcmmaa
open Go.RowKit
set_option linter.unusedVariables false
set_option linter.unusedSimpArgs false

/-- What SeriesPair answers. -/
noncomputable def serPair (x : Nl) : Int × Int × Bool := if nlB x = true then firstP (serB x) x.ds else (0, 0, false)
theorem serPair_no {x : Nl} (h : nlB x = false) : serPair x = (0, 0, false) := by simp [serPair, h]
theorem serPair_yes {x : Nl} (h : nlB x = true) : serPair x = firstP (serB x) x.ds := by simp [serPair, h]

set_option maxRecDepth 100000 in
set_option maxHeartbeats 2000000 in
theorem spClosure_any (n : Nl) (m : Nat) (x y : Dv) (B1 B2 : Nat) (v su sx sy : Value) (W : World) (hn : nlB n = true) (hm : n.nets = (m : Int)) (hx : x ∈ n.ds) (hy : y ∈ n.ds) (hv : NlV W v n) (hu : IntSl W su (degs m n.ds)) (h : IntSl W sx x.pins) (h' : IntSl W sy y.pins)
    (cs : Array Value) (hvc : v = .agg cs) (hB1 : Blk W B1 cs 27) (hB2 : Blk W B2 #[su] 28) :
    Calls Try.prog 74 #[.agg #[.int .i64 x.kind, sx, .int .i64 x.wd, .int .i64 x.len], .agg #[.int .i64 y.kind, sy, .int .i64 y.wd, .int .i64 y.len], .pointer (some ⟨B1, 0, none⟩), .pointer (some ⟨B2, 0, none⟩)] W fun e w' => e = .returned (.bool (serB n x y)) ∧ Below W.heap.size W w' := by
  have HS := fun w hv hu h h' => (serial_any n m x y v su sx sy w hn hm hx hy hv hu h h').mono (R' := fun e w' => ∃ r1 : Int, e = .returned (.tuple #[.int .i64 r1, .bool (serB n x y)]) ∧ Below w.heap.size w w') (fun _ _ ⟨r1, h, _, hb⟩ => ⟨r1, h, hb⟩)
  have HNV := Lib.hid hv
  have HU := Lib.hid hu
  have HX := Lib.hid h
  have HY := Lib.hid h'
  replace HS := Lib.hid HS
  obtain ⟨an, cn, an', cn', rfl⟩ := hv.sized
  simp only [Value.agg.injEq] at hvc
  subst hvc
  obtain ⟨au, cu, rfl⟩ := hu.len
  obtain ⟨a, c, rfl⟩ := h.len
  obtain ⟨a', c', rfl⟩ := h'.len
  generalize (degs m n.ds).length = dl at *
  generalize serB n x y = sb at *
  have c1 := hB1.cell
  have c2 := hB2.cell
  have l1 := hB1.lt
  have l2 := hB2.lt
  clear hv hu h h' hn hm hx hy
  go_enter Try.func74, Try.ntmps74
  go_wp2_with (go_at_call 55; refine (HS.out _ (HNV.out.by (by ((repeat (first | (with_reducible exact Below.refl _ _) | (with_reducible refine below_drewN ?_ _) | (with_reducible refine Below.drew ?_) | (with_reducible refine below_al ?_ _) | (with_reducible refine below_on (by assumption) ?_) | ((with_reducible refine Below.setCell ?_ ?_ _); rotate_left; focus (first | omega | (simp; done) | (simp; omega))) | (with_reducible assumption))); done))) (HU.out.by (by ((repeat (first | (with_reducible exact Below.refl _ _) | (with_reducible refine below_drewN ?_ _) | (with_reducible refine Below.drew ?_) | (with_reducible refine below_al ?_ _) | (with_reducible refine below_on (by assumption) ?_) | ((with_reducible refine Below.setCell ?_ ?_ _); rotate_left; focus (first | omega | (simp; done) | (simp; omega))) | (with_reducible assumption))); done))) (HX.out.by (by ((repeat (first | (with_reducible exact Below.refl _ _) | (with_reducible refine below_drewN ?_ _) | (with_reducible refine Below.drew ?_) | (with_reducible refine below_al ?_ _) | (with_reducible refine below_on (by assumption) ?_) | ((with_reducible refine Below.setCell ?_ ?_ _); rotate_left; focus (first | omega | (simp; done) | (simp; omega))) | (with_reducible assumption))); done))) (HY.out.by (by ((repeat (first | (with_reducible exact Below.refl _ _) | (with_reducible refine below_drewN ?_ _) | (with_reducible refine Below.drew ?_) | (with_reducible refine below_al ?_ _) | (with_reducible refine below_on (by assumption) ?_) | ((with_reducible refine Below.setCell ?_ ?_ _); rotate_left; focus (first | omega | (simp; done) | (simp; omega))) | (with_reducible assumption))); done)))).mono ?_; rintro e w1 ⟨r1, rfl, hb1⟩)
  go_ret
  exact ⟨rfl, (by ((repeat (first | (with_reducible exact Below.refl _ _) | (with_reducible refine below_drewN ?_ _) | (with_reducible refine Below.drew ?_) | (with_reducible refine below_al ?_ _) | (with_reducible refine below_on (by assumption) ?_) | ((with_reducible refine Below.setCell ?_ ?_ _); rotate_left; focus (first | omega | (simp; done) | (simp; omega))) | (with_reducible assumption))); done))⟩

set_option maxRecDepth 100000 in
set_option maxHeartbeats 4000000 in
theorem implSeriesPair_any (x : Nl) (v : Value) (w : World) (h : NlV w v x) (hok : ∀ p ∈ x.ps, p.ok) (hnn : Fits x.nets) :
    Calls Try.prog 54 #[v] w fun e w' => e = .returned (.tuple #[.int .i64 (serPair x).1, .int .i64 (serPair x).2.1, .bool (serPair x).2.2]) ∧ Below w.heap.size w w' := by
  have HV := Lib.hid (fun v w h => implNl_any x v w h hok hnn)
  have HN := Lib.hid h
  have hmf : ∀ (fn : Fn) (first cap : Array Value) (w : World), (Instr.makeFunc fn first cap).run Try.prog w = .ok (.func fn first cap) w := fun _ _ _ _ => rfl
  obtain ⟨a, c, a', c', rfl⟩ := h.sized
  cases hv : nlB x with
  | false =>
    rw [hv] at HV
    have HP := Lib.hid (fun v f w h => firstPair_no x v f w h hok hnn hv)
    rw [serPair_no hv]
    clear hv h hok
    go_enter Try.func54, Try.ntmps54
    go_wp2_with (first | (go_at_call 19; refine (HV.out _ _ (HN.out.by (by ((repeat (first | (with_reducible exact Below.refl _ _) | (with_reducible refine below_drewN ?_ _) | (with_reducible refine Below.drew ?_) | (with_reducible refine below_al ?_ _) | (with_reducible refine below_on (by assumption) ?_) | ((with_reducible refine Below.setCell ?_ ?_ _); rotate_left; focus (first | omega | (simp; done) | (simp; omega))) | (with_reducible assumption))); done)))).mono ?_; rintro e w1 ⟨rfl, hb1⟩; have k0 : Blk w1 w.heap.size #[.int .i64 x.nets, .slice a x.ds.length c, .slice a' x.ps.length c'] 27 := (by ((repeat (first | (with_reducible assumption) | (with_reducible refine Blk.drewN ?_ _) | (with_reducible refine Blk.drew ?_) | ((with_reducible refine Blk.new _ ?_); focus (first | omega | (simp; done) | (simp; omega))) | (with_reducible refine Blk.past ?_ _) | ((with_reducible refine Blk.apart ?_ _ _ _ ?_); rotate_left; focus (first | omega | (simp; done) | (simp; omega))) | (with_reducible refine Blk.by (by assumption) ?_))); done)); have c0 := k0.cell; have hbw : Below w.heap.size w w1 := (by ((repeat (first | (with_reducible exact Below.refl _ _) | (with_reducible refine below_drewN ?_ _) | (with_reducible refine Below.drew ?_) | (with_reducible refine below_al ?_ _) | (with_reducible refine below_on (by assumption) ?_) | ((with_reducible refine Below.setCell ?_ ?_ _); rotate_left; focus (first | omega | (simp; done) | (simp; omega))) | (with_reducible assumption))); done))) | (go_at_call 73; refine (HP.out _ _ _ (HN.out.by hbw)).mono ?_; rintro e w2 ⟨rfl, hb2⟩))
    go_ret3
    exact ⟨rfl, below_on hb2 hbw⟩
  | true =>
    rw [hv] at HV
    rw [serPair_yes hv]
    obtain ⟨⟨n0, n24⟩, hl, hp, hdv, _⟩ := nlB_facts hv
    obtain ⟨m, hm⟩ : ∃ m : Nat, x.nets = (m : Int) := ⟨x.nets.toNat, by omega⟩
    have HG := Lib.hid (fun v w h => degrees_any x m v w h hm (by omega) hl (fun d hd => (dvB_pins (hdv d hd)).1) (fun d hd => (dvB_pins (hdv d hd)).2.2))
    have eg : ∀ args w, (callFunc 74 args).run Try.prog w = .ok (.enter 74 args) w := enters_of Try.func74 (by kernel_rfl) rfl
    have hm24 : m ≤ 24 := by omega
    have hFP : ∀ (W : World) (gu : Nat), Blk W w.heap.size #[.int .i64 x.nets, .slice a x.ds.length c, .slice a' x.ps.length c'] 27 → Blk W (w.heap.size + 1) #[.slice (some ⟨gu, 0, none⟩) m m] 28 → NlV W (.agg #[.int .i64 x.nets, .slice a x.ds.length c, .slice a' x.ps.length c']) x → IntSl W (.slice (some ⟨gu, 0, none⟩) m m) (degs m x.ds) →
        Calls Try.prog 73 #[.agg #[.int .i64 x.nets, .slice a x.ds.length c, .slice a' x.ps.length c'], .func (.func 74) #[] #[.pointer (some ⟨w.heap.size, 0, none⟩), .pointer (some ⟨w.heap.size + 1, 0, none⟩)]] W fun e w' => e = .returned (.tuple #[.int .i64 (firstP (serB x) x.ds).1, .int .i64 (firstP (serB x) x.ds).2.1, .bool (firstP (serB x) x.ds).2.2]) ∧ Below W.heap.size W w' := by
      intro W gu hk0 hk1 hNW hUW
      refine firstPair_yes 74 #[.pointer (some ⟨w.heap.size, 0, none⟩), .pointer (some ⟨w.heap.size + 1, 0, none⟩)] eg (serB x) x _ W hNW hok hnn hv ?_
      intro W' x' y' sx sy hb hx hy hsx hsy
      show Calls Try.prog 74 #[.agg #[.int .i64 x'.kind, sx, .int .i64 x'.wd, .int .i64 x'.len], .agg #[.int .i64 y'.kind, sy, .int .i64 y'.wd, .int .i64 y'.len], .pointer (some ⟨w.heap.size, 0, none⟩), .pointer (some ⟨w.heap.size + 1, 0, none⟩)] W' _
      exact spClosure_any x m x' y' w.heap.size (w.heap.size + 1) _ (.slice (some ⟨gu, 0, none⟩) m m) sx sy W' hv hm hx hy (hNW.by hb) (hUW.by hb) hsx hsy _ rfl (Blk.by hb hk0) (Blk.by hb hk1)
    have HFP := Lib.hid hFP
    have HLD := Lib.hid (length_degs m x.ds)
    generalize firstP (serB x) x.ds = r at *
    clear hv h hok eg hFP hdv hm
    go_enter Try.func54, Try.ntmps54
    go_wp2_with fail
    refine (HV.out _ _ (HN.out.by (by ((repeat (first | (with_reducible exact Below.refl _ _) | (with_reducible refine below_drewN ?_ _) | (with_reducible refine Below.drew ?_) | (with_reducible refine below_al ?_ _) | (with_reducible refine below_on (by assumption) ?_) | ((with_reducible refine Below.setCell ?_ ?_ _); rotate_left; focus (first | omega | (simp; done) | (simp; omega))) | (with_reducible assumption))); done)))).mono ?_
    rintro e w1 ⟨rfl, hb1⟩
    have k0 : Blk w1 w.heap.size #[.int .i64 x.nets, .slice a x.ds.length c, .slice a' x.ps.length c'] 27 := (by ((repeat (first | (with_reducible assumption) | (with_reducible refine Blk.drewN ?_ _) | (with_reducible refine Blk.drew ?_) | ((with_reducible refine Blk.new _ ?_); focus (first | omega | (simp; done) | (simp; omega))) | (with_reducible refine Blk.past ?_ _) | ((with_reducible refine Blk.apart ?_ _ _ _ ?_); rotate_left; focus (first | omega | (simp; done) | (simp; omega))) | (with_reducible refine Blk.by (by assumption) ?_))); done))
    have k1 : Blk w1 (w.heap.size + 1) #[.slice none 0 0] 28 := (by ((repeat (first | (with_reducible assumption) | (with_reducible refine Blk.drewN ?_ _) | (with_reducible refine Blk.drew ?_) | ((with_reducible refine Blk.new _ ?_); focus (first | omega | (simp; done) | (simp; omega))) | (with_reducible refine Blk.past ?_ _) | ((with_reducible refine Blk.apart ?_ _ _ _ ?_); rotate_left; focus (first | omega | (simp; done) | (simp; omega))) | (with_reducible refine Blk.by (by assumption) ?_))); done))
    have hbw : Below w.heap.size w w1 := (by ((repeat (first | (with_reducible exact Below.refl _ _) | (with_reducible refine below_drewN ?_ _) | (with_reducible refine Below.drew ?_) | (with_reducible refine below_al ?_ _) | (with_reducible refine below_on (by assumption) ?_) | ((with_reducible refine Below.setCell ?_ ?_ _); rotate_left; focus (first | omega | (simp; done) | (simp; omega))) | (with_reducible assumption))); done))
    have c0 := k0.cell
    have l1w := k1.lt
    clear hb1
    go_wp2_with fail
    refine (HG.out _ _ (HN.out.by hbw)).mono ?_
    rintro e w2 ⟨g, rfl, hG, hge, hb2⟩
    replace k0 := Blk.by hb2 k0
    replace k1 := Blk.by hb2 k1
    have l1 := k1.lt
    replace hbw := below_on hb2 hbw
    have hne : g ≠ w.heap.size + 1 := by omega
    clear c0 hb2
    have c0 := k0.cell
    have c1 := k1.cell
    have f1 := k1.free
    have k1' := k1.set 0 (.slice (some ⟨g, 0, none⟩) m m)
    have k0' := k0.apart (w.heap.size + 1) 0 (.slice (some ⟨g, 0, none⟩) m m) (by omega)
    have hG' := hG.apart (w.heap.size + 1) 0 (.slice (some ⟨g, 0, none⟩) m m) hne
    have hbw' : Below w.heap.size w (w2.setCell ⟨w.heap.size + 1, 0, none⟩ (.slice (some ⟨g, 0, none⟩) m m)) := hbw.setCell (by simp) _
    have hsl := hG'.sl (by rw [HLD.out]; omega)
    rw [HLD.out] at hsl
    have HSL := Lib.hid hsl
    clear hsl hG hG'
    go_wp2_with fail
    refine (HFP.out _ g k0' k1' (HN.out.by hbw') HSL.out).mono ?_
    rintro e w3 ⟨rfl, hb3⟩
    go_wp2
    go_ret3
    exact ⟨rfl, below_on hb3 hbw'⟩
end Go.Proofs.Ytdljbmfmmlcmmaa
