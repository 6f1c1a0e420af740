/- Contracts and plain laws, part 16, for the statement's proof. -/
import Derived.Test.YtifbffianbgeaaaGreatPkExpLaw15
import Derived.BigQuiet
import Derived.Deep.DeepCutAuto
import Derived.Deep.AppendSrc
namespace Go.Proofs.YtifbffianbgeaaaGreat
open Go.RowKit
set_option linter.unusedVariables false
set_option linter.unusedSimpArgs false
set_option maxRecDepth 100000 in
set_option maxHeartbeats 8000000 in
theorem l30Sizes_any (x y : Nl) (v u : Value) (w : World) (h : NlV w v x) (h' : NlV w u y) (hl : x.ds.length ≤ 24) (hll : y.ds.length = x.ds.length) :
    Calls Tryz.prog 55 #[v, u] w fun e w' => e = .returned (.int .i64 (sizD x.ds y.ds)) ∧ Below w.heap.size w w' := by
  obtain ⟨s1, s2, rfl, hd, hp⟩ := h
  obtain ⟨t1, t2, rfl, hd', hp'⟩ := h'
  obtain ⟨nx, xs, ps⟩ := x
  obtain ⟨ny, ys, qs⟩ := y
  dsimp only at *
  have HX := Lib.hid hd
  have HY := Lib.hid hd'
  obtain ⟨a1, c1, rfl⟩ := hd.sized
  obtain ⟨a2, c2, rfl⟩ := hp.sized
  obtain ⟨b1, d1, rfl⟩ := hd'.sized
  obtain ⟨b2, d2, rfl⟩ := hp'.sized
  obtain ⟨n, hn⟩ : ∃ n, xs.length = n := ⟨_, rfl⟩
  obtain ⟨p, hpl⟩ : ∃ n, ps.length = n := ⟨_, rfl⟩
  obtain ⟨q, hql⟩ : ∃ n, qs.length = n := ⟨_, rfl⟩
  rw [hpl, hql]
  rw [hll] at HY ⊢
  rw [hn] at HX HY hl ⊢
  have HN := Lib.hid hn
  have HM := Lib.hid (hll.trans hn)
  have HSR := Lib.hid (fun ds sv w h hn hp => specSorted_len ds sv w h hn hp)
  have HCP := Lib.hid (fun (x y : Dv) s1 s2 w h h' => specCompareDevices_any x.kind x.wd x.len y.kind y.wd y.len s1 s2 x.pins y.pins w h h')
  have HZ := Lib.hid (fun (x y : Dv) => (show devcmp x.kind y.kind x.pins y.pins x.wd y.wd x.len y.len = dcf x y from rfl))
  have HXA := Lib.hid (show srtD ((xs.take n).map szD) = szL xs from by rw [← hn, List.take_length]; rfl)
  have HYA := Lib.hid (show srtD ((ys.take n).map szD) = szL ys from by rw [← hn, ← hll, List.take_length]; rfl)
  have HLX := Lib.hid (show (szL xs).length = n from by unfold szL; rw [length_srtD, List.length_map]; exact hn)
  have HLY := Lib.hid (show (szL ys).length = n from by unfold szL; rw [length_srtD, List.length_map]; exact hll.trans hn)
  have HSX := Lib.hid (fun k d (h : xs[k]? = some d) => take_map_snoc szD xs k d h)
  have HSY := Lib.hid (fun k d (h : ys[k]? = some d) => take_map_snoc szD ys k d h)
  have HAY := Lib.hid (fun h => @fstNo_none (fun i => decide ((szL xs)[i]? = (szL ys)[i]?)) n h)
  have HAN := Lib.hid (fun k a b c => @fstNo_at (fun i => decide ((szL xs)[i]? = (szL ys)[i]?)) n k a b c)
  obtain ⟨R, hR⟩ : ∃ R, sizD xs ys = R := ⟨_, rfl⟩
  rw [hR]
  rw [show fstNo (fun i => decide ((szL xs)[i]? = (szL ys)[i]?)) n = R from by rw [← hR, ← hn]; rfl] at HAY HAN
  clear hd hp hd' hp' hn hpl hql hll hR
  go_enter Tryz.func55, Tryz.ntmps55
  go_wp2
  go_loopw [5, 6, 7] (fun xv yv iv wr => ∃ (k g1 e1 g2 e2 : Nat), k ≤ n ∧ xv = .slice (some ⟨g1, 0, none⟩) k e1 ∧ yv = .slice (some ⟨g2, 0, none⟩) k e2 ∧ iv = .int .i64 (k : Int) ∧ Hid (ZBld wr g1 k e1 ((xs.take k).map szD)) ∧ Hid (ZBld wr g2 k e2 ((ys.take k).map szD)) ∧ g1 ≠ g2 ∧ w.heap.size + 2 ≤ g1 ∧ w.heap.size + 2 ≤ g2 ∧ g1 < wr.heap.size ∧ g2 < wr.heap.size ∧ Blk wr w.heap.size #[.int .i64 nx, .slice a1 n c1, .slice a2 p c2] 35 ∧ Blk wr (w.heap.size + 1) #[.int .i64 ny, .slice b1 n d1, .slice b2 q d2] 35 ∧ Below w.heap.size w wr) (fun _ _ iv _ => n - (intOf iv).toNat)
  case atStart =>
    exact ⟨0, w.heap.size + 2, 0, w.heap.size + 3, 0, Nat.zero_le _, rfl, rfl, rfl, Lib.hid (ZBld.lit blkT), Lib.hid (ZBld.lit blkT), by omega, by omega, by omega, by simp, by simp, blkT, blkT, blwT⟩
  case round =>
    obtain ⟨k, g1, e1, g2, e2, hk, rfl, rfl, rfl, HZ1, HZ2, hg, hg1, hg2, hl1, hl2, kA, kB, hb⟩ := hrel
    have qA := kA.cell
    have lA := kA.lt
    by_cases hlt : k < n
    · have i1 : (k : Int) < (n : Int) := by omega
      have i2 : decide (k < n) = true := decide_eq_true hlt
      obtain ⟨dx, hx⟩ : ∃ x, xs[k]? = some x := ⟨_, List.getElem?_eq_getElem (by rw [HN.out]; exact hlt)⟩
      obtain ⟨dy, hy⟩ : ∃ y, ys[k]? = some y := ⟨_, List.getElem?_eq_getElem (by rw [HM.out]; exact hlt)⟩
      rcases HX.out with ⟨_, _, _, h2⟩ | ⟨xb, xo, xc, he, _, _, h4⟩
      · rw [h2] at hx; simp at hx
      obtain ⟨rfl, rfl⟩ : a1 = some ⟨xb, xo, none⟩ ∧ c1 = xc := by
        simp only [Value.slice.injEq] at he
        exact ⟨he.1, he.2.2⟩
      rcases HY.out with ⟨_, _, _, h2⟩ | ⟨yb, yo, yc, he', _, _, h4'⟩
      · rw [h2] at hy; simp at hy
      obtain ⟨rfl, rfl⟩ : b1 = some ⟨yb, yo, none⟩ ∧ d1 = yc := by
        simp only [Value.slice.injEq] at he'
        exact ⟨he'.1, he'.2.2⟩
      obtain ⟨sx, x1, x2, x3, x4, x5⟩ := h4 k dx hx
      obtain ⟨sy, y1, y2, y3, y4, y5⟩ := h4' k dy hy
      have lx := lt_of_cell x1
      have ly := lt_of_cell y1
      dsimp only at lx ly
      have HSX1 := Lib.hid (HSX.out k dx hx)
      have HSY1 := Lib.hid (HSY.out k dy hy)
      clear hx hy he he' h4 h4' x2 x5 y2 y5 HSX HSY HAY HAN HXA HYA HSR HCP HZ
      go_upto_region 5 with fail
      have hS : (fun w' : World => Below w.heap.size w w' ∧ Blk w' w.heap.size #[.int .i64 nx, .slice (some ⟨xb, xo, none⟩) n c1, .slice a2 p c2] 35 ∧ Blk w' (w.heap.size + 1) #[.int .i64 ny, .slice (some ⟨yb, yo, none⟩) n d1, .slice b2 q d2] 35) { wr with drawn := wr.drawn + 1 } := ⟨hb.drew, kA.drew, kB.drew⟩
      refine wp_region_any (by kernel_rfl) (wpAny_of_E (S := (fun w' : World => Below w.heap.size w w' ∧ Blk w' w.heap.size #[.int .i64 nx, .slice (some ⟨xb, xo, none⟩) n c1, .slice a2 p c2] 35 ∧ Blk w' (w.heap.size + 1) #[.int .i64 ny, .slice (some ⟨yb, yo, none⟩) n d1, .slice b2 q d2] 35)) (l := 22) _ _ _ _ ?_)
      change wpAnyE _ _ _ _ _ _ _ _ _ wr.drew
      refine wpAnyE_takeL (i := 0) (v := ?_) rfl (by kernel_rfl) (fun _ _ _ h => h) (Or.inl ⟨by rfl, ?_⟩) hS ?_
      rotate_left
      · intro w hSw; (try dsimp only at hSw); obtain ⟨hcS, hfS⟩ := bcell hSw.1; have qA := hSw.2.1.cell; have qB := hSw.2.2.cell; have lA := hSw.2.1.lt; have lB := hSw.2.2.lt; clear hSw; go_simp; (try with_reducible rfl)
      try simp only [Act.put, List.setIfInBounds_toArray, List.set_cons_zero, List.set_cons_succ]
      refine wpAnyE_takeL (i := 1) (v := ?_) rfl (by kernel_rfl) (fun _ _ _ h => h) (Or.inl ⟨by rfl, ?_⟩) hS ?_
      rotate_left
      · intro w hSw; (try dsimp only at hSw); obtain ⟨hcS, hfS⟩ := bcell hSw.1; have qA := hSw.2.1.cell; have qB := hSw.2.2.cell; have lA := hSw.2.1.lt; have lB := hSw.2.2.lt; clear hSw; go_simp; (try with_reducible rfl)
      try simp only [Act.put, List.setIfInBounds_toArray, List.set_cons_zero, List.set_cons_succ]
      refine wpAnyE_takeL (i := 2) (v := ?_) rfl (by kernel_rfl) (fun _ _ _ h => h) (Or.inl ⟨by rfl, ?_⟩) hS ?_
      rotate_left
      · intro w hSw; (try dsimp only at hSw); obtain ⟨hcS, hfS⟩ := bcell hSw.1; have qA := hSw.2.1.cell; have qB := hSw.2.2.cell; have lA := hSw.2.1.lt; have lB := hSw.2.2.lt; clear hSw; go_simp; (try with_reducible rfl)
      try simp only [Act.put, List.setIfInBounds_toArray, List.set_cons_zero, List.set_cons_succ]
      refine wpAnyE_takeL (i := 3) (v := ?_) rfl (by kernel_rfl) (fun _ _ _ h => h) (Or.inl ⟨by rfl, ?_⟩) hS ?_
      rotate_left
      · intro w hSw; (try dsimp only at hSw); obtain ⟨hcS, hfS⟩ := bcell hSw.1; have qA := hSw.2.1.cell; have qB := hSw.2.2.cell; have lA := hSw.2.1.lt; have lB := hSw.2.2.lt; clear hSw; go_simp; (try with_reducible rfl)
      try simp only [Act.put, List.setIfInBounds_toArray, List.set_cons_zero, List.set_cons_succ]
      refine wpAnyE_takeL (i := 4) (v := ?_) rfl (by kernel_rfl) (fun _ _ _ h => h) (Or.inl ⟨by rfl, ?_⟩) hS ?_
      rotate_left
      · intro w hSw; (try dsimp only at hSw); obtain ⟨hcS, hfS⟩ := bcell hSw.1; have qA := hSw.2.1.cell; have qB := hSw.2.2.cell; have lA := hSw.2.1.lt; have lB := hSw.2.2.lt; clear hSw; go_simp; (try with_reducible rfl)
      try simp only [Act.put, List.setIfInBounds_toArray, List.set_cons_zero, List.set_cons_succ]
      refine wpAnyE_takeL (i := 5) (v := ?_) rfl (by kernel_rfl) (fun _ _ _ h => h) (Or.inl ⟨by rfl, ?_⟩) hS ?_
      rotate_left
      · intro w hSw; (try dsimp only at hSw); obtain ⟨hcS, hfS⟩ := bcell hSw.1; have qA := hSw.2.1.cell; have qB := hSw.2.2.cell; have lA := hSw.2.1.lt; have lB := hSw.2.2.lt; clear hSw; go_simp; (try with_reducible rfl)
      try simp only [Act.put, List.setIfInBounds_toArray, List.set_cons_zero, List.set_cons_succ]
      refine wpAnyE_takeL (i := 6) (v := ?_) rfl (by kernel_rfl) (fun _ _ _ h => h) (Or.inl ⟨by rfl, ?_⟩) hS ?_
      rotate_left
      · intro w hSw; (try dsimp only at hSw); obtain ⟨hcS, hfS⟩ := bcell hSw.1; have qA := hSw.2.1.cell; have qB := hSw.2.2.cell; have lA := hSw.2.1.lt; have lB := hSw.2.2.lt; clear hSw; go_simp; (try with_reducible rfl)
      try simp only [Act.put, List.setIfInBounds_toArray, List.set_cons_zero, List.set_cons_succ]
      refine wpAnyE_takeL (i := 7) (v := ?_) rfl (by kernel_rfl) (fun _ _ _ h => h) (Or.inl ⟨by rfl, ?_⟩) hS ?_
      rotate_left
      · intro w hSw; (try dsimp only at hSw); obtain ⟨hcS, hfS⟩ := bcell hSw.1; have qA := hSw.2.1.cell; have qB := hSw.2.2.cell; have lA := hSw.2.1.lt; have lB := hSw.2.2.lt; clear hSw; go_simp; (try with_reducible rfl)
      try simp only [Act.put, List.setIfInBounds_toArray, List.set_cons_zero, List.set_cons_succ]
      refine wpAnyE_takeL (i := 8) (v := ?_) rfl (by kernel_rfl) (fun _ _ _ h => h) (Or.inl ⟨by rfl, ?_⟩) hS ?_
      rotate_left
      · intro w hSw; (try dsimp only at hSw); obtain ⟨hcS, hfS⟩ := bcell hSw.1; have qA := hSw.2.1.cell; have qB := hSw.2.2.cell; have lA := hSw.2.1.lt; have lB := hSw.2.2.lt; clear hSw; go_simp; (try with_reducible rfl)
      try simp only [Act.put, List.setIfInBounds_toArray, List.set_cons_zero, List.set_cons_succ]
      refine wpAnyE_takeL (i := 9) (v := ?_) rfl (by kernel_rfl) (fun _ _ _ h => h) (Or.inl ⟨by rfl, ?_⟩) hS ?_
      rotate_left
      · intro w hSw; (try dsimp only at hSw); obtain ⟨hcS, hfS⟩ := bcell hSw.1; have qA := hSw.2.1.cell; have qB := hSw.2.2.cell; have lA := hSw.2.1.lt; have lB := hSw.2.2.lt; clear hSw; go_simp; (try with_reducible rfl)
      try simp only [Act.put, List.setIfInBounds_toArray, List.set_cons_zero, List.set_cons_succ]
      refine wpAnyE_takeL (i := 10) (v := ?_) rfl (by kernel_rfl) (fun _ _ _ h => h) (Or.inl ⟨by rfl, ?_⟩) hS ?_
      rotate_left
      · intro w hSw; (try dsimp only at hSw); obtain ⟨hcS, hfS⟩ := bcell hSw.1; have qA := hSw.2.1.cell; have qB := hSw.2.2.cell; have lA := hSw.2.1.lt; have lB := hSw.2.2.lt; clear hSw; go_simp; (try with_reducible rfl)
      try simp only [Act.put, List.setIfInBounds_toArray, List.set_cons_zero, List.set_cons_succ]
      refine wpAnyE_takeL (i := 11) (v := ?_) rfl (by kernel_rfl) (fun _ _ _ h => h) (Or.inl ⟨by rfl, ?_⟩) hS ?_
      rotate_left
      · intro w hSw; (try dsimp only at hSw); obtain ⟨hcS, hfS⟩ := bcell hSw.1; have qA := hSw.2.1.cell; have qB := hSw.2.2.cell; have lA := hSw.2.1.lt; have lB := hSw.2.2.lt; clear hSw; go_simp; (try with_reducible rfl)
      try simp only [Act.put, List.setIfInBounds_toArray, List.set_cons_zero, List.set_cons_succ]
      refine wpAnyE_takeL (i := 12) (v := ?_) rfl (by kernel_rfl) (fun _ _ _ h => h) (Or.inl ⟨by rfl, ?_⟩) hS ?_
      rotate_left
      · intro w hSw; (try dsimp only at hSw); obtain ⟨hcS, hfS⟩ := bcell hSw.1; have qA := hSw.2.1.cell; have qB := hSw.2.2.cell; have lA := hSw.2.1.lt; have lB := hSw.2.2.lt; clear hSw; go_simp; (try with_reducible rfl)
      try simp only [Act.put, List.setIfInBounds_toArray, List.set_cons_zero, List.set_cons_succ]
      refine wpAnyE_takeL (i := 13) (v := ?_) rfl (by kernel_rfl) (fun _ _ _ h => h) (Or.inl ⟨by rfl, ?_⟩) hS ?_
      rotate_left
      · intro w hSw; (try dsimp only at hSw); obtain ⟨hcS, hfS⟩ := bcell hSw.1; have qA := hSw.2.1.cell; have qB := hSw.2.2.cell; have lA := hSw.2.1.lt; have lB := hSw.2.2.lt; clear hSw; go_simp; (try with_reducible rfl)
      try simp only [Act.put, List.setIfInBounds_toArray, List.set_cons_zero, List.set_cons_succ]
      refine wpAnyE_takeL (i := 14) (v := ?_) rfl (by kernel_rfl) (fun _ _ _ h => h) (Or.inl ⟨by rfl, ?_⟩) hS ?_
      rotate_left
      · intro w hSw; (try dsimp only at hSw); obtain ⟨hcS, hfS⟩ := bcell hSw.1; have qA := hSw.2.1.cell; have qB := hSw.2.2.cell; have lA := hSw.2.1.lt; have lB := hSw.2.2.lt; clear hSw; go_simp; (try with_reducible rfl)
      try simp only [Act.put, List.setIfInBounds_toArray, List.set_cons_zero, List.set_cons_succ]
      refine wpAnyE_takeL (i := 15) (v := ?_) rfl (by kernel_rfl) (fun _ _ _ h => h) (Or.inl ⟨by rfl, ?_⟩) hS ?_
      rotate_left
      · intro w hSw; (try dsimp only at hSw); obtain ⟨hcS, hfS⟩ := bcell hSw.1; have qA := hSw.2.1.cell; have qB := hSw.2.2.cell; have lA := hSw.2.1.lt; have lB := hSw.2.2.lt; clear hSw; go_simp; (try with_reducible rfl)
      try simp only [Act.put, List.setIfInBounds_toArray, List.set_cons_zero, List.set_cons_succ]
      refine wpAnyE_takeL (i := 16) (v := ?_) rfl (by kernel_rfl) (fun _ _ _ h => h) (Or.inl ⟨by rfl, ?_⟩) hS ?_
      rotate_left
      · intro w hSw; (try dsimp only at hSw); obtain ⟨hcS, hfS⟩ := bcell hSw.1; have qA := hSw.2.1.cell; have qB := hSw.2.2.cell; have lA := hSw.2.1.lt; have lB := hSw.2.2.lt; clear hSw; go_simp; (try with_reducible rfl)
      try simp only [Act.put, List.setIfInBounds_toArray, List.set_cons_zero, List.set_cons_succ]
      refine wpAnyE_takeL (i := 17) (v := ?_) rfl (by kernel_rfl) (fun _ _ _ h => h) (Or.inl ⟨by rfl, ?_⟩) hS ?_
      rotate_left
      · intro w hSw; (try dsimp only at hSw); obtain ⟨hcS, hfS⟩ := bcell hSw.1; have qA := hSw.2.1.cell; have qB := hSw.2.2.cell; have lA := hSw.2.1.lt; have lB := hSw.2.2.lt; clear hSw; go_simp; (try with_reducible rfl)
      try simp only [Act.put, List.setIfInBounds_toArray, List.set_cons_zero, List.set_cons_succ]
      refine wpAnyE_takeL (i := 18) (v := ?_) rfl (by kernel_rfl) (fun _ _ _ h => h) (Or.inl ⟨by rfl, ?_⟩) hS ?_
      rotate_left
      · intro w hSw; (try dsimp only at hSw); obtain ⟨hcS, hfS⟩ := bcell hSw.1; have qA := hSw.2.1.cell; have qB := hSw.2.2.cell; have lA := hSw.2.1.lt; have lB := hSw.2.2.lt; clear hSw; go_simp; (try with_reducible rfl)
      try simp only [Act.put, List.setIfInBounds_toArray, List.set_cons_zero, List.set_cons_succ]
      refine wpAnyE_takeL (i := 19) (v := ?_) rfl (by kernel_rfl) (fun _ _ _ h => h) (Or.inl ⟨by rfl, ?_⟩) hS ?_
      rotate_left
      · intro w hSw; (try dsimp only at hSw); obtain ⟨hcS, hfS⟩ := bcell hSw.1; have qA := hSw.2.1.cell; have qB := hSw.2.2.cell; have lA := hSw.2.1.lt; have lB := hSw.2.2.lt; clear hSw; go_simp; (try with_reducible rfl)
      try simp only [Act.put, List.setIfInBounds_toArray, List.set_cons_zero, List.set_cons_succ]
      clear hS
      refine wpAnyE_oneL (k := 20) (by kernel_rfl) rfl (fun K hK => ?_)
      go_simp
      have hal : Below wr.heap.size wr (wr.alloc (.cells #[.int .i64 dx.kind, .slice none 0 0, .int .i64 dx.wd, .int .i64 dx.len] 62)).drew := ((Below.refl _ wr).alloc (Nat.le_refl _) _).drew
      have kN : Blk (wr.alloc (.cells #[.int .i64 dx.kind, .slice none 0 0, .int .i64 dx.wd, .int .i64 dx.len] 62)).drew wr.heap.size #[.int .i64 dx.kind, .slice none 0 0, .int .i64 dx.wd, .int .i64 dx.len] 62 := (Blk.new _ rfl).drew
      refine hK.out _ _ (fun _ => ⟨below_on hal hb, Blk.by hal kA, Blk.by hal kB⟩) ?_
      try simp only [Act.put, List.setIfInBounds_toArray, List.set_cons_zero, List.set_cons_succ]
      generalize (wr.alloc (.cells #[.int .i64 dx.kind, .slice none 0 0, .int .i64 dx.wd, .int .i64 dx.len] 62)).drew = wau at *
      have HZau := Lib.hid (HZ1.out.by hal)
      have HZbu := Lib.hid (HZ2.out.by hal)
      have hbau := below_on hal hb
      have kAau := Blk.by hal kA
      have kBau := Blk.by hal kB
      have hsau := hal.size
      clear hal
      refine wpAnyE_oneL (k := 21) (by kernel_rfl) rfl (fun K hK => ?_)
      refine step_pushZ (by rfl) _ _ (by rfl) g1 k e1 ((xs.take k).map szD) (by rfl) HZau.out wr.heap.size (szD dx) rfl (by rfl) kN (by omega) ?_
      intro g3 e3 wu hZn hgr hgn
      have hsu := hgr.size
      have hlg3 := hZn.2.2.2
      have hbu := keep_below hgr hbau (by omega)
      have kAu := keep_blk hgr kAau (by omega)
      have kBu := keep_blk hgr kBau (by omega)
      have HZ3 := Lib.hid hZn
      have HZ2 := Lib.hid (HZbu.out.keep hgr (by omega))
      clear hZn kN HZau HZbu hgr kAau kBau hbau
      refine hK.out _ _ (fun _ => ⟨hbu, kAu, kBu⟩) ?_
      try simp only [Act.put, List.setIfInBounds_toArray, List.set_cons_zero, List.set_cons_succ]
      refine wpAnyE_oneL (k := 22) (by kernel_rfl) rfl (fun K hK => ?_)
      go_simp
      refine hK.out _ _ (fun h => absurd rfl h) ?_
      refine wpAnyE_done (by kernel_rfl) ?_ _
      go_upto_region 6 with fail
      have hS : (fun w' : World => Below w.heap.size w w' ∧ Blk w' w.heap.size #[.int .i64 nx, .slice (some ⟨xb, xo, none⟩) n c1, .slice a2 p c2] 35 ∧ Blk w' (w.heap.size + 1) #[.int .i64 ny, .slice (some ⟨yb, yo, none⟩) n d1, .slice b2 q d2] 35) { wu with drawn := wu.drawn + 1 } := ⟨hbu.drew, kAu.drew, kBu.drew⟩
      refine wp_region_any (by kernel_rfl) (wpAny_of_E (S := (fun w' : World => Below w.heap.size w w' ∧ Blk w' w.heap.size #[.int .i64 nx, .slice (some ⟨xb, xo, none⟩) n c1, .slice a2 p c2] 35 ∧ Blk w' (w.heap.size + 1) #[.int .i64 ny, .slice (some ⟨yb, yo, none⟩) n d1, .slice b2 q d2] 35)) (l := 22) _ _ _ _ ?_)
      change wpAnyE _ _ _ _ _ _ _ _ _ wu.drew
      refine wpAnyE_takeL (i := 0) (v := ?_) rfl (by kernel_rfl) (fun _ _ _ h => h) (Or.inl ⟨by rfl, ?_⟩) hS ?_
      rotate_left
      · intro w hSw; (try dsimp only at hSw); obtain ⟨hcS, hfS⟩ := bcell hSw.1; have qA := hSw.2.1.cell; have qB := hSw.2.2.cell; have lA := hSw.2.1.lt; have lB := hSw.2.2.lt; clear hSw; go_simp; (try with_reducible rfl)
      try simp only [Act.put, List.setIfInBounds_toArray, List.set_cons_zero, List.set_cons_succ]
      refine wpAnyE_takeL (i := 1) (v := ?_) rfl (by kernel_rfl) (fun _ _ _ h => h) (Or.inl ⟨by rfl, ?_⟩) hS ?_
      rotate_left
      · intro w hSw; (try dsimp only at hSw); obtain ⟨hcS, hfS⟩ := bcell hSw.1; have qA := hSw.2.1.cell; have qB := hSw.2.2.cell; have lA := hSw.2.1.lt; have lB := hSw.2.2.lt; clear hSw; go_simp; (try with_reducible rfl)
      try simp only [Act.put, List.setIfInBounds_toArray, List.set_cons_zero, List.set_cons_succ]
      refine wpAnyE_takeL (i := 2) (v := ?_) rfl (by kernel_rfl) (fun _ _ _ h => h) (Or.inl ⟨by rfl, ?_⟩) hS ?_
      rotate_left
      · intro w hSw; (try dsimp only at hSw); obtain ⟨hcS, hfS⟩ := bcell hSw.1; have qA := hSw.2.1.cell; have qB := hSw.2.2.cell; have lA := hSw.2.1.lt; have lB := hSw.2.2.lt; clear hSw; go_simp; (try with_reducible rfl)
      try simp only [Act.put, List.setIfInBounds_toArray, List.set_cons_zero, List.set_cons_succ]
      refine wpAnyE_takeL (i := 3) (v := ?_) rfl (by kernel_rfl) (fun _ _ _ h => h) (Or.inl ⟨by rfl, ?_⟩) hS ?_
      rotate_left
      · intro w hSw; (try dsimp only at hSw); obtain ⟨hcS, hfS⟩ := bcell hSw.1; have qA := hSw.2.1.cell; have qB := hSw.2.2.cell; have lA := hSw.2.1.lt; have lB := hSw.2.2.lt; clear hSw; go_simp; (try with_reducible rfl)
      try simp only [Act.put, List.setIfInBounds_toArray, List.set_cons_zero, List.set_cons_succ]
      refine wpAnyE_takeL (i := 4) (v := ?_) rfl (by kernel_rfl) (fun _ _ _ h => h) (Or.inl ⟨by rfl, ?_⟩) hS ?_
      rotate_left
      · intro w hSw; (try dsimp only at hSw); obtain ⟨hcS, hfS⟩ := bcell hSw.1; have qA := hSw.2.1.cell; have qB := hSw.2.2.cell; have lA := hSw.2.1.lt; have lB := hSw.2.2.lt; clear hSw; go_simp; (try with_reducible rfl)
      try simp only [Act.put, List.setIfInBounds_toArray, List.set_cons_zero, List.set_cons_succ]
      refine wpAnyE_takeL (i := 5) (v := ?_) rfl (by kernel_rfl) (fun _ _ _ h => h) (Or.inl ⟨by rfl, ?_⟩) hS ?_
      rotate_left
      · intro w hSw; (try dsimp only at hSw); obtain ⟨hcS, hfS⟩ := bcell hSw.1; have qA := hSw.2.1.cell; have qB := hSw.2.2.cell; have lA := hSw.2.1.lt; have lB := hSw.2.2.lt; clear hSw; go_simp; (try with_reducible rfl)
      try simp only [Act.put, List.setIfInBounds_toArray, List.set_cons_zero, List.set_cons_succ]
      refine wpAnyE_takeL (i := 6) (v := ?_) rfl (by kernel_rfl) (fun _ _ _ h => h) (Or.inl ⟨by rfl, ?_⟩) hS ?_
      rotate_left
      · intro w hSw; (try dsimp only at hSw); obtain ⟨hcS, hfS⟩ := bcell hSw.1; have qA := hSw.2.1.cell; have qB := hSw.2.2.cell; have lA := hSw.2.1.lt; have lB := hSw.2.2.lt; clear hSw; go_simp; (try with_reducible rfl)
      try simp only [Act.put, List.setIfInBounds_toArray, List.set_cons_zero, List.set_cons_succ]
      refine wpAnyE_takeL (i := 7) (v := ?_) rfl (by kernel_rfl) (fun _ _ _ h => h) (Or.inl ⟨by rfl, ?_⟩) hS ?_
      rotate_left
      · intro w hSw; (try dsimp only at hSw); obtain ⟨hcS, hfS⟩ := bcell hSw.1; have qA := hSw.2.1.cell; have qB := hSw.2.2.cell; have lA := hSw.2.1.lt; have lB := hSw.2.2.lt; clear hSw; go_simp; (try with_reducible rfl)
      try simp only [Act.put, List.setIfInBounds_toArray, List.set_cons_zero, List.set_cons_succ]
      refine wpAnyE_takeL (i := 8) (v := ?_) rfl (by kernel_rfl) (fun _ _ _ h => h) (Or.inl ⟨by rfl, ?_⟩) hS ?_
      rotate_left
      · intro w hSw; (try dsimp only at hSw); obtain ⟨hcS, hfS⟩ := bcell hSw.1; have qA := hSw.2.1.cell; have qB := hSw.2.2.cell; have lA := hSw.2.1.lt; have lB := hSw.2.2.lt; clear hSw; go_simp; (try with_reducible rfl)
      try simp only [Act.put, List.setIfInBounds_toArray, List.set_cons_zero, List.set_cons_succ]
      refine wpAnyE_takeL (i := 9) (v := ?_) rfl (by kernel_rfl) (fun _ _ _ h => h) (Or.inl ⟨by rfl, ?_⟩) hS ?_
      rotate_left
      · intro w hSw; (try dsimp only at hSw); obtain ⟨hcS, hfS⟩ := bcell hSw.1; have qA := hSw.2.1.cell; have qB := hSw.2.2.cell; have lA := hSw.2.1.lt; have lB := hSw.2.2.lt; clear hSw; go_simp; (try with_reducible rfl)
      try simp only [Act.put, List.setIfInBounds_toArray, List.set_cons_zero, List.set_cons_succ]
      refine wpAnyE_takeL (i := 10) (v := ?_) rfl (by kernel_rfl) (fun _ _ _ h => h) (Or.inl ⟨by rfl, ?_⟩) hS ?_
      rotate_left
      · intro w hSw; (try dsimp only at hSw); obtain ⟨hcS, hfS⟩ := bcell hSw.1; have qA := hSw.2.1.cell; have qB := hSw.2.2.cell; have lA := hSw.2.1.lt; have lB := hSw.2.2.lt; clear hSw; go_simp; (try with_reducible rfl)
      try simp only [Act.put, List.setIfInBounds_toArray, List.set_cons_zero, List.set_cons_succ]
      refine wpAnyE_takeL (i := 11) (v := ?_) rfl (by kernel_rfl) (fun _ _ _ h => h) (Or.inl ⟨by rfl, ?_⟩) hS ?_
      rotate_left
      · intro w hSw; (try dsimp only at hSw); obtain ⟨hcS, hfS⟩ := bcell hSw.1; have qA := hSw.2.1.cell; have qB := hSw.2.2.cell; have lA := hSw.2.1.lt; have lB := hSw.2.2.lt; clear hSw; go_simp; (try with_reducible rfl)
      try simp only [Act.put, List.setIfInBounds_toArray, List.set_cons_zero, List.set_cons_succ]
      refine wpAnyE_takeL (i := 12) (v := ?_) rfl (by kernel_rfl) (fun _ _ _ h => h) (Or.inl ⟨by rfl, ?_⟩) hS ?_
      rotate_left
      · intro w hSw; (try dsimp only at hSw); obtain ⟨hcS, hfS⟩ := bcell hSw.1; have qA := hSw.2.1.cell; have qB := hSw.2.2.cell; have lA := hSw.2.1.lt; have lB := hSw.2.2.lt; clear hSw; go_simp; (try with_reducible rfl)
      try simp only [Act.put, List.setIfInBounds_toArray, List.set_cons_zero, List.set_cons_succ]
      refine wpAnyE_takeL (i := 13) (v := ?_) rfl (by kernel_rfl) (fun _ _ _ h => h) (Or.inl ⟨by rfl, ?_⟩) hS ?_
      rotate_left
      · intro w hSw; (try dsimp only at hSw); obtain ⟨hcS, hfS⟩ := bcell hSw.1; have qA := hSw.2.1.cell; have qB := hSw.2.2.cell; have lA := hSw.2.1.lt; have lB := hSw.2.2.lt; clear hSw; go_simp; (try with_reducible rfl)
      try simp only [Act.put, List.setIfInBounds_toArray, List.set_cons_zero, List.set_cons_succ]
      refine wpAnyE_takeL (i := 14) (v := ?_) rfl (by kernel_rfl) (fun _ _ _ h => h) (Or.inl ⟨by rfl, ?_⟩) hS ?_
      rotate_left
      · intro w hSw; (try dsimp only at hSw); obtain ⟨hcS, hfS⟩ := bcell hSw.1; have qA := hSw.2.1.cell; have qB := hSw.2.2.cell; have lA := hSw.2.1.lt; have lB := hSw.2.2.lt; clear hSw; go_simp; (try with_reducible rfl)
      try simp only [Act.put, List.setIfInBounds_toArray, List.set_cons_zero, List.set_cons_succ]
      refine wpAnyE_takeL (i := 15) (v := ?_) rfl (by kernel_rfl) (fun _ _ _ h => h) (Or.inl ⟨by rfl, ?_⟩) hS ?_
      rotate_left
      · intro w hSw; (try dsimp only at hSw); obtain ⟨hcS, hfS⟩ := bcell hSw.1; have qA := hSw.2.1.cell; have qB := hSw.2.2.cell; have lA := hSw.2.1.lt; have lB := hSw.2.2.lt; clear hSw; go_simp; (try with_reducible rfl)
      try simp only [Act.put, List.setIfInBounds_toArray, List.set_cons_zero, List.set_cons_succ]
      refine wpAnyE_takeL (i := 16) (v := ?_) rfl (by kernel_rfl) (fun _ _ _ h => h) (Or.inl ⟨by rfl, ?_⟩) hS ?_
      rotate_left
      · intro w hSw; (try dsimp only at hSw); obtain ⟨hcS, hfS⟩ := bcell hSw.1; have qA := hSw.2.1.cell; have qB := hSw.2.2.cell; have lA := hSw.2.1.lt; have lB := hSw.2.2.lt; clear hSw; go_simp; (try with_reducible rfl)
      try simp only [Act.put, List.setIfInBounds_toArray, List.set_cons_zero, List.set_cons_succ]
      refine wpAnyE_takeL (i := 17) (v := ?_) rfl (by kernel_rfl) (fun _ _ _ h => h) (Or.inl ⟨by rfl, ?_⟩) hS ?_
      rotate_left
      · intro w hSw; (try dsimp only at hSw); obtain ⟨hcS, hfS⟩ := bcell hSw.1; have qA := hSw.2.1.cell; have qB := hSw.2.2.cell; have lA := hSw.2.1.lt; have lB := hSw.2.2.lt; clear hSw; go_simp; (try with_reducible rfl)
      try simp only [Act.put, List.setIfInBounds_toArray, List.set_cons_zero, List.set_cons_succ]
      refine wpAnyE_takeL (i := 18) (v := ?_) rfl (by kernel_rfl) (fun _ _ _ h => h) (Or.inl ⟨by rfl, ?_⟩) hS ?_
      rotate_left
      · intro w hSw; (try dsimp only at hSw); obtain ⟨hcS, hfS⟩ := bcell hSw.1; have qA := hSw.2.1.cell; have qB := hSw.2.2.cell; have lA := hSw.2.1.lt; have lB := hSw.2.2.lt; clear hSw; go_simp; (try with_reducible rfl)
      try simp only [Act.put, List.setIfInBounds_toArray, List.set_cons_zero, List.set_cons_succ]
      refine wpAnyE_takeL (i := 19) (v := ?_) rfl (by kernel_rfl) (fun _ _ _ h => h) (Or.inl ⟨by rfl, ?_⟩) hS ?_
      rotate_left
      · intro w hSw; (try dsimp only at hSw); obtain ⟨hcS, hfS⟩ := bcell hSw.1; have qA := hSw.2.1.cell; have qB := hSw.2.2.cell; have lA := hSw.2.1.lt; have lB := hSw.2.2.lt; clear hSw; go_simp; (try with_reducible rfl)
      try simp only [Act.put, List.setIfInBounds_toArray, List.set_cons_zero, List.set_cons_succ]
      clear hS
      refine wpAnyE_oneL (k := 20) (by kernel_rfl) rfl (fun K hK => ?_)
      go_simp
      have hal : Below wu.heap.size wu (wu.alloc (.cells #[.int .i64 dy.kind, .slice none 0 0, .int .i64 dy.wd, .int .i64 dy.len] 62)).drew := ((Below.refl _ wu).alloc (Nat.le_refl _) _).drew
      have kN : Blk (wu.alloc (.cells #[.int .i64 dy.kind, .slice none 0 0, .int .i64 dy.wd, .int .i64 dy.len] 62)).drew wu.heap.size #[.int .i64 dy.kind, .slice none 0 0, .int .i64 dy.wd, .int .i64 dy.len] 62 := (Blk.new _ rfl).drew
      refine hK.out _ _ (fun _ => ⟨below_on hal hbu, Blk.by hal kAu, Blk.by hal kBu⟩) ?_
      try simp only [Act.put, List.setIfInBounds_toArray, List.set_cons_zero, List.set_cons_succ]
      generalize (wu.alloc (.cells #[.int .i64 dy.kind, .slice none 0 0, .int .i64 dy.wd, .int .i64 dy.len] 62)).drew = wav at *
      have HZav := Lib.hid (HZ2.out.by hal)
      have HZbv := Lib.hid (HZ3.out.by hal)
      have hbav := below_on hal hbu
      have kAav := Blk.by hal kAu
      have kBav := Blk.by hal kBu
      have hsav := hal.size
      clear hal
      refine wpAnyE_oneL (k := 21) (by kernel_rfl) rfl (fun K hK => ?_)
      refine step_pushZ (by rfl) _ _ (by rfl) g2 k e2 ((ys.take k).map szD) (by rfl) HZav.out wu.heap.size (szD dy) rfl (by rfl) kN (by omega) ?_
      intro g4 e4 wv hZn hgr hgn
      have hsv := hgr.size
      have hlg4 := hZn.2.2.2
      have hbv := keep_below hgr hbav (by omega)
      have kAv := keep_blk hgr kAav (by omega)
      have kBv := keep_blk hgr kBav (by omega)
      have HZ4 := Lib.hid hZn
      have HZ3 := Lib.hid (HZbv.out.keep hgr (by omega))
      clear hZn kN HZav HZbv hgr kAav kBav hbav
      refine hK.out _ _ (fun _ => ⟨hbv, kAv, kBv⟩) ?_
      try simp only [Act.put, List.setIfInBounds_toArray, List.set_cons_zero, List.set_cons_succ]
      refine wpAnyE_oneL (k := 22) (by kernel_rfl) rfl (fun K hK => ?_)
      go_simp
      refine hK.out _ _ (fun h => absurd rfl h) ?_
      refine wpAnyE_done (by kernel_rfl) ?_ _
      have hz3 := HZ3.out.2.2.2
      go_wp2
      exact ⟨⟨k + 1, g3, e3, g4, e4, by omega, by rfl, by rfl, by go_num, Lib.hid (by rw [HSX1.out]; exact HZ3.out), Lib.hid (by rw [HSY1.out]; exact HZ4.out), by omega, by omega, by omega, by omega, by omega, kAv, kBv, hbv⟩, by simp [intOf]; omega⟩
    · obtain rfl : n = k := by omega
      have i1 : ¬ (n : Int) < (n : Int) := by omega
      have hlen : ∀ zs : List Dv, ∀ d ∈ (zs.take n).map szD, d.pins.length ≤ 1048576 := fun zs d hd => by
        obtain ⟨e, _, rfl⟩ := List.mem_map.1 hd
        simp [szD]
      go_wp2_with fail
      refine (HSR.out _ _ _ HZ1.out.sl (by rw [HZ1.out.2.1]; omega) (hlen xs)).mono ?_
      rintro e w1 ⟨v1, rfl, hO1, hb1⟩
      rw [HXA.out] at hO1
      obtain ⟨p1, k1, rfl⟩ := hO1.sl.sized
      rw [HLX.out] at hO1 ⊢
      have HO1 := Lib.hid hO1
      have HZ2' := Lib.hid (HZ2.out.by hb1)
      have hb1w := below_on hb1 hb
      clear hO1 hb1 qA lA kA kB
      go_wp2_with fail
      refine (HSR.out _ _ _ HZ2'.out.sl (by rw [HZ2'.out.2.1]; omega) (hlen ys)).mono ?_
      rintro e w2 ⟨v2, rfl, hO2, hb2⟩
      rw [HYA.out] at hO2
      obtain ⟨p2, k2, rfl⟩ := hO2.sl.sized
      rw [HLY.out] at hO2 ⊢
      have HXS := Lib.hid (HO1.out.by hb2).sl
      have HYS := Lib.hid hO2.sl
      have hb2w := below_on hb2 hb1w
      clear hO2 hb2 HO1 HZ1 HZ2 HZ2' HX HY HXA HYA HSR HSX HSY hb1w hlen hlt hb
      generalize szL xs = X at *
      generalize szL ys = Y at *
      go_wp2
      go_loopw [8] (fun iv wr => ∃ k : Nat, k ≤ n ∧ iv = .int .i64 (k : Int) ∧ Hid (∀ j, j < k → decide (X[j]? = Y[j]?) = true) ∧ Below w2.heap.size w2 wr) (fun iv _ => n - (intOf iv).toNat)
      case atStart => exact ⟨0, Nat.zero_le _, rfl, Lib.hid (by intro j h; omega), blwT⟩
      case round =>
        obtain ⟨k, hk, rfl, HI, hb⟩ := hrel
        by_cases hlt : k < n
        · have i1 : (k : Int) < (n : Int) := by omega
          have i2 : decide (k < n) = true := decide_eq_true hlt
          obtain ⟨x, hx⟩ : ∃ x, X[k]? = some x := ⟨_, List.getElem?_eq_getElem (by rw [HLX.out]; exact hlt)⟩
          obtain ⟨y, hy⟩ : ∃ y, Y[k]? = some y := ⟨_, List.getElem?_eq_getElem (by rw [HLY.out]; exact hlt)⟩
          rcases HXS.out with ⟨_, _, _, h2⟩ | ⟨xb, xo, xc, he, _, _, h4⟩
          · rw [h2] at hx; simp at hx
          obtain ⟨rfl, rfl⟩ : p1 = some ⟨xb, xo, none⟩ ∧ k1 = xc := by
            simp only [Value.slice.injEq] at he
            exact ⟨he.1, he.2.2⟩
          rcases HYS.out with ⟨_, _, _, h2⟩ | ⟨yb, yo, yc, he', _, _, h4'⟩
          · rw [h2] at hy; simp at hy
          obtain ⟨rfl, rfl⟩ : p2 = some ⟨yb, yo, none⟩ ∧ k2 = yc := by
            simp only [Value.slice.injEq] at he'
            exact ⟨he'.1, he'.2.2⟩
          obtain ⟨sx, x1, x2, x3, x4, x5⟩ := (h4 k x hx).by hb
          obtain ⟨sy, y1, y2, y3, y4, y5⟩ := (h4' k y hy).by hb
          obtain ⟨px, cx, rfl⟩ := x5.len
          obtain ⟨py, cy, rfl⟩ := y5.len
          have HXP := Lib.hid x5
          have HYP := Lib.hid y5
          have HXK := Lib.hid hx
          have HYK := Lib.hid hy
          obtain ⟨RC, hRC⟩ : ∃ R, dcf x y = R := ⟨_, rfl⟩
          have hC := HCP.out x y
          rw [HZ.out x y, hRC] at hC
          have HC := Lib.hid hC
          have HDC := Lib.hid hRC
          clear hC hRC hx hy x5 y5 he he' h4 h4' HCP HZ
          go_upto_region 11 with fail
          have HSB : ∀ w1 : World, Below wr.heap.size wr w1 → (fun w' : World => w'.cell? ⟨xb, xo + k * 4, none⟩ = some (.int .i64 x.kind) ∧ w'.cell? ⟨xb, xo + k * 4 + 1, none⟩ = some (.slice px x.pins.length cx) ∧ w'.cell? ⟨xb, xo + k * 4 + 2, none⟩ = some (.int .i64 x.wd) ∧ w'.cell? ⟨xb, xo + k * 4 + 3, none⟩ = some (.int .i64 x.len) ∧ w'.cell? ⟨yb, yo + k * 4, none⟩ = some (.int .i64 y.kind) ∧ w'.cell? ⟨yb, yo + k * 4 + 1, none⟩ = some (.slice py y.pins.length cy) ∧ w'.cell? ⟨yb, yo + k * 4 + 2, none⟩ = some (.int .i64 y.wd) ∧ w'.cell? ⟨yb, yo + k * 4 + 3, none⟩ = some (.int .i64 y.len) ∧ Below wr.heap.size wr w') w1 := fun w1 h => ⟨cell_by' h x1, cell_by' h x2, cell_by' h x3, cell_by' h x4, cell_by' h y1, cell_by' h y2, cell_by' h y3, cell_by' h y4, h⟩
          go_region_held3 (fun w' : World => w'.cell? ⟨xb, xo + k * 4, none⟩ = some (.int .i64 x.kind) ∧ w'.cell? ⟨xb, xo + k * 4 + 1, none⟩ = some (.slice px x.pins.length cx) ∧ w'.cell? ⟨xb, xo + k * 4 + 2, none⟩ = some (.int .i64 x.wd) ∧ w'.cell? ⟨xb, xo + k * 4 + 3, none⟩ = some (.int .i64 x.len) ∧ w'.cell? ⟨yb, yo + k * 4, none⟩ = some (.int .i64 y.kind) ∧ w'.cell? ⟨yb, yo + k * 4 + 1, none⟩ = some (.slice py y.pins.length cy) ∧ w'.cell? ⟨yb, yo + k * 4 + 2, none⟩ = some (.int .i64 y.wd) ∧ w'.cell? ⟨yb, yo + k * 4 + 3, none⟩ = some (.int .i64 y.len) ∧ Below wr.heap.size wr w')
            (((try (obtain ⟨_, _, _, _, _, _, _, _, hSB⟩ := hHeld)); refine HSB _ ?_; ((repeat (first | (with_reducible exact Below.refl _ _) | (with_reducible refine below_drewN ?_ _) | (with_reducible refine Below.drew ?_) | (with_reducible refine below_al ?_ _) | (with_reducible refine below_on (by assumption) ?_) | ((with_reducible refine Below.setCell ?_ ?_ _); rotate_left; focus (first | omega | (simp; done) | (simp; omega))) | (with_reducible assumption))); done)))
            (first | (go_at_call 59; refine (HC.out _ _ _ (HXP.out.by blwT) (HYP.out.by blwT)).mono ?_; rintro e w3 ⟨rfl, hb3⟩))
          all_goals
            have hb4 : Below w2.heap.size w2 w3 := below_on hb3 (below_on (below_of_drewN wr 1) hb)
            by_cases hr0 : RC = 0
            · subst hr0
              have hxy : x = y := dcf_zero.1 HDC.out
              have HI2 := Lib.hid (show ∀ j, j < k + 1 → decide (X[j]? = Y[j]?) = true from fun j hj => by
                by_cases e : j = k
                · subst e; rw [HXK.out, HYK.out, hxy]; simp
                · exact HI.out j (by omega))
              clear hxy x1 x2 x3 x4 y1 y2 y3 y4 HSB
              go_wp2
              exact ⟨⟨k + 1, by omega, by go_num, HI2, hb4⟩, by simp [intOf]; omega⟩
            · have r1 : (RC == 0) = false := by simpa using hr0
              have r2 : (RC != 0) = true := by simpa using hr0
              have hne : decide (X[k]? = Y[k]?) = false := decide_eq_false (fun e => hr0 (by
                rw [HXK.out, HYK.out] at e
                rw [← HDC.out, dcf_zero.2 (Option.some.inj e)]))
              have hr := Lib.hid (HAN.out k hlt hne HI.out)
              clear hr0 x1 x2 x3 x4 y1 y2 y3 y4 HSB hne
              go_wp2
              go_ret
              exact ⟨ret_i64 hr.out.symm, below_on hb4 hb2w⟩
        · obtain rfl : n = k := by omega
          have i1 : ¬ (n : Int) < (n : Int) := by omega
          have hr := Lib.hid (HAY.out (fun j hj => HI.out j hj))
          go_wp2
          go_ret
          exact ⟨ret_i64 hr.out.symm, below_on hb hb2w⟩
def HasN (w : World) (g n : Nat) (zs : List Int) : Prop := ∃ cs : Array Value, Blk w g cs 2 ∧ cs.size = n ∧ ICs cs zs
theorem HasN.by {w w' : World} {g n : Nat} {zs : List Int} (hb : Below w.heap.size w w') (h : HasN w g n zs) : HasN w' g n zs := by
  obtain ⟨cs, a, b⟩ := h; exact ⟨cs, Blk.by hb a, b⟩
theorem HasN.sl {w : World} {g n : Nat} {zs : List Int} (h : HasN w g n zs) (hz : zs.length = n) (hn : n ≤ 1000) : IntSl w (.slice (some ⟨g, 0, none⟩) n n) zs := by
  obtain ⟨cs, a, b, c⟩ := h
  have : OwnR w g (g + 1) (.slice (some ⟨g, 0, none⟩) zs.length n) zs := ICs.own c a (by omega) (by unfold maxLen; omega)
  rw [hz] at this
  exact this.sl
theorem HasN.nm {w : World} {g n i : Nat} {zs : List Int} (h : HasN w g n zs) (hz : zs.length = n) (hi : i < n) : w.cell? ⟨g, i, none⟩ = some (.int .i64 (nmOf zs (i : Int))) := by
  obtain ⟨cs, a, b, c⟩ := h
  exact (a.cell i).trans (c i _ (nm_get (by omega)))
theorem prtLR_of {ps qs : List Pt} {l r : List Int} {i : Nat} {a b : Pt} (ha : ps[i]? = some a) (hb : qs[i]? = some b) : prtLR ps qs l r i = decide (nmOf l a.net = nmOf r b.net) := by unfold prtLR; rw [ha, hb]
structure FitS (w : World) (n : Nat) (A B : Array Value) (ls rs : List Int) (wr : World) : Prop where
  a : Blk wr w.heap.size A 35
  b : Blk wr (w.heap.size + 1) B 35
  l : HasN wr (w.heap.size + 2) n ls
  r : HasN wr (w.heap.size + 3) n rs
  below : Below w.heap.size w wr
theorem FitS.setL {w wr : World} {n : Nat} {A B : Array Value} {ls rs : List Int} (h : FitS w n A B ls rs wr) (k : Nat) (v : Int) : FitS w n A B (ls.set k v) rs (wr.setCell ⟨w.heap.size + 2, k, none⟩ (.int .i64 v)) := by
  obtain ⟨cs, e1, e2, e3⟩ := h.l
  obtain ⟨ds, f1, f2, f3⟩ := h.r
  exact ⟨h.a.apart _ _ _ (by omega), h.b.apart _ _ _ (by omega), ⟨_, e1.set k _, by simpa using e2, e3.set k v⟩, ⟨ds, f1.apart _ _ _ (by omega), f2, f3⟩, h.below.setCell (show w.heap.size ≤ w.heap.size + 2 by omega) _⟩
theorem FitS.setR {w wr : World} {n : Nat} {A B : Array Value} {ls rs : List Int} (h : FitS w n A B ls rs wr) (k : Nat) (v : Int) : FitS w n A B ls (rs.set k v) (wr.setCell ⟨w.heap.size + 3, k, none⟩ (.int .i64 v)) := by
  obtain ⟨cs, e1, e2, e3⟩ := h.l
  obtain ⟨ds, f1, f2, f3⟩ := h.r
  exact ⟨h.a.apart _ _ _ (by omega), h.b.apart _ _ _ (by omega), ⟨cs, e1.apart _ _ _ (by omega), e2, e3⟩, ⟨_, f1.set k _, by simpa using f2, f3.set k v⟩, h.below.setCell (show w.heap.size ≤ w.heap.size + 3 by omega) _⟩
theorem ics_zero {cs : Array Value} {n : Nat} (h : ∀ i, i < n → cs[i]? = some (Value.int .i64 0)) : ICs cs (negTo n 0) := by
  intro i z hz
  rw [negTo_zero] at hz
  have hi : i < n := by have := (List.getElem?_eq_some_iff.1 hz).1; simpa using this
  rw [List.getElem?_eq_getElem (by simpa using hi)] at hz
  simp at hz
  subst hz
  exact h i hi
set_option maxRecDepth 100000 in
set_option maxHeartbeats 8000000 in
theorem l30Fits_any (x y : Nl) (nets : List Int) (v u sn : Value) (w : World) (h : NlV w v x) (h' : NlV w u y) (hn : IntSl w sn nets) (hx : nlB x = true) (hy : nlB y = true) (hxy : y.nets = x.nets) (hpl : y.ps.length = x.ps.length) (hg : goodN x.nets.toNat nets) :
    Calls Tryz.prog 106 #[v, u, sn] w fun e w' => e = .returned (.bool (fitB x y nets)) ∧ Below w.heap.size w w' := by
  obtain ⟨⟨n0, n1⟩, hl1, hp1, hdx, _⟩ := nlB_facts hx
  obtain ⟨_, hl2, _, hdy, _⟩ := nlB_facts hy
  obtain ⟨n, hnn⟩ : ∃ n : Nat, x.nets = n := ⟨x.nets.toNat, by omega⟩
  have hnt : x.nets.toNat = n := by omega
  have HPX := Lib.hid (fun p (h : p ∈ x.ps) => pt_in hx h)
  have HPY := Lib.hid (fun p (h : p ∈ y.ps) => pt_in hy h)
  have HFB : fitB x y nets = (allB (prtLR x.ps y.ps (lefTo n nets.length) (rigTo n nets nets.length)) x.ps.length && decide (innerS x.ds (lefTo n nets.length) = innerS y.ds (rigTo n nets nets.length))) := by
    unfold fitB; rw [hxy, hnt]
  rw [HFB]
  rw [hnt] at hg
  have hm : nets.length ≤ n := by
    have := nodup_sub_len (a := nets) (b := iota n) hg.1 (fun z hz => (mem_iota _ _).2 (by have := hg.2 z hz; omega))
    rwa [length_iota] at this
  have HG := Lib.hid hg
  have HI1 := Lib.hid (fun names v sn w h hn hd => l30Inner_any x names v sn w h hn hl1 hd)
  have HI2 := Lib.hid (fun names v sn w h hn hd => l30Inner_any y names v sn w h hn hl2 hd)
  have HDX := Lib.hid (show ∀ d ∈ x.ds, 2 ≤ d.pins.length ∧ d.pins.length ≤ 3 ∧ ∀ p ∈ d.pins, 0 ≤ p ∧ p < (n : Int) from fun d hd => by have := dvB_pins (hdx d hd); exact ⟨this.2.1, this.1, fun p hp => by have := this.2.2 p hp; omega⟩)
  have HDY := Lib.hid (show ∀ d ∈ y.ds, 2 ≤ d.pins.length ∧ d.pins.length ≤ 3 ∧ ∀ p ∈ d.pins, 0 ≤ p ∧ p < (n : Int) from fun d hd => by have := dvB_pins (hdy d hd); exact ⟨this.2.1, this.1, fun p hp => by have := this.2.2 p hp; omega⟩)
  have HEQ := Lib.hid (fun xs ys s1 s2 w h h' hl hl' => l30Equal_any xs ys s1 s2 w h h' hl hl')
  have HNA := Lib.hid h
  have HNB := Lib.hid h'
  have HN := Lib.hid hn
  obtain ⟨a1, c1, a2, c2, rfl⟩ := h.sized
  obtain ⟨b1, d1, b2, d2, rfl⟩ := h'.sized
  obtain ⟨an, cn, rfl⟩ := hn.len
  obtain ⟨p, hpx⟩ : ∃ p, x.ps.length = p := ⟨_, rfl⟩
  obtain ⟨L1, hL1⟩ : ∃ L, x.ds.length = L := ⟨_, rfl⟩
  obtain ⟨L2, hL2⟩ : ∃ L, y.ds.length = L := ⟨_, rfl⟩
  obtain ⟨m, hml⟩ : ∃ m, nets.length = m := ⟨_, rfl⟩
  rw [hxy] at HNB ⊢
  rw [hpl] at HNB ⊢
  rw [hnn, hpx, hL1] at HNA
  rw [hnn, hpx, hL2] at HNB
  rw [hnn, hpx, hL1, hL2, hml]
  rw [hml] at hm HN
  have HPL := Lib.hid hpx
  have HPL2 := Lib.hid (hpl.trans hpx)
  have HL1 := Lib.hid hL1
  have HL2 := Lib.hid hL2
  have HML := Lib.hid hml
  have hn24 : n ≤ 24 := by omega
  have hp8 : p ≤ 8 := by omega
  have hL24 : L1 ≤ 24 ∧ L2 ≤ 24 := by omega
  have HXN := Lib.hid hnn
  have HYN := Lib.hid (hxy.trans hnn)
  clear h h' hn hx hy hxy hpl hg hdx hdy hpx hL1 hL2 hml hnn hnt n0 n1 hl1 hl2 hp1 HFB
  have HAY := Lib.hid (@allB_yes (prtLR x.ps y.ps (lefTo n m) (rigTo n nets m)) p)
  have HAN := Lib.hid (fun i h h' => @allB_no (prtLR x.ps y.ps (lefTo n m) (rigTo n nets m)) p i h h')
  generalize allB (prtLR x.ps y.ps (lefTo n m) (rigTo n nets m)) p = rA at *
  have HLF := Lib.hid (length_lefTo n)
  have HRF := Lib.hid (length_rigTo n nets)
  obtain ⟨cs0, hcs0, hz0, hmk0⟩ := make_ints n (by omega) ((w.alloc (.cells #[.int .i64 (n : Int), .slice a1 L1 c1, .slice a2 p c2] 35)).alloc (.cells #[.int .i64 (n : Int), .slice b1 L2 d1, .slice b2 p d2] 35))
  obtain ⟨cs1, hcs1, hz1, hmk1⟩ := make_ints n (by omega) (((w.alloc (.cells #[.int .i64 (n : Int), .slice a1 L1 c1, .slice a2 p c2] 35)).alloc (.cells #[.int .i64 (n : Int), .slice b1 L2 d1, .slice b2 p d2] 35)).alloc (.cells cs0 2))
  have HS0 : Hid (FitS w n #[.int .i64 (n : Int), .slice a1 L1 c1, .slice a2 p c2] #[.int .i64 (n : Int), .slice b1 L2 d1, .slice b2 p d2] (negTo n 0) (negTo n 0) ((((w.alloc (.cells #[.int .i64 (n : Int), .slice a1 L1 c1, .slice a2 p c2] 35)).alloc (.cells #[.int .i64 (n : Int), .slice b1 L2 d1, .slice b2 p d2] 35)).alloc (.cells cs0 2)).alloc (.cells cs1 2))) := Lib.hid
    ⟨(((Blk.new _ rfl).past _).past _).past _, ((Blk.new _ (by simp)).past _).past _, ⟨cs0, (Blk.new _ (by simp)).past _, hcs0, ics_zero hz0⟩, ⟨cs1, Blk.new _ (by simp), hcs1, ics_zero hz1⟩, ((((Below.refl _ w).alloc (Nat.le_refl _) _).alloc (by simp) _).alloc (by simp; omega) _).alloc (by simp; omega) _⟩
  clear hz0 hz1
  simp only [World.size_alloc] at hmk0 hmk1
  go_enter Tryz.func106, Tryz.ntmps106
  go_wp2
  clear hmk0 hmk1
  go_loopw [9] (fun i wr => ∃ k : Nat, k ≤ n ∧ i = .int .i64 (k : Int) ∧ Hid (FitS w n #[.int .i64 (n : Int), .slice a1 L1 c1, .slice a2 p c2] #[.int .i64 (n : Int), .slice b1 L2 d1, .slice b2 p d2] (negTo n k) (negTo n 0) wr)) (fun i _ => n - (intOf i).toNat)
  case atStart => exact ⟨0, Nat.zero_le _, rfl, HS0⟩
  case round =>
    clear HS0 hcs0 hcs1
    obtain ⟨k, hk, rfl, HS⟩ := hrel
    by_cases hlt : k < n
    · have i1 : (k : Int) < (n : Int) := by omega
      have i2 : decide (k < n) = true := decide_eq_true hlt
      obtain ⟨cs, kL, hsz, hIC⟩ := HS.out.l
      obtain ⟨u0_, d0⟩ : ∃ u, cs[k]? = some u := ⟨_, Array.getElem?_eq_getElem (by omega)⟩
      have cL := (kL.cell k).trans d0
      have fL := kL.free k
      have lL := kL.lt
      have HX := Lib.hid (negTo_step hlt ▸ HS.out.setL k (-1))
      clear kL hsz hIC d0 HS
      go_wp2
      exact ⟨⟨k + 1, by omega, by go_num, HX⟩, by simp [intOf]; omega⟩
    · obtain rfl : n = k := by omega
      have i1 : ¬ (n : Int) < (n : Int) := by omega
      clear hlt hk
      go_wp2
      go_loopw [10] (fun i wr => ∃ k : Nat, k ≤ n ∧ i = .int .i64 (k : Int) ∧ Hid (FitS w n #[.int .i64 (n : Int), .slice a1 L1 c1, .slice a2 p c2] #[.int .i64 (n : Int), .slice b1 L2 d1, .slice b2 p d2] (negTo n n) (negTo n k) wr)) (fun i _ => n - (intOf i).toNat)
      case atStart => exact ⟨0, Nat.zero_le _, rfl, HS⟩
      case round =>
        clear HS
        obtain ⟨k, hk, rfl, HS⟩ := hrel
        by_cases hlt : k < n
        · have i1 : (k : Int) < (n : Int) := by omega
          have i2 : decide (k < n) = true := decide_eq_true hlt
          obtain ⟨cs, kL, hsz, hIC⟩ := HS.out.r
          obtain ⟨u0_, d0⟩ : ∃ u, cs[k]? = some u := ⟨_, Array.getElem?_eq_getElem (by omega)⟩
          have cL := (kL.cell k).trans d0
          have fL := kL.free k
          have lL := kL.lt
          have HX := Lib.hid (negTo_step hlt ▸ HS.out.setR k (-1))
          clear kL hsz hIC d0 HS
          go_wp2
          exact ⟨⟨k + 1, by omega, by go_num, HX⟩, by simp [intOf]; omega⟩
        · obtain rfl : n = k := by omega
          have i1 : ¬ (n : Int) < (n : Int) := by omega
          have HS' : Hid (FitS w n #[.int .i64 (n : Int), .slice a1 L1 c1, .slice a2 p c2] #[.int .i64 (n : Int), .slice b1 L2 d1, .slice b2 p d2] (lefTo n 0) (rigTo n nets 0) wr) := Lib.hid (by have := HS.out; rw [negTo_all] at this; exact this)
          clear hlt hk HS
          go_wp2
          go_loopw [11] (fun i wr => ∃ k : Nat, k ≤ m ∧ i = .int .i64 (k : Int) ∧ Hid (FitS w n #[.int .i64 (n : Int), .slice a1 L1 c1, .slice a2 p c2] #[.int .i64 (n : Int), .slice b1 L2 d1, .slice b2 p d2] (lefTo n k) (rigTo n nets k) wr)) (fun i _ => m - (intOf i).toNat)
          case atStart => exact ⟨0, Nat.zero_le _, rfl, HS'⟩
          case round =>
            clear HS'
            obtain ⟨k, hk, rfl, HS⟩ := hrel
            by_cases hlt : k < m
            · have i1 : (k : Int) < (m : Int) := by omega
              have i2 : decide (k < n) = true := decide_eq_true (by omega)
              have i3 : decide (k < m) = true := decide_eq_true hlt
              have i4 : (k : Int) < (n : Int) := by omega
              have hat := HG.out.at_ (i := k) (by rw [HML.out]; exact hlt)
              obtain ⟨z, hz⟩ : ∃ z : Nat, nmOf nets (k : Int) = z := ⟨(nmOf nets (k : Int)).toNat, by omega⟩
              have hzn : z < n := by omega
              have i5 : decide (z < n) = true := decide_eq_true hzn
              have i6 : (z : Int) < (n : Int) := by omega
              obtain ⟨nb, no, nc, hen, lN, c6⟩ := (HN.out.by HS.out.below).nm (by rw [HML.out]; omega)
              obtain ⟨rfl, rfl⟩ : an = some ⟨nb, no, none⟩ ∧ cn = nc := by
                simp only [Value.slice.injEq] at hen
                exact ⟨hen.1, hen.2.2⟩
              have cN0 := (HN.out.nm (by rw [HML.out]; omega))
              obtain ⟨nb2, no2, nc2, hen2, lN2, c62⟩ := cN0
              simp only [Value.slice.injEq, Option.some.injEq, Addr.mk.injEq, and_true] at hen2
              have cZ := c6 k (by rw [HML.out]; exact hlt)
              rw [hz] at cZ
              have hnbw : nb < w.heap.size := by omega
              obtain ⟨cs, kL, hsz, hIC⟩ := HS.out.l
              obtain ⟨u0_, d0⟩ : ∃ u, cs[k]? = some u := ⟨_, Array.getElem?_eq_getElem (by omega)⟩
              obtain ⟨ds, kR, hsz2, hIC2⟩ := HS.out.r
              obtain ⟨u1_, d1_⟩ : ∃ u, ds[z]? = some u := ⟨_, Array.getElem?_eq_getElem (by omega)⟩
              have cL := (kL.cell k).trans d0
              have fL := kL.free k
              have lL := kL.lt
              have cR := (kR.cell z).trans d1_
              have fR := kR.free z
              have lR := kR.lt
              have HX := Lib.hid (show FitS w n #[.int .i64 (n : Int), .slice a1 L1 c1, .slice a2 p c2] #[.int .i64 (n : Int), .slice b1 L2 d1, .slice b2 p d2] (lefTo n (k + 1)) (rigTo n nets (k + 1)) ((wr.setCell ⟨w.heap.size + 2, k, none⟩ (.int .i64 (k : Int))).setCell ⟨w.heap.size + 3, z, none⟩ (.int .i64 (k : Int))) from by
                have h1 := (HS.out.setL k (k : Int)).setR z (k : Int)
                unfold lefTo rigTo
                rw [hz, Int.toNat_natCast]
                exact h1)
              clear kL hsz hIC d0 HS kR hsz2 hIC2 d1_ c6 hen hz hat c62 hen2 lN2
              go_wp2
              exact ⟨⟨k + 1, by omega, by go_num, HX⟩, by simp [intOf]; omega⟩
            · obtain rfl : m = k := by omega
              have i1 : ¬ (m : Int) < (m : Int) := by omega
              clear hlt hk
              have HLS := Lib.hid (HS.out.l.sl (HLF.out m) (by omega))
              have HRS := Lib.hid (HS.out.r.sl (HRF.out m) (by omega))
              obtain ⟨wo, rfl⟩ : ∃ z : World, z = wr := ⟨_, rfl⟩
              go_wp2
              go_loopw [12] (fun i wr => ∃ k : Nat, k ≤ p ∧ i = .int .i64 (k : Int) ∧ Hid (∀ j, j < k → prtLR x.ps y.ps (lefTo n m) (rigTo n nets m) j = true) ∧ Below wo.heap.size wo wr) (fun i _ => p - (intOf i).toNat)
              case atStart => exact ⟨0, Nat.zero_le _, rfl, Lib.hid (by intro j h; omega), blwT⟩
              case round =>
                obtain ⟨k, hk, rfl, HI, hb⟩ := hrel
                have kA := Blk.by hb HS.out.a
                have kB := Blk.by hb HS.out.b
                have qA := kA.cell
                have qB := kB.cell
                have lA := kA.lt
                have lB := kB.lt
                have hbw := below_on hb HS.out.below
                by_cases hlt : k < p
                · have i1 : (k : Int) < (p : Int) := by omega
                  have i2 : decide (k < p) = true := decide_eq_true hlt
                  obtain ⟨pp, hp⟩ : ∃ p, x.ps[k]? = some p := ⟨_, List.getElem?_eq_getElem (by rw [HPL.out]; exact hlt)⟩
                  obtain ⟨qq, hq⟩ : ∃ q, y.ps[k]? = some q := ⟨_, List.getElem?_eq_getElem (by rw [HPL2.out]; exact hlt)⟩
                  have hat := prtLR_of (l := lefTo n m) (r := rigTo n nets m) hp hq
                  have rp := HPX.out pp (List.mem_of_getElem? hp)
                  have rq := HPY.out qq (List.mem_of_getElem? hq)
                  rw [HXN.out] at rp
                  rw [HYN.out] at rq
                  obtain ⟨_, _, ea, _, hPX⟩ := HNA.out
                  obtain ⟨_, _, eb, _, hPY⟩ := HNB.out
                  simp only [Value.agg.injEq, Array.mk.injEq, List.cons.injEq, and_true] at ea eb
                  obtain ⟨_, _, rfl⟩ := ea
                  obtain ⟨_, _, rfl⟩ := eb
                  rcases hPX with ⟨_, _, _, h2⟩ | ⟨pb, po, pc, he, _, _, h4⟩
                  · rw [h2] at hp; simp at hp
                  obtain ⟨rfl, rfl⟩ : a2 = some ⟨pb, po, none⟩ ∧ c2 = pc := by
                    simp only [Value.slice.injEq] at he
                    exact ⟨he.1, he.2.2⟩
                  rcases hPY with ⟨_, _, _, h2⟩ | ⟨qb, qo, qc, he', _, _, h4'⟩
                  · rw [h2] at hq; simp at hq
                  obtain ⟨rfl, rfl⟩ : b2 = some ⟨qb, qo, none⟩ ∧ d2 = qc := by
                    simp only [Value.slice.injEq] at he'
                    exact ⟨he'.1, he'.2.2⟩
                  obtain ⟨p1, p2⟩ := (h4 k pp hp).by hbw
                  obtain ⟨q1, q2⟩ := (h4' k qq hq).by hbw
                  obtain ⟨name, net⟩ := pp
                  obtain ⟨name', net'⟩ := qq
                  dsimp only at *
                  obtain ⟨u1, rfl⟩ : ∃ z : Nat, net = z := ⟨net.toNat, by omega⟩
                  obtain ⟨u2, rfl⟩ : ∃ z : Nat, net' = z := ⟨net'.toNat, by omega⟩
                  have hu1 : u1 < n := by omega
                  have hu2 : u2 < n := by omega
                  have cl := (HS.out.l.by hb).nm (HLF.out m) hu1
                  have cr := (HS.out.r.by hb).nm (HRF.out m) hu2
                  have HAT := Lib.hid hat
                  obtain ⟨V1, hV1⟩ : ∃ V, nmOf (lefTo n m) (u1 : Int) = V := ⟨_, rfl⟩
                  obtain ⟨V2, hV2⟩ : ∃ V, nmOf (rigTo n nets m) (u2 : Int) = V := ⟨_, rfl⟩
                  rw [hV1] at cl
                  rw [hV2] at cr
                  rw [hV1, hV2] at HAT
                  have i3 : decide (u1 < n) = true := decide_eq_true hu1
                  have i4 : decide (u2 < n) = true := decide_eq_true hu2
                  have i5 : (u1 : Int) < (n : Int) := by omega
                  have i6 : (u2 : Int) < (n : Int) := by omega
                  have hl3 : w.heap.size + 3 < wr.heap.size := by obtain ⟨_, k3, _⟩ := HS.out.r.by hb; exact k3.lt
                  clear hp hq hat he he' h4 h4' hV1 hV2 rp rq
                  by_cases hvv : V1 = V2
                  · subst hvv
                    have e1 : (V1 == V1) = true := by simp
                    have e2 : (V1 != V1) = false := by simp
                    rw [decide_eq_true rfl] at HAT
                    go_wp2
                    go_quiet (fail)
                    go_wp2
                    refine ⟨⟨k + 1, by omega, by go_num, Lib.hid (fun j hj => ?_), (by first | exact hb | exact below_on (below_of_drewN _ _) hb)⟩, by simp [intOf]; omega⟩
                    by_cases ej : j = k
                    · subst ej; exact HAT.out
                    · exact HI.out j (by omega)
                  · have e1 : (V1 == V2) = false := by simpa using hvv
                    have e2 : (V1 != V2) = true := by simpa using hvv
                    rw [decide_eq_false hvv] at HAT
                    obtain rfl : rA = false := HAN.out k hlt HAT.out
                    clear hvv
                    go_wp2
                    go_quiet (fail)
                    go_wp2
                    go_ret
                    exact ⟨by rfl, (by first | exact hbw | exact below_on (below_of_drewN _ _) hbw)⟩
                · obtain rfl : p = k := by omega
                  have i1 : ¬ (p : Int) < (p : Int) := by omega
                  obtain rfl : rA = true := HAY.out (fun j hj => HI.out j hj)
                  have HLL := Lib.hid (HLS.out.by hb)
                  have HRR := Lib.hid (HRS.out.by hb)
                  clear HLS HRS HAY HAN HI HS hb hlt hk
                  go_upto_region 21 with fail
                  have hS : (fun w' : World => Blk w' w.heap.size #[.int .i64 (n : Int), .slice a1 L1 c1, .slice a2 p c2] 35 ∧ Blk w' (w.heap.size + 1) #[.int .i64 (n : Int), .slice b1 L2 d1, .slice b2 p d2] 35) { wr with drawn := wr.drawn + 1 } := ⟨kA.drew, kB.drew⟩
                  refine wp_region_any (by kernel_rfl) (wpAny_of_E (S := fun w' : World => Blk w' w.heap.size #[.int .i64 (n : Int), .slice a1 L1 c1, .slice a2 p c2] 35 ∧ Blk w' (w.heap.size + 1) #[.int .i64 (n : Int), .slice b1 L2 d1, .slice b2 p d2] 35) (l := 7) _ _ _ _ ?_)
                  change wpAnyE _ _ _ _ _ _ _ _ _ wr.drew
                  refine wpAnyE_takeL (i := 0) (v := ?_) rfl (by kernel_rfl) (fun _ _ _ h => h) (Or.inl ⟨by rfl, ?_⟩) hS ?_
                  rotate_left
                  · intro w hSw; (try dsimp only at hSw); have qA := hSw.1.cell; have qB := hSw.2.cell; have lA := hSw.1.lt; have lB := hSw.2.lt; clear hSw; go_simp; (try with_reducible rfl)
                  try simp only [Act.put, List.setIfInBounds_toArray, List.set_cons_zero, List.set_cons_succ]
                  refine wpAnyE_takeL (i := 1) (v := ?_) rfl (by kernel_rfl) (fun _ _ _ h => h) (Or.inl ⟨by rfl, ?_⟩) hS ?_
                  rotate_left
                  · intro w hSw; (try dsimp only at hSw); have qA := hSw.1.cell; have qB := hSw.2.cell; have lA := hSw.1.lt; have lB := hSw.2.lt; clear hSw; go_simp; (try with_reducible rfl)
                  try simp only [Act.put, List.setIfInBounds_toArray, List.set_cons_zero, List.set_cons_succ]
                  refine wpAnyE_takeL (i := 3) (v := ?_) rfl (by kernel_rfl) (fun _ _ _ h => h) (Or.inl ⟨by rfl, ?_⟩) hS ?_
                  rotate_left
                  · intro w hSw; (try dsimp only at hSw); have qA := hSw.1.cell; have qB := hSw.2.cell; have lA := hSw.1.lt; have lB := hSw.2.lt; clear hSw; go_simp; (try with_reducible rfl)
                  try simp only [Act.put, List.setIfInBounds_toArray, List.set_cons_zero, List.set_cons_succ]
                  refine wpAnyE_takeL (i := 4) (v := ?_) rfl (by kernel_rfl) (fun _ _ _ h => h) (Or.inl ⟨by rfl, ?_⟩) hS ?_
                  rotate_left
                  · intro w hSw; (try dsimp only at hSw); have qA := hSw.1.cell; have qB := hSw.2.cell; have lA := hSw.1.lt; have lB := hSw.2.lt; clear hSw; go_simp; (try with_reducible rfl)
                  try simp only [Act.put, List.setIfInBounds_toArray, List.set_cons_zero, List.set_cons_succ]
                  refine wpAnyE_oneL (k := 2) (by kernel_rfl) rfl (fun K hK => ?_)
                  go_simp
                  go_at_call 145
                  refine (HI1.out (lefTo n m) _ _ _ ((HNA.out.by hbw).by (below_of_drewN wr 1)) (HLL.out.by (below_of_drewN wr 1)) (by rw [HLF.out]; exact HDX.out)).mono ?_
                  rintro e w1 ⟨v1, rfl, hO1, hb1⟩
                  obtain ⟨g1, k1, rfl⟩ := hO1.sl.sized
                  have hb1' : Below wr.heap.size wr w1 := below_on hb1 (below_of_drewN wr 1)
                  have HO1 := Lib.hid hO1
                  have kA1 := Blk.by hb1' kA
                  have kB1 := Blk.by hb1' kB
                  have hb1w := below_on hb1' hbw
                  have HRR1 := Lib.hid (HRR.out.by hb1')
                  clear hO1 hb1 hb1' kA kB qA qB lA lB hS
                  have hS := And.intro kA1 kB1
                  refine hK.out _ _ (fun _ => hS) ?_
                  try simp only [Act.put, List.setIfInBounds_toArray, List.set_cons_zero, List.set_cons_succ]
                  refine wpAnyE_oneL (k := 5) (by kernel_rfl) rfl (fun K hK => ?_)
                  go_simp
                  go_at_call 145
                  refine (HI2.out (rigTo n nets m) _ _ _ (HNB.out.by hb1w) HRR1.out (by rw [HRF.out]; exact HDY.out)).mono ?_
                  rintro e w2 ⟨v2, rfl, hO2, hb2⟩
                  obtain ⟨g2, k2, rfl⟩ := hO2.sl.sized
                  have HO1' := Lib.hid (HO1.out.by hb2).sl
                  have HO2 := Lib.hid hO2.sl
                  have kA2 := Blk.by hb2 kA1
                  have kB2 := Blk.by hb2 kB1
                  have hb2w := below_on hb2 hb1w
                  have hlen1 : (innerS x.ds (lefTo n m)).length ≤ 1000 := by
                    have h1 := innTo_len x.ds (lefTo n m) x.ds.length
                    have h2 := HL1.out
                    rw [← innTo_all, length_srtD]
                    omega
                  have hlen2 : (innerS y.ds (rigTo n nets m)).length ≤ 1000 := by
                    have h1 := innTo_len y.ds (rigTo n nets m) y.ds.length
                    have h2 := HL2.out
                    rw [← innTo_all, length_srtD]
                    omega
                  clear hO2 hb2 HO1 kA1 kB1 hb1w HRR1 hS
                  have hS := And.intro kA2 kB2
                  refine hK.out _ _ (fun _ => hS) ?_
                  try simp only [Act.put, List.setIfInBounds_toArray, List.set_cons_zero, List.set_cons_succ]
                  refine wpAnyE_oneL (k := 6) (by kernel_rfl) rfl (fun K hK => ?_)
                  go_simp
                  go_at_call 144
                  refine (HEQ.out _ _ _ _ _ HO1'.out HO2.out hlen1 hlen2).mono ?_
                  rintro e w3 ⟨rfl, hb3⟩
                  have hb3w := below_on hb3 hb2w
                  have hS3 := And.intro (Blk.by hb3 kA2) (Blk.by hb3 kB2)
                  clear hS
                  refine hK.out _ _ (fun _ => hS3) ?_
                  try simp only [Act.put, List.setIfInBounds_toArray, List.set_cons_zero, List.set_cons_succ]
                  refine wpAnyE_oneL (k := 7) (by kernel_rfl) rfl (fun K hK => ?_)
                  go_simp
                  refine hK.out _ _ (fun h => absurd rfl h) ?_
                  refine wpAnyE_done (by kernel_rfl) ?_ _
                  clear hS3 kA2 kB2 hlen1 hlen2
                  go_wp2
                  go_ret
                  exact ⟨by rfl, hb3w⟩
def OutL (w : World) (r lo hi : Nat) (v : Value) (ls : List (List Int)) : Prop := hi ≤ w.heap.size ∧ ∃ (vs : List Value) (f : Nat → Nat), w.ownsRow lo 27 1 v ls.length vs ∧ vs.length = ls.length ∧ (∀ g, v.ownBlock = some g → lo ≤ g ∧ g < hi) ∧
  (∀ i x s, ls[i]? = some x → vs[i]? = some s → OwnR w (f i) (f i + 1) s x ∧ (r ≤ f i ∧ f i < w.heap.size) ∧ v.ownBlock ≠ some (f i))
section
variable {w w' : World} {r lo hi : Nat} {v : Value} {ls : List (List Int)}
theorem OutL.by (hb : Below w.heap.size w w') (h : OutL w r lo hi v ls) : OutL w' r lo hi v ls := by
  obtain ⟨hs, vs, f, h1, h2, h3, h4⟩ := h
  have hsz := hb.size
  refine ⟨Nat.le_trans hs hb.size, vs, f, row_same h1 (fun g hg => hb.block g (by have := h3 g hg; omega)), h2, h3, fun i x s hx hp => ?_⟩
  obtain ⟨a, b, c⟩ := h4 i x s hx hp
  exact ⟨OwnR.by hb a, by omega, c⟩
theorem OutL.sized (h : OutL w r lo hi v ls) : ∃ a c, v = .slice a ls.length c := by
  obtain ⟨_, vs, f, ⟨_, h1⟩, _⟩ := h
  rcases h1 with ⟨h1, h2⟩ | ⟨g, cap, cur, e1, _⟩
  · exact ⟨none, 0, by rw [h1, h2]⟩
  · exact ⟨_, _, e1⟩
theorem OutL.lit {g : Nat} (h : Blk w g #[] 27) (hlo : lo ≤ g) (hhi : g < hi) (hs : hi ≤ w.heap.size) : OutL w r lo hi (.slice (some ⟨g, 0, none⟩) 0 0) [] :=
  ⟨hs, [], fun _ => 0, ⟨rfl, .inr ⟨g, 0, #[], rfl, hlo, h, Nat.le_refl _, by unfold maxLen; omega, rfl, rfl⟩⟩, rfl, (fun g' hg' => by
    have e : g = g' := by injection hg'
    omega), by intro i x s h; simp at h⟩
theorem OutL.ll (h : OutL w r lo hi v ls) : LlSl w v ls := by
  obtain ⟨hs, vs, f, ⟨hlen, h1⟩, h2, h3, h4⟩ := h
  rcases h1 with ⟨h1, hn⟩ | ⟨g, cap, cur, e1, e2, e3, e4, e5, e6, e7⟩
  · exact .inl ⟨_, _, h1, List.eq_nil_of_length_eq_zero hn⟩
  · refine .inr ⟨g, 0, cap, e1, e4, e5, fun i x hx => ?_⟩
    have hi' : i < ls.length := (List.getElem?_eq_some_iff.1 hx).1
    obtain ⟨s, hsv⟩ : ∃ s, vs[i]? = some s := ⟨vs[i]'(by omega), List.getElem?_eq_getElem (by omega)⟩
    have h6 := hsv
    rw [← e7, List.getElem?_take_of_lt (by omega)] at h6
    have hB : Blk w g cur 27 := e3
    refine ⟨s, ?_, (h4 i x s hx hsv).1.sl⟩
    rw [Nat.zero_add, hB.cell]
    simpa using h6
theorem OutL.low {r' : Nat} (h : OutL w r lo hi v ls) (hr : r' ≤ r) : OutL w r' lo hi v ls := by
  obtain ⟨hs, vs, f, h1, h2, h3, h4⟩ := h
  exact ⟨hs, vs, f, h1, h2, h3, fun i x s hx hp => by
    obtain ⟨a, b, c⟩ := h4 i x s hx hp
    exact ⟨a, by omega, c⟩⟩
end
theorem step_appO {ops : Array Oper} {o : Oper} {a : Act} {w : World} {K : Act → World → Prop} {Q : Exit → Act → World → Prop} {E : Prop} (hgd : o.guard = none) (s x : Operand)
    (ho : o.op = .call { callee := .builtin .append, args := #[s, x], argTypes := #[87, 87] })
    (r lo hi : Nat) (v : Value) (ls l2 : List (List Int)) (hs : a.eval s = v) (hB : OutL w r lo hi v ls) (nb cap2 : Nat) (v2s : List Value) (f2 : Nat → Nat) (hx : a.eval x = .slice (some ⟨nb, 0, none⟩) l2.length cap2)
    (hnews : ∀ j u, v2s[j]? = some u → w.cell? ((⟨nb, 0, none⟩ : Addr).add j) = some u) (r2 : v2s.length = l2.length)
    (hr2 : ∀ i y u, l2[i]? = some y → v2s[i]? = some u → OwnR w (f2 i) (f2 i + 1) u y ∧ (r ≤ f2 i ∧ f2 i < w.heap.size) ∧ (f2 i < lo ∨ hi ≤ f2 i)) (h0 : 0 < l2.length) (hlo : lo ≤ hi) (hn : ls.length + l2.length ≤ 4000000)
    (hK : ∀ g c' w', OutL w' r lo w'.heap.size (.slice (some ⟨g, 0, none⟩) (ls.length + l2.length) c') (ls ++ l2) → Within lo hi w w' → K (a.put o.dst (.slice (some ⟨g, 0, none⟩) (ls.length + l2.length) c')) w') :
    if Region.wanted o (yielded ops a.tmps) = true then Oper.wp Tryz.prog o a w K Q else E := by
  obtain ⟨i0, hi0, hz0, hz1, hz2⟩ := info_parts infoL
  obtain ⟨hsz, vs, f, h1, h2, h3, h4⟩ := hB
  refine step_append_lies w hgd s x 87 ho lo 27 i0 _ 1 24 Tryz.underlying87 hi0 hz0 hz1 hz2 rfl (by decide) v ls.length _ hs h1 ⟨nb, 0, none⟩ l2.length cap2 v2s hx (by rw [r2, Nat.mul_one]) hnews ?_ h0 (by unfold maxLen; omega) (by omega) (by omega) w.heap.size rfl ?_
  · intro u hu
    obtain ⟨i, hi', e⟩ := List.mem_iff_getElem.1 hu
    exact (hr2 i (l2[i]'(by omega)) u (List.getElem?_eq_getElem _) (by rw [List.getElem?_eq_getElem hi', e])).1.sl.one
  · intro g cap w' hrow hgrow hg hgl
    have hW : Within lo hi w w' := grown_within hgrow h3
    have hsz' := hgrow.size
    refine hK g cap w' ⟨Nat.le_refl _, vs ++ v2s, fun i => if i < ls.length then f i else f2 (i - ls.length), ?_, by simp [h2, r2], ?_, ?_⟩ hW
    · rw [List.length_append]; exact hrow
    · intro g' hg'
      have : g = g' := by injection hg'
      subst this
      rcases hg with h | h
      · have := h3 g h; omega
      · omega
    · intro i y pv' hy hp'
      by_cases hi' : i < ls.length
      · rw [List.getElem?_append_left hi'] at hy
        rw [List.getElem?_append_left (by omega)] at hp'
        obtain ⟨a1, b1, c1⟩ := h4 i y pv' hy hp'
        simp only [if_pos hi']
        have hsep : ∀ g0, v.ownBlock = some g0 → g0 ≠ f i := fun g0 e1 e2 => c1 (by rw [e1, e2])
        refine ⟨?_, by omega, ?_⟩
        · cases hv : v.ownBlock with
          | none => exact OwnR.by ⟨hgrow.os, hgrow.tape, hgrow.output, hgrow.size, fun k hk => hgrow.block k hk (by rw [hv]; simp)⟩ a1
          | some g0 => exact OwnR.past (grown_within (lo := g0) (hi := g0 + 1) hgrow (fun g1 e => by rw [hv] at e; cases e; omega)) a1 (by have := hsep g0 hv; omega)
        · intro e
          have : g = f i := by injection e
          rcases hg with h | h
          · exact hsep g h this
          · omega
      · rw [List.getElem?_append_right (by omega)] at hy
        rw [List.getElem?_append_right (by omega), h2] at hp'
        obtain ⟨a1, b1, c1⟩ := hr2 _ y pv' hy hp'
        simp only [if_neg hi']
        refine ⟨OwnR.past hW a1 (by omega), by omega, ?_⟩
        intro e
        have : g = f2 (i - ls.length) := by injection e
        rcases hg with h | h
        · have := h3 g h; omega
        · omega
theorem list_pushO {ops : Array Oper} {rest : List Oper} {o : Oper} {a : Act} {w : World} {Q : Exit → Act → World → Prop} (hgd : o.guard = none) (s x : Operand)
    (ho : o.op = .call { callee := .builtin .append, args := #[s, x], argTypes := #[87, 87] })
    (r lo hi : Nat) (v : Value) (ls : List (List Int)) (hs : a.eval s = v) (hB : OutL w r lo hi v ls) (nb : Nat) (d : List Int) (pv : Value) (fb : Nat) (hx : a.eval x = .slice (some ⟨nb, 0, none⟩) 1 1)
    (hnb : Blk w nb #[pv] 27) (hpv : OwnR w fb (fb + 1) pv d) (hlo : lo ≤ hi) (hfr : r ≤ fb) (hfb : fb < w.heap.size) (hfs : fb < lo ∨ hi ≤ fb) (hn : ls.length ≤ 3000000)
    (hK : ∀ g c' w', OutL w' r lo w'.heap.size (.slice (some ⟨g, 0, none⟩) (ls.length + 1) c') (ls ++ [d]) → Within lo hi w w' → wpList Tryz.prog ops Q rest (a.put o.dst (.slice (some ⟨g, 0, none⟩) (ls.length + 1) c')) w') : wpList Tryz.prog ops Q (o :: rest) a w :=
  wpList_plain hgd fun K hk => by
    have h := step_appO (ops := ops) (K := K) (Q := Q) (E := False) hgd s x ho r lo hi v ls [d] hs hB nb 1 [pv] (fun _ => fb) hx (World.news_of_block (cs := #[pv]) hnb) rfl (fun i y u hy hu => by
      have hi' : i < 1 := (List.getElem?_eq_some_iff.1 hy).1
      obtain rfl : i = 0 := by omega
      simp at hy hu
      subst hy hu
      exact ⟨hpv, ⟨hfr, hfb⟩, hfs⟩) (by simp) hlo (by simp; omega) (fun a' c' w' h1 h2 => hk _ _ (hK a' c' w' h1 h2))
    rwa [if_pos (by simp [Region.wanted, hgd])] at h
theorem OutL.wide {w : World} {r lo hi : Nat} {v : Value} {ls : List (List Int)} (h : OutL w r lo hi v ls) : OutL w r lo w.heap.size v ls := by
  obtain ⟨hs, vs, f, h1, h2, h3, h4⟩ := h
  exact ⟨Nat.le_refl _, vs, f, h1, h2, fun g hg => by have := h3 g hg; omega, h4⟩
theorem step_appP {ops : Array Oper} {o : Oper} {a : Act} {w : World} {K : Act → World → Prop} {Q : Exit → Act → World → Prop} {E : Prop} (hgd : o.guard = none) (s x : Operand)
    (ho : o.op = .call { callee := .builtin .append, args := #[s, x], argTypes := #[87, 87] })
    (r lo hi g0 n0 c0 : Nat) (ls l2 : List (List Int)) (hs : a.eval s = .slice (some ⟨g0, 0, none⟩) n0 c0) (hB : OutL w r lo hi (.slice (some ⟨g0, 0, none⟩) n0 c0) ls) (hn0 : ls.length = n0) (rr lo2 hi2 m0 : Nat) (v2 : Value) (hx : a.eval x = v2) (hB2 : OutL w rr lo2 hi2 v2 l2) (hm0 : l2.length = m0) (hrr : r ≤ rr) (hh : hi ≤ rr) (hlo : lo ≤ hi) (hn : n0 + m0 ≤ 4000000)
    (hK : ∀ g c' w', OutL w' r lo w'.heap.size (.slice (some ⟨g, 0, none⟩) (n0 + m0) c') (ls ++ l2) → Within lo hi w w' → K (a.put o.dst (.slice (some ⟨g, 0, none⟩) (n0 + m0) c')) w') :
    if Region.wanted o (yielded ops a.tmps) = true then Oper.wp Tryz.prog o a w K Q else E := by
  subst hn0 hm0
  rcases Nat.eq_zero_or_pos l2.length with h0 | h0
  · obtain ⟨a2, c2, rfl⟩ := hB2.sized
    have hl2 : l2 = [] := List.eq_nil_of_length_eq_zero h0
    subst hl2
    have hcap : ls.length ≤ c0 := by
      obtain ⟨_, vs, f, ⟨_, h1⟩, _⟩ := hB
      rcases h1 with ⟨h1, _⟩ | ⟨g, cap, cur, e1, e2, e3, e4, _⟩
      · cases h1
      · simp only [Value.slice.injEq] at e1
        omega
    have hw : Region.wanted o (yielded ops a.tmps) = true := by simp [Region.wanted, hgd]
    rw [if_pos hw]
    have hr := run_append_zero g0 ls.length c0 a2 c2 o.type hcap w
    have hx' : a.eval x = .slice a2 0 c2 := hx
    unfold Oper.wp execOp
    simp only [ho, resolve, invoke, builtin, Sem.run_bind, Sem.run_pure, Result.andThen_ok, List.map_toArray, List.map_cons, List.map_nil, hs, hx', hr]
    have hk := hK g0 c0 w (by rw [List.append_nil]; exact hB.wide) (Within.refl _ _ _)
    exact hk
  · obtain ⟨hsz2, v2s, f2, ⟨_, r1⟩, r2, r3, r4⟩ := hB2
    rcases r1 with ⟨_, r5⟩ | ⟨b, cap2, cur, rfl, r5, r6, r7, r8, r9, r10⟩
    · omega
    simp only [Nat.mul_one] at r10
    exact step_appO (ops := ops) (K := K) (Q := Q) (E := E) hgd s x ho r lo hi _ ls l2 hs hB b cap2 v2s f2 hx (fun j u hu => by
        refine World.news_of_block r6 j u ?_
        rw [← r10, List.getElem?_take] at hu
        split at hu
        · exact hu
        · cases hu) r2 (fun i y u hy hu => by
        obtain ⟨q1, q2, q3⟩ := r4 i y u hy hu
        exact ⟨q1, by omega, .inr (by omega)⟩) h0 hlo hn hK
theorem BldI.wideC {w : World} {lo hi : Nat} {v : Value} {zs : List Int} (h : BldI w lo hi v zs) : BldI w lo w.heap.size v zs := by
  obtain ⟨h1, h2, h3⟩ := h
  exact ⟨Nat.le_refl _, h2, fun g hg => by have := h3 g hg; omega⟩
theorem step_catI {ops : Array Oper} {o : Oper} {a : Act} {w : World} {K : Act → World → Prop} {Q : Exit → Act → World → Prop} {E : Prop} (hgd : o.guard = none) (s x : Operand)
    (ho : o.op = .call { callee := .builtin .append, args := #[s, x], argTypes := #[27, 27] })
    (lo hi g0 n0 c0 m0 : Nat) (zs ys : List Int) (hs : a.eval s = .slice (some ⟨g0, 0, none⟩) n0 c0) (hB : BldI w lo hi (.slice (some ⟨g0, 0, none⟩) n0 c0) zs) (hn0 : zs.length = n0) (sv : Value) (hx : a.eval x = sv) (h : IntSl w sv ys) (hm0 : ys.length = m0) (hlo : lo ≤ hi) (hn : n0 + m0 ≤ 8000000)
    (hK : ∀ g c' w', BldI w' lo w'.heap.size (.slice (some ⟨g, 0, none⟩) (n0 + m0) c') (zs ++ ys) → Within lo hi w w' → K (a.put o.dst (.slice (some ⟨g, 0, none⟩) (n0 + m0) c')) w') :
    if Region.wanted o (yielded ops a.tmps) = true then Oper.wp Tryz.prog o a w K Q else E := by
  subst hn0 hm0
  obtain ⟨i0, hi0, hz0, hz1, hz2⟩ := info_parts infoI
  have hcap : zs.length ≤ c0 := by
    obtain ⟨_, ⟨_, h1⟩, _⟩ := hB
    rcases h1 with ⟨h1, _⟩ | ⟨g, cap, cur, e1, e2, e3, e4, _⟩
    · cases h1
    · simp only [Value.slice.injEq] at e1
      omega
  by_cases h0 : ys = []
  · subst h0
    have hS := src_ints h
    have hw : Region.wanted o (yielded ops a.tmps) = true := by simp [Region.wanted, hgd]
    rw [if_pos hw]
    have hr := run_append_room_src (P := Tryz.prog) w 27 27 o.type 2 i0 Tryz.underlying27 hi0 g0 0 zs.length c0 sv 0 [] (by rw [hz1]; exact hS) (by omega) (by simp) (by simp)
    unfold Oper.wp execOp
    simp only [ho, resolve, invoke, builtin, Sem.run_bind, Sem.run_pure, Result.andThen_ok, List.map_toArray, List.map_cons, List.map_nil, hs, hx, hr]
    have hk := hK g0 c0 w (by rw [List.append_nil]; exact hB.wideC) (Within.refl _ _ _)
    exact hk
  · have hl : 0 < ys.length := List.length_pos_iff.2 h0
    obtain ⟨hsz, h1, h3⟩ := hB
    rcases h with ⟨_, _, _, e2⟩ | ⟨b, off, cap, rfl, q2, q3, q4⟩
    · exact absurd e2 h0
    refine step_append_lies w hgd s x 27 ho lo 2 i0 _ 1 8 Tryz.underlying27 hi0 hz0 hz1 hz2 rfl (by decide) _ zs.length _ hs h1 ⟨b, off, none⟩ ys.length cap (icells ys) hx (by simp [icells]) ?_ ?_ hl (by unfold maxLen; omega) (by omega) (by omega) w.heap.size rfl ?_
    · intro j u hu
      simp only [icells, List.getElem?_map, Option.map_eq_some_iff] at hu
      obtain ⟨z, hz, rfl⟩ := hu
      rw [Addr.add_lit]
      exact q4 j z hz
    · intro u hu
      simp only [icells, List.mem_map] at hu
      obtain ⟨_, _, rfl⟩ := hu
      rfl
    · intro g cap' w' hrow hgrow hg hgl
      have hW : Within lo hi w w' := grown_within hgrow h3
      refine hK g cap' w' ⟨Nat.le_refl _, ?_, ?_⟩ hW
      · rw [List.length_append, icells_push]; exact hrow
      · intro g' hg'
        have : g = g' := by injection hg'
        subst this
        rcases hg with h | h
        · have := h3 g h; omega
        · omega
theorem nm_map {p r : List Int} {k : Int} (h0 : 0 ≤ k) (h1 : k < p.length) : nmOf (p.map (nmOf r)) k = nmOf r (nmOf p k) := by
  have e := nm_get (zs := p) (i := k.toNat) (by omega)
  rw [Int.toNat_of_nonneg h0] at e
  conv => lhs; unfold nmOf
  rw [List.getD_eq_getElem?_getD, List.getElem?_map, e]; rfl
theorem nm_inv {zs : List Int} {n : Int} (hp : permB zs n = true) {i : Int} (h0 : 0 ≤ i) (h1 : i < n) : nmOf (invS zs) (nmOf zs i) = i := by
  have hl := (permB_iff.1 hp).1
  have e := thru_inv hp
  rw [show thruS zs (invS zs) = zs.map (nmOf (invS zs)) from rfl] at e
  rw [← nm_map h0 (by omega), e]
  unfold nmOf
  rw [List.getD_eq_getElem?_getD, iota_get _ _ (by omega)]
  show ((i.toNat : Nat) : Int) = i
  omega
theorem nm_inv' {zs : List Int} {n : Int} (hp : permB zs n = true) {i : Int} (h0 : 0 ≤ i) (h1 : i < n) : nmOf zs (nmOf (invS zs) i) = i := by
  have hl := (permB_iff.1 hp).1
  have e := inv_thru hp
  rw [show thruS (invS zs) zs = (invS zs).map (nmOf zs) from rfl] at e
  rw [← nm_map h0 (by rw [length_invS]; omega), e]
  unfold nmOf
  rw [List.getD_eq_getElem?_getD, iota_get _ _ (by omega)]
  show ((i.toNat : Nat) : Int) = i
  omega
theorem map_perm {zs ys : List Int} {n : Int} (hp : permB zs n = true) (hq : permB ys n = true) : permB (zs.map (nmOf ys)) n = true := by
  obtain ⟨a, b, c⟩ := permB_iff.1 hp
  refine permB_iff.2 ⟨by rw [List.length_map]; exact a, ?_, fun z hz => ?_⟩
  · have h : ∀ (l : List Int), (∀ z ∈ l, 0 ≤ z ∧ z < n) → l.Nodup → (l.map (nmOf ys)).Nodup := by
      intro l
      induction l with
      | nil => simp
      | cons u l ih =>
        intro hr hn
        rw [List.map_cons, List.nodup_cons]
        rw [List.nodup_cons] at hn
        refine ⟨fun hm => ?_, ih (fun z hz => hr z (by simp [hz])) hn.2⟩
        obtain ⟨v, hv, e⟩ := List.mem_map.1 hm
        have := nmP_inj hq (hr v (by simp [hv])) (hr u (by simp)) e
        subst this
        exact hn.1 hv
    exact h zs c b
  · obtain ⟨u, hu, rfl⟩ := List.mem_map.1 hz
    exact (nmP hq (c u hu).1 (c u hu).2).2
theorem ren_ren {p r : List Int} {d : Dv} (h : ∀ k ∈ d.pins, 0 ≤ k ∧ k < p.length) : renD (p.map (nmOf r)) d = renD r (renD p d) := by
  obtain ⟨kd, ps, wd, ln⟩ := d
  unfold renD
  dsimp only at h ⊢
  rw [List.map_map]
  congr 1
  exact List.map_congr_left (fun k hk => nm_map (h k hk).1 (h k hk).2)
section
variable {x y z : Nl} {p q r s : List Int}
theorem NlIso.trans (H : NlIso x y p q) (K : NlIso y z r s) (hx : nlB x = true) (hy : nlB y = true) (hz : nlB z = true) : NlIso x z (p.map (nmOf r)) (q.map (nmOf s)) := by
  obtain ⟨_, _, _, hdx, _⟩ := nlB_facts hx
  obtain ⟨_, _, _, hdy, _⟩ := nlB_facts hy
  obtain ⟨_, _, _, hdz, _⟩ := nlB_facts hz
  have hpl := (permB_iff.1 H.pp).1
  have hql := (permB_iff.1 H.pq).1
  have k1 := K.pp
  rw [H.nets] at k1
  have k2 := K.pq
  rw [H.len] at k2
  refine ⟨map_perm H.pp k1, map_perm H.pq k2, K.nets.trans H.nets, K.len.trans H.len, fun i d hd => ?_, K.plen.trans H.plen, fun i a ha => ?_⟩
  · have hi := (List.getElem?_eq_some_iff.1 hd).1
    obtain ⟨e, he, h1⟩ := H.dev i d hd
    obtain ⟨hq0, hq1⟩ := (nmP H.pq (i := (i : Int)) (by omega) (by omega)).2
    obtain ⟨f, hf, h2⟩ := K.dev _ e he
    rw [Int.toNat_of_nonneg hq0] at hf
    refine ⟨f, by rw [nm_map (by omega) (by omega)]; exact hf, ?_⟩
    have t1 := dvB_Two (hdx d (List.mem_of_getElem? hd))
    have t2 := dvB_Two (hdy e (List.mem_of_getElem? he))
    have t3 := dvB_Two (hdz f (List.mem_of_getElem? hf))
    refine (nz_eqv t1 t3).1 ?_
    rw [ren_ren (fun k hk => by have := dvB_in (hdx d (List.mem_of_getElem? hd)) hk; omega), ← nz_ren r (t1.ren p), (nz_eqv t1 t2).2 h1, nz_ren r t2, (nz_eqv t2 t3).2 h2]
  · obtain ⟨b, hb, n1, m1⟩ := H.port i a ha
    obtain ⟨c, hc, n2, m2⟩ := K.port i b hb
    have := pt_in hx (List.mem_of_getElem? ha)
    exact ⟨c, hc, n2.trans n1, by rw [m2, m1, nm_map this.1 (by omega)]⟩
theorem NlIso.symm (H : NlIso x y p q) (hx : nlB x = true) (hy : nlB y = true) : NlIso y x (invS p) (invS q) := by
  obtain ⟨_, _, _, hdx, _⟩ := nlB_facts hx
  obtain ⟨_, _, _, hdy, _⟩ := nlB_facts hy
  have hpl := (permB_iff.1 H.pp).1
  have hql := (permB_iff.1 H.pq).1
  have i1 := permB_invS H.pp
  have i2 := permB_invS H.pq
  refine ⟨by rw [H.nets]; exact i1, by rw [H.len]; exact i2, H.nets.symm, H.len.symm, fun j e he => ?_, H.plen.symm, fun j b hb => ?_⟩
  · have hj := (List.getElem?_eq_some_iff.1 he).1
    rw [H.len] at hj
    obtain ⟨h0, h1⟩ := (nmP i2 (i := (j : Int)) (by omega) (by omega)).2
    have hback := nm_inv' H.pq (i := (j : Int)) (by omega) (by omega)
    obtain ⟨i, hi⟩ : ∃ i : Nat, nmOf (invS q) (j : Int) = i := ⟨_, (Int.toNat_of_nonneg h0).symm⟩
    rw [hi] at hback h1
    have hd : x.ds[i]? = some (x.ds[i]'(by omega)) := List.getElem?_eq_getElem (by omega)
    obtain ⟨e', he', hv⟩ := H.dev i _ hd
    rw [hback, Int.toNat_natCast, he] at he'
    obtain rfl := Option.some.inj he'
    refine ⟨_, by rw [hi, Int.toNat_natCast]; exact hd, ?_⟩
    have t1 := dvB_Two (hdx _ (List.mem_of_getElem? hd))
    have t2 := dvB_Two (hdy e (List.mem_of_getElem? he))
    refine (nz_eqv t2 t1).1 ?_
    rw [← nz_ren _ t2, ← (nz_eqv t1 t2).2 hv, nz_ren _ (t1.ren p), ← ren_ren (fun k hk => by have := dvB_in (hdx _ (List.mem_of_getElem? hd)) hk; omega)]
    have : renD (p.map (nmOf (invS p))) (x.ds[i]'(by omega)) = x.ds[i]'(by omega) := by
      have hin : ∀ k ∈ (x.ds[i]'(by omega)).pins, nmOf (p.map (nmOf (invS p))) k = k := fun k hk => by
        have := dvB_in (hdx _ (List.mem_of_getElem? hd)) hk
        rw [nm_map this.1 (by omega), nm_inv H.pp this.1 this.2]
      generalize x.ds[i]'(by omega) = d at hin ⊢
      obtain ⟨kd, ps, wd, ln⟩ := d
      unfold renD
      dsimp only at hin ⊢
      rw [List.map_congr_left (g := id) hin, List.map_id]
    rw [this]
  · have hj := (List.getElem?_eq_some_iff.1 hb).1
    have ha : x.ps[j]? = some (x.ps[j]'(by rw [← H.plen]; exact hj)) := List.getElem?_eq_getElem _
    obtain ⟨b', hb', n1, m1⟩ := H.port j _ ha
    rw [hb] at hb'
    obtain rfl := Option.some.inj hb'
    have := pt_in hx (List.mem_of_getElem? ha)
    exact ⟨_, ha, n1.symm, by rw [m1, nm_inv H.pp this.1 this.2]⟩
end
theorem srTo_len {g : Nat → List (List Int)} {one : Bool} {m : Nat} (hg : ∀ k, (g k).length ≤ m) : ∀ n : Nat, (srTo g one n).length ≤ n * m
  | 0 => by simp [srTo]
  | n + 1 => by
    have := srTo_len (one := one) hg n
    have := hg n
    unfold srTo
    split
    · rw [Nat.add_mul]; omega
    · rw [List.length_append, Nat.add_mul]; omega
theorem srch_len {fit : List Int → Bool} {col : Nat → Nat → Bool} {n : Nat} {one : Bool} : ∀ (r : Nat) (nets : List Int), (srch fit col n one r nets).length ≤ n ^ r
  | 0, nets => by simp [srch]
  | r + 1, nets => by
    have := srTo_len (g := fun k => if (col nets.length k && (!nets.contains (k : Int) && fit (nets ++ [(k : Int)]))) = true then srch fit col n one r (nets ++ [(k : Int)]) else []) (one := one) (m := n ^ r) (fun k => by
      (try dsimp only)
      split
      · exact srch_len r _
      · simp) n
    rw [Nat.pow_succ, Nat.mul_comm]
    exact this
end Go.Proofs.YtifbffianbgeaaaGreat
