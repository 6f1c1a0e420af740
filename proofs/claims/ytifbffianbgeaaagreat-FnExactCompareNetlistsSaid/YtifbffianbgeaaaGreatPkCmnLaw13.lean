/- Contracts and plain laws, part 13, for the statement's proof. -/
import Derived.Test.YtifbffianbgeaaaGreatPkCmnLaw12
import Derived.BigQuiet
import Derived.Deep.DeepCutAuto
import Derived.Deep.CutRange
namespace Go.Proofs.YtifbffianbgeaaaGreat
open Go.RowKit
set_option linter.unusedVariables false
set_option linter.unusedSimpArgs false
theorem isoD_eq (z : List Int) (d e : Dv) : isoD z d e = decide (nzD (renD z d) = nzD e) := by
  unfold isoD
  rw [show devcmp d.kind e.kind (normz d.kind (d.pins.map (nmOf z))) (normz e.kind e.pins) d.wd e.wd d.len e.len = dcf (nzD (renD z d)) (nzD e) from rfl]
  exact decide_eq_decide.2 dcf_zero
theorem dev_pick {xs ys : List Dv} {z : List Int} (hp : (xs.map fun d => nzD (renD z d)).Perm (ys.map nzD)) {k : Nat} (hk : k < xs.length) :
    ∃ j : Nat, grd (xs.map fun d => nzD (renD z d)) (ys.map nzD) (k + 1) = grd (xs.map fun d => nzD (renD z d)) (ys.map nzD) k ++ [(j : Int)] ∧ j < ys.length ∧ (grd (xs.map fun d => nzD (renD z d)) (ys.map nzD) k).contains (j : Int) = false ∧
      (∀ d e, xs[k]? = some d → ys[j]? = some e → isoD z d e = true) ∧ ∀ i : Nat, i < j → (grd (xs.map fun d => nzD (renD z d)) (ys.map nzD) k).contains (i : Int) = false → ∀ d e, xs[k]? = some d → ys[i]? = some e → isoD z d e = false := by
  have ok := grd_ok hp k (by rw [List.length_map]; omega)
  obtain ⟨j, h1, h2, h3, h4, h5⟩ := grd_pick (grd_next hp (by rw [List.length_map]; exact hk) ok)
  refine ⟨j, h1, by simpa using h2, by simpa using h3, fun d e hd he => ?_, fun i hi hc d e hd he => ?_⟩
  · rw [isoD_eq]
    rw [List.getElem?_map, List.getElem?_map, hd, he] at h4
    exact decide_eq_true (Option.some.inj h4).symm
  · rw [isoD_eq]
    refine decide_eq_false (fun q => h5 i hi ⟨by simpa using hc, ?_⟩)
    rw [List.getElem?_map, List.getElem?_map, hd, he]
    simp [q]
set_option maxRecDepth 100000 in
set_option maxHeartbeats 8000000 in
theorem l30Devices_any (x y : Nl) (z : List Int) (v u sz : Value) (w : World) (h : NlV w v x) (h' : NlV w u y) (hz : IntSl w sz z) (hx : nlB x = true) (hy : nlB y = true) (hll : y.ds.length = x.ds.length) (hzl : x.nets ≤ (z.length : Int)) (hperm : (x.ds.map fun d => nzD (renD z d)).Perm (y.ds.map nzD)) :
    Calls Tryz.prog 84 #[v, u, sz] w fun e w' => ∃ v', e = .returned v' ∧ OwnR w' w.heap.size w'.heap.size v' (cpS x y z) ∧ Below w.heap.size w w' := by
  obtain ⟨_, hl, _, hdx, _⟩ := nlB_facts hx
  obtain ⟨_, _, _, hdy, _⟩ := nlB_facts hy
  have HPX := Lib.hid (show ∀ d ∈ x.ds, 2 ≤ d.pins.length ∧ d.pins.length ≤ 3 ∧ ∀ p ∈ d.pins, 0 ≤ p ∧ p < (z.length : Int) from fun d hd => by have := dvB_pins (hdx d hd); exact ⟨this.2.1, this.1, fun p hp => by have := this.2.2 p hp; omega⟩)
  have HPY := Lib.hid (show ∀ d ∈ y.ds, d.pins.length ≤ 3 from fun d hd => (dvB_pins (hdy d hd)).1)
  obtain ⟨s1, s2, rfl, hd, hp⟩ := h
  obtain ⟨t1, t2, rfl, hd', hp'⟩ := h'
  obtain ⟨nx, xs, ps⟩ := x
  obtain ⟨ny, ys, qs⟩ := y
  unfold cpS
  dsimp only at *
  have HX := Lib.hid hd
  have HY := Lib.hid hd'
  have HZ := Lib.hid hz
  have HPK := Lib.hid (fun k hk => dev_pick (k := k) hperm hk)
  obtain ⟨a1, c1, rfl⟩ := hd.sized
  obtain ⟨a2, c2, rfl⟩ := hp.sized
  obtain ⟨b1, d1, rfl⟩ := hd'.sized
  obtain ⟨b2, d2, rfl⟩ := hp'.sized
  obtain ⟨az, cz, rfl⟩ := hz.len
  obtain ⟨n, hn⟩ : ∃ n, xs.length = n := ⟨_, rfl⟩
  obtain ⟨p, hpl⟩ : ∃ n, ps.length = n := ⟨_, rfl⟩
  obtain ⟨q2, hql⟩ : ∃ n, qs.length = n := ⟨_, rfl⟩
  obtain ⟨m, hm⟩ : ∃ n, z.length = n := ⟨_, rfl⟩
  have HSM := Lib.hid (fun (d e : Dv) sx sy w h h' hn a b c f => same_any d e z sx sy (.slice az m cz) w h h' hn a b c f)
  rw [hpl, hql, hm]
  rw [hm] at HZ HPX
  rw [hll] at HY HPK ⊢
  rw [hn] at HX HY HPK hl ⊢
  have HN := Lib.hid hn
  have HM := Lib.hid (hll.trans hn)
  have HZM := Lib.hid hm
  have HG0 := Lib.hid (show grd (xs.map fun d => nzD (renD z d)) (ys.map nzD) 0 = [] from rfl)
  generalize grd (xs.map fun d => nzD (renD z d)) (ys.map nzD) = G at *
  clear hd hp hd' hp' hz hx hy hdx hdy hn hpl hql hll hm hperm hzl
  obtain ⟨cs0, hcs0, hz0, hmk⟩ := make_bools n (by omega) (((w.alloc (.cells #[.int .i64 nx, .slice a1 n c1, .slice a2 p c2] 35)).alloc (.cells #[.int .i64 ny, .slice b1 n d1, .slice b2 q2 d2] 35)).alloc (.cells #[] 2))
  simp only [World.size_alloc] at hmk
  have HU0 : Hid (UsedB ((((w.alloc (.cells #[.int .i64 nx, .slice a1 n c1, .slice a2 p c2] 35)).alloc (.cells #[.int .i64 ny, .slice b1 n d1, .slice b2 q2 d2] 35)).alloc (.cells #[] 2)).alloc (.cells cs0 4)) (w.heap.size + 3) n (G 0)) := Lib.hid ⟨cs0, Blk.new _ (by simp), hcs0, fun j hj => by rw [HG0.out]; exact hz0 j hj⟩
  have HI0 : Hid (IBld ((((w.alloc (.cells #[.int .i64 nx, .slice a1 n c1, .slice a2 p c2] 35)).alloc (.cells #[.int .i64 ny, .slice b1 n d1, .slice b2 q2 d2] 35)).alloc (.cells #[] 2)).alloc (.cells cs0 4)) (w.heap.size + 2) 0 0 (G 0)) := Lib.hid (by rw [HG0.out]; exact IBld.lit ((Blk.new _ (by simp)).past _))
  clear hz0 hcs0
  go_enter Tryz.func84, Tryz.ntmps84
  go_wp2
  clear hmk
  go_loopw [7, 9] (fun ov iv wr => ∃ (k g c : Nat), k ≤ n ∧ ov = .slice (some ⟨g, 0, none⟩) k c ∧ iv = .int .i64 (k : Int) ∧ Hid (IBld wr g k c (G k)) ∧ Hid (UsedB wr (w.heap.size + 3) n (G k)) ∧ g ≠ w.heap.size + 3 ∧ w.heap.size + 2 ≤ g ∧ Blk wr w.heap.size #[.int .i64 nx, .slice a1 n c1, .slice a2 p c2] 35 ∧ Blk wr (w.heap.size + 1) #[.int .i64 ny, .slice b1 n d1, .slice b2 q2 d2] 35 ∧ Below w.heap.size w wr) (fun _ iv _ => n - (intOf iv).toNat)
  case atStart => exact ⟨0, w.heap.size + 2, 0, Nat.zero_le _, rfl, rfl, HI0, HU0, by omega, by omega, blkT, blkT, blwT⟩
  case round =>
    clear HI0 HU0
    obtain ⟨k, g, c, hk, rfl, rfl, HI, HU, hg, hg2, kA, kB, hb⟩ := hrel
    have qA := kA.cell
    have lA := kA.lt
    by_cases hlt : k < n
    · have i1 : (k : Int) < (n : Int) := by omega
      have i2 : decide (k < n) = true := decide_eq_true hlt
      obtain ⟨j0, hpk, hj0, hjc, hjs, hjn⟩ := HPK.out k hlt
      have HPP := Lib.hid hpk
      have HJC := Lib.hid hjc
      have HJS := Lib.hid hjs
      have HJN := Lib.hid hjn
      obtain ⟨dx, hx⟩ : ∃ x, xs[k]? = some x := ⟨_, List.getElem?_eq_getElem (by rw [HN.out]; exact hlt)⟩
      have hpx := HPX.out dx (List.mem_of_getElem? hx)
      rcases HX.out with ⟨_, _, _, h2⟩ | ⟨xb, xo, xc, he, _, _, h4⟩
      · rw [h2] at hx; simp at hx
      obtain ⟨rfl, rfl⟩ : a1 = some ⟨xb, xo, none⟩ ∧ c1 = xc := by
        simp only [Value.slice.injEq] at he
        exact ⟨he.1, he.2.2⟩
      have hdx := h4 k dx hx
      have HDX := Lib.hid hdx
      have HXK := Lib.hid hx
      have HPD := Lib.hid hpx
      clear hpk hjc hjs hjn hx hpx he h4 hdx
      go_wp2
      obtain ⟨wo, rfl⟩ : ∃ z : World, z = wr := ⟨_, rfl⟩
      go_loopw [10] (fun kv wr => ∃ q : Nat, q ≤ j0 ∧ kv = .int .i64 (q : Int) ∧ Below wo.heap.size wo wr) (fun kv _ => j0 - (intOf kv).toNat)
      case atStart => exact ⟨0, Nat.zero_le _, rfl, blwT⟩
      case round =>
        obtain ⟨q, hq, rfl, hbo⟩ := hrel
        have hbw := below_on hbo hb
        have kAq := Blk.by hbo kA
        have kBq := Blk.by hbo kB
        have HUq := Lib.hid (HU.out.by hbo)
        have hqn : q < n := by omega
        obtain ⟨dy, hy⟩ : ∃ y, ys[q]? = some y := ⟨_, List.getElem?_eq_getElem (by rw [HM.out]; exact hqn)⟩
        have hpy := HPY.out dy (List.mem_of_getElem? hy)
        rcases HY.out with ⟨_, _, _, h2⟩ | ⟨yb, yo, yc, he', _, _, h4'⟩
        · rw [h2] at hy; simp at hy
        obtain ⟨rfl, rfl⟩ : b1 = some ⟨yb, yo, none⟩ ∧ d1 = yc := by
          simp only [Value.slice.injEq] at he'
          exact ⟨he'.1, he'.2.2⟩
        obtain ⟨sx, x1, x2, x3, x4, x5⟩ := HDX.out.by hbw
        obtain ⟨sy, y1, y2, y3, y4, y5⟩ := (h4' q dy hy).by hbw
        obtain ⟨px, cx, rfl⟩ := x5.len
        obtain ⟨py, cy, rfl⟩ := y5.len
        have HXP := Lib.hid x5
        have HYP := Lib.hid y5
        have HYK := Lib.hid hy
        have lx := lt_of_cell x1
        have ly := lt_of_cell y1
        dsimp only at lx ly
        obtain ⟨cU, fU, lU⟩ := HUq.out.cell hqn
        have j1 : (q : Int) < (n : Int) := by omega
        have j2 : decide (q < n) = true := decide_eq_true hqn
        have HC := Lib.hid (HSM.out dx dy _ _ wr.drew (HXP.out.by (below_of_drewN wr 1)) (HYP.out.by (below_of_drewN wr 1)) ((HZ.out.by hbw).by (below_of_drewN wr 1)) HPD.out.2.1 (fun e => by have := HPD.out.1; rw [e] at this; simp at this) (fun p hp => by have := HPD.out.2.2 p hp; rw [HZM.out]; exact this) hpy)
        clear hy he' h4' x5 y5 hpy
        have qAq := kAq.cell
        have qBq := kBq.cell
        have lAq := kAq.lt
        have lBq := kBq.lt
        cases hcn : (G k).contains (q : Int) with
        | true =>
          have hqj : q < j0 := by
            by_cases e : q = j0
            · subst e; rw [HJC.out] at hcn; cases hcn
            · omega
          rw [hcn] at cU
          clear hcn HC
          go_upto_region 7 with fail
          go_cut [41] from 23 to 43 (fun cc wx => cc = .bool true ∧ Below wo.heap.size wo wx)
          case first =>
            go_quiet (fail)
            go_wp2
            go_meet
            exact ⟨rfl, (by first | exact hbo | exact below_on (below_of_drewN _ _) hbo)⟩
          case rest =>
            obtain ⟨rfl, hbc⟩ := hcut
            clear cU x1 x2 x3 x4 y1 y2 y3 y4 qAq qBq lAq lBq kAq kBq hbo
            go_wp2
            exact ⟨⟨q + 1, by omega, by go_num, hbc⟩, by simp [intOf]; omega⟩
        | false =>
          rw [hcn] at cU
          have HCN := Lib.hid hcn
          clear hcn
          go_upto_region 7 with fail
          have hS : (fun w' : World => Below wr.heap.size wr w') { wr with drawn := wr.drawn + 1 } := below_of_drewN wr 1
          refine wp_region_any (by kernel_rfl) (wpAny_of_E (S := fun w' : World => Below wr.heap.size wr w') (l := 18) _ _ _ _ ?_)
          change wpAnyE _ _ _ _ _ _ _ _ _ wr.drew
          refine wpAnyE_takeL (i := 0) (v := ?_) rfl (by kernel_rfl) (fun _ _ _ h => h) (Or.inl ⟨by rfl, ?_⟩) hS ?_
          rotate_left
          · intro w hSw; (try dsimp only at hSw); obtain ⟨hcS, hfS⟩ := bcell hSw; clear hSw; go_simp; (try with_reducible rfl)
          try simp only [Act.put, List.setIfInBounds_toArray, List.set_cons_zero, List.set_cons_succ]
          refine wpAnyE_takeL (i := 1) (v := ?_) rfl (by kernel_rfl) (fun _ _ _ h => h) (Or.inl ⟨by rfl, ?_⟩) hS ?_
          rotate_left
          · intro w hSw; (try dsimp only at hSw); obtain ⟨hcS, hfS⟩ := bcell hSw; clear hSw; go_simp; (try with_reducible rfl)
          try simp only [Act.put, List.setIfInBounds_toArray, List.set_cons_zero, List.set_cons_succ]
          refine wpAnyE_takeL (i := 2) (v := ?_) rfl (by kernel_rfl) (fun _ _ _ h => h) (Or.inl ⟨by rfl, ?_⟩) hS ?_
          rotate_left
          · intro w hSw; (try dsimp only at hSw); obtain ⟨hcS, hfS⟩ := bcell hSw; clear hSw; go_simp; (try with_reducible rfl)
          try simp only [Act.put, List.setIfInBounds_toArray, List.set_cons_zero, List.set_cons_succ]
          refine wpAnyE_takeL (i := 3) (v := ?_) rfl (by kernel_rfl) (fun _ _ _ h => h) (Or.inl ⟨by rfl, ?_⟩) hS ?_
          rotate_left
          · intro w hSw; (try dsimp only at hSw); obtain ⟨hcS, hfS⟩ := bcell hSw; clear hSw; go_simp; (try with_reducible rfl)
          try simp only [Act.put, List.setIfInBounds_toArray, List.set_cons_zero, List.set_cons_succ]
          refine wpAnyE_takeL (i := 4) (v := ?_) rfl (by kernel_rfl) (fun _ _ _ h => h) (Or.inl ⟨by rfl, ?_⟩) hS ?_
          rotate_left
          · intro w hSw; (try dsimp only at hSw); obtain ⟨hcS, hfS⟩ := bcell hSw; clear hSw; go_simp; (try with_reducible rfl)
          try simp only [Act.put, List.setIfInBounds_toArray, List.set_cons_zero, List.set_cons_succ]
          refine wpAnyE_takeL (i := 5) (v := ?_) rfl (by kernel_rfl) (fun _ _ _ h => h) (Or.inl ⟨by rfl, ?_⟩) hS ?_
          rotate_left
          · intro w hSw; (try dsimp only at hSw); obtain ⟨hcS, hfS⟩ := bcell hSw; clear hSw; go_simp; (try with_reducible rfl)
          try simp only [Act.put, List.setIfInBounds_toArray, List.set_cons_zero, List.set_cons_succ]
          refine wpAnyE_takeL (i := 6) (v := ?_) rfl (by kernel_rfl) (fun _ _ _ h => h) (Or.inl ⟨by rfl, ?_⟩) hS ?_
          rotate_left
          · intro w hSw; (try dsimp only at hSw); obtain ⟨hcS, hfS⟩ := bcell hSw; clear hSw; go_simp; (try with_reducible rfl)
          try simp only [Act.put, List.setIfInBounds_toArray, List.set_cons_zero, List.set_cons_succ]
          refine wpAnyE_takeL (i := 7) (v := ?_) rfl (by kernel_rfl) (fun _ _ _ h => h) (Or.inl ⟨by rfl, ?_⟩) hS ?_
          rotate_left
          · intro w hSw; (try dsimp only at hSw); obtain ⟨hcS, hfS⟩ := bcell hSw; clear hSw; go_simp; (try with_reducible rfl)
          try simp only [Act.put, List.setIfInBounds_toArray, List.set_cons_zero, List.set_cons_succ]
          refine wpAnyE_takeL (i := 8) (v := ?_) rfl (by kernel_rfl) (fun _ _ _ h => h) (Or.inl ⟨by rfl, ?_⟩) hS ?_
          rotate_left
          · intro w hSw; (try dsimp only at hSw); obtain ⟨hcS, hfS⟩ := bcell hSw; clear hSw; go_simp; (try with_reducible rfl)
          try simp only [Act.put, List.setIfInBounds_toArray, List.set_cons_zero, List.set_cons_succ]
          refine wpAnyE_takeL (i := 9) (v := ?_) rfl (by kernel_rfl) (fun _ _ _ h => h) (Or.inl ⟨by rfl, ?_⟩) hS ?_
          rotate_left
          · intro w hSw; (try dsimp only at hSw); obtain ⟨hcS, hfS⟩ := bcell hSw; clear hSw; go_simp; (try with_reducible rfl)
          try simp only [Act.put, List.setIfInBounds_toArray, List.set_cons_zero, List.set_cons_succ]
          refine wpAnyE_takeL (i := 10) (v := ?_) rfl (by kernel_rfl) (fun _ _ _ h => h) (Or.inl ⟨by rfl, ?_⟩) hS ?_
          rotate_left
          · intro w hSw; (try dsimp only at hSw); obtain ⟨hcS, hfS⟩ := bcell hSw; clear hSw; go_simp; (try with_reducible rfl)
          try simp only [Act.put, List.setIfInBounds_toArray, List.set_cons_zero, List.set_cons_succ]
          refine wpAnyE_takeL (i := 11) (v := ?_) rfl (by kernel_rfl) (fun _ _ _ h => h) (Or.inl ⟨by rfl, ?_⟩) hS ?_
          rotate_left
          · intro w hSw; (try dsimp only at hSw); obtain ⟨hcS, hfS⟩ := bcell hSw; clear hSw; go_simp; (try with_reducible rfl)
          try simp only [Act.put, List.setIfInBounds_toArray, List.set_cons_zero, List.set_cons_succ]
          refine wpAnyE_takeL (i := 12) (v := ?_) rfl (by kernel_rfl) (fun _ _ _ h => h) (Or.inl ⟨by rfl, ?_⟩) hS ?_
          rotate_left
          · intro w hSw; (try dsimp only at hSw); obtain ⟨hcS, hfS⟩ := bcell hSw; clear hSw; go_simp; (try with_reducible rfl)
          try simp only [Act.put, List.setIfInBounds_toArray, List.set_cons_zero, List.set_cons_succ]
          refine wpAnyE_takeL (i := 13) (v := ?_) rfl (by kernel_rfl) (fun _ _ _ h => h) (Or.inl ⟨by rfl, ?_⟩) hS ?_
          rotate_left
          · intro w hSw; (try dsimp only at hSw); obtain ⟨hcS, hfS⟩ := bcell hSw; clear hSw; go_simp; (try with_reducible rfl)
          try simp only [Act.put, List.setIfInBounds_toArray, List.set_cons_zero, List.set_cons_succ]
          refine wpAnyE_takeL (i := 14) (v := ?_) rfl (by kernel_rfl) (fun _ _ _ h => h) (Or.inl ⟨by rfl, ?_⟩) hS ?_
          rotate_left
          · intro w hSw; (try dsimp only at hSw); obtain ⟨hcS, hfS⟩ := bcell hSw; clear hSw; go_simp; (try with_reducible rfl)
          try simp only [Act.put, List.setIfInBounds_toArray, List.set_cons_zero, List.set_cons_succ]
          refine wpAnyE_takeL (i := 15) (v := ?_) rfl (by kernel_rfl) (fun _ _ _ h => h) (Or.inl ⟨by rfl, ?_⟩) hS ?_
          rotate_left
          · intro w hSw; (try dsimp only at hSw); obtain ⟨hcS, hfS⟩ := bcell hSw; clear hSw; go_simp; (try with_reducible rfl)
          try simp only [Act.put, List.setIfInBounds_toArray, List.set_cons_zero, List.set_cons_succ]
          refine wpAnyE_oneL (k := 16) (by kernel_rfl) rfl (fun K hK => ?_)
          go_simp
          go_at_call 70
          refine HC.out.mono ?_
          rintro e w3 ⟨rfl, hb3⟩
          have hb4 : Below wr.heap.size wr w3 := below_on hb3 (below_of_drewN wr 1)
          clear hS
          refine hK.out _ _ (fun _ => hb4) ?_
          try simp only [Act.put, List.setIfInBounds_toArray, List.set_cons_zero, List.set_cons_succ]
          refine wpAnyE_oneL (k := 17) (by kernel_rfl) rfl (fun K hK => ?_)
          go_simp
          refine hK.out _ _ (fun _ => hb4) ?_
          try simp only [Act.put, List.setIfInBounds_toArray, List.set_cons_zero, List.set_cons_succ]
          refine wpAnyE_oneL (k := 18) (by kernel_rfl) rfl (fun K hK => ?_)
          go_simp
          refine hK.out _ _ (fun h => absurd rfl h) ?_
          refine wpAnyE_done (by kernel_rfl) ?_ _
          have hbo4 := below_on hb4 hbo
          clear hb3 cU x1 x2 x3 x4 y1 y2 y3 y4 qAq qBq lAq lBq HC HXP HYP
          by_cases hqj : q < j0
          · have hiso := HJN.out q hqj HCN.out dx dy HXK.out HYK.out
            rw [hiso]
            clear hiso
            go_wp2
            exact ⟨⟨q + 1, by omega, by go_num, hbo4⟩, by simp [intOf]; omega⟩
          · obtain rfl : j0 = q := by omega
            have hiso := HJS.out dx dy HXK.out HYK.out
            rw [hiso]
            have HU4 := Lib.hid (HU.out.by hbo4)
            have HI4 := Lib.hid (HI.out.by hbo4)
            have kA4 := Blk.by hbo4 kA
            have kB4 := Blk.by hbo4 kB
            have hb4w := below_on hbo4 hb
            obtain ⟨cU, fU, lU⟩ := HU4.out.cell hqn
            have hU5 := HU4.out.add hqn
            have HU5 := Lib.hid ((hU5.by ((Below.refl _ _).alloc (Nat.le_refl _) (.cells #[.int .i64 (j0 : Int)] 2))))
            have HI5 := Lib.hid ((HI4.out.apart (b := w.heap.size + 3) (o := j0) (v := .bool true) hg).by ((Below.refl _ _).alloc (Nat.le_refl _) (.cells #[.int .i64 (j0 : Int)] 2)))
            have kA5 := (kA4.apart (w.heap.size + 3) j0 (.bool true) (by omega)).past (.cells #[.int .i64 (j0 : Int)] 2)
            have kB5 := (kB4.apart (w.heap.size + 3) j0 (.bool true) (by omega)).past (.cells #[.int .i64 (j0 : Int)] 2)
            have hb5w : Below w.heap.size w ((w3.setCell ⟨w.heap.size + 3, j0, none⟩ (.bool true)).alloc (.cells #[.int .i64 (j0 : Int)] 2)) := (hb4w.setCell (show w.heap.size ≤ w.heap.size + 3 by omega) _).alloc (by simp; have := hb4w.size; omega) _
            have hgl := HI4.out.2.2
            clear hiso hU5
            go_wp2_with (refine list_pushX (by rfl) _ _ (by rfl) g k c (G k) (by rfl) HI5.out w3.heap.size (j0 : Int) (by rfl) (Blk.new _ (by simp)) (by omega) ?_; intro g9 c9 w9 hI9 hgr hgn; have HI9 := Lib.hid hI9; have HU9 := Lib.hid (HU5.out.keep hgr (by omega)); have kA9 := keep_blk hgr kA5 (by omega); have kB9 := keep_blk hgr kB5 (by omega); have hb9 := keep_below hgr hb5w (by omega); clear hI9 hgr)
            simp only [World.size_alloc, World.size_setCell] at hgn
            have hs4 := hb4w.size
            exact ⟨⟨k + 1, g9, c9, by omega, by rfl, by go_num, Lib.hid (by rw [HPP.out]; exact HI9.out), Lib.hid (by rw [HPP.out]; exact HU9.out), by omega, by omega, kA9, kB9, hb9⟩, by simp [intOf]; omega⟩
    · obtain rfl : n = k := by omega
      have i1 : ¬ (n : Int) < (n : Int) := by omega
      have hO := HI.out.bld.own
      have hgl := HI.out.2.2
      have HO := Lib.hid hO
      clear hO hlt
      go_wp2
      go_ret
      exact ⟨_, rfl, OwnR.wide' HO.out (by omega) (by omega), hb⟩
theorem list_pushN {ops : Array Oper} {rest : List Oper} {o : Oper} {a : Act} {w : World} {Q : Exit → Act → World → Prop} (hgd : o.guard = none) (s x : Operand)
    (ho : o.op = .call { callee := .builtin .append, args := #[s, x], argTypes := #[27, 27] })
    (lo hi N : Nat) (v : Value) (zs ys : List Int) (hN : zs.length = N) (hs : a.eval s = v) (hB : BldI w lo hi v zs) (nb m : Nat) (cs : Array Value) (hx : a.eval x = .slice (some ⟨nb, 0, none⟩) m m) (hys : ys.length = m) (hm : 0 < m)
    (hnb : Blk w nb cs 2) (hcs : cs.toList = icells ys) (hlo : lo ≤ hi) (hn : N + m ≤ 8000000)
    (hK : ∀ a' c' w', BldI w' lo w'.heap.size (.slice a' (N + m) c') (zs ++ ys) → Within lo hi w w' → wpList Tryz.prog ops Q rest (a.put o.dst (.slice a' (N + m) c')) w') : wpList Tryz.prog ops Q (o :: rest) a w := by
  subst hN
  exact list_pushI hgd s x ho lo hi v zs ys hs hB nb m cs hx hys hm hnb hcs hlo hn hK
set_option maxRecDepth 100000 in
set_option maxHeartbeats 8000000 in
theorem counterparts_any (x y : Nl) (z : List Int) (v u sz : Value) (w : World) (h : NlV w v x) (h' : NlV w u y) (hz : IntSl w sz z) (hx : nlB x = true) (hy : nlB y = true) (hll : y.ds.length = x.ds.length) (hzl : x.nets ≤ (z.length : Int)) (hperm : (x.ds.map fun d => nzD (renD z d)).Perm (y.ds.map nzD)) :
    Calls Tryz.prog 45 #[v, u, sz] w fun e w' => ∃ v', e = .returned v' ∧ OwnR w' w.heap.size w'.heap.size v' (cpS x y z) ∧ Below w.heap.size w w' := by
  obtain ⟨_, hl, _, hdx, _⟩ := nlB_facts hx
  obtain ⟨_, _, _, hdy, _⟩ := nlB_facts hy
  have HPX := Lib.hid (show ∀ d ∈ x.ds, 2 ≤ d.pins.length ∧ d.pins.length ≤ 3 ∧ ∀ p ∈ d.pins, 0 ≤ p ∧ p < (z.length : Int) from fun d hd => by have := dvB_pins (hdx d hd); exact ⟨this.2.1, this.1, fun p hp => by have := this.2.2 p hp; omega⟩)
  have HPY := Lib.hid (show ∀ d ∈ y.ds, d.pins.length ≤ 3 from fun d hd => (dvB_pins (hdy d hd)).1)
  obtain ⟨s1, s2, rfl, hd, hp⟩ := h
  obtain ⟨t1, t2, rfl, hd', hp'⟩ := h'
  obtain ⟨nx, xs, ps⟩ := x
  obtain ⟨ny, ys, qs⟩ := y
  unfold cpS
  dsimp only at *
  have HX := Lib.hid hd
  have HY := Lib.hid hd'
  have HZ := Lib.hid hz
  have HPK := Lib.hid (fun k hk => dev_pick (k := k) hperm hk)
  obtain ⟨a1, c1, rfl⟩ := hd.sized
  obtain ⟨a2, c2, rfl⟩ := hp.sized
  obtain ⟨b1, d1, rfl⟩ := hd'.sized
  obtain ⟨b2, d2, rfl⟩ := hp'.sized
  obtain ⟨az, cz, rfl⟩ := hz.len
  obtain ⟨n, hn⟩ : ∃ n, xs.length = n := ⟨_, rfl⟩
  obtain ⟨p, hpl⟩ : ∃ n, ps.length = n := ⟨_, rfl⟩
  obtain ⟨q2, hql⟩ : ∃ n, qs.length = n := ⟨_, rfl⟩
  obtain ⟨m, hm⟩ : ∃ n, z.length = n := ⟨_, rfl⟩
  have HMP := Lib.hid (fun (d : Dv) sx w (h : IntSl w sx d.pins) hn a b c => mappedO_any d z sx (.slice az m cz) w h hn a b c)
  have HNY := Lib.hid (fun (d : Dv) sx w (h : IntSl w sx d.pins) hn => implNorm_any d.kind d.wd d.len sx d.pins w h hn)
  have HCD := Lib.hid (fun (d e : Dv) s1 s2 xs ys w h h' => compareDevices_any d.kind d.wd d.len e.kind e.wd e.len s1 s2 xs ys w h h')
  have HCT := Lib.hid (fun sv zs k w h hl => containsI_any sv zs k w h hl)
  have HIS := Lib.hid (fun (d e : Dv) (h : ∀ k, devcmp d.kind e.kind (normz d.kind (d.pins.map (nmOf z))) (normz e.kind e.pins) d.wd e.wd d.len e.len = k → decide (k = 0) = isoD z d e) => h)
  have HIZ := Lib.hid (fun (d e : Dv) => (show isoD z d e = decide (devcmp d.kind e.kind (normz d.kind (d.pins.map (nmOf z))) (normz e.kind e.pins) d.wd e.wd d.len e.len = 0) from rfl))
  rw [hpl, hql, hm]
  rw [hm] at HZ HPX
  rw [hll] at HY HPK ⊢
  rw [hn] at HX HY HPK hl ⊢
  have HN := Lib.hid hn
  have HM := Lib.hid (hll.trans hn)
  have HZM := Lib.hid hm
  have HGL := Lib.hid (show ∀ k, k ≤ n → (grd (xs.map fun d => nzD (renD z d)) (ys.map nzD) k).length = k from by
    intro k
    induction k with
    | zero => intro _; rfl
    | succ k ih =>
      intro hk
      obtain ⟨j, h1, _⟩ := HPK.out k (by omega)
      rw [h1, List.length_append, ih (by omega)]
      rfl)
  have HG0 := Lib.hid (show grd (xs.map fun d => nzD (renD z d)) (ys.map nzD) 0 = [] from rfl)
  generalize grd (xs.map fun d => nzD (renD z d)) (ys.map nzD) = G at *
  clear hd hp hd' hp' hz hx hy hdx hdy hn hpl hql hll hm hperm hzl HIS
  have HI0 : Hid (BldI (((w.alloc (.cells #[.int .i64 nx, .slice a1 n c1, .slice a2 p c2] 35)).alloc (.cells #[.int .i64 ny, .slice b1 n d1, .slice b2 q2 d2] 35)).alloc (.cells #[] 2)) (w.heap.size + 2) (w.heap.size + 3) (.slice (some ⟨w.heap.size + 2, 0, none⟩) 0 0) (G 0)) := Lib.hid (by rw [HG0.out]; exact BldI.lit (zs := []) (Blk.new _ (by simp)) rfl (by simp) (Nat.le_refl _) (by omega) (by simp))
  go_enter Tryz.func45, Tryz.ntmps45
  go_wp2
  go_loopw [7, 17] (fun ov iv wr => ∃ (k c hi : Nat) (ga : Option Addr), k ≤ n ∧ ov = .slice ga k c ∧ iv = .int .i64 (k : Int) ∧ Hid (BldI wr (w.heap.size + 2) hi (.slice ga k c) (G k)) ∧ w.heap.size + 2 ≤ hi ∧ hi ≤ wr.heap.size ∧ Blk wr w.heap.size #[.int .i64 nx, .slice a1 n c1, .slice a2 p c2] 35 ∧ Blk wr (w.heap.size + 1) #[.int .i64 ny, .slice b1 n d1, .slice b2 q2 d2] 35 ∧ Below w.heap.size w wr) (fun _ iv _ => n - (intOf iv).toNat)
  case atStart => exact ⟨0, 0, w.heap.size + 3, _, Nat.zero_le _, rfl, rfl, HI0, by omega, by simp, blkT, blkT, blwT⟩
  case round =>
    clear HI0
    obtain ⟨k, c, hi, ga, hk, rfl, rfl, HI, hhi, hhs, kA, kB, hb⟩ := hrel
    have qA := kA.cell
    have lA := kA.lt
    by_cases hlt : k < n
    · have i1 : (k : Int) < (n : Int) := by omega
      have i2 : decide (k < n) = true := decide_eq_true hlt
      obtain ⟨j0, hpk, hj0, hjc, hjs, hjn⟩ := HPK.out k hlt
      have HPP := Lib.hid hpk
      have HJC := Lib.hid hjc
      have HJS := Lib.hid hjs
      have HJN := Lib.hid hjn
      obtain ⟨dx, hx⟩ : ∃ x, xs[k]? = some x := ⟨_, List.getElem?_eq_getElem (by rw [HN.out]; exact hlt)⟩
      have hpx := HPX.out dx (List.mem_of_getElem? hx)
      rcases HX.out with ⟨_, _, _, h2⟩ | ⟨xb, xo, xc, he, _, _, h4⟩
      · rw [h2] at hx; simp at hx
      obtain ⟨rfl, rfl⟩ : a1 = some ⟨xb, xo, none⟩ ∧ c1 = xc := by
        simp only [Value.slice.injEq] at he
        exact ⟨he.1, he.2.2⟩
      obtain ⟨sx, x1, x2, x3, x4, x5⟩ := (h4 k dx hx).by hb
      have HXK := Lib.hid hx
      have HPD := Lib.hid hpx
      have HX5 := Lib.hid x5
      obtain ⟨px, cx, rfl⟩ := x5.len
      have lx := lt_of_cell x1
      dsimp only at lx
      have HNZ := Lib.hid (show (normz dx.kind (dx.pins.map (nmOf z))).length = dx.pins.length from by rw [length_normz, List.length_map])
      clear hpk hjc hjs hjn hx hpx he h4 x5
      obtain ⟨PX, hPX⟩ : ∃ P, dx.pins.length = P := ⟨_, rfl⟩
      rw [hPX] at x2 HX5 HNZ
      have HPX2 := Lib.hid hPX
      clear hPX
      go_wp2_with fail
      refine (HMP.out dx (.slice px PX cx) _ (HX5.out.by blwT) (HZ.out.by blwT) (by have := HPD.out.2.1; omega) (fun e => by have h := HPD.out.1; rw [e] at h; simp at h) (fun p hp => by have := HPD.out.2.2 p hp; rw [HZM.out]; exact this)).mono ?_
      rintro e w1 ⟨v1, rfl, hO1, hb1⟩
      obtain ⟨pv, cv, rfl⟩ := hO1.sl.len
      obtain ⟨PV, hPV⟩ : ∃ P, (normz dx.kind (dx.pins.map (nmOf z))).length = P := ⟨_, rfl⟩
      rw [hPV] at hO1 ⊢
      have HO1 := Lib.hid hO1.sl
      have hbr : Below wr.heap.size wr w1 := blwT
      have kA1 := Blk.by hbr kA
      have kB1 := Blk.by hbr kB
      have HI1 := Lib.hid (HI.out.by hbr)
      have hb1w := below_on hbr hb
      have hs1 := hbr.size
      clear hO1 hPV HNZ hb1 x1 x2 x3 x4 lx qA lA HX5
      have qB := kB1.cell
      have lB := kB1.lt
      go_wp2
      have kO0 : Blk (w1.alloc (.cells #[.int .i64 dx.kind, .slice pv PV cv, .int .i64 dx.wd, .int .i64 dx.len] 62)) w1.heap.size #[.int .i64 dx.kind, .slice pv PV cv, .int .i64 dx.wd, .int .i64 dx.len] 62 := Blk.new _ rfl
      obtain ⟨wo, hwo⟩ : ∃ z : World, z = w1.alloc (.cells #[.int .i64 dx.kind, .slice pv PV cv, .int .i64 dx.wd, .int .i64 dx.len] 62) := ⟨_, rfl⟩
      have hbo1 : Below w1.heap.size w1 wo := by rw [hwo]; exact (Below.refl _ w1).alloc (Nat.le_refl _) _
      rw [← hwo] at kO0 ⊢
      have kA2 := Blk.by hbo1 kA1
      have kB2 := Blk.by hbo1 kB1
      have HI2 := Lib.hid (HI1.out.by hbo1)
      have HO2 := Lib.hid (HO1.out.by hbo1)
      have hbow := below_on hbo1 hb1w
      have hso := hbo1.size
      obtain ⟨O, hO⟩ : ∃ O, w1.heap.size = O := ⟨_, rfl⟩
      rw [hO] at kO0 hso hs1 ⊢
      clear hwo hO HI HI1 HO1 kA kB kA1 kB1 qB lB hbr hb1w hb hbo1
      go_loopw [7, 27] (fun ov kv wz => ∃ q : Nat, q ≤ j0 ∧ ov = .slice ga k c ∧ kv = .int .i64 (q : Int) ∧ Below wo.heap.size wo wz) (fun _ kv _ => j0 - (intOf kv).toNat)
      case atStart => exact ⟨0, Nat.zero_le _, rfl, rfl, blwT⟩
      case round =>
        obtain ⟨q, hq, rfl, rfl, hbo⟩ := hrel
        have hqn : q < n := by omega
        obtain ⟨dy, hy⟩ : ∃ y, ys[q]? = some y := ⟨_, List.getElem?_eq_getElem (by rw [HM.out]; exact hqn)⟩
        have hpy := HPY.out dy (List.mem_of_getElem? hy)
        rcases HY.out with ⟨_, _, _, h2⟩ | ⟨yb, yo, yc, he', _, _, h4'⟩
        · rw [h2] at hy; simp at hy
        obtain ⟨rfl, rfl⟩ : b1 = some ⟨yb, yo, none⟩ ∧ d1 = yc := by
          simp only [Value.slice.injEq] at he'
          exact ⟨he'.1, he'.2.2⟩
        obtain ⟨sy, y1, y2, y3, y4, y5⟩ := (h4' q dy hy).by (below_on hbo hbow)
        obtain ⟨py, cy, rfl⟩ := y5.len
        obtain ⟨PY, hPY⟩ : ∃ P, dy.pins.length = P := ⟨_, rfl⟩
        rw [hPY] at y2 y5 hpy
        have HPY2 := Lib.hid hPY
        have HY5 := Lib.hid y5
        have HYK := Lib.hid hy
        have ly := lt_of_cell y1
        dsimp only at ly
        have j1 : (q : Int) < (n : Int) := by omega
        have j2 : decide (q < n) = true := decide_eq_true hqn
        have kO := Blk.by hbo kO0
        have HIq := Lib.hid (HI2.out.by hbo)
        have HCN := Lib.hid (fun w h => HCT.out (.slice ga k c) (G k) (q : Int) w h (by rw [HGL.out k hk]; omega))
        clear hy he' h4' y5 hPY
        go_upto_region 9 with fail
        obtain ⟨wE, hwE⟩ : ∃ z : World, z = wr.alloc (.cells #[.int .i64 dy.kind, .slice py PY cy, .int .i64 dy.wd, .int .i64 dy.len] 62) := ⟨_, rfl⟩
        have kE : Blk wE wr.heap.size #[.int .i64 dy.kind, .slice py PY cy, .int .i64 dy.wd, .int .i64 dy.len] 62 := by rw [hwE]; exact Blk.new _ rfl
        have hbE : Below wr.heap.size wr wE := by rw [hwE]; exact (Below.refl _ wr).alloc (Nat.le_refl _) _
        (try rw [← hwE])
        have kOE := Blk.by hbE kO
        have HIE := Lib.hid (HIq.out.by hbE)
        have hbEo := below_on hbE hbo
        have HOE := Lib.hid (HO2.out.by hbEo)
        have HYE := Lib.hid (HY5.out.by hbE)
        have hsE := hbE.size
        clear hwE y1 y2 y3 y4 ly HIq HY5 kO hbE
        cases hcn : (G k).contains (q : Int) with
        | true =>
          have hqj : q < j0 := by
            by_cases e : q = j0
            · subst e; rw [HJC.out] at hcn; cases hcn
            · omega
          rw [hcn] at HCN
          clear hcn
          go_quiet ((go_at_call 95; exact Calls.quiet_of_same ((HCN.out _ (HIE.out.own.sl.by (below_of_drewN wE _))).mono fun _ _ h => ⟨h.1, h.2.symm⟩)))
          go_wp2
          exact ⟨⟨q + 1, by omega, by rfl, by go_num, blwT⟩, by simp [intOf]; omega⟩
        | false =>
          rw [hcn] at HCN
          have HCF := Lib.hid hcn
          clear hcn
          obtain ⟨R, hR⟩ : ∃ R, devcmp dx.kind dy.kind (normz dx.kind (dx.pins.map (nmOf z))) (normz dy.kind dy.pins) dx.wd dy.wd dx.len dy.len = R := ⟨_, rfl⟩
          have hC := HCD.out dx dy
          have hZ := HIZ.out dx dy
          rw [hR] at hZ
          have HIR := Lib.hid hZ
          have HRR := Lib.hid hR
          clear hC hZ hR
          have hS : (fun w' : World => Blk w' O #[.int .i64 dx.kind, .slice pv PV cv, .int .i64 dx.wd, .int .i64 dx.len] 62 ∧ Blk w' wr.heap.size #[.int .i64 dy.kind, .slice py PY cy, .int .i64 dy.wd, .int .i64 dy.len] 62) { wE with drawn := wE.drawn + 1 } := ⟨kOE.drew, kE.drew⟩
          refine wp_region_any (by kernel_rfl) (wpAny_of_E (S := fun w' : World => Blk w' O #[.int .i64 dx.kind, .slice pv PV cv, .int .i64 dx.wd, .int .i64 dx.len] 62 ∧ Blk w' wr.heap.size #[.int .i64 dy.kind, .slice py PY cy, .int .i64 dy.wd, .int .i64 dy.len] 62) (l := 10) _ _ _ _ ?_)
          change wpAnyE _ _ _ _ _ _ _ _ _ wE.drew
          refine wpAnyE_takeL (i := 0) (v := ?_) rfl (by kernel_rfl) (fun _ _ _ h => h) (Or.inl ⟨by rfl, ?_⟩) hS ?_
          rotate_left
          · intro w hSw; (try dsimp only at hSw); have qO := hSw.1.cell; have qE := hSw.2.cell; have lO := hSw.1.lt; have lE := hSw.2.lt; clear hSw; go_simp; (try with_reducible rfl)
          try simp only [Act.put, List.setIfInBounds_toArray, List.set_cons_zero, List.set_cons_succ]
          refine wpAnyE_takeL (i := 1) (v := ?_) rfl (by kernel_rfl) (fun _ _ _ h => h) (Or.inl ⟨by rfl, ?_⟩) hS ?_
          rotate_left
          · intro w hSw; (try dsimp only at hSw); have qO := hSw.1.cell; have qE := hSw.2.cell; have lO := hSw.1.lt; have lE := hSw.2.lt; clear hSw; go_simp; (try with_reducible rfl)
          try simp only [Act.put, List.setIfInBounds_toArray, List.set_cons_zero, List.set_cons_succ]
          refine wpAnyE_oneL (k := 2) (by kernel_rfl) rfl (fun K hK => ?_)
          go_simp
          go_at_call 95
          refine (HCN.out _ (HIE.out.own.sl.by (below_of_drewN wE 1))).mono ?_
          rintro e w3 ⟨rfl, rfl⟩
          refine hK.out _ _ (fun _ => hS) ?_
          try simp only [Act.put, List.setIfInBounds_toArray, List.set_cons_zero, List.set_cons_succ]
          refine wpAnyE_takeL (i := 3) (v := ?_) rfl (by kernel_rfl) (fun _ _ _ h => h) (Or.inl ⟨by rfl, ?_⟩) hS ?_
          rotate_left
          · intro w hSw; (try dsimp only at hSw); have qO := hSw.1.cell; have qE := hSw.2.cell; have lO := hSw.1.lt; have lE := hSw.2.lt; clear hSw; go_simp; (try with_reducible rfl)
          try simp only [Act.put, List.setIfInBounds_toArray, List.set_cons_zero, List.set_cons_succ]
          refine wpAnyE_takeL (i := 4) (v := ?_) rfl (by kernel_rfl) (fun _ _ _ h => h) (Or.inl ⟨by rfl, ?_⟩) hS ?_
          rotate_left
          · intro w hSw; (try dsimp only at hSw); have qO := hSw.1.cell; have qE := hSw.2.cell; have lO := hSw.1.lt; have lE := hSw.2.lt; clear hSw; go_simp; (try with_reducible rfl)
          try simp only [Act.put, List.setIfInBounds_toArray, List.set_cons_zero, List.set_cons_succ]
          refine wpAnyE_takeL (i := 5) (v := ?_) rfl (by kernel_rfl) (fun _ _ _ h => h) (Or.inl ⟨by rfl, ?_⟩) hS ?_
          rotate_left
          · intro w hSw; (try dsimp only at hSw); have qO := hSw.1.cell; have qE := hSw.2.cell; have lO := hSw.1.lt; have lE := hSw.2.lt; clear hSw; go_simp; (try with_reducible rfl)
          try simp only [Act.put, List.setIfInBounds_toArray, List.set_cons_zero, List.set_cons_succ]
          refine wpAnyE_takeL (i := 6) (v := ?_) rfl (by kernel_rfl) (fun _ _ _ h => h) (Or.inl ⟨by rfl, ?_⟩) hS ?_
          rotate_left
          · intro w hSw; (try dsimp only at hSw); have qO := hSw.1.cell; have qE := hSw.2.cell; have lO := hSw.1.lt; have lE := hSw.2.lt; clear hSw; go_simp; (try with_reducible rfl)
          try simp only [Act.put, List.setIfInBounds_toArray, List.set_cons_zero, List.set_cons_succ]
          refine wpAnyE_oneL (k := 7) (by kernel_rfl) rfl (fun K hK => ?_)
          go_simp
          go_at_call 63
          refine (HNY.out dy (.slice py PY cy) wE.drew (HYE.out.by (below_of_drewN wE 1)) (by rw [HPY2.out]; omega)).mono ?_
          rintro e w4 ⟨v4, rfl, hO4, hb4⟩
          have hb4E : Below wE.heap.size wE w4 := below_on hb4 (below_of_drewN wE 1)
          have kO4 := Blk.by hb4E kOE
          have kE4 := Blk.by hb4E kE
          have HO4 := Lib.hid hO4.sl
          clear hS hO4 hb4
          refine hK.out _ _ (fun _ => ⟨kO4, kE4⟩) ?_
          try simp only [Act.put, List.setIfInBounds_toArray, List.set_cons_zero, List.set_cons_succ]
          refine wpAnyE_oneL (k := 8) (by kernel_rfl) rfl (fun K hK => ?_)
          go_simp
          go_at_call 62
          refine (HCD.out dx dy _ _ _ _ w4 (HOE.out.by hb4E) HO4.out).mono ?_
          rw [HRR.out]
          rintro e w5 ⟨rfl, hb5⟩
          have hb5E := below_on hb5 hb4E
          have kO5 := Blk.by hb5E kOE
          have kE5 := Blk.by hb5E kE
          refine hK.out _ _ (fun _ => ⟨kO5, kE5⟩) ?_
          try simp only [Act.put, List.setIfInBounds_toArray, List.set_cons_zero, List.set_cons_succ]
          refine wpAnyE_oneL (k := 9) (by kernel_rfl) rfl (fun K hK => ?_)
          go_simp
          refine hK.out _ _ (fun _ => ⟨kO5, kE5⟩) ?_
          try simp only [Act.put, List.setIfInBounds_toArray, List.set_cons_zero, List.set_cons_succ]
          refine wpAnyE_oneL (k := 10) (by kernel_rfl) rfl (fun K hK => ?_)
          go_simp
          refine hK.out _ _ (fun h => absurd rfl h) ?_
          refine wpAnyE_done (by kernel_rfl) ?_ _
          have hbo5 := below_on hb5E hbEo
          have HI5 := Lib.hid (HIE.out.by hb5E)
          clear hb5 hb4E hb5E kO4 kE4 kOE kE HIE HOE HYE HO4 hbEo
          by_cases hqj : q < j0
          · have hiso := HJN.out q hqj HCF.out dx dy HXK.out HYK.out
            have hR0 : ¬ R = 0 := by rw [HIR.out] at hiso; exact of_decide_eq_false hiso
            have e1 : (R == 0) = false := by simpa using hR0
            clear hiso
            go_wp2
            exact ⟨⟨q + 1, by omega, by rfl, by go_num, hbo5⟩, by simp [intOf]; omega⟩
          · obtain rfl : j0 = q := by omega
            have hiso := HJS.out dx dy HXK.out HYK.out
            have hR0 : R = 0 := by rw [HIR.out] at hiso; exact of_decide_eq_true hiso
            have HR0 := Lib.hid hR0
            have hR1 : (R == 0) = true := by simpa using hR0
            have kA5 := Blk.by hbo5 kA2
            have kB5 := Blk.by hbo5 kB2
            have hb5w := below_on hbo5 hbow
            have hs5 := hb5w.size
            have hal : Below w5.heap.size w5 (w5.alloc (.cells #[.int .i64 (j0 : Int)] 2)) := (Below.refl _ w5).alloc (Nat.le_refl _) _
            have HI6 := Lib.hid (HI5.out.by hal)
            have kA6 := Blk.by hal kA5
            have kB6 := Blk.by hal kB5
            have hb6w := below_on hal hb5w
            have hso5 := hbo5.size
            clear hiso hR0 hal kO5 kE5
            go_wp2_with (refine list_pushN (by rfl) _ _ (by rfl) (w.heap.size + 2) hi k (.slice ga k c) (G k) [(j0 : Int)] (HGL.out k hk) (by rfl) HI6.out w5.heap.size 1 #[.int .i64 (j0 : Int)] (by rfl) rfl (by omega) (Blk.new _ rfl) rfl (by omega) (by omega) ?_; intro g9 c9 w9 hI9 hW9; have HI9 := Lib.hid hI9; have kA9 := hW9.blk kA6 (.inl (by omega)); have kB9 := hW9.blk kB6 (.inl (by omega)); have hb9 := hW9.below hb6w (by omega); have hs9 := hW9.size; clear hI9 hW9)
            exact ⟨⟨k + 1, c9, w9.heap.size, g9, by omega, by rfl, by go_num, Lib.hid (by rw [HPP.out]; exact HI9.out), by (try simp only [World.size_alloc] at hs9); omega, Nat.le_refl _, kA9, kB9, hb9⟩, by simp [intOf]; omega⟩
    · obtain rfl : n = k := by omega
      have i1 : ¬ (n : Int) < (n : Int) := by omega
      have HO := Lib.hid HI.out.own
      go_wp2
      go_ret
      exact ⟨_, rfl, OwnR.wide' HO.out (by omega) (by omega), hb⟩
set_option maxRecDepth 100000 in
set_option maxHeartbeats 4000000 in
theorem equalFuncD_any (gf : Nat) (lb : Array Value) (eg : ∀ args w, (callFunc gf args).run Tryz.prog w = .ok (.enter gf args) w) (xs ys : List Dv) (s1 s2 : Value) (w : World) (h : DvSl w s1 xs) (h' : DvSl w s2 ys) (hl : xs.length ≤ 1000) (hl' : ys.length ≤ 1000)
    (hc : ∀ (W : World) (x y : Dv) (sx sy : Value), IntSl W sx x.pins → IntSl W sy y.pins → Calls Tryz.prog gf (#[.agg #[.int .i64 x.kind, sx, .int .i64 x.wd, .int .i64 x.len], .agg #[.int .i64 y.kind, sy, .int .i64 y.wd, .int .i64 y.len]] ++ lb) W fun e w' => e = .returned (.bool (decide (x = y))) ∧ Below W.heap.size W w') :
    Calls Tryz.prog 161 #[s1, s2, .func (.func gf) #[] lb] w fun e w' => e = .returned (.bool (decide (xs = ys))) ∧ Below w.heap.size w w' := by
  have HX := Lib.hid h
  have HY := Lib.hid h'
  have HC := Lib.hid hc
  obtain ⟨a1, c1, rfl⟩ := h.sized
  obtain ⟨a2, c2, rfl⟩ := h'.sized
  clear h h' hc
  by_cases hxy : xs.length = ys.length
  · have HEQ := Lib.hid (show (∀ k, k < xs.length → xs[k]? = ys[k]?) → xs = ys from fun h => List.ext_getElem? (fun i => by
      by_cases hi : i < xs.length
      · exact h i hi
      · rw [show xs[i]? = none by simp; omega, show ys[i]? = none by simp; omega]))
    rw [← hxy] at HY ⊢
    have HL := Lib.hid hxy
    obtain ⟨n, hn⟩ : ∃ n, xs.length = n := ⟨_, rfl⟩
    rw [hn] at HX HY HEQ hl ⊢
    have HN := Lib.hid hn
    clear hxy hn hl'
    go_enter Tryz.func161, Tryz.ntmps161
    go_wp2
    go_loopw [17] (fun i wr => ∃ k : Nat, k ≤ n ∧ i = .int .i64 k ∧ Hid (∀ j, j < k → xs[j]? = ys[j]?) ∧ Below w.heap.size w wr) (fun i _ => n - (intOf i).toNat)
    case atStart => exact ⟨0, Nat.zero_le _, rfl, Lib.hid (by intro j h; omega), blwT⟩
    case round =>
      obtain ⟨k, hk, rfl, HI, hb⟩ := hrel
      by_cases hlt : k < n
      · have i1 : (k : Int) < (n : Int) := by omega
        have i2 : decide (k < n) = true := decide_eq_true hlt
        obtain ⟨x, hx⟩ : ∃ x, xs[k]? = some x := ⟨_, List.getElem?_eq_getElem (by rw [HN.out]; exact hlt)⟩
        obtain ⟨y, hy⟩ : ∃ y, ys[k]? = some y := ⟨_, List.getElem?_eq_getElem (by rw [← HL.out, HN.out]; exact hlt)⟩
        rcases HX.out with ⟨_, _, _, h2⟩ | ⟨xb, xo, xc, he, _, _, h4⟩
        · rw [h2] at hx; simp at hx
        obtain ⟨rfl, rfl⟩ : a1 = some ⟨xb, xo, none⟩ ∧ c1 = xc := by
          simp only [Value.slice.injEq] at he
          exact ⟨he.1, he.2.2⟩
        rcases HY.out with ⟨_, _, _, h2⟩ | ⟨yb, yo, yc, he', _, _, h4'⟩
        · rw [h2] at hy; simp at hy
        obtain ⟨rfl, rfl⟩ : a2 = some ⟨yb, yo, none⟩ ∧ c2 = yc := by
          simp only [Value.slice.injEq] at he'
          exact ⟨he'.1, he'.2.2⟩
        obtain ⟨sx, x1, x2, x3, x4, x5⟩ := (h4 k x hx).by hb
        obtain ⟨sy, y1, y2, y3, y4, y5⟩ := (h4' k y hy).by hb
        have ly := lt_of_cell y1
        dsimp only at ly
        have y1' := cell_by' ((Below.refl _ wr).alloc (Nat.le_refl _) (.cells #[.int .i64 x.kind, sx, .int .i64 x.wd, .int .i64 x.len] 62)) y1
        have y2' := cell_by' ((Below.refl _ wr).alloc (Nat.le_refl _) (.cells #[.int .i64 x.kind, sx, .int .i64 x.wd, .int .i64 x.len] 62)) y2
        have y3' := cell_by' ((Below.refl _ wr).alloc (Nat.le_refl _) (.cells #[.int .i64 x.kind, sx, .int .i64 x.wd, .int .i64 x.len] 62)) y3
        have y4' := cell_by' ((Below.refl _ wr).alloc (Nat.le_refl _) (.cells #[.int .i64 x.kind, sx, .int .i64 x.wd, .int .i64 x.len] 62)) y4
        have HXP := Lib.hid x5
        have HYP := Lib.hid y5
        have HXK := Lib.hid hx
        have HYK := Lib.hid hy
        have hC := fun W => HC.out W x y sx sy
        obtain ⟨px, cx, rfl⟩ := x5.len
        obtain ⟨py, cy, rfl⟩ := y5.len
        obtain ⟨R, hR⟩ : ∃ R : Bool, decide (x = y) = R := ⟨_, rfl⟩
        rw [hR] at hC
        have HCC := Lib.hid hC
        have HDC := Lib.hid hR
        clear hC hR hx hy x5 y5 he he' h4 h4'
        cases R with
        | true =>
          have HI2 := Lib.hid (show ∀ j, j < k + 1 → xs[j]? = ys[j]? from fun j hj => by
            by_cases e : j = k
            · subst e; rw [HXK.out, HYK.out, of_decide_eq_true HDC.out]
            · exact HI.out j (by omega))
          go_wp2_with (go_at_fn gf; refine (HCC.out _ (HXP.out.by blwT) (HYP.out.by blwT)).mono ?_; rintro e w1 ⟨rfl, hb1⟩)
          exact ⟨⟨k + 1, by omega, by go_num, HI2, blwT⟩, by simp [intOf]; omega⟩
        | false =>
          have hne : Hid (¬ xs = ys) := Lib.hid (fun e => by
            have h1 := HXK.out
            rw [e, HYK.out] at h1
            exact of_decide_eq_false HDC.out (Option.some.inj h1).symm)
          go_wp2_with (go_at_fn gf; refine (HCC.out _ (HXP.out.by blwT) (HYP.out.by blwT)).mono ?_; rintro e w1 ⟨rfl, hb1⟩)
          go_ret
          exact ⟨ret_bool (decide_eq_false hne.out).symm, blwT⟩
      · obtain rfl : n = k := by omega
        have i1 : ¬ (n : Int) < (n : Int) := by omega
        have hr := Lib.hid (HEQ.out (fun j hj => HI.out j hj))
        go_wp2
        go_ret
        exact ⟨ret_bool (decide_eq_true hr.out).symm, blwT⟩
  · have hne : ¬ xs = ys := fun e => hxy (by rw [e])
    rw [decide_eq_false hne]
    have e1 : ((xs.length : Int) != (ys.length : Int)) = true := by simp; omega
    have e2 : ((xs.length : Int) == (ys.length : Int)) = false := by simp; omega
    clear hxy hne HX HY
    generalize xs.length = n1 at *
    generalize ys.length = n2 at *
    go_enter Tryz.func161, Tryz.ntmps161
    go_wp2
    go_ret
    exact ⟨rfl, blwT⟩
theorem filt_step {α : Type} {p : α → Bool} {xs : List α} {k : Nat} {x : α} (h : xs[k]? = some x) : (xs.take (k + 1)).filter p = (xs.take k).filter p ++ (if p x = true then [x] else []) := by
  rw [take_snoc_of xs k x h, List.filter_append]
  congr 1
  cases hp : p x <;> simp [hp]
def lowB (n : Nat) (d : Dv) : Bool := d.pins.all fun p => decide (p < (n : Int))
def amB (nets : List Int) (d : Dv) : Bool := d.pins.all fun p => nets.contains p
def mpTo (ds : List Dv) (nets : List Int) (k : Nat) : List Dv := ((ds.take k).filter (lowB nets.length)).map fun d => nzD (renD nets d)
def owTo (es : List Dv) (nets : List Int) (k : Nat) : List Dv := (es.take k).filter (amB nets)
theorem mpTo_step {ds : List Dv} (nets : List Int) {k : Nat} {d : Dv} (h : ds[k]? = some d) : mpTo ds nets (k + 1) = mpTo ds nets k ++ (if lowB nets.length d = true then [nzD (renD nets d)] else []) := by
  unfold mpTo
  rw [filt_step h, List.map_append]
  congr 1
  split <;> rfl
theorem owTo_step {es : List Dv} (nets : List Int) {k : Nat} {d : Dv} (h : es[k]? = some d) : owTo es nets (k + 1) = owTo es nets k ++ (if amB nets d = true then [d] else []) := filt_step h
theorem mpTo_len (ds : List Dv) (nets : List Int) (k : Nat) : (mpTo ds nets k).length ≤ k := by
  unfold mpTo
  rw [List.length_map]
  exact Nat.le_trans (List.length_filter_le _ _) (by rw [List.length_take]; omega)
theorem owTo_len (es : List Dv) (nets : List Int) (k : Nat) : (owTo es nets k).length ≤ k := by
  unfold owTo
  exact Nat.le_trans (List.length_filter_le _ _) (by rw [List.length_take]; omega)
theorem fitI_eq (x y : Nl) (nets : List Int) : fitI x y nets = decide (srtD (mpTo x.ds nets x.ds.length) = srtD (owTo (y.ds.map nzD) nets (y.ds.map nzD).length)) := by
  unfold fitI mpTo owTo lowB amB
  rw [List.take_length, List.take_length]
theorem amB_any (nets : List Int) (d : Dv) : d.pins.any (fun p => !nets.contains p) = !amB nets d := by
  unfold amB
  induction d.pins with
  | nil => rfl
  | cons a l ih => rw [List.any_cons, List.all_cons, ih, Bool.not_and]
theorem lowB_max {n : Nat} {d : Dv} {m : Int} (h1 : m ∈ d.pins) (h2 : ∀ z ∈ d.pins, z ≤ m) : lowB n d = decide (m ≤ (n : Int) - 1) := by
  unfold lowB
  rw [Bool.eq_iff_iff, List.all_eq_true, decide_eq_true_iff]
  constructor
  · intro h
    have := h m h1
    simp at this
    omega
  · intro h p hp
    have := h2 p hp
    simp
    omega
theorem UsedB.drop {w : World} {g n k : Nat} {zs : List Int} (h : UsedB w g n (zs ++ [(k : Int)])) (hk : k < n) (hc : zs.contains (k : Int) = false) : UsedB (w.setCell ⟨g, k, none⟩ (.bool false)) g n zs := by
  obtain ⟨cs, a, b, c⟩ := h
  refine ⟨_, a.set k _, by simpa using b, fun j hj => ?_⟩
  by_cases e : j = k
  · subst e
    rw [Array.getElem?_setIfInBounds_self_of_lt (by omega), hc]
  · rw [Array.getElem?_setIfInBounds_ne (by omega), c j hj]
    congr 2
    rw [List.contains_eq_mem, List.contains_eq_mem]
    refine decide_eq_decide.2 ⟨fun h => ?_, fun h => List.mem_append.2 (.inl h)⟩
    rcases List.mem_append.1 h with h | h
    · exact h
    · rw [List.mem_singleton] at h; omega
def stG (x y : Nl) (col : Nat → Nat → Bool) (n : Nat) (one : Bool) (r : Nat) (nets : List Int) (k : Nat) : List (List Int) :=
  if (col nets.length k && (!nets.contains (k : Int) && fitB x y (nets ++ [(k : Int)]))) = true then srch (fitB x y) col n one r (nets ++ [(k : Int)]) else []
set_option maxRecDepth 100000 in
set_option maxHeartbeats 2000000 in
theorem fits1_any (M U q n p B : Nat) (na nb : Int) (A1 A2 B1 B2 C1 C2 D1 D2 DB NV Y PA PB : Value) (nets : List Int) (w : World) (kB : w.cell? ⟨B, 0, none⟩ = some (.pointer (some ⟨M, 0, none⟩))) (kM : w.cell? ⟨M, 12, none⟩ = some (.slice (some ⟨U, 0, none⟩) n n)) (hU : UsedB w U n nets) (hp : p < n) (hn : n ≤ 1000) :
    Calls Tryz.prog 159 #[.int .i64 (p : Int), .pointer (some ⟨B, 0, none⟩)] w fun e w' => e = .returned (.bool (!nets.contains (p : Int))) ∧ w' = w := by
  obtain ⟨cU, fU, lU⟩ := hU.cell hp
  obtain ⟨R, hR⟩ : ∃ R, nets.contains (p : Int) = R := ⟨_, rfl⟩
  rw [hR] at cU ⊢
  have i1 : (p : Int) < (n : Int) := by omega
  have i2 : decide (p < n) = true := decide_eq_true hp
  clear hU hR fU
  go_enter Tryz.func159, Tryz.ntmps159
  go_wp2
  go_ret
  exact ⟨rfl, rfl⟩
set_option maxRecDepth 100000 in
set_option maxHeartbeats 2000000 in
theorem fits2_any (W : World) (x y : Dv) (sx sy : Value) (hx : IntSl W sx x.pins) (hy : IntSl W sy y.pins) :
    Calls Tryz.prog 162 #[.agg #[.int .i64 x.kind, sx, .int .i64 x.wd, .int .i64 x.len], .agg #[.int .i64 y.kind, sy, .int .i64 y.wd, .int .i64 y.len]] W fun e w' => e = .returned (.bool (decide (x = y))) ∧ Below W.heap.size W w' := by
  have HC := Lib.hid (fun W h h' => compareDevices_any x.kind x.wd x.len y.kind y.wd y.len sx sy x.pins y.pins W h h')
  have HX := Lib.hid hx
  have HY := Lib.hid hy
  have HD := Lib.hid (show decide (x = y) = decide (devcmp x.kind y.kind x.pins y.pins x.wd y.wd x.len y.len = 0) from decide_eq_decide.2 dcf_zero.symm)
  generalize devcmp x.kind y.kind x.pins y.pins x.wd y.wd x.len y.len = R at *
  generalize decide (x = y) = D at *
  obtain ⟨kx, xs, wx, ox⟩ := x
  obtain ⟨ky, ys, wy, oy⟩ := y
  dsimp only at *
  obtain ⟨a, c, rfl⟩ := hx.len
  obtain ⟨a', c', rfl⟩ := hy.len
  generalize xs.length = n1 at *
  generalize ys.length = n2 at *
  clear hx hy
  go_enter Tryz.func162, Tryz.ntmps162
  go_wp2_with fail
  refine (HC.out _ (HX.out.by blwT) (HY.out.by blwT)).mono ?_
  rintro e w1 ⟨rfl, hb1⟩
  go_wp2
  go_ret
  exact ⟨ret_bool (by rw [HD.out, Bool.eq_iff_iff]; simp), blwT⟩
theorem Tr.map_push (L : List Tr) (x : Tr) : (L ++ [x]).map (·.1) = L.map (·.1) ++ [x.1] := by simp
set_option maxRecDepth 100000 in
set_option maxHeartbeats 16000000 in
theorem fits_any (x y : Nl) (nets : List Int) (M U q lo hi m : Nat) (na nb : Int) (A1 A2 B1 B2 C1 C2 D1 D2 DB NV Y PA PB : Value) (w : World) (kM : Blk w M #[.int .i64 na, A1, A2, .int .i64 nb, B1, B2, C1, C2, D1, D2, DB, NV, .slice (some ⟨U, 0, none⟩) q q, Y, PA, PB] 127) (hA : DvSl w A1 x.ds) (hDB : OwnDs w lo hi DB (y.ds.map nzD)) (hhi : hi ≤ w.heap.size) (hN : IntSl w NV nets) (hm : nets.length = m) (hU : UsedB w U q nets)
    (hx : ∀ d ∈ x.ds, 2 ≤ d.pins.length ∧ d.pins.length ≤ 3 ∧ ∀ p ∈ d.pins, 0 ≤ p) (hy : ∀ d ∈ y.ds.map nzD, d.pins.length ≤ 3 ∧ ∀ p ∈ d.pins, 0 ≤ p ∧ p < (q : Int)) (hlx : x.ds.length ≤ 10) (hly : y.ds.length ≤ 10) (hmq : m ≤ 24) (hq : q ≤ 24) :
    Calls Tryz.prog 134 #[.pointer (some ⟨M, 0, none⟩)] w fun e w' => e = .returned (.bool (fitI x y nets)) ∧ Below w.heap.size w w' := by
  rw [fitI_eq]
  have hly' : (y.ds.map nzD).length ≤ 10 := by rw [List.length_map]; exact hly
  generalize y.ds.map nzD = es at *
  obtain ⟨nx, ds, ps⟩ := x
  dsimp only at *
  have HA := Lib.hid hA
  have HDB := Lib.hid hDB
  have HN := Lib.hid hN
  have HU := Lib.hid hU
  have HXP := Lib.hid hx
  have HYP := Lib.hid hy
  obtain ⟨a1, c1, rfl⟩ := hA.sized
  obtain ⟨db, dc, rfl⟩ := hDB.sl.sized
  obtain ⟨an, cn, rfl⟩ := hN.len
  obtain ⟨l1, hl1⟩ : ∃ l, ds.length = l := ⟨_, rfl⟩
  obtain ⟨l2, hl2⟩ : ∃ l, es.length = l := ⟨_, rfl⟩
  rw [hm] at kM HN
  rw [hl1] at kM HA hlx ⊢
  rw [hl2] at kM HDB hly' ⊢
  have HL1 := Lib.hid hl1
  have HL2 := Lib.hid hl2
  have HM := Lib.hid hm
  have HMS := Lib.hid (fun k d h => @mpTo_step ds nets k d h)
  have HOS := Lib.hid (fun k d h => @owTo_step es nets k d h)
  have HML := Lib.hid (mpTo_len ds nets)
  have HOL := Lib.hid (owTo_len es nets)
  have HM0 := Lib.hid (show mpTo ds nets 0 = [] from rfl)
  have HO0 := Lib.hid (show owTo es nets 0 = [] from rfl)
  have HMP := Lib.hid (fun (d : Dv) sx w (h : IntSl w sx d.pins) hn a b c => mappedO_any d nets sx (.slice an m cn) w h hn a b c)
  have HMX := Lib.hid (fun sv zs w h a b => max_any sv zs w h a b)
  have HLB := Lib.hid (fun (d : Dv) (z : Int) a b => @lowB_max nets.length d z a b)
  rw [hm] at HLB HMS
  have HAM := Lib.hid (fun d => amB_any nets d)
  have egc : ∀ args w, (callFunc 159 args).run Tryz.prog w = .ok (.enter 159 args) w := enters_of Tryz.func159 (by kernel_rfl) rfl
  have HCF := Lib.hid (fun B (w : World) sv (zs : List Int) (h : IntSl w sv zs) (kB : w.cell? ⟨B, 0, none⟩ = some (.pointer (some ⟨M, 0, none⟩))) (kM : w.cell? ⟨M, 12, none⟩ = some (.slice (some ⟨U, 0, none⟩) q q)) (hU : UsedB w U q nets) (hz : ∀ z ∈ zs, 0 ≤ z ∧ z < (q : Int)) =>
    containsFuncI_any 159 #[.pointer (some ⟨B, 0, none⟩)] egc (fun z => !nets.contains z) sv zs w h (fun W z hb hz' => by
      obtain ⟨z0, z1⟩ := hz z hz'
      obtain ⟨zn, rfl⟩ : ∃ zn : Nat, z = zn := ⟨z.toNat, by omega⟩
      show Calls Tryz.prog 159 #[.int .i64 (zn : Int), .pointer (some ⟨B, 0, none⟩)] W _
      refine (fits1_any M U q q zn B na nb (.slice a1 l1 c1) A2 B1 B2 C1 C2 D1 D2 (.slice db l2 dc) (.slice an m cn) Y PA PB nets W (cell_by' hb kB) (cell_by' hb kM) (hU.by hb) (by omega) (by omega)).mono ?_
      rintro e w' ⟨rfl, rfl⟩
      exact ⟨rfl, Below.refl _ _⟩))
  have HSF := Lib.hid (fun g n c L w h hn => sortFuncD_any 62 #[] (fun _ _ => rfl) dcmp_impl g n c L w h hn)
  have HEF := Lib.hid (fun xs ys s1 s2 w h h' a b => equalFuncD_any 162 #[] (enters_of Tryz.func162 (by kernel_rfl) rfl) xs ys s1 s2 w h h' a b (fun W x y sx sy hx hy => fits2_any W x y sx sy hx hy))
  have hmf : ∀ (fn : Fn) (first cap : Array Value) (w : World), (Instr.makeFunc fn first cap).run Tryz.prog w = .ok (.func fn first cap) w := fun _ _ _ _ => rfl
  have HHI := Lib.hid hhi
  clear hA hDB hN hU hx hy hl1 hl2 hm hly egc hhi
  have kM0 : Blk ((w.alloc (.cells #[.pointer (some ⟨M, 0, none⟩)] 123)).alloc (.cells #[] 62)) M #[.int .i64 na, .slice a1 l1 c1, A2, .int .i64 nb, B1, B2, C1, C2, D1, D2, .slice db l2 dc, .slice an m cn, .slice (some ⟨U, 0, none⟩) q q, Y, PA, PB] 127 := (kM.past _).past _
  have kB0 : Blk ((w.alloc (.cells #[.pointer (some ⟨M, 0, none⟩)] 123)).alloc (.cells #[] 62)) w.heap.size #[.pointer (some ⟨M, 0, none⟩)] 123 := (Blk.new _ rfl).past _
  have kR0 : RB ((w.alloc (.cells #[.pointer (some ⟨M, 0, none⟩)] 123)).alloc (.cells #[] 62)) (w.heap.size + 1) 0 0 [] := RB.lit (Blk.new _ (by simp))
  have hM := kM.lt
  have cM := kM.cell
  go_enter Tryz.func134, Tryz.ntmps134
  go_wp2
  clear cM
  go_loopw [4, 23] (fun ov iv wr => ∃ (k g n c : Nat) (L : List Tr), k ≤ l1 ∧ ov = .slice (some ⟨g, 0, none⟩) n c ∧ iv = .int .i64 (k : Int) ∧ Hid (RB wr g n c L) ∧ n ≤ k ∧ Hid (L.map (·.1) = mpTo ds nets k) ∧ w.heap.size < g ∧ g < wr.heap.size ∧ Blk wr w.heap.size #[.pointer (some ⟨M, 0, none⟩)] 123 ∧ Below w.heap.size w wr) (fun _ iv _ => l1 - (intOf iv).toNat)
  case atStart => exact ⟨0, w.heap.size + 1, 0, 0, [], Nat.zero_le _, rfl, rfl, Lib.hid kR0, Nat.le_refl _, Lib.hid HM0.out.symm, by omega, by simp, kB0, blwT⟩
  case round =>
    clear kM0 kB0 kR0
    obtain ⟨k, g, n, c, L, hk, rfl, rfl, HR, hnk, HL, hg, hgs, kB, hb⟩ := hrel
    have kMr := Blk.by hb kM
    by_cases hlt : k < l1
    · obtain ⟨d, hd⟩ : ∃ d, ds[k]? = some d := ⟨_, List.getElem?_eq_getElem (by rw [HL1.out]; exact hlt)⟩
      have hdp := HXP.out d (List.mem_of_getElem? hd)
      have HST := Lib.hid (HMS.out k d hd)
      rcases HA.out with ⟨_, _, _, h2⟩ | ⟨xb, xo, xc, he, _, _, h4⟩
      · rw [h2] at hd; simp at hd
      obtain ⟨rfl, rfl⟩ : a1 = some ⟨xb, xo, none⟩ ∧ c1 = xc := by
        simp only [Value.slice.injEq] at he
        exact ⟨he.1, he.2.2⟩
      obtain ⟨sx, x1, x2, x3, x4, x5⟩ := (h4 k d hd).by hb
      obtain ⟨px, cx, rfl⟩ := x5.len
      have HDP := Lib.hid hdp
      have HX5 := Lib.hid x5
      have HLBD := Lib.hid (fun z => HLB.out d z)
      obtain ⟨kd, pins, wd, ln⟩ := d
      dsimp only at *
      obtain ⟨P, hP⟩ : ∃ P, pins.length = P := ⟨_, rfl⟩
      rw [hP] at x2 HX5
      have HPL := Lib.hid hP
      have i1 : (k : Int) < (l1 : Int) := by omega
      have i2 : decide (k < l1) = true := decide_eq_true hlt
      have lx := lt_of_cell x1
      dsimp only at lx
      have cB := kB.cell
      have lB := kB.lt
      have cMr := kMr.cell
      have lMr := kMr.lt
      clear hd he h4 x5 hP hdp
      have hl3 : P ≤ 3 := by have := HDP.out.2.1; rw [HPL.out] at this; exact this
      go_wp2_with fail
      refine (HMX.out _ _ _ (HX5.out.by blwT) (fun e => by have h := HPL.out; have h' := HDP.out.1; rw [e] at h'; simp at h') (by rw [HPL.out]; omega)).mono ?_
      rintro e w1 ⟨mx, rfl, hm1, hm2, rfl⟩
      have HB1 := Lib.hid (HLBD.out mx hm1 hm2)
      have HLW := Lib.hid (show mx ≤ (m : Int) - 1 → ∀ z ∈ pins, 0 ≤ z ∧ z < (m : Int) from fun h z hz => by
        have h1 := hm2 z hz
        have h2 := HDP.out.2.2 z hz
        exact ⟨h2, by omega⟩)
      obtain ⟨wE, hwE⟩ : ∃ z : World, z = wr.alloc (.cells #[.int .i64 kd, .slice px P cx, .int .i64 wd, .int .i64 ln] 62) := ⟨_, rfl⟩
      have kD : Blk wE wr.heap.size #[.int .i64 kd, .slice px P cx, .int .i64 wd, .int .i64 ln] 62 := by rw [hwE]; exact Blk.new _ rfl
      have hbE : Below wr.heap.size wr wE := by rw [hwE]; exact (Below.refl _ wr).alloc (Nat.le_refl _) _
      have hsE : wr.heap.size < wE.heap.size := by rw [hwE]; simp
      (try rw [← hwE])
      have kBE := Blk.by hbE kB
      have kME := Blk.by hbE kMr
      have HRE := Lib.hid (HR.out.by hbE)
      have hbEw := below_on hbE hb
      clear hwE hm1 hm2 x1 x2 x3 x4 lx cB lB cMr lMr HMX
      by_cases hmx : mx ≤ (m : Int) - 1
      · have HB2 := HB1.out
        rw [decide_eq_true hmx] at HB2
        rw [HB2, if_pos rfl] at HST
        have HLW2 := Lib.hid (HLW.out hmx)
        clear HB2 HLW HLBD HB1
        go_upto_region 7 with fail
        have hS : (fun w' : World => Blk w' wr.heap.size #[.int .i64 kd, .slice px P cx, .int .i64 wd, .int .i64 ln] 62 ∧ Blk w' w.heap.size #[.pointer (some ⟨M, 0, none⟩)] 123 ∧ Blk w' M #[.int .i64 na, .slice (some ⟨xb, xo, none⟩) l1 c1, A2, .int .i64 nb, B1, B2, C1, C2, D1, D2, .slice db l2 dc, .slice an m cn, .slice (some ⟨U, 0, none⟩) q q, Y, PA, PB] 127) { wE with drawn := wE.drawn + 1 } := ⟨kD.drew, kBE.drew, kME.drew⟩
        refine wp_region_any (by kernel_rfl) (wpAny_of_E (S := fun w' : World => Blk w' wr.heap.size #[.int .i64 kd, .slice px P cx, .int .i64 wd, .int .i64 ln] 62 ∧ Blk w' w.heap.size #[.pointer (some ⟨M, 0, none⟩)] 123 ∧ Blk w' M #[.int .i64 na, .slice (some ⟨xb, xo, none⟩) l1 c1, A2, .int .i64 nb, B1, B2, C1, C2, D1, D2, .slice db l2 dc, .slice an m cn, .slice (some ⟨U, 0, none⟩) q q, Y, PA, PB] 127) (l := 9) _ _ _ _ ?_)
        change wpAnyE _ _ _ _ _ _ _ _ _ wE.drew
        refine wpAnyE_takeL (i := 0) (v := ?_) rfl (by kernel_rfl) (fun _ _ _ h => h) (Or.inl ⟨by rfl, ?_⟩) hS ?_
        rotate_left
        · intro w hSw; (try dsimp only at hSw); have qD := hSw.1.cell; have qB := hSw.2.1.cell; have qM := hSw.2.2.cell; have lD := hSw.1.lt; have lB := hSw.2.1.lt; have lM := hSw.2.2.lt; clear hSw; go_simp; (try with_reducible rfl)
        try simp only [Act.put, List.setIfInBounds_toArray, List.set_cons_zero, List.set_cons_succ]
        refine wpAnyE_takeL (i := 1) (v := ?_) rfl (by kernel_rfl) (fun _ _ _ h => h) (Or.inl ⟨by rfl, ?_⟩) hS ?_
        rotate_left
        · intro w hSw; (try dsimp only at hSw); have qD := hSw.1.cell; have qB := hSw.2.1.cell; have qM := hSw.2.2.cell; have lD := hSw.1.lt; have lB := hSw.2.1.lt; have lM := hSw.2.2.lt; clear hSw; go_simp; (try with_reducible rfl)
        try simp only [Act.put, List.setIfInBounds_toArray, List.set_cons_zero, List.set_cons_succ]
        refine wpAnyE_takeL (i := 2) (v := ?_) rfl (by kernel_rfl) (fun _ _ _ h => h) (Or.inl ⟨by rfl, ?_⟩) hS ?_
        rotate_left
        · intro w hSw; (try dsimp only at hSw); have qD := hSw.1.cell; have qB := hSw.2.1.cell; have qM := hSw.2.2.cell; have lD := hSw.1.lt; have lB := hSw.2.1.lt; have lM := hSw.2.2.lt; clear hSw; go_simp; (try with_reducible rfl)
        try simp only [Act.put, List.setIfInBounds_toArray, List.set_cons_zero, List.set_cons_succ]
        refine wpAnyE_takeL (i := 3) (v := ?_) rfl (by kernel_rfl) (fun _ _ _ h => h) (Or.inl ⟨by rfl, ?_⟩) hS ?_
        rotate_left
        · intro w hSw; (try dsimp only at hSw); have qD := hSw.1.cell; have qB := hSw.2.1.cell; have qM := hSw.2.2.cell; have lD := hSw.1.lt; have lB := hSw.2.1.lt; have lM := hSw.2.2.lt; clear hSw; go_simp; (try with_reducible rfl)
        try simp only [Act.put, List.setIfInBounds_toArray, List.set_cons_zero, List.set_cons_succ]
        refine wpAnyE_takeL (i := 4) (v := ?_) rfl (by kernel_rfl) (fun _ _ _ h => h) (Or.inl ⟨by rfl, ?_⟩) hS ?_
        rotate_left
        · intro w hSw; (try dsimp only at hSw); have qD := hSw.1.cell; have qB := hSw.2.1.cell; have qM := hSw.2.2.cell; have lD := hSw.1.lt; have lB := hSw.2.1.lt; have lM := hSw.2.2.lt; clear hSw; go_simp; (try with_reducible rfl)
        try simp only [Act.put, List.setIfInBounds_toArray, List.set_cons_zero, List.set_cons_succ]
        refine wpAnyE_takeL (i := 5) (v := ?_) rfl (by kernel_rfl) (fun _ _ _ h => h) (Or.inl ⟨by rfl, ?_⟩) hS ?_
        rotate_left
        · intro w hSw; (try dsimp only at hSw); have qD := hSw.1.cell; have qB := hSw.2.1.cell; have qM := hSw.2.2.cell; have lD := hSw.1.lt; have lB := hSw.2.1.lt; have lM := hSw.2.2.lt; clear hSw; go_simp; (try with_reducible rfl)
        try simp only [Act.put, List.setIfInBounds_toArray, List.set_cons_zero, List.set_cons_succ]
        refine wpAnyE_oneL (k := 6) (by kernel_rfl) rfl (fun K hK => ?_)
        go_simp
        go_at_call 67
        refine (HMP.out ⟨kd, pins, wd, ln⟩ (.slice px P cx) wE.drew ((HX5.out.by hbE).by (below_of_drewN wE 1)) ((HN.out.by hbEw).by (below_of_drewN wE 1)) (by dsimp only; rw [HPL.out]; exact hl3) (fun e => by have h' := HDP.out.1; dsimp only at e; rw [e] at h'; simp at h') (by dsimp only; rw [HM.out]; exact HLW2.out)).mono ?_
        rintro e w3 ⟨v3, rfl, hO3, hb3⟩
        have hb3E : Below wE.heap.size wE w3 := below_on hb3 (below_of_drewN wE 1)
        have kD3 := Blk.by hb3E kD
        have kB3 := Blk.by hb3E kBE
        have kM3 := Blk.by hb3E kME
        have hs3 := hb3E.size
        obtain ⟨f, hf1, hf2, hOf⟩ := OwnI.pin hO3 (fun e => by have h' := congrArg List.length e; rw [length_normz, List.length_map] at h'; dsimp only at h'; have := HDP.out.1; rw [HPL.out] at this h'; simp at h'; omega)
        have hf3 : wE.heap.size ≤ f := hf1
        dsimp only at hOf ⊢
        have HOF := Lib.hid hOf
        clear hS hO3 hOf hb3 hf1
        refine hK.out _ _ (fun _ => ⟨kD3, kB3, kM3⟩) ?_
        try simp only [Act.put, List.setIfInBounds_toArray, List.set_cons_zero, List.set_cons_succ]
        refine wpAnyE_oneL (k := 7) (by kernel_rfl) rfl (fun K hK => ?_)
        go_simp
        have kZ4 : Blk (w3.alloc (.cells #[.int .i64 kd, v3, .int .i64 wd, .int .i64 ln] 62)) w3.heap.size #[.int .i64 kd, v3, .int .i64 wd, .int .i64 ln] 62 := Blk.new _ rfl
        have hb4 : Below w3.heap.size w3 (w3.alloc (.cells #[.int .i64 kd, v3, .int .i64 wd, .int .i64 ln] 62)) := (Below.refl _ w3).alloc (Nat.le_refl _) _
        have hs4 : w3.heap.size < (w3.alloc (.cells #[.int .i64 kd, v3, .int .i64 wd, .int .i64 ln] 62)).heap.size := by simp
        have kD4 := Blk.by hb4 kD3
        have kB4 := Blk.by hb4 kB3
        have kM4 := Blk.by hb4 kM3
        have HOF4 := Lib.hid (OwnR.by hb4 HOF.out)
        have HR4 := Lib.hid ((HRE.out.by hb3E).by hb4)
        have hb4w := below_on hb4 (below_on hb3E hbEw)
        obtain ⟨Z4, hZ4⟩ : ∃ Z, w3.heap.size = Z := ⟨_, rfl⟩
        rw [hZ4] at kZ4 hs4 hs3 hf2 ⊢
        clear HOF hb4 hb3E kD3 kB3 kM3
        generalize w3.alloc (.cells #[.int .i64 kd, v3, .int .i64 wd, .int .i64 ln] 62) = w4 at *
        refine hK.out _ _ (fun _ => ⟨kD4, kB4, kM4⟩) ?_
        try simp only [Act.put, List.setIfInBounds_toArray, List.set_cons_zero, List.set_cons_succ]
        refine wpAnyE_oneL (k := 8) (by kernel_rfl) rfl (fun K hK => ?_)
        refine step_pushR (by rfl) _ _ (by rfl) g n c L (by rfl) HR4.out Z4 ⟨kd, normz kd (pins.map (nmOf nets)), wd, ln⟩ v3 f (by rfl) kZ4 HOF4.out (by omega) (by omega) (by omega) ?_
        intro g5 c5 w5 hR5 hgr hg5
        have hE5 := grown_exc hgr
        have kD5 := hE5.blk kD4 (show ¬ wr.heap.size = g by omega)
        have kB5 := hE5.blk kB4 (show ¬ w.heap.size = g by omega)
        have kM5 := hE5.blk kM4 (show ¬ M = g by omega)
        have hb5w : Below w.heap.size w w5 := hE5.below hb4w (fun q hq (e : q = g) => by omega)
        have hs5 := hE5.size
        have HR5 := Lib.hid hR5
        have hg5' : w.heap.size < g5 ∧ g5 < w5.heap.size := ⟨by omega, hR5.2.2.1⟩
        clear hR5 hgr hE5 kD4 kB4 kM4 hb4w
        refine hK.out _ _ (fun _ => ⟨kD5, kB5, kM5⟩) ?_
        try simp only [Act.put, List.setIfInBounds_toArray, List.set_cons_zero, List.set_cons_succ]
        refine wpAnyE_oneL (k := 9) (by kernel_rfl) rfl (fun K hK => ?_)
        go_simp
        refine hK.out _ _ (fun h => absurd rfl h) ?_
        refine wpAnyE_done (by kernel_rfl) ?_ _
        clear HR4 HRE HOF4
        go_wp2
        exact ⟨⟨k + 1, g5, n + 1, c5, L ++ [(⟨kd, normz kd (pins.map (nmOf nets)), wd, ln⟩, v3, f)], by omega, by rfl, by go_num, HR5, by omega, Lib.hid (by rw [HST.out, Tr.map_push, HL.out]; rfl), hg5'.1, hg5'.2, kB5, hb5w⟩, by simp [intOf]; omega⟩
      · have HB2 := HB1.out
        rw [decide_eq_false hmx] at HB2
        rw [HB2, if_neg (by simp), List.append_nil] at HST
        have hmx' : (m : Int) - 1 < mx := by omega
        clear HB2 HLW HLBD HB1
        go_wp2
        exact ⟨⟨k + 1, g, n, c, L, by omega, by rfl, by go_num, HRE, by omega, Lib.hid (by rw [HST.out]; exact HL.out), by omega, by omega, kBE, hbEw⟩, by simp [intOf]; omega⟩
    · obtain rfl : l1 = k := by omega
      have i1 : ¬ (l1 : Int) < (l1 : Int) := by omega
      have cB := kB.cell
      have lB := kB.lt
      have cMr := kMr.cell
      have lMr := kMr.lt
      have hnl : n ≤ 10 := by omega
      obtain ⟨wo, rfl⟩ : ∃ z : World, z = wr := ⟨_, rfl⟩
      have kR20 : RB (wo.alloc (.cells #[] 62)) wo.heap.size 0 0 [] := RB.lit (Blk.new _ rfl)
      have hLw : ∀ t ∈ L, t.2.2 < wo.heap.size := fun t ht => (HR.out.2.2.2 t ht).2.1
      have HLW := Lib.hid hLw
      clear hLw
      go_wp2
      clear cB lB cMr lMr
      go_loopw [7, 48] (fun ov iv wr => ∃ (k g2 n2 c2 : Nat) (L2 : List Tr), k ≤ l2 ∧ ov = .slice (some ⟨g2, 0, none⟩) n2 c2 ∧ iv = .int .i64 (k : Int) ∧ Hid (RB wr g2 n2 c2 L2) ∧ n2 ≤ k ∧ Hid (L2.map (·.1) = owTo es nets k) ∧ wo.heap.size ≤ g2 ∧ g2 < wr.heap.size ∧ Hid (∀ t ∈ L2, t.2.2 < w.heap.size) ∧ Blk wr w.heap.size #[.pointer (some ⟨M, 0, none⟩)] 123 ∧ Below wo.heap.size wo wr) (fun _ iv _ => l2 - (intOf iv).toNat)
      case atStart => exact ⟨0, wo.heap.size, 0, 0, [], Nat.zero_le _, rfl, rfl, Lib.hid kR20, Nat.le_refl _, Lib.hid HO0.out.symm, Nat.le_refl _, by simp, Lib.hid (by simp), kB.past _, blwT⟩
      case round =>
        clear kR20 kB kMr
        obtain ⟨k, g2, n2, c2, L2, hk, rfl, rfl, HR2, hnk2, HL2', hg2, hgs2, HT2, kB, hbo⟩ := hrel
        have hbw := below_on hbo hb
        have kMr := Blk.by hbw kM
        by_cases hlt : k < l2
        · obtain ⟨d, hd⟩ : ∃ d, es[k]? = some d := ⟨_, List.getElem?_eq_getElem (by rw [HL2.out]; exact hlt)⟩
          have hdp := HYP.out d (List.mem_of_getElem? hd)
          have HST := Lib.hid (HOS.out k d hd)
          obtain ⟨gd, gc, f, pv, hex, lx, x1, x2, x3, x4, hOR, hf1, hf2⟩ := OwnDs.atE (HDB.out.by hbw) hd
          obtain ⟨rfl, rfl⟩ : db = some ⟨gd, 0, none⟩ ∧ dc = gc := by
            simp only [Value.slice.injEq] at hex
            exact ⟨hex.1, hex.2.2⟩
          have hfw : f < w.heap.size := by have := HHI.out; omega
          have HAMD := Lib.hid (HAM.out d)
          have HDP := Lib.hid hdp
          have HOR := Lib.hid hOR
          obtain ⟨px, cx, rfl⟩ := hOR.sl.len
          obtain ⟨kd, pins, wd, ln⟩ := d
          dsimp only at *
          obtain ⟨P, hP⟩ : ∃ P, pins.length = P := ⟨_, rfl⟩
          rw [hP] at x2 HOR
          have HPL := Lib.hid hP
          have i1 : (k : Int) < (l2 : Int) := by omega
          have i2 : decide (k < l2) = true := decide_eq_true hlt
          have cB := kB.cell
          have lB := kB.lt
          obtain ⟨AB, hAB⟩ : ∃ A, amB nets ⟨kd, pins, wd, ln⟩ = A := ⟨_, rfl⟩
          rw [hAB] at HAMD HST
          clear hd hex hP hdp hOR hAB
          go_wp2_with fail
          obtain ⟨wE, hwE⟩ : ∃ z : World, z = wr.alloc (.cells #[.int .i64 kd, .slice px P cx, .int .i64 wd, .int .i64 ln] 62) := ⟨_, rfl⟩
          have kD : Blk wE wr.heap.size #[.int .i64 kd, .slice px P cx, .int .i64 wd, .int .i64 ln] 62 := by rw [hwE]; exact Blk.new _ rfl
          have hbE : Below wr.heap.size wr wE := by rw [hwE]; exact (Below.refl _ wr).alloc (Nat.le_refl _) _
          have hsE : wr.heap.size < wE.heap.size := by rw [hwE]; simp
          (try rw [← hwE])
          have kBE := Blk.by hbE kB
          have kME := Blk.by hbE kMr
          have HRE := Lib.hid (HR2.out.by hbE)
          have hbEo := below_on hbE hbo
          have hbEw := below_on hbE hbw
          have HORE := Lib.hid (OwnR.by hbE HOR.out)
          clear hwE x1 x2 x3 x4 cB lB HOR
          refine (HCF.out w.heap.size wE (.slice px P cx) pins HORE.out.sl (kBE.cell 0) (kME.cell 12) (HU.out.by hbEw) HDP.out.2).mono ?_
          rintro e w1 ⟨rfl, hb1⟩
          rw [HAMD.out]
          have kD1 := Blk.by hb1 kD
          have kB1 := Blk.by hb1 kBE
          have HR1 := Lib.hid (HRE.out.by hb1)
          have HOR1 := Lib.hid (OwnR.by hb1 HORE.out)
          have hb1o := below_on hb1 hbEo
          have hs1 := hb1.size
          have qD := kD1.cell
          have lD := kD1.lt
          clear hb1 kD kBE kME HRE HORE hbEo hbEw hbE
          cases AB with
          | true =>
            rw [if_pos rfl] at HST
            have kZ2 : Blk (w1.alloc (.cells #[.int .i64 kd, .slice px P cx, .int .i64 wd, .int .i64 ln] 62)) w1.heap.size #[.int .i64 kd, .slice px P cx, .int .i64 wd, .int .i64 ln] 62 := Blk.new _ rfl
            have hb2 : Below w1.heap.size w1 (w1.alloc (.cells #[.int .i64 kd, .slice px P cx, .int .i64 wd, .int .i64 ln] 62)) := (Below.refl _ w1).alloc (Nat.le_refl _) _
            have HR2b := Lib.hid (HR1.out.by hb2)
            have HOR2 := Lib.hid (OwnR.by hb2 HOR1.out)
            have kB2 := Blk.by hb2 kB1
            have hb2o := below_on hb2 hb1o
            have hso := hbo.size
            have hsw := hb.size
            go_wp2_with (refine list_pushR (by rfl) _ _ (by rfl) g2 n2 c2 L2 (by rfl) HR2b.out w1.heap.size ⟨kd, pins, wd, ln⟩ (.slice px P cx) f (by rfl) kZ2 HOR2.out (by simp; omega) (by omega) (by omega) ?_; intro g5 c5 w5 hR5 hgr hg5; have hE5 := grown_exc hgr; have kB5 := hE5.blk kB2 (show ¬ w.heap.size = g2 by omega); have hb5o : Below wo.heap.size wo w5 := hE5.below hb2o (fun q hq (e : q = g2) => by omega); have HR5 := Lib.hid hR5; have hg5' : wo.heap.size ≤ g5 ∧ g5 < w5.heap.size := ⟨by (try simp only [World.size_alloc] at hg5); omega, hR5.2.2.1⟩; clear hR5 hgr hE5)
            exact ⟨⟨k + 1, g5, n2 + 1, c5, L2 ++ [(⟨kd, pins, wd, ln⟩, .slice px P cx, f)], by omega, by rfl, by go_num, HR5, by omega, Lib.hid (by rw [HST.out, Tr.map_push, HL2'.out]), hg5'.1, hg5'.2, Lib.hid (fun t ht => by
              rcases List.mem_append.1 ht with ht | ht
              · exact HT2.out t ht
              · rw [List.mem_singleton] at ht; rw [ht]; exact hfw), kB5, hb5o⟩, by simp [intOf]; omega⟩
          | false =>
            rw [if_neg (by simp), List.append_nil] at HST
            go_wp2
            exact ⟨⟨k + 1, g2, n2, c2, L2, by omega, by rfl, by go_num, HR1, by omega, Lib.hid (by rw [HST.out]; exact HL2'.out), by omega, by omega, HT2, kB1, hb1o⟩, by simp [intOf]; omega⟩
        · obtain rfl : l2 = k := by omega
          have i1 : ¬ (l2 : Int) < (l2 : Int) := by omega
          have hso := hbo.size
          have hsw := hb.size
          have HRz := Lib.hid (HR.out.by hbo)
          obtain ⟨_, _, hnc1, hcm1, _⟩ := HR.out.cells
          obtain ⟨_, _, hnc2, hcm2, _⟩ := HR2.out.cells
          go_wp2_with fail
          refine (HSF.out g n c L _ HRz.out (by omega)).mono ?_
          rintro e w1 ⟨rfl, ⟨d1, hD1, hz1, hm1, hp1⟩, hW1⟩
          have hE1 : Exc (fun k => k = g) wr w1 := Exc.ofWithin hW1 (fun q h1 h2 => by omega)
          have HR3 := Lib.hid (RB.exc hE1 HR2.out (show ¬ g2 = g by omega) (fun t ht (e : t.2.2 = g) => by have := HT2.out t ht; omega))
          have hb1o : Below wo.heap.size wo w1 → True := fun _ => trivial
          have hb1w : Below w.heap.size w w1 := hE1.below hbw (fun q hq (e : q = g) => by omega)
          have HD1 := Lib.hid hD1
          have HZ1 := Lib.hid hz1
          have HM1 := Lib.hid hm1
          have HP1 := Lib.hid hp1
          clear hD1 hz1 hm1 hp1 hW1 hE1 hb1o
          go_wp2_with fail
          refine (HSF.out g2 n2 c2 L2 _ HR3.out (by omega)).mono ?_
          rintro e w2 ⟨rfl, ⟨d2, hD2, hz2, hm2, hp2⟩, hW2⟩
          have hE2 : Exc (fun k => k = g2) w1 w2 := Exc.ofWithin hW2 (fun q h1 h2 => by omega)
          have hD1 := DRow.exc hE2 HD1.out (show ¬ g = g2 by omega) (fun q hq (e : q = g2) => by
            obtain ⟨t, ht, e2⟩ := List.mem_map.1 (HP1.out q hq)
            have := HLW.out t ht
            (try dsimp only at e2)
            omega)
          have hb2w : Below w.heap.size w w2 := hE2.below hb1w (fun q hq (e : q = g2) => by omega)
          have hS1 := hD1.sl (cap := c) (by rw [HZ1.out]; exact hnc1) hcm1
          have hS2 := hD2.sl (cap := c2) (by rw [hz2]; exact hnc2) hcm2
          rw [HZ1.out, HM1.out] at hS1
          rw [hz2, hm2] at hS2
          have HS1 := Lib.hid hS1
          have HS2 := Lib.hid hS2
          clear hE2 hD1 hS1 hS2 hD2 hz2 hm2 hp2 hW2
          go_wp2_with fail
          refine (HEF.out _ _ _ _ _ HS1.out HS2.out (by rw [length_srtD, List.length_map, HR.out.2.1]; omega) (by rw [length_srtD, List.length_map, HR2.out.2.1]; omega)).mono ?_
          rintro e w3 ⟨rfl, hb3⟩
          have hb3w := below_on hb3 hb2w
          go_wp2
          go_ret
          exact ⟨ret_bool (by rw [HL.out, HL2'.out]), hb3w⟩
end Go.Proofs.YtifbffianbgeaaaGreat
