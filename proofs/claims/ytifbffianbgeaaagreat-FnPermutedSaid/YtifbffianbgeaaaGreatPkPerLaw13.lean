/- Contracts and plain laws, part 13, for the statement's proof. -/
import Derived.Test.YtifbffianbgeaaaGreatPkPerLaw12
import Derived.Deep.DeepCutAuto
import Derived.Deep.CutRange
namespace Go.Proofs.YtifbffianbgeaaaGreat
open Go.RowKit
set_option linter.unusedVariables false
set_option linter.unusedSimpArgs false
theorem list_pushN {ops : Array Oper} {rest : List Oper} {o : Oper} {a : Act} {w : World} {Q : Exit → Act → World → Prop} (hgd : o.guard = none) (s x : Operand)
    (ho : o.op = .call { callee := .builtin .append, args := #[s, x], argTypes := #[27, 27] })
    (lo hi N : Nat) (v : Value) (zs ys : List Int) (hN : zs.length = N) (hs : a.eval s = v) (hB : BldI w lo hi v zs) (nb m : Nat) (cs : Array Value) (hx : a.eval x = .slice (some ⟨nb, 0, none⟩) m m) (hys : ys.length = m) (hm : 0 < m)
    (hnb : Blk w nb cs 2) (hcs : cs.toList = icells ys) (hlo : lo ≤ hi) (hn : N + m ≤ 8000000)
    (hK : ∀ a' c' w', BldI w' lo w'.heap.size (.slice a' (N + m) c') (zs ++ ys) → Within lo hi w w' → wpList Tryz.prog ops Q rest (a.put o.dst (.slice a' (N + m) c')) w') : wpList Tryz.prog ops Q (o :: rest) a w := by
  subst hN
  exact list_pushI hgd s x ho lo hi v zs ys hs hB nb m cs hx hys hm hnb hcs hlo hn hK
set_option maxRecDepth 100000 in
set_option maxHeartbeats 8000000 in
theorem counterparts_any (x y : Nl) (z : List Int) (v u sz : Value) (w : World) (h : NlV w v x) (h' : NlV w u y) (hz : IntSl w sz z) (hx : nlB x = true) (hy : nlB y = true) (hll : y.ds.length = x.ds.length) (hzl : x.nets ≤ (z.length : Int)) (hperm : (x.ds.map fun d => nzD (renD z d)).Perm (y.ds.map nzD)) :
    Calls Tryz.prog 45 #[v, u, sz] w fun e w' => ∃ v', e = .returned v' ∧ OwnR w' w.heap.size w'.heap.size v' (cpS x y z) ∧ Below w.heap.size w w' := by
  obtain ⟨_, hl, _, hdx, _⟩ := nlB_facts hx
  obtain ⟨_, _, _, hdy, _⟩ := nlB_facts hy
  have HPX := Lib.hid (show ∀ d ∈ x.ds, 2 ≤ d.pins.length ∧ d.pins.length ≤ 3 ∧ ∀ p ∈ d.pins, 0 ≤ p ∧ p < (z.length : Int) from fun d hd => by have := dvB_pins (hdx d hd); exact ⟨this.2.1, this.1, fun p hp => by have := this.2.2 p hp; omega⟩)
  have HPY := Lib.hid (show ∀ d ∈ y.ds, d.pins.length ≤ 3 from fun d hd => (dvB_pins (hdy d hd)).1)
  obtain ⟨s1, s2, rfl, hd, hp⟩ := h
  obtain ⟨t1, t2, rfl, hd', hp'⟩ := h'
  obtain ⟨nx, xs, ps⟩ := x
  obtain ⟨ny, ys, qs⟩ := y
  unfold cpS
  dsimp only at *
  have HX := Lib.hid hd
  have HY := Lib.hid hd'
  have HZ := Lib.hid hz
  have HPK := Lib.hid (fun k hk => dev_pick (k := k) hperm hk)
  obtain ⟨a1, c1, rfl⟩ := hd.sized
  obtain ⟨a2, c2, rfl⟩ := hp.sized
  obtain ⟨b1, d1, rfl⟩ := hd'.sized
  obtain ⟨b2, d2, rfl⟩ := hp'.sized
  obtain ⟨az, cz, rfl⟩ := hz.len
  obtain ⟨n, hn⟩ : ∃ n, xs.length = n := ⟨_, rfl⟩
  obtain ⟨p, hpl⟩ : ∃ n, ps.length = n := ⟨_, rfl⟩
  obtain ⟨q2, hql⟩ : ∃ n, qs.length = n := ⟨_, rfl⟩
  obtain ⟨m, hm⟩ : ∃ n, z.length = n := ⟨_, rfl⟩
  have HMP := Lib.hid (fun (d : Dv) sx w (h : IntSl w sx d.pins) hn a b c => mappedO_any d z sx (.slice az m cz) w h hn a b c)
  have HNY := Lib.hid (fun (d : Dv) sx w (h : IntSl w sx d.pins) hn => implNorm_any d.kind d.wd d.len sx d.pins w h hn)
  have HCD := Lib.hid (fun (d e : Dv) s1 s2 xs ys w h h' => compareDevices_any d.kind d.wd d.len e.kind e.wd e.len s1 s2 xs ys w h h')
  have HCT := Lib.hid (fun sv zs k w h hl => containsI_any sv zs k w h hl)
  have HIS := Lib.hid (fun (d e : Dv) (h : ∀ k, devcmp d.kind e.kind (normz d.kind (d.pins.map (nmOf z))) (normz e.kind e.pins) d.wd e.wd d.len e.len = k → decide (k = 0) = isoD z d e) => h)
  have HIZ := Lib.hid (fun (d e : Dv) => (show isoD z d e = decide (devcmp d.kind e.kind (normz d.kind (d.pins.map (nmOf z))) (normz e.kind e.pins) d.wd e.wd d.len e.len = 0) from rfl))
  rw [hpl, hql, hm]
  rw [hm] at HZ HPX
  rw [hll] at HY HPK ⊢
  rw [hn] at HX HY HPK hl ⊢
  have HN := Lib.hid hn
  have HM := Lib.hid (hll.trans hn)
  have HZM := Lib.hid hm
  have HGL := Lib.hid (show ∀ k, k ≤ n → (grd (xs.map fun d => nzD (renD z d)) (ys.map nzD) k).length = k from by
    intro k
    induction k with
    | zero => intro _; rfl
    | succ k ih =>
      intro hk
      obtain ⟨j, h1, _⟩ := HPK.out k (by omega)
      rw [h1, List.length_append, ih (by omega)]
      rfl)
  have HG0 := Lib.hid (show grd (xs.map fun d => nzD (renD z d)) (ys.map nzD) 0 = [] from rfl)
  generalize grd (xs.map fun d => nzD (renD z d)) (ys.map nzD) = G at *
  clear hd hp hd' hp' hz hx hy hdx hdy hn hpl hql hll hm hperm hzl HIS
  have HI0 : Hid (BldI (((w.alloc (.cells #[.int .i64 nx, .slice a1 n c1, .slice a2 p c2] 35)).alloc (.cells #[.int .i64 ny, .slice b1 n d1, .slice b2 q2 d2] 35)).alloc (.cells #[] 2)) (w.heap.size + 2) (w.heap.size + 3) (.slice (some ⟨w.heap.size + 2, 0, none⟩) 0 0) (G 0)) := Lib.hid (by rw [HG0.out]; exact BldI.lit (zs := []) (Blk.new _ (by simp)) rfl (by simp) (Nat.le_refl _) (by omega) (by simp))
  go_enter Tryz.func45, Tryz.ntmps45
  go_wp2
  go_loopw [7, 17] (fun ov iv wr => ∃ (k c hi : Nat) (ga : Option Addr), k ≤ n ∧ ov = .slice ga k c ∧ iv = .int .i64 (k : Int) ∧ Hid (BldI wr (w.heap.size + 2) hi (.slice ga k c) (G k)) ∧ w.heap.size + 2 ≤ hi ∧ hi ≤ wr.heap.size ∧ Blk wr w.heap.size #[.int .i64 nx, .slice a1 n c1, .slice a2 p c2] 35 ∧ Blk wr (w.heap.size + 1) #[.int .i64 ny, .slice b1 n d1, .slice b2 q2 d2] 35 ∧ Below w.heap.size w wr) (fun _ iv _ => n - (intOf iv).toNat)
  case atStart => exact ⟨0, 0, w.heap.size + 3, _, Nat.zero_le _, rfl, rfl, HI0, by omega, by simp, blkT, blkT, blwT⟩
  case round =>
    clear HI0
    obtain ⟨k, c, hi, ga, hk, rfl, rfl, HI, hhi, hhs, kA, kB, hb⟩ := hrel
    have qA := kA.cell
    have lA := kA.lt
    by_cases hlt : k < n
    · have i1 : (k : Int) < (n : Int) := by omega
      have i2 : decide (k < n) = true := decide_eq_true hlt
      obtain ⟨j0, hpk, hj0, hjc, hjs, hjn⟩ := HPK.out k hlt
      have HPP := Lib.hid hpk
      have HJC := Lib.hid hjc
      have HJS := Lib.hid hjs
      have HJN := Lib.hid hjn
      obtain ⟨dx, hx⟩ : ∃ x, xs[k]? = some x := ⟨_, List.getElem?_eq_getElem (by rw [HN.out]; exact hlt)⟩
      have hpx := HPX.out dx (List.mem_of_getElem? hx)
      rcases HX.out with ⟨_, _, _, h2⟩ | ⟨xb, xo, xc, he, _, _, h4⟩
      · rw [h2] at hx; simp at hx
      obtain ⟨rfl, rfl⟩ : a1 = some ⟨xb, xo, none⟩ ∧ c1 = xc := by
        simp only [Value.slice.injEq] at he
        exact ⟨he.1, he.2.2⟩
      obtain ⟨sx, x1, x2, x3, x4, x5⟩ := (h4 k dx hx).by hb
      have HXK := Lib.hid hx
      have HPD := Lib.hid hpx
      have HX5 := Lib.hid x5
      obtain ⟨px, cx, rfl⟩ := x5.len
      have lx := lt_of_cell x1
      dsimp only at lx
      have HNZ := Lib.hid (show (normz dx.kind (dx.pins.map (nmOf z))).length = dx.pins.length from by rw [length_normz, List.length_map])
      clear hpk hjc hjs hjn hx hpx he h4 x5
      obtain ⟨PX, hPX⟩ : ∃ P, dx.pins.length = P := ⟨_, rfl⟩
      rw [hPX] at x2 HX5 HNZ
      have HPX2 := Lib.hid hPX
      clear hPX
      go_wp2_with fail
      refine (HMP.out dx (.slice px PX cx) _ (HX5.out.by blwT) (HZ.out.by blwT) (by have := HPD.out.2.1; omega) (fun e => by have h := HPD.out.1; rw [e] at h; simp at h) (fun p hp => by have := HPD.out.2.2 p hp; rw [HZM.out]; exact this)).mono ?_
      rintro e w1 ⟨v1, rfl, hO1, hb1⟩
      obtain ⟨pv, cv, rfl⟩ := hO1.sl.len
      obtain ⟨PV, hPV⟩ : ∃ P, (normz dx.kind (dx.pins.map (nmOf z))).length = P := ⟨_, rfl⟩
      rw [hPV] at hO1 ⊢
      have HO1 := Lib.hid hO1.sl
      have hbr : Below wr.heap.size wr w1 := blwT
      have kA1 := Blk.by hbr kA
      have kB1 := Blk.by hbr kB
      have HI1 := Lib.hid (HI.out.by hbr)
      have hb1w := below_on hbr hb
      have hs1 := hbr.size
      clear hO1 hPV HNZ hb1 x1 x2 x3 x4 lx qA lA HX5
      have qB := kB1.cell
      have lB := kB1.lt
      go_wp2
      have kO0 : Blk (w1.alloc (.cells #[.int .i64 dx.kind, .slice pv PV cv, .int .i64 dx.wd, .int .i64 dx.len] 62)) w1.heap.size #[.int .i64 dx.kind, .slice pv PV cv, .int .i64 dx.wd, .int .i64 dx.len] 62 := Blk.new _ rfl
      obtain ⟨wo, hwo⟩ : ∃ z : World, z = w1.alloc (.cells #[.int .i64 dx.kind, .slice pv PV cv, .int .i64 dx.wd, .int .i64 dx.len] 62) := ⟨_, rfl⟩
      have hbo1 : Below w1.heap.size w1 wo := by rw [hwo]; exact (Below.refl _ w1).alloc (Nat.le_refl _) _
      rw [← hwo] at kO0 ⊢
      have kA2 := Blk.by hbo1 kA1
      have kB2 := Blk.by hbo1 kB1
      have HI2 := Lib.hid (HI1.out.by hbo1)
      have HO2 := Lib.hid (HO1.out.by hbo1)
      have hbow := below_on hbo1 hb1w
      have hso := hbo1.size
      obtain ⟨O, hO⟩ : ∃ O, w1.heap.size = O := ⟨_, rfl⟩
      rw [hO] at kO0 hso hs1 ⊢
      clear hwo hO HI HI1 HO1 kA kB kA1 kB1 qB lB hbr hb1w hb hbo1
      go_loopw [7, 27] (fun ov kv wz => ∃ q : Nat, q ≤ j0 ∧ ov = .slice ga k c ∧ kv = .int .i64 (q : Int) ∧ Below wo.heap.size wo wz) (fun _ kv _ => j0 - (intOf kv).toNat)
      case atStart => exact ⟨0, Nat.zero_le _, rfl, rfl, blwT⟩
      case round =>
        obtain ⟨q, hq, rfl, rfl, hbo⟩ := hrel
        have hqn : q < n := by omega
        obtain ⟨dy, hy⟩ : ∃ y, ys[q]? = some y := ⟨_, List.getElem?_eq_getElem (by rw [HM.out]; exact hqn)⟩
        have hpy := HPY.out dy (List.mem_of_getElem? hy)
        rcases HY.out with ⟨_, _, _, h2⟩ | ⟨yb, yo, yc, he', _, _, h4'⟩
        · rw [h2] at hy; simp at hy
        obtain ⟨rfl, rfl⟩ : b1 = some ⟨yb, yo, none⟩ ∧ d1 = yc := by
          simp only [Value.slice.injEq] at he'
          exact ⟨he'.1, he'.2.2⟩
        obtain ⟨sy, y1, y2, y3, y4, y5⟩ := (h4' q dy hy).by (below_on hbo hbow)
        obtain ⟨py, cy, rfl⟩ := y5.len
        obtain ⟨PY, hPY⟩ : ∃ P, dy.pins.length = P := ⟨_, rfl⟩
        rw [hPY] at y2 y5 hpy
        have HPY2 := Lib.hid hPY
        have HY5 := Lib.hid y5
        have HYK := Lib.hid hy
        have ly := lt_of_cell y1
        dsimp only at ly
        have j1 : (q : Int) < (n : Int) := by omega
        have j2 : decide (q < n) = true := decide_eq_true hqn
        have kO := Blk.by hbo kO0
        have HIq := Lib.hid (HI2.out.by hbo)
        have HCN := Lib.hid (fun w h => HCT.out (.slice ga k c) (G k) (q : Int) w h (by rw [HGL.out k hk]; omega))
        clear hy he' h4' y5 hPY
        go_upto_region 9 with fail
        obtain ⟨wE, hwE⟩ : ∃ z : World, z = wr.alloc (.cells #[.int .i64 dy.kind, .slice py PY cy, .int .i64 dy.wd, .int .i64 dy.len] 62) := ⟨_, rfl⟩
        have kE : Blk wE wr.heap.size #[.int .i64 dy.kind, .slice py PY cy, .int .i64 dy.wd, .int .i64 dy.len] 62 := by rw [hwE]; exact Blk.new _ rfl
        have hbE : Below wr.heap.size wr wE := by rw [hwE]; exact (Below.refl _ wr).alloc (Nat.le_refl _) _
        (try rw [← hwE])
        have kOE := Blk.by hbE kO
        have HIE := Lib.hid (HIq.out.by hbE)
        have hbEo := below_on hbE hbo
        have HOE := Lib.hid (HO2.out.by hbEo)
        have HYE := Lib.hid (HY5.out.by hbE)
        have hsE := hbE.size
        clear hwE y1 y2 y3 y4 ly HIq HY5 kO hbE
        cases hcn : (G k).contains (q : Int) with
        | true =>
          have hqj : q < j0 := by
            by_cases e : q = j0
            · subst e; rw [HJC.out] at hcn; cases hcn
            · omega
          rw [hcn] at HCN
          clear hcn
          go_quiet ((go_at_call 95; exact Calls.quiet_of_same ((HCN.out _ (HIE.out.own.sl.by (below_of_drewN wE _))).mono fun _ _ h => ⟨h.1, h.2.symm⟩)))
          go_wp2
          exact ⟨⟨q + 1, by omega, by rfl, by go_num, blwT⟩, by simp [intOf]; omega⟩
        | false =>
          rw [hcn] at HCN
          have HCF := Lib.hid hcn
          clear hcn
          obtain ⟨R, hR⟩ : ∃ R, devcmp dx.kind dy.kind (normz dx.kind (dx.pins.map (nmOf z))) (normz dy.kind dy.pins) dx.wd dy.wd dx.len dy.len = R := ⟨_, rfl⟩
          have hC := HCD.out dx dy
          have hZ := HIZ.out dx dy
          rw [hR] at hZ
          have HIR := Lib.hid hZ
          have HRR := Lib.hid hR
          clear hC hZ hR
          have hS : (fun w' : World => Blk w' O #[.int .i64 dx.kind, .slice pv PV cv, .int .i64 dx.wd, .int .i64 dx.len] 62 ∧ Blk w' wr.heap.size #[.int .i64 dy.kind, .slice py PY cy, .int .i64 dy.wd, .int .i64 dy.len] 62) { wE with drawn := wE.drawn + 1 } := ⟨kOE.drew, kE.drew⟩
          refine wp_region_any (by kernel_rfl) (wpAny_of_E (S := fun w' : World => Blk w' O #[.int .i64 dx.kind, .slice pv PV cv, .int .i64 dx.wd, .int .i64 dx.len] 62 ∧ Blk w' wr.heap.size #[.int .i64 dy.kind, .slice py PY cy, .int .i64 dy.wd, .int .i64 dy.len] 62) (l := 10) _ _ _ _ ?_)
          change wpAnyE _ _ _ _ _ _ _ _ _ wE.drew
          refine wpAnyE_takeL (i := 0) (v := ?_) rfl (by kernel_rfl) (fun _ _ _ h => h) (Or.inl ⟨by rfl, ?_⟩) hS ?_
          rotate_left
          · intro w hSw; (try dsimp only at hSw); have qO := hSw.1.cell; have qE := hSw.2.cell; have lO := hSw.1.lt; have lE := hSw.2.lt; clear hSw; go_simp; (try with_reducible rfl)
          try simp only [Act.put, List.setIfInBounds_toArray, List.set_cons_zero, List.set_cons_succ]
          refine wpAnyE_takeL (i := 1) (v := ?_) rfl (by kernel_rfl) (fun _ _ _ h => h) (Or.inl ⟨by rfl, ?_⟩) hS ?_
          rotate_left
          · intro w hSw; (try dsimp only at hSw); have qO := hSw.1.cell; have qE := hSw.2.cell; have lO := hSw.1.lt; have lE := hSw.2.lt; clear hSw; go_simp; (try with_reducible rfl)
          try simp only [Act.put, List.setIfInBounds_toArray, List.set_cons_zero, List.set_cons_succ]
          refine wpAnyE_oneL (k := 2) (by kernel_rfl) rfl (fun K hK => ?_)
          go_simp
          go_at_call 95
          refine (HCN.out _ (HIE.out.own.sl.by (below_of_drewN wE 1))).mono ?_
          rintro e w3 ⟨rfl, rfl⟩
          refine hK.out _ _ (fun _ => hS) ?_
          try simp only [Act.put, List.setIfInBounds_toArray, List.set_cons_zero, List.set_cons_succ]
          refine wpAnyE_takeL (i := 3) (v := ?_) rfl (by kernel_rfl) (fun _ _ _ h => h) (Or.inl ⟨by rfl, ?_⟩) hS ?_
          rotate_left
          · intro w hSw; (try dsimp only at hSw); have qO := hSw.1.cell; have qE := hSw.2.cell; have lO := hSw.1.lt; have lE := hSw.2.lt; clear hSw; go_simp; (try with_reducible rfl)
          try simp only [Act.put, List.setIfInBounds_toArray, List.set_cons_zero, List.set_cons_succ]
          refine wpAnyE_takeL (i := 4) (v := ?_) rfl (by kernel_rfl) (fun _ _ _ h => h) (Or.inl ⟨by rfl, ?_⟩) hS ?_
          rotate_left
          · intro w hSw; (try dsimp only at hSw); have qO := hSw.1.cell; have qE := hSw.2.cell; have lO := hSw.1.lt; have lE := hSw.2.lt; clear hSw; go_simp; (try with_reducible rfl)
          try simp only [Act.put, List.setIfInBounds_toArray, List.set_cons_zero, List.set_cons_succ]
          refine wpAnyE_takeL (i := 5) (v := ?_) rfl (by kernel_rfl) (fun _ _ _ h => h) (Or.inl ⟨by rfl, ?_⟩) hS ?_
          rotate_left
          · intro w hSw; (try dsimp only at hSw); have qO := hSw.1.cell; have qE := hSw.2.cell; have lO := hSw.1.lt; have lE := hSw.2.lt; clear hSw; go_simp; (try with_reducible rfl)
          try simp only [Act.put, List.setIfInBounds_toArray, List.set_cons_zero, List.set_cons_succ]
          refine wpAnyE_takeL (i := 6) (v := ?_) rfl (by kernel_rfl) (fun _ _ _ h => h) (Or.inl ⟨by rfl, ?_⟩) hS ?_
          rotate_left
          · intro w hSw; (try dsimp only at hSw); have qO := hSw.1.cell; have qE := hSw.2.cell; have lO := hSw.1.lt; have lE := hSw.2.lt; clear hSw; go_simp; (try with_reducible rfl)
          try simp only [Act.put, List.setIfInBounds_toArray, List.set_cons_zero, List.set_cons_succ]
          refine wpAnyE_oneL (k := 7) (by kernel_rfl) rfl (fun K hK => ?_)
          go_simp
          go_at_call 63
          refine (HNY.out dy (.slice py PY cy) wE.drew (HYE.out.by (below_of_drewN wE 1)) (by rw [HPY2.out]; omega)).mono ?_
          rintro e w4 ⟨v4, rfl, hO4, hb4⟩
          have hb4E : Below wE.heap.size wE w4 := below_on hb4 (below_of_drewN wE 1)
          have kO4 := Blk.by hb4E kOE
          have kE4 := Blk.by hb4E kE
          have HO4 := Lib.hid hO4.sl
          clear hS hO4 hb4
          refine hK.out _ _ (fun _ => ⟨kO4, kE4⟩) ?_
          try simp only [Act.put, List.setIfInBounds_toArray, List.set_cons_zero, List.set_cons_succ]
          refine wpAnyE_oneL (k := 8) (by kernel_rfl) rfl (fun K hK => ?_)
          go_simp
          go_at_call 62
          refine (HCD.out dx dy _ _ _ _ w4 (HOE.out.by hb4E) HO4.out).mono ?_
          rw [HRR.out]
          rintro e w5 ⟨rfl, hb5⟩
          have hb5E := below_on hb5 hb4E
          have kO5 := Blk.by hb5E kOE
          have kE5 := Blk.by hb5E kE
          refine hK.out _ _ (fun _ => ⟨kO5, kE5⟩) ?_
          try simp only [Act.put, List.setIfInBounds_toArray, List.set_cons_zero, List.set_cons_succ]
          refine wpAnyE_oneL (k := 9) (by kernel_rfl) rfl (fun K hK => ?_)
          go_simp
          refine hK.out _ _ (fun _ => ⟨kO5, kE5⟩) ?_
          try simp only [Act.put, List.setIfInBounds_toArray, List.set_cons_zero, List.set_cons_succ]
          refine wpAnyE_oneL (k := 10) (by kernel_rfl) rfl (fun K hK => ?_)
          go_simp
          refine hK.out _ _ (fun h => absurd rfl h) ?_
          refine wpAnyE_done (by kernel_rfl) ?_ _
          have hbo5 := below_on hb5E hbEo
          have HI5 := Lib.hid (HIE.out.by hb5E)
          clear hb5 hb4E hb5E kO4 kE4 kOE kE HIE HOE HYE HO4 hbEo
          by_cases hqj : q < j0
          · have hiso := HJN.out q hqj HCF.out dx dy HXK.out HYK.out
            have hR0 : ¬ R = 0 := by rw [HIR.out] at hiso; exact of_decide_eq_false hiso
            have e1 : (R == 0) = false := by simpa using hR0
            clear hiso
            go_wp2
            exact ⟨⟨q + 1, by omega, by rfl, by go_num, hbo5⟩, by simp [intOf]; omega⟩
          · obtain rfl : j0 = q := by omega
            have hiso := HJS.out dx dy HXK.out HYK.out
            have hR0 : R = 0 := by rw [HIR.out] at hiso; exact of_decide_eq_true hiso
            have HR0 := Lib.hid hR0
            have hR1 : (R == 0) = true := by simpa using hR0
            have kA5 := Blk.by hbo5 kA2
            have kB5 := Blk.by hbo5 kB2
            have hb5w := below_on hbo5 hbow
            have hs5 := hb5w.size
            have hal : Below w5.heap.size w5 (w5.alloc (.cells #[.int .i64 (j0 : Int)] 2)) := (Below.refl _ w5).alloc (Nat.le_refl _) _
            have HI6 := Lib.hid (HI5.out.by hal)
            have kA6 := Blk.by hal kA5
            have kB6 := Blk.by hal kB5
            have hb6w := below_on hal hb5w
            have hso5 := hbo5.size
            clear hiso hR0 hal kO5 kE5
            go_wp2_with (refine list_pushN (by rfl) _ _ (by rfl) (w.heap.size + 2) hi k (.slice ga k c) (G k) [(j0 : Int)] (HGL.out k hk) (by rfl) HI6.out w5.heap.size 1 #[.int .i64 (j0 : Int)] (by rfl) rfl (by omega) (Blk.new _ rfl) rfl (by omega) (by omega) ?_; intro g9 c9 w9 hI9 hW9; have HI9 := Lib.hid hI9; have kA9 := hW9.blk kA6 (.inl (by omega)); have kB9 := hW9.blk kB6 (.inl (by omega)); have hb9 := hW9.below hb6w (by omega); have hs9 := hW9.size; clear hI9 hW9)
            exact ⟨⟨k + 1, c9, w9.heap.size, g9, by omega, by rfl, by go_num, Lib.hid (by rw [HPP.out]; exact HI9.out), by (try simp only [World.size_alloc] at hs9); omega, Nat.le_refl _, kA9, kB9, hb9⟩, by simp [intOf]; omega⟩
    · obtain rfl : n = k := by omega
      have i1 : ¬ (n : Int) < (n : Int) := by omega
      have HO := Lib.hid HI.out.own
      go_wp2
      go_ret
      exact ⟨_, rfl, OwnR.wide' HO.out (by omega) (by omega), hb⟩
set_option maxRecDepth 100000 in
set_option maxHeartbeats 4000000 in
theorem equalFuncD_any (gf : Nat) (lb : Array Value) (eg : ∀ args w, (callFunc gf args).run Tryz.prog w = .ok (.enter gf args) w) (xs ys : List Dv) (s1 s2 : Value) (w : World) (h : DvSl w s1 xs) (h' : DvSl w s2 ys) (hl : xs.length ≤ 1000) (hl' : ys.length ≤ 1000)
    (hc : ∀ (W : World) (x y : Dv) (sx sy : Value), IntSl W sx x.pins → IntSl W sy y.pins → Calls Tryz.prog gf (#[.agg #[.int .i64 x.kind, sx, .int .i64 x.wd, .int .i64 x.len], .agg #[.int .i64 y.kind, sy, .int .i64 y.wd, .int .i64 y.len]] ++ lb) W fun e w' => e = .returned (.bool (decide (x = y))) ∧ Below W.heap.size W w') :
    Calls Tryz.prog 161 #[s1, s2, .func (.func gf) #[] lb] w fun e w' => e = .returned (.bool (decide (xs = ys))) ∧ Below w.heap.size w w' := by
  have HX := Lib.hid h
  have HY := Lib.hid h'
  have HC := Lib.hid hc
  obtain ⟨a1, c1, rfl⟩ := h.sized
  obtain ⟨a2, c2, rfl⟩ := h'.sized
  clear h h' hc
  by_cases hxy : xs.length = ys.length
  · have HEQ := Lib.hid (show (∀ k, k < xs.length → xs[k]? = ys[k]?) → xs = ys from fun h => List.ext_getElem? (fun i => by
      by_cases hi : i < xs.length
      · exact h i hi
      · rw [show xs[i]? = none by simp; omega, show ys[i]? = none by simp; omega]))
    rw [← hxy] at HY ⊢
    have HL := Lib.hid hxy
    obtain ⟨n, hn⟩ : ∃ n, xs.length = n := ⟨_, rfl⟩
    rw [hn] at HX HY HEQ hl ⊢
    have HN := Lib.hid hn
    clear hxy hn hl'
    go_enter Tryz.func161, Tryz.ntmps161
    go_wp2
    go_loopw [17] (fun i wr => ∃ k : Nat, k ≤ n ∧ i = .int .i64 k ∧ Hid (∀ j, j < k → xs[j]? = ys[j]?) ∧ Below w.heap.size w wr) (fun i _ => n - (intOf i).toNat)
    case atStart => exact ⟨0, Nat.zero_le _, rfl, Lib.hid (by intro j h; omega), blwT⟩
    case round =>
      obtain ⟨k, hk, rfl, HI, hb⟩ := hrel
      by_cases hlt : k < n
      · have i1 : (k : Int) < (n : Int) := by omega
        have i2 : decide (k < n) = true := decide_eq_true hlt
        obtain ⟨x, hx⟩ : ∃ x, xs[k]? = some x := ⟨_, List.getElem?_eq_getElem (by rw [HN.out]; exact hlt)⟩
        obtain ⟨y, hy⟩ : ∃ y, ys[k]? = some y := ⟨_, List.getElem?_eq_getElem (by rw [← HL.out, HN.out]; exact hlt)⟩
        rcases HX.out with ⟨_, _, _, h2⟩ | ⟨xb, xo, xc, he, _, _, h4⟩
        · rw [h2] at hx; simp at hx
        obtain ⟨rfl, rfl⟩ : a1 = some ⟨xb, xo, none⟩ ∧ c1 = xc := by
          simp only [Value.slice.injEq] at he
          exact ⟨he.1, he.2.2⟩
        rcases HY.out with ⟨_, _, _, h2⟩ | ⟨yb, yo, yc, he', _, _, h4'⟩
        · rw [h2] at hy; simp at hy
        obtain ⟨rfl, rfl⟩ : a2 = some ⟨yb, yo, none⟩ ∧ c2 = yc := by
          simp only [Value.slice.injEq] at he'
          exact ⟨he'.1, he'.2.2⟩
        obtain ⟨sx, x1, x2, x3, x4, x5⟩ := (h4 k x hx).by hb
        obtain ⟨sy, y1, y2, y3, y4, y5⟩ := (h4' k y hy).by hb
        have ly := lt_of_cell y1
        dsimp only at ly
        have y1' := cell_by' ((Below.refl _ wr).alloc (Nat.le_refl _) (.cells #[.int .i64 x.kind, sx, .int .i64 x.wd, .int .i64 x.len] 62)) y1
        have y2' := cell_by' ((Below.refl _ wr).alloc (Nat.le_refl _) (.cells #[.int .i64 x.kind, sx, .int .i64 x.wd, .int .i64 x.len] 62)) y2
        have y3' := cell_by' ((Below.refl _ wr).alloc (Nat.le_refl _) (.cells #[.int .i64 x.kind, sx, .int .i64 x.wd, .int .i64 x.len] 62)) y3
        have y4' := cell_by' ((Below.refl _ wr).alloc (Nat.le_refl _) (.cells #[.int .i64 x.kind, sx, .int .i64 x.wd, .int .i64 x.len] 62)) y4
        have HXP := Lib.hid x5
        have HYP := Lib.hid y5
        have HXK := Lib.hid hx
        have HYK := Lib.hid hy
        have hC := fun W => HC.out W x y sx sy
        obtain ⟨px, cx, rfl⟩ := x5.len
        obtain ⟨py, cy, rfl⟩ := y5.len
        obtain ⟨R, hR⟩ : ∃ R : Bool, decide (x = y) = R := ⟨_, rfl⟩
        rw [hR] at hC
        have HCC := Lib.hid hC
        have HDC := Lib.hid hR
        clear hC hR hx hy x5 y5 he he' h4 h4'
        cases R with
        | true =>
          have HI2 := Lib.hid (show ∀ j, j < k + 1 → xs[j]? = ys[j]? from fun j hj => by
            by_cases e : j = k
            · subst e; rw [HXK.out, HYK.out, of_decide_eq_true HDC.out]
            · exact HI.out j (by omega))
          go_wp2_with (go_at_fn gf; refine (HCC.out _ (HXP.out.by blwT) (HYP.out.by blwT)).mono ?_; rintro e w1 ⟨rfl, hb1⟩)
          exact ⟨⟨k + 1, by omega, by go_num, HI2, blwT⟩, by simp [intOf]; omega⟩
        | false =>
          have hne : Hid (¬ xs = ys) := Lib.hid (fun e => by
            have h1 := HXK.out
            rw [e, HYK.out] at h1
            exact of_decide_eq_false HDC.out (Option.some.inj h1).symm)
          go_wp2_with (go_at_fn gf; refine (HCC.out _ (HXP.out.by blwT) (HYP.out.by blwT)).mono ?_; rintro e w1 ⟨rfl, hb1⟩)
          go_ret
          exact ⟨ret_bool (decide_eq_false hne.out).symm, blwT⟩
      · obtain rfl : n = k := by omega
        have i1 : ¬ (n : Int) < (n : Int) := by omega
        have hr := Lib.hid (HEQ.out (fun j hj => HI.out j hj))
        go_wp2
        go_ret
        exact ⟨ret_bool (decide_eq_true hr.out).symm, blwT⟩
  · have hne : ¬ xs = ys := fun e => hxy (by rw [e])
    rw [decide_eq_false hne]
    have e1 : ((xs.length : Int) != (ys.length : Int)) = true := by simp; omega
    have e2 : ((xs.length : Int) == (ys.length : Int)) = false := by simp; omega
    clear hxy hne HX HY
    generalize xs.length = n1 at *
    generalize ys.length = n2 at *
    go_enter Tryz.func161, Tryz.ntmps161
    go_wp2
    go_ret
    exact ⟨rfl, blwT⟩
theorem filt_step {α : Type} {p : α → Bool} {xs : List α} {k : Nat} {x : α} (h : xs[k]? = some x) : (xs.take (k + 1)).filter p = (xs.take k).filter p ++ (if p x = true then [x] else []) := by
  rw [take_snoc_of xs k x h, List.filter_append]
  congr 1
  cases hp : p x <;> simp [hp]
def lowB (n : Nat) (d : Dv) : Bool := d.pins.all fun p => decide (p < (n : Int))
def amB (nets : List Int) (d : Dv) : Bool := d.pins.all fun p => nets.contains p
def mpTo (ds : List Dv) (nets : List Int) (k : Nat) : List Dv := ((ds.take k).filter (lowB nets.length)).map fun d => nzD (renD nets d)
def owTo (es : List Dv) (nets : List Int) (k : Nat) : List Dv := (es.take k).filter (amB nets)
theorem mpTo_step {ds : List Dv} (nets : List Int) {k : Nat} {d : Dv} (h : ds[k]? = some d) : mpTo ds nets (k + 1) = mpTo ds nets k ++ (if lowB nets.length d = true then [nzD (renD nets d)] else []) := by
  unfold mpTo
  rw [filt_step h, List.map_append]
  congr 1
  split <;> rfl
theorem owTo_step {es : List Dv} (nets : List Int) {k : Nat} {d : Dv} (h : es[k]? = some d) : owTo es nets (k + 1) = owTo es nets k ++ (if amB nets d = true then [d] else []) := filt_step h
theorem mpTo_len (ds : List Dv) (nets : List Int) (k : Nat) : (mpTo ds nets k).length ≤ k := by
  unfold mpTo
  rw [List.length_map]
  exact Nat.le_trans (List.length_filter_le _ _) (by rw [List.length_take]; omega)
theorem owTo_len (es : List Dv) (nets : List Int) (k : Nat) : (owTo es nets k).length ≤ k := by
  unfold owTo
  exact Nat.le_trans (List.length_filter_le _ _) (by rw [List.length_take]; omega)
theorem fitI_eq (x y : Nl) (nets : List Int) : fitI x y nets = decide (srtD (mpTo x.ds nets x.ds.length) = srtD (owTo (y.ds.map nzD) nets (y.ds.map nzD).length)) := by
  unfold fitI mpTo owTo lowB amB
  rw [List.take_length, List.take_length]
theorem amB_any (nets : List Int) (d : Dv) : d.pins.any (fun p => !nets.contains p) = !amB nets d := by
  unfold amB
  induction d.pins with
  | nil => rfl
  | cons a l ih => rw [List.any_cons, List.all_cons, ih, Bool.not_and]
theorem lowB_max {n : Nat} {d : Dv} {m : Int} (h1 : m ∈ d.pins) (h2 : ∀ z ∈ d.pins, z ≤ m) : lowB n d = decide (m ≤ (n : Int) - 1) := by
  unfold lowB
  rw [Bool.eq_iff_iff, List.all_eq_true, decide_eq_true_iff]
  constructor
  · intro h
    have := h m h1
    simp at this
    omega
  · intro h p hp
    have := h2 p hp
    simp
    omega
theorem UsedB.drop {w : World} {g n k : Nat} {zs : List Int} (h : UsedB w g n (zs ++ [(k : Int)])) (hk : k < n) (hc : zs.contains (k : Int) = false) : UsedB (w.setCell ⟨g, k, none⟩ (.bool false)) g n zs := by
  obtain ⟨cs, a, b, c⟩ := h
  refine ⟨_, a.set k _, by simpa using b, fun j hj => ?_⟩
  by_cases e : j = k
  · subst e
    rw [Array.getElem?_setIfInBounds_self_of_lt (by omega), hc]
  · rw [Array.getElem?_setIfInBounds_ne (by omega), c j hj]
    congr 2
    rw [List.contains_eq_mem, List.contains_eq_mem]
    refine decide_eq_decide.2 ⟨fun h => ?_, fun h => List.mem_append.2 (.inl h)⟩
    rcases List.mem_append.1 h with h | h
    · exact h
    · rw [List.mem_singleton] at h; omega
def stG (x y : Nl) (col : Nat → Nat → Bool) (n : Nat) (one : Bool) (r : Nat) (nets : List Int) (k : Nat) : List (List Int) :=
  if (col nets.length k && (!nets.contains (k : Int) && fitB x y (nets ++ [(k : Int)]))) = true then srch (fitB x y) col n one r (nets ++ [(k : Int)]) else []
set_option maxRecDepth 100000 in
set_option maxHeartbeats 2000000 in
theorem fits1_any (M U q n p B : Nat) (na nb : Int) (A1 A2 B1 B2 C1 C2 D1 D2 DB NV Y PA PB : Value) (nets : List Int) (w : World) (kB : w.cell? ⟨B, 0, none⟩ = some (.pointer (some ⟨M, 0, none⟩))) (kM : w.cell? ⟨M, 12, none⟩ = some (.slice (some ⟨U, 0, none⟩) n n)) (hU : UsedB w U n nets) (hp : p < n) (hn : n ≤ 1000) :
    Calls Tryz.prog 159 #[.int .i64 (p : Int), .pointer (some ⟨B, 0, none⟩)] w fun e w' => e = .returned (.bool (!nets.contains (p : Int))) ∧ w' = w := by
  obtain ⟨cU, fU, lU⟩ := hU.cell hp
  obtain ⟨R, hR⟩ : ∃ R, nets.contains (p : Int) = R := ⟨_, rfl⟩
  rw [hR] at cU ⊢
  have i1 : (p : Int) < (n : Int) := by omega
  have i2 : decide (p < n) = true := decide_eq_true hp
  clear hU hR fU
  go_enter Tryz.func159, Tryz.ntmps159
  go_wp2
  go_ret
  exact ⟨rfl, rfl⟩
set_option maxRecDepth 100000 in
set_option maxHeartbeats 2000000 in
theorem fits2_any (W : World) (x y : Dv) (sx sy : Value) (hx : IntSl W sx x.pins) (hy : IntSl W sy y.pins) :
    Calls Tryz.prog 162 #[.agg #[.int .i64 x.kind, sx, .int .i64 x.wd, .int .i64 x.len], .agg #[.int .i64 y.kind, sy, .int .i64 y.wd, .int .i64 y.len]] W fun e w' => e = .returned (.bool (decide (x = y))) ∧ Below W.heap.size W w' := by
  have HC := Lib.hid (fun W h h' => compareDevices_any x.kind x.wd x.len y.kind y.wd y.len sx sy x.pins y.pins W h h')
  have HX := Lib.hid hx
  have HY := Lib.hid hy
  have HD := Lib.hid (show decide (x = y) = decide (devcmp x.kind y.kind x.pins y.pins x.wd y.wd x.len y.len = 0) from decide_eq_decide.2 dcf_zero.symm)
  generalize devcmp x.kind y.kind x.pins y.pins x.wd y.wd x.len y.len = R at *
  generalize decide (x = y) = D at *
  obtain ⟨kx, xs, wx, ox⟩ := x
  obtain ⟨ky, ys, wy, oy⟩ := y
  dsimp only at *
  obtain ⟨a, c, rfl⟩ := hx.len
  obtain ⟨a', c', rfl⟩ := hy.len
  generalize xs.length = n1 at *
  generalize ys.length = n2 at *
  clear hx hy
  go_enter Tryz.func162, Tryz.ntmps162
  go_wp2_with fail
  refine (HC.out _ (HX.out.by blwT) (HY.out.by blwT)).mono ?_
  rintro e w1 ⟨rfl, hb1⟩
  go_wp2
  go_ret
  exact ⟨ret_bool (by rw [HD.out, Bool.eq_iff_iff]; simp), blwT⟩
theorem Tr.map_push (L : List Tr) (x : Tr) : (L ++ [x]).map (·.1) = L.map (·.1) ++ [x.1] := by simp
set_option maxRecDepth 100000 in
set_option maxHeartbeats 16000000 in
theorem fits_any (x y : Nl) (nets : List Int) (M U q lo hi m : Nat) (na nb : Int) (A1 A2 B1 B2 C1 C2 D1 D2 DB NV Y PA PB : Value) (w : World) (kM : Blk w M #[.int .i64 na, A1, A2, .int .i64 nb, B1, B2, C1, C2, D1, D2, DB, NV, .slice (some ⟨U, 0, none⟩) q q, Y, PA, PB] 127) (hA : DvSl w A1 x.ds) (hDB : OwnDs w lo hi DB (y.ds.map nzD)) (hhi : hi ≤ w.heap.size) (hN : IntSl w NV nets) (hm : nets.length = m) (hU : UsedB w U q nets)
    (hx : ∀ d ∈ x.ds, 2 ≤ d.pins.length ∧ d.pins.length ≤ 3 ∧ ∀ p ∈ d.pins, 0 ≤ p) (hy : ∀ d ∈ y.ds.map nzD, d.pins.length ≤ 3 ∧ ∀ p ∈ d.pins, 0 ≤ p ∧ p < (q : Int)) (hlx : x.ds.length ≤ 10) (hly : y.ds.length ≤ 10) (hmq : m ≤ 24) (hq : q ≤ 24) :
    Calls Tryz.prog 134 #[.pointer (some ⟨M, 0, none⟩)] w fun e w' => e = .returned (.bool (fitI x y nets)) ∧ Below w.heap.size w w' := by
  rw [fitI_eq]
  have hly' : (y.ds.map nzD).length ≤ 10 := by rw [List.length_map]; exact hly
  generalize y.ds.map nzD = es at *
  obtain ⟨nx, ds, ps⟩ := x
  dsimp only at *
  have HA := Lib.hid hA
  have HDB := Lib.hid hDB
  have HN := Lib.hid hN
  have HU := Lib.hid hU
  have HXP := Lib.hid hx
  have HYP := Lib.hid hy
  obtain ⟨a1, c1, rfl⟩ := hA.sized
  obtain ⟨db, dc, rfl⟩ := hDB.sl.sized
  obtain ⟨an, cn, rfl⟩ := hN.len
  obtain ⟨l1, hl1⟩ : ∃ l, ds.length = l := ⟨_, rfl⟩
  obtain ⟨l2, hl2⟩ : ∃ l, es.length = l := ⟨_, rfl⟩
  rw [hm] at kM HN
  rw [hl1] at kM HA hlx ⊢
  rw [hl2] at kM HDB hly' ⊢
  have HL1 := Lib.hid hl1
  have HL2 := Lib.hid hl2
  have HM := Lib.hid hm
  have HMS := Lib.hid (fun k d h => @mpTo_step ds nets k d h)
  have HOS := Lib.hid (fun k d h => @owTo_step es nets k d h)
  have HML := Lib.hid (mpTo_len ds nets)
  have HOL := Lib.hid (owTo_len es nets)
  have HM0 := Lib.hid (show mpTo ds nets 0 = [] from rfl)
  have HO0 := Lib.hid (show owTo es nets 0 = [] from rfl)
  have HMP := Lib.hid (fun (d : Dv) sx w (h : IntSl w sx d.pins) hn a b c => mappedO_any d nets sx (.slice an m cn) w h hn a b c)
  have HMX := Lib.hid (fun sv zs w h a b => max_any sv zs w h a b)
  have HLB := Lib.hid (fun (d : Dv) (z : Int) a b => @lowB_max nets.length d z a b)
  rw [hm] at HLB HMS
  have HAM := Lib.hid (fun d => amB_any nets d)
  have egc : ∀ args w, (callFunc 159 args).run Tryz.prog w = .ok (.enter 159 args) w := enters_of Tryz.func159 (by kernel_rfl) rfl
  have HCF := Lib.hid (fun B (w : World) sv (zs : List Int) (h : IntSl w sv zs) (kB : w.cell? ⟨B, 0, none⟩ = some (.pointer (some ⟨M, 0, none⟩))) (kM : w.cell? ⟨M, 12, none⟩ = some (.slice (some ⟨U, 0, none⟩) q q)) (hU : UsedB w U q nets) (hz : ∀ z ∈ zs, 0 ≤ z ∧ z < (q : Int)) =>
    containsFuncI_any 159 #[.pointer (some ⟨B, 0, none⟩)] egc (fun z => !nets.contains z) sv zs w h (fun W z hb hz' => by
      obtain ⟨z0, z1⟩ := hz z hz'
      obtain ⟨zn, rfl⟩ : ∃ zn : Nat, z = zn := ⟨z.toNat, by omega⟩
      show Calls Tryz.prog 159 #[.int .i64 (zn : Int), .pointer (some ⟨B, 0, none⟩)] W _
      refine (fits1_any M U q q zn B na nb (.slice a1 l1 c1) A2 B1 B2 C1 C2 D1 D2 (.slice db l2 dc) (.slice an m cn) Y PA PB nets W (cell_by' hb kB) (cell_by' hb kM) (hU.by hb) (by omega) (by omega)).mono ?_
      rintro e w' ⟨rfl, rfl⟩
      exact ⟨rfl, Below.refl _ _⟩))
  have HSF := Lib.hid (fun g n c L w h hn => sortFuncD_any 62 #[] (fun _ _ => rfl) dcmp_impl g n c L w h hn)
  have HEF := Lib.hid (fun xs ys s1 s2 w h h' a b => equalFuncD_any 162 #[] (enters_of Tryz.func162 (by kernel_rfl) rfl) xs ys s1 s2 w h h' a b (fun W x y sx sy hx hy => fits2_any W x y sx sy hx hy))
  have hmf : ∀ (fn : Fn) (first cap : Array Value) (w : World), (Instr.makeFunc fn first cap).run Tryz.prog w = .ok (.func fn first cap) w := fun _ _ _ _ => rfl
  have HHI := Lib.hid hhi
  clear hA hDB hN hU hx hy hl1 hl2 hm hly egc hhi
  have kM0 : Blk ((w.alloc (.cells #[.pointer (some ⟨M, 0, none⟩)] 123)).alloc (.cells #[] 62)) M #[.int .i64 na, .slice a1 l1 c1, A2, .int .i64 nb, B1, B2, C1, C2, D1, D2, .slice db l2 dc, .slice an m cn, .slice (some ⟨U, 0, none⟩) q q, Y, PA, PB] 127 := (kM.past _).past _
  have kB0 : Blk ((w.alloc (.cells #[.pointer (some ⟨M, 0, none⟩)] 123)).alloc (.cells #[] 62)) w.heap.size #[.pointer (some ⟨M, 0, none⟩)] 123 := (Blk.new _ rfl).past _
  have kR0 : RB ((w.alloc (.cells #[.pointer (some ⟨M, 0, none⟩)] 123)).alloc (.cells #[] 62)) (w.heap.size + 1) 0 0 [] := RB.lit (Blk.new _ (by simp))
  have hM := kM.lt
  have cM := kM.cell
  go_enter Tryz.func134, Tryz.ntmps134
  go_wp2
  clear cM
  go_loopw [4, 23] (fun ov iv wr => ∃ (k g n c : Nat) (L : List Tr), k ≤ l1 ∧ ov = .slice (some ⟨g, 0, none⟩) n c ∧ iv = .int .i64 (k : Int) ∧ Hid (RB wr g n c L) ∧ n ≤ k ∧ Hid (L.map (·.1) = mpTo ds nets k) ∧ w.heap.size < g ∧ g < wr.heap.size ∧ Blk wr w.heap.size #[.pointer (some ⟨M, 0, none⟩)] 123 ∧ Below w.heap.size w wr) (fun _ iv _ => l1 - (intOf iv).toNat)
  case atStart => exact ⟨0, w.heap.size + 1, 0, 0, [], Nat.zero_le _, rfl, rfl, Lib.hid kR0, Nat.le_refl _, Lib.hid HM0.out.symm, by omega, by simp, kB0, blwT⟩
  case round =>
    clear kM0 kB0 kR0
    obtain ⟨k, g, n, c, L, hk, rfl, rfl, HR, hnk, HL, hg, hgs, kB, hb⟩ := hrel
    have kMr := Blk.by hb kM
    by_cases hlt : k < l1
    · obtain ⟨d, hd⟩ : ∃ d, ds[k]? = some d := ⟨_, List.getElem?_eq_getElem (by rw [HL1.out]; exact hlt)⟩
      have hdp := HXP.out d (List.mem_of_getElem? hd)
      have HST := Lib.hid (HMS.out k d hd)
      rcases HA.out with ⟨_, _, _, h2⟩ | ⟨xb, xo, xc, he, _, _, h4⟩
      · rw [h2] at hd; simp at hd
      obtain ⟨rfl, rfl⟩ : a1 = some ⟨xb, xo, none⟩ ∧ c1 = xc := by
        simp only [Value.slice.injEq] at he
        exact ⟨he.1, he.2.2⟩
      obtain ⟨sx, x1, x2, x3, x4, x5⟩ := (h4 k d hd).by hb
      obtain ⟨px, cx, rfl⟩ := x5.len
      have HDP := Lib.hid hdp
      have HX5 := Lib.hid x5
      have HLBD := Lib.hid (fun z => HLB.out d z)
      obtain ⟨kd, pins, wd, ln⟩ := d
      dsimp only at *
      obtain ⟨P, hP⟩ : ∃ P, pins.length = P := ⟨_, rfl⟩
      rw [hP] at x2 HX5
      have HPL := Lib.hid hP
      have i1 : (k : Int) < (l1 : Int) := by omega
      have i2 : decide (k < l1) = true := decide_eq_true hlt
      have lx := lt_of_cell x1
      dsimp only at lx
      have cB := kB.cell
      have lB := kB.lt
      have cMr := kMr.cell
      have lMr := kMr.lt
      clear hd he h4 x5 hP hdp
      have hl3 : P ≤ 3 := by have := HDP.out.2.1; rw [HPL.out] at this; exact this
      go_wp2_with fail
      refine (HMX.out _ _ _ (HX5.out.by blwT) (fun e => by have h := HPL.out; have h' := HDP.out.1; rw [e] at h'; simp at h') (by rw [HPL.out]; omega)).mono ?_
      rintro e w1 ⟨mx, rfl, hm1, hm2, rfl⟩
      have HB1 := Lib.hid (HLBD.out mx hm1 hm2)
      have HLW := Lib.hid (show mx ≤ (m : Int) - 1 → ∀ z ∈ pins, 0 ≤ z ∧ z < (m : Int) from fun h z hz => by
        have h1 := hm2 z hz
        have h2 := HDP.out.2.2 z hz
        exact ⟨h2, by omega⟩)
      obtain ⟨wE, hwE⟩ : ∃ z : World, z = wr.alloc (.cells #[.int .i64 kd, .slice px P cx, .int .i64 wd, .int .i64 ln] 62) := ⟨_, rfl⟩
      have kD : Blk wE wr.heap.size #[.int .i64 kd, .slice px P cx, .int .i64 wd, .int .i64 ln] 62 := by rw [hwE]; exact Blk.new _ rfl
      have hbE : Below wr.heap.size wr wE := by rw [hwE]; exact (Below.refl _ wr).alloc (Nat.le_refl _) _
      have hsE : wr.heap.size < wE.heap.size := by rw [hwE]; simp
      (try rw [← hwE])
      have kBE := Blk.by hbE kB
      have kME := Blk.by hbE kMr
      have HRE := Lib.hid (HR.out.by hbE)
      have hbEw := below_on hbE hb
      clear hwE hm1 hm2 x1 x2 x3 x4 lx cB lB cMr lMr HMX
      by_cases hmx : mx ≤ (m : Int) - 1
      · have HB2 := HB1.out
        rw [decide_eq_true hmx] at HB2
        rw [HB2, if_pos rfl] at HST
        have HLW2 := Lib.hid (HLW.out hmx)
        clear HB2 HLW HLBD HB1
        go_upto_region 7 with fail
        have hS : (fun w' : World => Blk w' wr.heap.size #[.int .i64 kd, .slice px P cx, .int .i64 wd, .int .i64 ln] 62 ∧ Blk w' w.heap.size #[.pointer (some ⟨M, 0, none⟩)] 123 ∧ Blk w' M #[.int .i64 na, .slice (some ⟨xb, xo, none⟩) l1 c1, A2, .int .i64 nb, B1, B2, C1, C2, D1, D2, .slice db l2 dc, .slice an m cn, .slice (some ⟨U, 0, none⟩) q q, Y, PA, PB] 127) { wE with drawn := wE.drawn + 1 } := ⟨kD.drew, kBE.drew, kME.drew⟩
        refine wp_region_any (by kernel_rfl) (wpAny_of_E (S := fun w' : World => Blk w' wr.heap.size #[.int .i64 kd, .slice px P cx, .int .i64 wd, .int .i64 ln] 62 ∧ Blk w' w.heap.size #[.pointer (some ⟨M, 0, none⟩)] 123 ∧ Blk w' M #[.int .i64 na, .slice (some ⟨xb, xo, none⟩) l1 c1, A2, .int .i64 nb, B1, B2, C1, C2, D1, D2, .slice db l2 dc, .slice an m cn, .slice (some ⟨U, 0, none⟩) q q, Y, PA, PB] 127) (l := 9) _ _ _ _ ?_)
        change wpAnyE _ _ _ _ _ _ _ _ _ wE.drew
        refine wpAnyE_takeL (i := 0) (v := ?_) rfl (by kernel_rfl) (fun _ _ _ h => h) (Or.inl ⟨by rfl, ?_⟩) hS ?_
        rotate_left
        · intro w hSw; (try dsimp only at hSw); have qD := hSw.1.cell; have qB := hSw.2.1.cell; have qM := hSw.2.2.cell; have lD := hSw.1.lt; have lB := hSw.2.1.lt; have lM := hSw.2.2.lt; clear hSw; go_simp; (try with_reducible rfl)
        try simp only [Act.put, List.setIfInBounds_toArray, List.set_cons_zero, List.set_cons_succ]
        refine wpAnyE_takeL (i := 1) (v := ?_) rfl (by kernel_rfl) (fun _ _ _ h => h) (Or.inl ⟨by rfl, ?_⟩) hS ?_
        rotate_left
        · intro w hSw; (try dsimp only at hSw); have qD := hSw.1.cell; have qB := hSw.2.1.cell; have qM := hSw.2.2.cell; have lD := hSw.1.lt; have lB := hSw.2.1.lt; have lM := hSw.2.2.lt; clear hSw; go_simp; (try with_reducible rfl)
        try simp only [Act.put, List.setIfInBounds_toArray, List.set_cons_zero, List.set_cons_succ]
        refine wpAnyE_takeL (i := 2) (v := ?_) rfl (by kernel_rfl) (fun _ _ _ h => h) (Or.inl ⟨by rfl, ?_⟩) hS ?_
        rotate_left
        · intro w hSw; (try dsimp only at hSw); have qD := hSw.1.cell; have qB := hSw.2.1.cell; have qM := hSw.2.2.cell; have lD := hSw.1.lt; have lB := hSw.2.1.lt; have lM := hSw.2.2.lt; clear hSw; go_simp; (try with_reducible rfl)
        try simp only [Act.put, List.setIfInBounds_toArray, List.set_cons_zero, List.set_cons_succ]
        refine wpAnyE_takeL (i := 3) (v := ?_) rfl (by kernel_rfl) (fun _ _ _ h => h) (Or.inl ⟨by rfl, ?_⟩) hS ?_
        rotate_left
        · intro w hSw; (try dsimp only at hSw); have qD := hSw.1.cell; have qB := hSw.2.1.cell; have qM := hSw.2.2.cell; have lD := hSw.1.lt; have lB := hSw.2.1.lt; have lM := hSw.2.2.lt; clear hSw; go_simp; (try with_reducible rfl)
        try simp only [Act.put, List.setIfInBounds_toArray, List.set_cons_zero, List.set_cons_succ]
        refine wpAnyE_takeL (i := 4) (v := ?_) rfl (by kernel_rfl) (fun _ _ _ h => h) (Or.inl ⟨by rfl, ?_⟩) hS ?_
        rotate_left
        · intro w hSw; (try dsimp only at hSw); have qD := hSw.1.cell; have qB := hSw.2.1.cell; have qM := hSw.2.2.cell; have lD := hSw.1.lt; have lB := hSw.2.1.lt; have lM := hSw.2.2.lt; clear hSw; go_simp; (try with_reducible rfl)
        try simp only [Act.put, List.setIfInBounds_toArray, List.set_cons_zero, List.set_cons_succ]
        refine wpAnyE_takeL (i := 5) (v := ?_) rfl (by kernel_rfl) (fun _ _ _ h => h) (Or.inl ⟨by rfl, ?_⟩) hS ?_
        rotate_left
        · intro w hSw; (try dsimp only at hSw); have qD := hSw.1.cell; have qB := hSw.2.1.cell; have qM := hSw.2.2.cell; have lD := hSw.1.lt; have lB := hSw.2.1.lt; have lM := hSw.2.2.lt; clear hSw; go_simp; (try with_reducible rfl)
        try simp only [Act.put, List.setIfInBounds_toArray, List.set_cons_zero, List.set_cons_succ]
        refine wpAnyE_oneL (k := 6) (by kernel_rfl) rfl (fun K hK => ?_)
        go_simp
        go_at_call 67
        refine (HMP.out ⟨kd, pins, wd, ln⟩ (.slice px P cx) wE.drew ((HX5.out.by hbE).by (below_of_drewN wE 1)) ((HN.out.by hbEw).by (below_of_drewN wE 1)) (by dsimp only; rw [HPL.out]; exact hl3) (fun e => by have h' := HDP.out.1; dsimp only at e; rw [e] at h'; simp at h') (by dsimp only; rw [HM.out]; exact HLW2.out)).mono ?_
        rintro e w3 ⟨v3, rfl, hO3, hb3⟩
        have hb3E : Below wE.heap.size wE w3 := below_on hb3 (below_of_drewN wE 1)
        have kD3 := Blk.by hb3E kD
        have kB3 := Blk.by hb3E kBE
        have kM3 := Blk.by hb3E kME
        have hs3 := hb3E.size
        obtain ⟨f, hf1, hf2, hOf⟩ := OwnI.pin hO3 (fun e => by have h' := congrArg List.length e; rw [length_normz, List.length_map] at h'; dsimp only at h'; have := HDP.out.1; rw [HPL.out] at this h'; simp at h'; omega)
        have hf3 : wE.heap.size ≤ f := hf1
        dsimp only at hOf ⊢
        have HOF := Lib.hid hOf
        clear hS hO3 hOf hb3 hf1
        refine hK.out _ _ (fun _ => ⟨kD3, kB3, kM3⟩) ?_
        try simp only [Act.put, List.setIfInBounds_toArray, List.set_cons_zero, List.set_cons_succ]
        refine wpAnyE_oneL (k := 7) (by kernel_rfl) rfl (fun K hK => ?_)
        go_simp
        have kZ4 : Blk (w3.alloc (.cells #[.int .i64 kd, v3, .int .i64 wd, .int .i64 ln] 62)) w3.heap.size #[.int .i64 kd, v3, .int .i64 wd, .int .i64 ln] 62 := Blk.new _ rfl
        have hb4 : Below w3.heap.size w3 (w3.alloc (.cells #[.int .i64 kd, v3, .int .i64 wd, .int .i64 ln] 62)) := (Below.refl _ w3).alloc (Nat.le_refl _) _
        have hs4 : w3.heap.size < (w3.alloc (.cells #[.int .i64 kd, v3, .int .i64 wd, .int .i64 ln] 62)).heap.size := by simp
        have kD4 := Blk.by hb4 kD3
        have kB4 := Blk.by hb4 kB3
        have kM4 := Blk.by hb4 kM3
        have HOF4 := Lib.hid (OwnR.by hb4 HOF.out)
        have HR4 := Lib.hid ((HRE.out.by hb3E).by hb4)
        have hb4w := below_on hb4 (below_on hb3E hbEw)
        obtain ⟨Z4, hZ4⟩ : ∃ Z, w3.heap.size = Z := ⟨_, rfl⟩
        rw [hZ4] at kZ4 hs4 hs3 hf2 ⊢
        clear HOF hb4 hb3E kD3 kB3 kM3
        generalize w3.alloc (.cells #[.int .i64 kd, v3, .int .i64 wd, .int .i64 ln] 62) = w4 at *
        refine hK.out _ _ (fun _ => ⟨kD4, kB4, kM4⟩) ?_
        try simp only [Act.put, List.setIfInBounds_toArray, List.set_cons_zero, List.set_cons_succ]
        refine wpAnyE_oneL (k := 8) (by kernel_rfl) rfl (fun K hK => ?_)
        refine step_pushR (by rfl) _ _ (by rfl) g n c L (by rfl) HR4.out Z4 ⟨kd, normz kd (pins.map (nmOf nets)), wd, ln⟩ v3 f (by rfl) kZ4 HOF4.out (by omega) (by omega) (by omega) ?_
        intro g5 c5 w5 hR5 hgr hg5
        have hE5 := grown_exc hgr
        have kD5 := hE5.blk kD4 (show ¬ wr.heap.size = g by omega)
        have kB5 := hE5.blk kB4 (show ¬ w.heap.size = g by omega)
        have kM5 := hE5.blk kM4 (show ¬ M = g by omega)
        have hb5w : Below w.heap.size w w5 := hE5.below hb4w (fun q hq (e : q = g) => by omega)
        have hs5 := hE5.size
        have HR5 := Lib.hid hR5
        have hg5' : w.heap.size < g5 ∧ g5 < w5.heap.size := ⟨by omega, hR5.2.2.1⟩
        clear hR5 hgr hE5 kD4 kB4 kM4 hb4w
        refine hK.out _ _ (fun _ => ⟨kD5, kB5, kM5⟩) ?_
        try simp only [Act.put, List.setIfInBounds_toArray, List.set_cons_zero, List.set_cons_succ]
        refine wpAnyE_oneL (k := 9) (by kernel_rfl) rfl (fun K hK => ?_)
        go_simp
        refine hK.out _ _ (fun h => absurd rfl h) ?_
        refine wpAnyE_done (by kernel_rfl) ?_ _
        clear HR4 HRE HOF4
        go_wp2
        exact ⟨⟨k + 1, g5, n + 1, c5, L ++ [(⟨kd, normz kd (pins.map (nmOf nets)), wd, ln⟩, v3, f)], by omega, by rfl, by go_num, HR5, by omega, Lib.hid (by rw [HST.out, Tr.map_push, HL.out]; rfl), hg5'.1, hg5'.2, kB5, hb5w⟩, by simp [intOf]; omega⟩
      · have HB2 := HB1.out
        rw [decide_eq_false hmx] at HB2
        rw [HB2, if_neg (by simp), List.append_nil] at HST
        have hmx' : (m : Int) - 1 < mx := by omega
        clear HB2 HLW HLBD HB1
        go_wp2
        exact ⟨⟨k + 1, g, n, c, L, by omega, by rfl, by go_num, HRE, by omega, Lib.hid (by rw [HST.out]; exact HL.out), by omega, by omega, kBE, hbEw⟩, by simp [intOf]; omega⟩
    · obtain rfl : l1 = k := by omega
      have i1 : ¬ (l1 : Int) < (l1 : Int) := by omega
      have cB := kB.cell
      have lB := kB.lt
      have cMr := kMr.cell
      have lMr := kMr.lt
      have hnl : n ≤ 10 := by omega
      obtain ⟨wo, rfl⟩ : ∃ z : World, z = wr := ⟨_, rfl⟩
      have kR20 : RB (wo.alloc (.cells #[] 62)) wo.heap.size 0 0 [] := RB.lit (Blk.new _ rfl)
      have hLw : ∀ t ∈ L, t.2.2 < wo.heap.size := fun t ht => (HR.out.2.2.2 t ht).2.1
      have HLW := Lib.hid hLw
      clear hLw
      go_wp2
      clear cB lB cMr lMr
      go_loopw [7, 48] (fun ov iv wr => ∃ (k g2 n2 c2 : Nat) (L2 : List Tr), k ≤ l2 ∧ ov = .slice (some ⟨g2, 0, none⟩) n2 c2 ∧ iv = .int .i64 (k : Int) ∧ Hid (RB wr g2 n2 c2 L2) ∧ n2 ≤ k ∧ Hid (L2.map (·.1) = owTo es nets k) ∧ wo.heap.size ≤ g2 ∧ g2 < wr.heap.size ∧ Hid (∀ t ∈ L2, t.2.2 < w.heap.size) ∧ Blk wr w.heap.size #[.pointer (some ⟨M, 0, none⟩)] 123 ∧ Below wo.heap.size wo wr) (fun _ iv _ => l2 - (intOf iv).toNat)
      case atStart => exact ⟨0, wo.heap.size, 0, 0, [], Nat.zero_le _, rfl, rfl, Lib.hid kR20, Nat.le_refl _, Lib.hid HO0.out.symm, Nat.le_refl _, by simp, Lib.hid (by simp), kB.past _, blwT⟩
      case round =>
        clear kR20 kB kMr
        obtain ⟨k, g2, n2, c2, L2, hk, rfl, rfl, HR2, hnk2, HL2', hg2, hgs2, HT2, kB, hbo⟩ := hrel
        have hbw := below_on hbo hb
        have kMr := Blk.by hbw kM
        by_cases hlt : k < l2
        · obtain ⟨d, hd⟩ : ∃ d, es[k]? = some d := ⟨_, List.getElem?_eq_getElem (by rw [HL2.out]; exact hlt)⟩
          have hdp := HYP.out d (List.mem_of_getElem? hd)
          have HST := Lib.hid (HOS.out k d hd)
          obtain ⟨gd, gc, f, pv, hex, lx, x1, x2, x3, x4, hOR, hf1, hf2⟩ := OwnDs.atE (HDB.out.by hbw) hd
          obtain ⟨rfl, rfl⟩ : db = some ⟨gd, 0, none⟩ ∧ dc = gc := by
            simp only [Value.slice.injEq] at hex
            exact ⟨hex.1, hex.2.2⟩
          have hfw : f < w.heap.size := by have := HHI.out; omega
          have HAMD := Lib.hid (HAM.out d)
          have HDP := Lib.hid hdp
          have HOR := Lib.hid hOR
          obtain ⟨px, cx, rfl⟩ := hOR.sl.len
          obtain ⟨kd, pins, wd, ln⟩ := d
          dsimp only at *
          obtain ⟨P, hP⟩ : ∃ P, pins.length = P := ⟨_, rfl⟩
          rw [hP] at x2 HOR
          have HPL := Lib.hid hP
          have i1 : (k : Int) < (l2 : Int) := by omega
          have i2 : decide (k < l2) = true := decide_eq_true hlt
          have cB := kB.cell
          have lB := kB.lt
          obtain ⟨AB, hAB⟩ : ∃ A, amB nets ⟨kd, pins, wd, ln⟩ = A := ⟨_, rfl⟩
          rw [hAB] at HAMD HST
          clear hd hex hP hdp hOR hAB
          go_wp2_with fail
          obtain ⟨wE, hwE⟩ : ∃ z : World, z = wr.alloc (.cells #[.int .i64 kd, .slice px P cx, .int .i64 wd, .int .i64 ln] 62) := ⟨_, rfl⟩
          have kD : Blk wE wr.heap.size #[.int .i64 kd, .slice px P cx, .int .i64 wd, .int .i64 ln] 62 := by rw [hwE]; exact Blk.new _ rfl
          have hbE : Below wr.heap.size wr wE := by rw [hwE]; exact (Below.refl _ wr).alloc (Nat.le_refl _) _
          have hsE : wr.heap.size < wE.heap.size := by rw [hwE]; simp
          (try rw [← hwE])
          have kBE := Blk.by hbE kB
          have kME := Blk.by hbE kMr
          have HRE := Lib.hid (HR2.out.by hbE)
          have hbEo := below_on hbE hbo
          have hbEw := below_on hbE hbw
          have HORE := Lib.hid (OwnR.by hbE HOR.out)
          clear hwE x1 x2 x3 x4 cB lB HOR
          refine (HCF.out w.heap.size wE (.slice px P cx) pins HORE.out.sl (kBE.cell 0) (kME.cell 12) (HU.out.by hbEw) HDP.out.2).mono ?_
          rintro e w1 ⟨rfl, hb1⟩
          rw [HAMD.out]
          have kD1 := Blk.by hb1 kD
          have kB1 := Blk.by hb1 kBE
          have HR1 := Lib.hid (HRE.out.by hb1)
          have HOR1 := Lib.hid (OwnR.by hb1 HORE.out)
          have hb1o := below_on hb1 hbEo
          have hs1 := hb1.size
          have qD := kD1.cell
          have lD := kD1.lt
          clear hb1 kD kBE kME HRE HORE hbEo hbEw hbE
          cases AB with
          | true =>
            rw [if_pos rfl] at HST
            have kZ2 : Blk (w1.alloc (.cells #[.int .i64 kd, .slice px P cx, .int .i64 wd, .int .i64 ln] 62)) w1.heap.size #[.int .i64 kd, .slice px P cx, .int .i64 wd, .int .i64 ln] 62 := Blk.new _ rfl
            have hb2 : Below w1.heap.size w1 (w1.alloc (.cells #[.int .i64 kd, .slice px P cx, .int .i64 wd, .int .i64 ln] 62)) := (Below.refl _ w1).alloc (Nat.le_refl _) _
            have HR2b := Lib.hid (HR1.out.by hb2)
            have HOR2 := Lib.hid (OwnR.by hb2 HOR1.out)
            have kB2 := Blk.by hb2 kB1
            have hb2o := below_on hb2 hb1o
            have hso := hbo.size
            have hsw := hb.size
            go_wp2_with (refine list_pushR (by rfl) _ _ (by rfl) g2 n2 c2 L2 (by rfl) HR2b.out w1.heap.size ⟨kd, pins, wd, ln⟩ (.slice px P cx) f (by rfl) kZ2 HOR2.out (by simp; omega) (by omega) (by omega) ?_; intro g5 c5 w5 hR5 hgr hg5; have hE5 := grown_exc hgr; have kB5 := hE5.blk kB2 (show ¬ w.heap.size = g2 by omega); have hb5o : Below wo.heap.size wo w5 := hE5.below hb2o (fun q hq (e : q = g2) => by omega); have HR5 := Lib.hid hR5; have hg5' : wo.heap.size ≤ g5 ∧ g5 < w5.heap.size := ⟨by (try simp only [World.size_alloc] at hg5); omega, hR5.2.2.1⟩; clear hR5 hgr hE5)
            exact ⟨⟨k + 1, g5, n2 + 1, c5, L2 ++ [(⟨kd, pins, wd, ln⟩, .slice px P cx, f)], by omega, by rfl, by go_num, HR5, by omega, Lib.hid (by rw [HST.out, Tr.map_push, HL2'.out]), hg5'.1, hg5'.2, Lib.hid (fun t ht => by
              rcases List.mem_append.1 ht with ht | ht
              · exact HT2.out t ht
              · rw [List.mem_singleton] at ht; rw [ht]; exact hfw), kB5, hb5o⟩, by simp [intOf]; omega⟩
          | false =>
            rw [if_neg (by simp), List.append_nil] at HST
            go_wp2
            exact ⟨⟨k + 1, g2, n2, c2, L2, by omega, by rfl, by go_num, HR1, by omega, Lib.hid (by rw [HST.out]; exact HL2'.out), by omega, by omega, HT2, kB1, hb1o⟩, by simp [intOf]; omega⟩
        · obtain rfl : l2 = k := by omega
          have i1 : ¬ (l2 : Int) < (l2 : Int) := by omega
          have hso := hbo.size
          have hsw := hb.size
          have HRz := Lib.hid (HR.out.by hbo)
          obtain ⟨_, _, hnc1, hcm1, _⟩ := HR.out.cells
          obtain ⟨_, _, hnc2, hcm2, _⟩ := HR2.out.cells
          go_wp2_with fail
          refine (HSF.out g n c L _ HRz.out (by omega)).mono ?_
          rintro e w1 ⟨rfl, ⟨d1, hD1, hz1, hm1, hp1⟩, hW1⟩
          have hE1 : Exc (fun k => k = g) wr w1 := Exc.ofWithin hW1 (fun q h1 h2 => by omega)
          have HR3 := Lib.hid (RB.exc hE1 HR2.out (show ¬ g2 = g by omega) (fun t ht (e : t.2.2 = g) => by have := HT2.out t ht; omega))
          have hb1o : Below wo.heap.size wo w1 → True := fun _ => trivial
          have hb1w : Below w.heap.size w w1 := hE1.below hbw (fun q hq (e : q = g) => by omega)
          have HD1 := Lib.hid hD1
          have HZ1 := Lib.hid hz1
          have HM1 := Lib.hid hm1
          have HP1 := Lib.hid hp1
          clear hD1 hz1 hm1 hp1 hW1 hE1 hb1o
          go_wp2_with fail
          refine (HSF.out g2 n2 c2 L2 _ HR3.out (by omega)).mono ?_
          rintro e w2 ⟨rfl, ⟨d2, hD2, hz2, hm2, hp2⟩, hW2⟩
          have hE2 : Exc (fun k => k = g2) w1 w2 := Exc.ofWithin hW2 (fun q h1 h2 => by omega)
          have hD1 := DRow.exc hE2 HD1.out (show ¬ g = g2 by omega) (fun q hq (e : q = g2) => by
            obtain ⟨t, ht, e2⟩ := List.mem_map.1 (HP1.out q hq)
            have := HLW.out t ht
            (try dsimp only at e2)
            omega)
          have hb2w : Below w.heap.size w w2 := hE2.below hb1w (fun q hq (e : q = g2) => by omega)
          have hS1 := hD1.sl (cap := c) (by rw [HZ1.out]; exact hnc1) hcm1
          have hS2 := hD2.sl (cap := c2) (by rw [hz2]; exact hnc2) hcm2
          rw [HZ1.out, HM1.out] at hS1
          rw [hz2, hm2] at hS2
          have HS1 := Lib.hid hS1
          have HS2 := Lib.hid hS2
          clear hE2 hD1 hS1 hS2 hD2 hz2 hm2 hp2 hW2
          go_wp2_with fail
          refine (HEF.out _ _ _ _ _ HS1.out HS2.out (by rw [length_srtD, List.length_map, HR.out.2.1]; omega) (by rw [length_srtD, List.length_map, HR2.out.2.1]; omega)).mono ?_
          rintro e w3 ⟨rfl, hb3⟩
          have hb3w := below_on hb3 hb2w
          go_wp2
          go_ret
          exact ⟨ret_bool (by rw [HL.out, HL2'.out]), hb3w⟩
theorem list_pushG2 {ops : Array Oper} {rest : List Oper} {o : Oper} {a : Act} {w : World} {Q : Exit → Act → World → Prop} (hgd : o.guard = none) (s x : Operand)
    (ho : o.op = .call { callee := .builtin .append, args := #[s, x], argTypes := #[27, 27] })
    (lo hi N : Nat) (v : Value) (zs : List Int) (hN : zs.length = N) (d : Int) (hs : a.eval s = v) (hB : BldI w lo hi v zs) (nb : Nat) (hx : a.eval x = .slice (some ⟨nb, 0, none⟩) 1 1)
    (hnb : Blk w nb #[.int .i64 d] 2) (hlo : lo ≤ hi) (hn : N + 1 ≤ 8000000)
    (hK : ∀ g c' w', BldI w' lo w'.heap.size (.slice (some ⟨g, 0, none⟩) (N + 1) c') (zs ++ [d]) → Within lo hi w w' → wpList Tryz.prog ops Q rest (a.put o.dst (.slice (some ⟨g, 0, none⟩) (N + 1) c')) w') : wpList Tryz.prog ops Q (o :: rest) a w := by
  subst hN
  exact wpList_plain hgd fun K hk => by
    have h := step_pushG (ops := ops) (K := K) (Q := Q) (E := False) hgd s x ho lo hi v zs [d] hs hB nb 1 #[.int .i64 d] hx rfl (by omega) hnb rfl hlo hn (fun a' c' w' h1 h2 h3 h4 => hk _ _ (hK a' c' w' h1 h4))
    rwa [if_pos (by simp [Region.wanted, hgd])] at h
theorem BldI.some {w : World} {lo hi m : Nat} {v : Value} {zs : List Int} {d : Int} (h : BldI w lo hi v (zs ++ [d])) (hm : zs.length = m) : ∃ g c, v = .slice (some ⟨g, 0, none⟩) (m + 1) c ∧ m + 1 ≤ c ∧ c ≤ maxLen := by
  obtain ⟨hs, ⟨h1, h2⟩, h3⟩ := h
  rw [List.length_append, hm] at h2
  rcases h2 with ⟨_, h2⟩ | ⟨g, cap, cur, e1, e2, e3, e4, e5, _⟩
  · simp at h2
  · exact ⟨g, cap, e1, e4, e5⟩
theorem nz_pins {n : Int} {d : Dv} (h : dvB n d = true) : (nzD d).pins.length ≤ 3 ∧ ∀ p ∈ (nzD d).pins, 0 ≤ p ∧ p < n := by
  have h1 := dvB_pins h
  refine ⟨by show (normz d.kind d.pins).length ≤ 3; rw [length_normz]; exact h1.1, ?_⟩
  have h2 := nz_all (fun p => decide (0 ≤ p ∧ p < n)) (dvB_Two h)
  have h3 : d.pins.all (fun p => decide (0 ≤ p ∧ p < n)) = true := List.all_eq_true.2 (fun p hp => decide_eq_true (h1.2.2 p hp))
  rw [h3] at h2
  intro p hp
  exact of_decide_eq_true (List.all_eq_true.1 h2 p hp)
def EB (M U : Nat) (Y : Nat → Prop) (b : Nat) : Prop := b = M ∨ b = U ∨ Y b
structure RunC (x y : Nl) (cx cy : List Int) (one : Bool) (n J M U NA NB lo hi gY : Nat) (A1 A2 B1 B2 C1 C2 D1 D2 DB : Value) (nb : Int) (lbY : Array Value) (Y : Nat → Prop) (Yd : List (List Int) → World → Prop) (wJ : World) : Prop where
  hx : nlB x = true
  hy : nlB y = true
  hxy : y.nets = x.nets
  hpl : y.ps.length = x.ps.length
  hnn : x.nets = n
  hlx : x.ds.length ≤ 10
  hly : y.ds.length ≤ 10
  hJ : wJ.heap.size = J
  hMJ : M < J
  hUJ : U < J
  hMU : M ≠ U
  hYM : ¬ Y M
  hYU : ¬ Y U
  hYJ : ∀ b, Y b → b < J
  hlo : hi ≤ J
  hA : ∀ w, Exc (EB M U Y) wJ w → DvSl w A1 x.ds
  hcx : cx.length = n
  hcy : cy.length = n
  hCA : ∀ w, Exc (EB M U Y) wJ w → IntSl w C1 cx
  hCB : ∀ w, Exc (EB M U Y) wJ w → IntSl w D1 cy
  hD : ∀ w, Exc (EB M U Y) wJ w → OwnDs w lo hi DB (y.ds.map nzD)
  hPA : ∀ w, Exc (EB M U Y) wJ w → ∀ k : Nat, k < n → ∃ s, w.cell? ⟨NA, k, none⟩ = some s ∧ IntSl w s (portTo x.ps (k : Int) x.ps.length)
  hPB : ∀ w, Exc (EB M U Y) wJ w → ∀ k : Nat, k < n → ∃ s, w.cell? ⟨NB, k, none⟩ = some s ∧ IntSl w s (portTo y.ps (k : Int) y.ps.length)
  eg : ∀ args w, (callFunc gY args).run Tryz.prog w = .ok (.enter gY args) w
  hY : ∀ (zs : List (List Int)) (z : List Int) (sv : Value) (w : World), Yd zs w → (one = true → zs = []) → Exc (EB M U Y) wJ w → IntSl w sv z → goodN n z → z.length = n → fitB x y z = true → Calls Tryz.prog gY (#[sv] ++ lbY) w fun e w' => e = .returned (.bool (!one)) ∧ Yd (zs ++ [z]) w' ∧ Exc Y w w'
  hYs : ∀ (zs : List (List Int)) (w w' : World), Yd zs w → (one = true → zs = []) → Exc (fun b => b = M ∨ b = U ∨ J ≤ b) w w' → Yd zs w'
def stopB (one : Bool) (l : List (List Int)) : Bool := one && !l.isEmpty
def RunOk (x y : Nl) (cx cy : List Int) (one : Bool) (n J M U NA NB lo hi gY : Nat) (A1 A2 B1 B2 C1 C2 D1 D2 DB : Value) (nb : Int) (lbY : Array Value) (Y : Nat → Prop) (Yd : List (List Int) → World → Prop) (wJ : World) (r : Nat) : Prop :=
  ∀ (nets : List Int) (zs : List (List Int)) (NV : Value) (w : World), Blk w M #[.int .i64 (n : Int), A1, A2, .int .i64 nb, B1, B2, C1, C2, D1, D2, DB, NV, .slice (some ⟨U, 0, none⟩) n n, .func (.func gY) #[] lbY, .slice (some ⟨NA, 0, none⟩) n n, .slice (some ⟨NB, 0, none⟩) n n] 127 → BldI w J w.heap.size NV nets → UsedB w U n nets → Exc (EB M U Y) wJ w → Yd zs w → (one = true → zs = []) → goodN n nets → nets.length + r = n → fitB x y nets = true →
    Calls Tryz.prog 94 #[.pointer (some ⟨M, 0, none⟩)] w fun e w' => e = .returned (.bool (!stopB one (srch (fitB x y) (colB cx cy) n one r nets))) ∧ Yd (zs ++ srch (fitB x y) (colB cx cy) n one r nets) w' ∧ Exc (EB M U Y) wJ w' ∧
      (stopB one (srch (fitB x y) (colB cx cy) n one r nets) = false → ∃ NV', Blk w' M #[.int .i64 (n : Int), A1, A2, .int .i64 nb, B1, B2, C1, C2, D1, D2, DB, NV', .slice (some ⟨U, 0, none⟩) n n, .func (.func gY) #[] lbY, .slice (some ⟨NA, 0, none⟩) n n, .slice (some ⟨NB, 0, none⟩) n n] 127 ∧ BldI w' J w'.heap.size NV' nets ∧ UsedB w' U n nets)
set_option maxRecDepth 100000 in
set_option maxHeartbeats 16000000 in
theorem run_step (x y : Nl) (cx cy : List Int) (one : Bool) (n J M U NA NB lo hi gY : Nat) (A1 A2 B1 B2 C1 C2 D1 D2 DB : Value) (nb : Int) (lbY : Array Value) (Y : Nat → Prop) (Yd : List (List Int) → World → Prop) (wJ : World) (C : RunC x y cx cy one n J M U NA NB lo hi gY A1 A2 B1 B2 C1 C2 D1 D2 DB nb lbY Y Yd wJ) (r : Nat) (ih : ∀ q, r = q + 1 → RunOk x y cx cy one n J M U NA NB lo hi gY A1 A2 B1 B2 C1 C2 D1 D2 DB nb lbY Y Yd wJ q) : RunOk x y cx cy one n J M U NA NB lo hi gY A1 A2 B1 B2 C1 C2 D1 D2 DB nb lbY Y Yd wJ r := by
  intro nets zs NV w hM hB hU hE hY hone hg hl hfit
  have HC := Lib.hid C
  have hMJ := C.hMJ
  have hUJ := C.hUJ
  have hMU := C.hMU
  have HB := Lib.hid hB
  have HU := Lib.hid hU
  have HE := Lib.hid hE
  have HY := Lib.hid hY
  have HO := Lib.hid hone
  have HG := Lib.hid hg
  have HF := Lib.hid hfit
  have hn24 : n ≤ 24 := by have := (nlB_facts C.hx).1; have := C.hnn; omega
  obtain ⟨an, cn, rfl⟩ := hB.sized
  obtain ⟨m, hm⟩ : ∃ m, nets.length = m := ⟨_, rfl⟩
  rw [hm] at hM HB hl
  have HM := Lib.hid hm
  obtain ⟨LL, hLL⟩ : ∃ l, srch (fitB x y) (colB cx cy) n one r nets = l := ⟨_, rfl⟩
  rw [hLL]
  have HLL := Lib.hid hLL
  have hsz : J ≤ w.heap.size := by rw [← C.hJ]; exact hE.size
  have cM := hM.cell
  have lM := hM.lt
  have HPX := Lib.hid (show ∀ d ∈ x.ds, 2 ≤ d.pins.length ∧ d.pins.length ≤ 3 ∧ ∀ p ∈ d.pins, 0 ≤ p from fun d hd => by
    obtain ⟨_, _, _, hdx, _⟩ := nlB_facts C.hx
    have := dvB_pins (hdx d hd)
    exact ⟨this.2.1, this.1, fun p hp => (this.2.2 p hp).1⟩)
  have HPY := Lib.hid (show ∀ d ∈ y.ds.map nzD, d.pins.length ≤ 3 ∧ ∀ p ∈ d.pins, 0 ≤ p ∧ p < (n : Int) from fun d hd => by
    obtain ⟨_, _, _, hdy, _⟩ := nlB_facts C.hy
    obtain ⟨e, he, rfl⟩ := List.mem_map.1 hd
    have h1 := hdy e he
    rw [C.hxy, C.hnn] at h1
    exact nz_pins h1)
  clear C hB hU hE hY hone hg hfit hm hLL
  cases r with
  | zero =>
    have e1 : ((m : Int) == (n : Int)) = true := by simp; omega
    have HS := Lib.hid (show LL = [nets] from by rw [← HLL.out]; rfl)
    have HYC := Lib.hid (HC.out.hY zs nets (.slice an m cn))
    have egY := HC.out.eg
    go_enter Tryz.func94, Tryz.ntmps94
    go_upto_region 3 with fail
    have hS : (fun w' : World => Blk w' M #[.int .i64 (n : Int), A1, A2, .int .i64 nb, B1, B2, C1, C2, D1, D2, DB, .slice an m cn, .slice (some ⟨U, 0, none⟩) n n, .func (.func gY) #[] lbY, .slice (some ⟨NA, 0, none⟩) n n, .slice (some ⟨NB, 0, none⟩) n n] 127) { w with drawn := w.drawn + 1 } := hM.drew
    refine wp_region_any (by kernel_rfl) (wpAny_of_E (S := fun w' : World => Blk w' M #[.int .i64 (n : Int), A1, A2, .int .i64 nb, B1, B2, C1, C2, D1, D2, DB, .slice an m cn, .slice (some ⟨U, 0, none⟩) n n, .func (.func gY) #[] lbY, .slice (some ⟨NA, 0, none⟩) n n, .slice (some ⟨NB, 0, none⟩) n n] 127) (l := 9) _ _ _ _ ?_)
    change wpAnyE _ _ _ _ _ _ _ _ _ w.drew
    refine wpAnyE_takeL (i := 0) (v := ?_) rfl (by kernel_rfl) (fun _ _ _ h => h) (Or.inl ⟨by rfl, ?_⟩) hS ?_
    rotate_left
    · intro w hSw; (try dsimp only at hSw); have qM := hSw.cell; have lM := hSw.lt; clear hSw; go_simp; (try with_reducible rfl)
    try simp only [Act.put, List.setIfInBounds_toArray, List.set_cons_zero, List.set_cons_succ]
    refine wpAnyE_takeL (i := 1) (v := ?_) rfl (by kernel_rfl) (fun _ _ _ h => h) (Or.inl ⟨by rfl, ?_⟩) hS ?_
    rotate_left
    · intro w hSw; (try dsimp only at hSw); have qM := hSw.cell; have lM := hSw.lt; clear hSw; go_simp; (try with_reducible rfl)
    try simp only [Act.put, List.setIfInBounds_toArray, List.set_cons_zero, List.set_cons_succ]
    refine wpAnyE_takeL (i := 2) (v := ?_) rfl (by kernel_rfl) (fun _ _ _ h => h) (Or.inl ⟨by rfl, ?_⟩) hS ?_
    rotate_left
    · intro w hSw; (try dsimp only at hSw); have qM := hSw.cell; have lM := hSw.lt; clear hSw; go_simp; (try with_reducible rfl)
    try simp only [Act.put, List.setIfInBounds_toArray, List.set_cons_zero, List.set_cons_succ]
    refine wpAnyE_takeL (i := 3) (v := ?_) rfl (by kernel_rfl) (fun _ _ _ h => h) (Or.inl ⟨by rfl, ?_⟩) hS ?_
    rotate_left
    · intro w hSw; (try dsimp only at hSw); have qM := hSw.cell; have lM := hSw.lt; clear hSw; go_simp; (try with_reducible rfl)
    try simp only [Act.put, List.setIfInBounds_toArray, List.set_cons_zero, List.set_cons_succ]
    refine wpAnyE_takeL (i := 4) (v := ?_) rfl (by kernel_rfl) (fun _ _ _ h => h) (Or.inl ⟨by rfl, ?_⟩) hS ?_
    rotate_left
    · intro w hSw; (try dsimp only at hSw); have qM := hSw.cell; have lM := hSw.lt; clear hSw; go_simp; (try with_reducible rfl)
    try simp only [Act.put, List.setIfInBounds_toArray, List.set_cons_zero, List.set_cons_succ]
    refine wpAnyE_takeL (i := 5) (v := ?_) rfl (by kernel_rfl) (fun _ _ _ h => h) (Or.inl ⟨by rfl, ?_⟩) hS ?_
    rotate_left
    · intro w hSw; (try dsimp only at hSw); have qM := hSw.cell; have lM := hSw.lt; clear hSw; go_simp; (try with_reducible rfl)
    try simp only [Act.put, List.setIfInBounds_toArray, List.set_cons_zero, List.set_cons_succ]
    refine wpAnyE_takeL (i := 6) (v := ?_) rfl (by kernel_rfl) (fun _ _ _ h => h) (Or.inl ⟨by rfl, ?_⟩) hS ?_
    rotate_left
    · intro w hSw; (try dsimp only at hSw); have qM := hSw.cell; have lM := hSw.lt; clear hSw; go_simp; (try with_reducible rfl)
    try simp only [Act.put, List.setIfInBounds_toArray, List.set_cons_zero, List.set_cons_succ]
    refine wpAnyE_takeL (i := 7) (v := ?_) rfl (by kernel_rfl) (fun _ _ _ h => h) (Or.inl ⟨by rfl, ?_⟩) hS ?_
    rotate_left
    · intro w hSw; (try dsimp only at hSw); have qM := hSw.cell; have lM := hSw.lt; clear hSw; go_simp; (try with_reducible rfl)
    try simp only [Act.put, List.setIfInBounds_toArray, List.set_cons_zero, List.set_cons_succ]
    refine wpAnyE_oneL (k := 8) (by kernel_rfl) rfl (fun K hK => ?_)
    go_simp
    go_at_fn gY
    refine (HYC.out w.drew (HC.out.hYs zs w w.drew HY.out HO.out (Exc.ofBelow (below_of_drewN w 1))) HO.out (HE.out.on (Exc.ofBelow (below_of_drewN w 1))) (HB.out.own.sl.by (below_of_drewN w 1)) HG.out (by rw [HM.out]; omega) HF.out).mono ?_
    rintro e w2 ⟨rfl, hY2, hE2⟩
    have kM2 := hE2.blk hM.drew HC.out.hYM
    have HY2 := Lib.hid hY2
    have hEw : Exc Y w w2 := (Exc.ofBelow (below_of_drewN w 1)).on hE2
    have HE2 := Lib.hid hEw
    clear hS hY2 hE2 hEw
    refine hK.out _ _ (fun _ => kM2) ?_
    try simp only [Act.put, List.setIfInBounds_toArray, List.set_cons_zero, List.set_cons_succ]
    refine wpAnyE_oneL (k := 9) (by kernel_rfl) rfl (fun K hK => ?_)
    go_simp
    refine hK.out _ _ (fun h => absurd rfl h) ?_
    refine wpAnyE_done (by kernel_rfl) ?_ _
    go_wp2
    go_ret
    have hEE : Exc (EB M U Y) w w2 := HE2.out.mono (fun k _ h => .inr (.inr h))
    refine ⟨ret_bool (by rw [HS.out]; cases one <;> rfl), by rw [HS.out]; exact HY2.out, HE.out.on hEE, fun _ => ⟨_, kM2, ?_, UsedB.exc HE2.out HU.out HC.out.hYU⟩⟩
    exact (BldI.exc (E := fun b => Y b ∧ b < J) ⟨HE2.out.os, HE2.out.tape, HE2.out.output, HE2.out.size, fun q hq hn => by
      rcases Nat.lt_or_ge q J with h | h
      · exact HE2.out.block q hq (fun hy => hn ⟨hy, h⟩)
      · exact HE2.out.block q hq (fun hy => by have := HC.out.hYJ q hy; omega)⟩ HB.out (fun q h1 h2 h3 => by omega)).wideN HE2.out.size (Nat.le_refl _)
  | succ r =>
    have e1 : ((m : Int) == (n : Int)) = false := by simp; omega
    have hmn : m < n := by omega
    have HIH := Lib.hid (ih r rfl)
    have HS := Lib.hid (show srTo (stG x y (colB cx cy) n one r nets) one n = LL from HLL.out)
    have HGK := Lib.hid (show ∀ k : Nat, stG x y (colB cx cy) n one r nets k = (if (colB cx cy m k && (!nets.contains (k : Int) && fitB x y (nets ++ [(k : Int)]))) = true then srch (fitB x y) (colB cx cy) n one r (nets ++ [(k : Int)]) else []) from fun k => by unfold stG; rw [HM.out])
    clear HLL ih
    generalize stG x y (colB cx cy) n one r nets = G at *
    have HFS := Lib.hid (fun (k : Nat) (hg : goodN n (nets ++ [(k : Int)])) => (show fitB x y (nets ++ [(k : Int)]) = (decide (portTo x.ps (m : Int) x.ps.length = portTo y.ps (k : Int) y.ps.length) && fitI x y (nets ++ [(k : Int)])) from by
      have hnt : x.nets.toNat = n := by have := HC.out.hnn; omega
      rw [fit_step HC.out.hx HC.out.hy HC.out.hxy HC.out.hpl (by rw [hnt]; exact hg) HF.out, HM.out]))
    obtain ⟨cb, co, cc, hec, _, _⟩ := (HC.out.hCA w HE.out).nm (by rw [HC.out.hcx]; omega)
    obtain ⟨db, dd, dc, hed, _, _⟩ := (HC.out.hCB w HE.out).nm (by rw [HC.out.hcy]; omega)
    rw [HC.out.hcx] at hec
    rw [HC.out.hcy] at hed
    subst hec hed
    go_enter Tryz.func94, Tryz.ntmps94
    go_wp2
    clear cM
    go_loopw [31] (fun iv wr => ∃ (k : Nat) (NV : Value), k ≤ n ∧ iv = .int .i64 (k : Int) ∧ Blk wr M #[.int .i64 (n : Int), A1, A2, .int .i64 nb, B1, B2, .slice (some ⟨cb, co, none⟩) n cc, C2, .slice (some ⟨db, dd, none⟩) n dc, D2, DB, NV, .slice (some ⟨U, 0, none⟩) n n, .func (.func gY) #[] lbY, .slice (some ⟨NA, 0, none⟩) n n, .slice (some ⟨NB, 0, none⟩) n n] 127 ∧ Hid (BldI wr J wr.heap.size NV nets) ∧ Hid (UsedB wr U n nets) ∧ Hid (Exc (EB M U Y) wJ wr) ∧ Hid (Yd (zs ++ srTo G one k) wr) ∧ Hid (one = true → srTo G one k = [])) (fun iv _ => n - (intOf iv).toNat)
    case atStart => exact ⟨0, .slice an m cn, Nat.zero_le _, rfl, hM, HB, HU, HE, Lib.hid (by show Yd (zs ++ []) _; rw [List.append_nil]; exact HY.out), Lib.hid (fun _ => rfl)⟩
    case round =>
      clear hM HB HU HE HY lM hsz
      obtain ⟨k, NV, hk, rfl, kM, HB, HU, HE, HY, HO1⟩ := hrel
      obtain ⟨an, cn, rfl⟩ := HB.out.sized
      rw [HM.out] at kM HB
      have hsz : J ≤ wr.heap.size := by rw [← HC.out.hJ]; exact HE.out.size
      have HOZ := Lib.hid (show one = true → zs ++ srTo G one k = [] from fun h => by rw [HO.out h, HO1.out h]; rfl)
      by_cases hlt : k < n
      · have HNX := Lib.hid (show srTo G one (k + 1) = srTo G one k ++ G k from srTo_next (fun h => by
          simp only [Bool.and_eq_true, decide_eq_true_eq] at h
          rw [HO1.out h.1] at h
          simp at h))
        have i1 : (k : Int) < (n : Int) := by omega
        have i2 : decide (k < n) = true := decide_eq_true hlt
        have i3 : (m : Int) < (n : Int) := by omega
        have i4 : decide (m < n) = true := decide_eq_true hmn
        obtain ⟨cU, fU, lU⟩ := HU.out.cell hlt
        obtain ⟨_, _, _, hec, lc, cas⟩ := (HC.out.hCA wr HE.out).nm (by rw [HC.out.hcx]; omega)
        simp only [Value.slice.injEq, Option.some.injEq, Addr.mk.injEq, and_true] at hec
        obtain ⟨⟨rfl, rfl⟩, hec9, rfl⟩ := hec
        clear hec9
        obtain ⟨_, _, _, hed, ld, cds⟩ := (HC.out.hCB wr HE.out).nm (by rw [HC.out.hcy]; omega)
        simp only [Value.slice.injEq, Option.some.injEq, Addr.mk.injEq, and_true] at hed
        obtain ⟨⟨rfl, rfl⟩, hed9, rfl⟩ := hed
        clear hed9
        have cm := cas m (by rw [HC.out.hcx]; exact hmn)
        have ck := cds k (by rw [HC.out.hcy]; exact hlt)
        obtain ⟨sa, pam, hsa⟩ := HC.out.hPA wr HE.out m hmn
        obtain ⟨sb, pbk, hsb⟩ := HC.out.hPB wr HE.out k hlt
        have lpa := lt_of_cell pam
        have lpb := lt_of_cell pbk
        dsimp only at lpa lpb
        have HSA := Lib.hid hsa
        have HSB := Lib.hid hsb
        obtain ⟨V1, hV1⟩ : ∃ V, nmOf cx (m : Int) = V := ⟨_, rfl⟩
        obtain ⟨V2, hV2⟩ : ∃ V, nmOf cy (k : Int) = V := ⟨_, rfl⟩
        have hGK := HGK.out k
        rw [show colB cx cy m k = decide (V1 = V2) from by unfold colB; rw [hV1, hV2]] at hGK
        rw [hV1] at cm
        rw [hV2] at ck
        obtain ⟨UC, hUC⟩ : ∃ C, nets.contains (k : Int) = C := ⟨_, rfl⟩
        have HFK := Lib.hid (show UC = false → goodN n (nets ++ [(k : Int)]) from fun q => ⟨by
          rw [List.nodup_append]
          exact ⟨HG.out.1, by simp, fun a ha b hb e => by
            rw [List.mem_singleton] at hb
            subst e; subst hb
            rw [q] at hUC
            simp at hUC
            exact hUC ha⟩, fun z hz => by
          rcases List.mem_append.1 hz with h | h
          · exact HG.out.2 z h
          · rw [List.mem_singleton] at h; omega⟩)
        have HUC := Lib.hid hUC
        rw [hUC] at cU hGK
        obtain ⟨PA', hPA'⟩ : ∃ P, portTo x.ps (m : Int) x.ps.length = P := ⟨_, rfl⟩
        obtain ⟨PB', hPB'⟩ : ∃ P, portTo y.ps (k : Int) y.ps.length = P := ⟨_, rfl⟩
        have HFS1 := Lib.hid (show UC = false → fitB x y (nets ++ [(k : Int)]) = (decide (PA' = PB') && fitI x y (nets ++ [(k : Int)])) from fun q => by rw [← hPA', ← hPB']; exact HFS.out k (HFK.out q))
        rw [hPA'] at HSA
        rw [hPB'] at HSB
        have HSE := Lib.hid (fun w h h' => slicesEqual_any sa sb PA' PB' w h h')
        obtain ⟨PE, hPE⟩ : ∃ P : Bool, decide (PA' = PB') = P := ⟨_, rfl⟩
        rw [hPE] at HFS1 HSE
        obtain ⟨CE, hCE⟩ : ∃ P : Bool, decide (V1 = V2) = P := ⟨_, rfl⟩
        have HCE := Lib.hid hCE
        rw [hCE] at hGK
        have HGK1 := Lib.hid hGK
        have cMr := kM.cell
        have lMr := kM.lt
        clear cas cds hsa hsb hV1 hV2 hUC hPA' hPB' hPE hCE hGK
        go_upto_region 7 with fail
        go_cut [77] from 33 to 116 (fun cc wx => cc = .bool (!(!UC && (CE && PE))) ∧ Below wr.heap.size wr wx)
        case first =>
          cases UC with
          | true =>
            go_quiet (fail)
            go_wp2
            go_meet
            exact ⟨(by first | rfl | (cases CE <;> cases PE <;> rfl)), blwT⟩
          | false =>
            cases CE with
            | false =>
              have hvv : ¬ V1 = V2 := of_decide_eq_false HCE.out
              have j1 : (V1 != V2) = true := by simpa using hvv
              have j2 : (V1 == V2) = false := by simpa using hvv
              clear hvv
              go_quiet (fail)
              go_wp2
              go_meet
              exact ⟨(by first | rfl | (cases PE <;> rfl)), blwT⟩
            | true =>
              obtain rfl : V1 = V2 := of_decide_eq_true HCE.out
              have j1 : (V1 != V1) = false := by simp
              have j2 : (V1 == V1) = true := by simp
              go_quiet ((go_at_call 104; exact Calls.quiet_of (HSE.out _ (HSA.out.by (below_of_drewN wr _)) (HSB.out.by (below_of_drewN wr _)))))
              go_wp2
              go_meet
              exact ⟨(by first | rfl | (cases PE <;> rfl)), blwT⟩
        case rest =>
          obtain ⟨rfl, hbc⟩ := hcut
          have kM2 := Blk.by hbc kM
          have HB2 := Lib.hid ((HB.out.by hbc).wideN hbc.size (Nat.le_refl _))
          have HU2 := Lib.hid (HU.out.by hbc)
          have HE2 := Lib.hid (HE.out.on (Exc.ofBelow hbc))
          have HY2 := Lib.hid (HC.out.hYs _ _ _ HY.out HOZ.out (Exc.ofBelow hbc))
          have hsz2 : J ≤ wc.heap.size := Nat.le_trans hsz hbc.size
          clear kM HB HU HE HY cMr lMr cm ck cU fU lU pam pbk lpa lpb HSA HSB HSE lc ld hbc hsz
          obtain ⟨K, hK⟩ : ∃ K, (!UC && (CE && PE)) = K := ⟨_, rfl⟩
          rw [hK]
          cases K with
          | false =>
            have HG0 := Lib.hid (show G k = [] from by
              rw [HGK1.out]
              refine if_neg (fun h => ?_)
              simp only [Bool.and_eq_true, Bool.not_eq_true'] at h
              have h2 := h.2.2
              rw [HFS1.out h.2.1, Bool.and_eq_true] at h2
              rw [h.1, h.2.1, h2.1] at hK
              cases hK)
            clear hK
            go_wp2
            exact ⟨⟨k + 1, .slice an m cn, by omega, by go_num, kM2, HB2, HU2, HE2, Lib.hid (by rw [HNX.out, HG0.out, List.append_nil]; exact HY2.out), Lib.hid (fun h => by rw [HNX.out, HG0.out, HO1.out h]; rfl)⟩, by simp [intOf]; omega⟩
          | true =>
            have hq : UC = false ∧ CE = true ∧ PE = true := by cases UC <;> cases CE <;> cases PE <;> simp_all
            have HGT := Lib.hid (show G k = if fitI x y (nets ++ [(k : Int)]) = true then srch (fitB x y) (colB cx cy) n one r (nets ++ [(k : Int)]) else [] from by
              rw [HGK1.out, HFS1.out hq.1, hq.1, hq.2.1, hq.2.2]
              simp)
            have HGD := Lib.hid (HFK.out hq.1)
            have HFB := Lib.hid (show fitI x y (nets ++ [(k : Int)]) = true → fitB x y (nets ++ [(k : Int)]) = true from fun h => by rw [HFS1.out hq.1, hq.2.2, h]; rfl)
            rw [hq.1] at HUC
            clear hK hq HGK1 HFS1 HFK HCE
            have hMU2 : ¬ U = M := fun e => hMU e.symm
            obtain ⟨cU, fU, lU⟩ := HU2.out.cell hlt
            have cM2 := kM2.cell
            have lM2 := kM2.lt
            have hE4 : Exc (fun b => b = M ∨ b = U ∨ J ≤ b) wc ((wc.setCell ⟨U, k, none⟩ (.bool true)).alloc (.cells #[.int .i64 (k : Int)] 2)) := ((Exc.refl _ _).set U k _ (fun _ => .inr (.inl rfl))).alloc _
            have hE4u : Exc (fun b => b = U) wc ((wc.setCell ⟨U, k, none⟩ (.bool true)).alloc (.cells #[.int .i64 (k : Int)] 2)) := (Exc.set (E := fun b => b = U) (Exc.refl _ _) U k _ (fun _ => rfl)).alloc _
            have kN4 : Blk ((wc.setCell ⟨U, k, none⟩ (.bool true)).alloc (.cells #[.int .i64 (k : Int)] 2)) wc.heap.size #[.int .i64 (k : Int)] 2 := Blk.new _ (by simp)
            have kM4 := hE4u.blk kM2 (show ¬ M = U from hMU)
            have HU4 := Lib.hid ((HU2.out.add hlt).by ((Below.refl _ (wc.setCell ⟨U, k, none⟩ (.bool true))).alloc (Nat.le_refl _) (.cells #[.int .i64 (k : Int)] 2)))
            have HB4 := Lib.hid (BldI.exc hE4u HB2.out (fun q h1 h2 (e : q = U) => by omega))
            have HE4 := Lib.hid hE4
            have hs4 : wc.heap.size + 1 = ((wc.setCell ⟨U, k, none⟩ (.bool true)).alloc (.cells #[.int .i64 (k : Int)] 2)).heap.size := by simp
            have HS4 := Lib.hid hs4
            clear hE4 hE4u hs4 HU2
            go_wp2_with (refine list_pushG2 (by rfl) _ _ (by rfl) J wc.heap.size m (.slice an m cn) nets HM.out (k : Int) (by rfl) HB4.out wc.heap.size (by rfl) kN4 (by omega) (by omega) ?_; intro g5 c5 w5 hB5 hW5; have kM5 := hW5.blk kM4 (.inl (by omega)); have c5M := kM5.cell; have f5M := kM5.free; have l5M := kM5.lt; have HB5 := Lib.hid hB5; have HW5 := Lib.hid hW5; clear hB5 hW5)
            have kM6 : Blk (w5.setCell ⟨M, 11, none⟩ (.slice (some ⟨g5, 0, none⟩) (m + 1) c5)) M #[.int .i64 (n : Int), A1, A2, .int .i64 nb, B1, B2, .slice (some ⟨cb, co, none⟩) n cc, C2, .slice (some ⟨db, dd, none⟩) n dc, D2, DB, .slice (some ⟨g5, 0, none⟩) (m + 1) c5, .slice (some ⟨U, 0, none⟩) n n, .func (.func gY) #[] lbY, .slice (some ⟨NA, 0, none⟩) n n, .slice (some ⟨NB, 0, none⟩) n n] 127 := kM5.set 11 _
            have hX6 : Exc (fun b => b = M ∨ b = U ∨ J ≤ b) wc (w5.setCell ⟨M, 11, none⟩ (.slice (some ⟨g5, 0, none⟩) (m + 1) c5)) := (HE4.out.on (Exc.ofWithin HW5.out (fun q h1 h2 => .inr (.inr h1)))).set M 11 _ (fun _ => .inl rfl)
            have HU6 := Lib.hid (UsedB.exc (E := fun b => b = M) ((Exc.refl _ w5).set M 11 (.slice (some ⟨g5, 0, none⟩) (m + 1) c5) (fun _ => rfl)) (UsedB.exc (E := fun b => J ≤ b) (Exc.ofWithin HW5.out (fun q h1 h2 => h1)) HU4.out (by omega)) (fun (e : U = M) => hMU2 e))
            have HB6 : Hid (BldI (w5.setCell ⟨M, 11, none⟩ (.slice (some ⟨g5, 0, none⟩) (m + 1) c5)) J (w5.setCell ⟨M, 11, none⟩ (.slice (some ⟨g5, 0, none⟩) (m + 1) c5)).heap.size (.slice (some ⟨g5, 0, none⟩) (m + 1) c5) (nets ++ [(k : Int)])) := Lib.hid (by
              have h2 := BldI.exc (E := fun b => b = M) ((Exc.refl _ w5).set M 11 (.slice (some ⟨g5, 0, none⟩) (m + 1) c5) (fun _ => rfl)) HB5.out (fun q h1 h2 (e : q = M) => by omega)
              simpa using h2)
            generalize w5.setCell ⟨M, 11, none⟩ (.slice (some ⟨g5, 0, none⟩) (m + 1) c5) = w6 at *
            have hE6 := HE2.out.thn hX6 (fun q hq h => by
              rcases h with h | h | h
              · exact .inl h
              · exact .inr (.inl h)
              · have := HC.out.hJ; omega)
            have hY6 := HC.out.hYs _ _ _ HY2.out HOZ.out hX6
            have hs6 : J ≤ w6.heap.size := by rw [← HC.out.hJ]; exact hE6.size
            have HE6 := Lib.hid hE6
            have HY6 := Lib.hid hY6
            clear hE6 hY6 hX6 HE4 HW5 HB5 HU4 HB4 kM4 kN4 kM5 c5M f5M l5M cU fU lU cM2 lM2 kM2 HB2 HE2 HY2 HS4
            refine (fits_any x y (nets ++ [(k : Int)]) M U n lo hi (m + 1) (n : Int) nb A1 A2 B1 B2 (.slice (some ⟨cb, co, none⟩) n cc) C2 (.slice (some ⟨db, dd, none⟩) n dc) D2 DB (.slice (some ⟨g5, 0, none⟩) (m + 1) c5) (.func (.func gY) #[] lbY) (.slice (some ⟨NA, 0, none⟩) n n) (.slice (some ⟨NB, 0, none⟩) n n) w6 kM6 (HC.out.hA w6 HE6.out) (HC.out.hD w6 HE6.out) (Nat.le_trans HC.out.hlo hs6) HB6.out.own.sl (by rw [List.length_append, HM.out]; rfl) HU6.out HPX.out HPY.out HC.out.hlx HC.out.hly (by omega) hn24).mono ?_
            rintro e w7 ⟨rfl, hb7⟩
            have kM7 := Blk.by hb7 kM6
            have HB7 := Lib.hid ((HB6.out.by hb7).wideN hb7.size (Nat.le_refl _))
            have HU7 := Lib.hid (HU6.out.by hb7)
            have HE7 := Lib.hid (HE6.out.on (Exc.ofBelow hb7))
            have HY7 := Lib.hid (HC.out.hYs _ _ _ HY6.out HOZ.out (Exc.ofBelow hb7))
            have hs7 : J ≤ w7.heap.size := Nat.le_trans hs6 hb7.size
            clear hb7 kM6 HB6 HU6 HE6 HY6 hs6
            cases hF : fitI x y (nets ++ [(k : Int)]) with
            | false =>
              have HG0 := Lib.hid (show G k = [] from by rw [HGT.out, hF, if_neg (by simp)])
              have HY8 := Lib.hid (show Yd (zs ++ srTo G one (k + 1)) w7 from by rw [HNX.out, HG0.out, List.append_nil]; exact HY7.out)
              have HO8 := Lib.hid (show (one = true → zs ++ srTo G one (k + 1) = []) ∧ (one = true → srTo G one (k + 1) = []) from ⟨fun h => by rw [HO.out h, HNX.out, HG0.out, HO1.out h]; rfl, fun h => by rw [HNX.out, HG0.out, HO1.out h]; rfl⟩)
              obtain ⟨NV8, hNV8⟩ : ∃ NV, Value.slice (some ⟨g5, 0, none⟩) (m + 1) c5 = NV := ⟨_, rfl⟩
              rw [hNV8] at kM7 HB7
              clear hF hNV8 HY7
              obtain ⟨w8, rfl⟩ : ∃ z : World, z = w7 := ⟨_, rfl⟩
              have kM8 := kM7
              have HB8 := HB7
              have HU8 := HU7
              have HE8 := HE7
              clear kM7 HB7 HU7 HE7
              obtain ⟨g9, c9, rfl, hc1, hc2⟩ := BldI.some HB8.out HM.out
              have cM9 := kM8.cell
              have fM9 := kM8.free
              have lM9 := kM8.lt
              obtain ⟨cU9, fU9, lU9⟩ := HU8.out.cell hlt
              have j3 : (m : Int) ≤ (c9 : Int) := by omega
              have j4 : m ≤ c9 := by omega
              have j5 : decide (m ≤ c9) = true := decide_eq_true j4
              have HBf : Hid (BldI ((w8.setCell ⟨M, 11, none⟩ (.slice (some ⟨g9, 0, none⟩) m c9)).setCell ⟨U, k, none⟩ (.bool false)) J ((w8.setCell ⟨M, 11, none⟩ (.slice (some ⟨g9, 0, none⟩) m c9)).setCell ⟨U, k, none⟩ (.bool false)).heap.size (.slice (some ⟨g9, 0, none⟩) m c9) nets) := Lib.hid (by
                have h1 := HB8.out
                rw [show m + 1 = (nets ++ [(k : Int)]).length from by rw [List.length_append, HM.out]; rfl] at h1
                have h2 := BldI.exc (E := fun b => b = M ∨ b = U) (((Exc.refl _ w8).set M 11 (.slice (some ⟨g9, 0, none⟩) m c9) (fun _ => .inl rfl)).set U k (.bool false) (fun _ => .inr rfl)) (BldI.cut h1 HM.out) (fun q h1 h2 h3 => by rcases h3 with rfl | rfl <;> omega)
                simpa using h2)
              have HUf := Lib.hid (UsedB.drop (UsedB.exc (E := fun b => b = M) ((Exc.refl _ w8).set M 11 (.slice (some ⟨g9, 0, none⟩) m c9) (fun _ => rfl)) HU8.out (fun (e : U = M) => hMU e.symm)) hlt HUC.out)
              have hXf : Exc (fun b => b = M ∨ b = U ∨ J ≤ b) w8 ((w8.setCell ⟨M, 11, none⟩ (.slice (some ⟨g9, 0, none⟩) m c9)).setCell ⟨U, k, none⟩ (.bool false)) := ((Exc.refl _ w8).set M 11 _ (fun _ => .inl rfl)).set U k _ (fun _ => .inr (.inl rfl))
              have HEf := Lib.hid (HE8.out.thn hXf (fun q hq h => by
                rcases h with h | h | h
                · exact .inl h
                · exact .inr (.inl h)
                · have := HC.out.hJ; omega))
              have HYf := Lib.hid (HC.out.hYs _ _ _ HY8.out HO8.out.1 hXf)
              have kMf := (kM8.set 11 (.slice (some ⟨g9, 0, none⟩) m c9)).apart U k (.bool false) hMU
              clear hXf HB8 HU8 HE8 HY8 hc1 hc2
              go_wp2
              exact ⟨⟨k + 1, .slice (some ⟨g9, 0, none⟩) m c9, by omega, by go_num, kMf, HBf, HUf, HEf, HYf, Lib.hid HO8.out.2⟩, by simp [intOf]; omega⟩
            | true =>
              have HFT := Lib.hid hF
              have HGE := Lib.hid (show srch (fitB x y) (colB cx cy) n one r (nets ++ [(k : Int)]) = G k from by rw [HGT.out, hF, if_pos rfl])
              clear hF
              go_wp2_with fail
              refine (HIH.out (nets ++ [(k : Int)]) (zs ++ srTo G one k) _ w7 kM7 HB7.out HU7.out HE7.out HY7.out HOZ.out HGD.out (by rw [List.length_append, HM.out, List.length_singleton]; omega) (HFB.out HFT.out)).mono ?_
              rw [HGE.out]
              rintro e w8 ⟨rfl, hY8, hE8, hN8⟩
              rw [List.append_assoc, ← HNX.out] at hY8
              have HY8 := Lib.hid hY8
              have HE8 := Lib.hid hE8
              have HN8 := Lib.hid hN8
              clear hY8 hE8 hN8 kM7 HB7 HU7 HE7 HY7
              cases hst : stopB one (G k) with
              | true =>
                have hq : one = true ∧ 0 < (G k).length := by
                  unfold stopB at hst
                  cases hone : one with
                  | false => rw [hone] at hst; cases hst
                  | true =>
                    rw [hone] at hst
                    refine ⟨rfl, ?_⟩
                    cases hgk : G k with
                    | nil => rw [hgk] at hst; cases hst
                    | cons a l => simp
                have HLS := Lib.hid (show srTo G one (k + 1) = LL from by
                  rw [← HS.out, show n = (k + 1) + (n - (k + 1)) by omega]
                  exact (srTo_stop hq.1 (by rw [HNX.out, List.length_append]; omega) _).symm)
                have HST := Lib.hid (show stopB one LL = true from by
                  rw [← HLS.out, HNX.out, HO1.out hq.1]
                  exact hst)
                clear hst hq
                go_wp2
                go_ret
                exact ⟨ret_bool (by rw [HST.out]; rfl), by rw [← HLS.out]; exact HY8.out, HE8.out, fun h => by rw [HST.out] at h; cases h⟩
              | false =>
                obtain ⟨NV8, kM8, hB8, hU8⟩ := HN8.out hst
                have HGN := Lib.hid (show one = true → G k = [] from fun h => by
                  rw [h] at hst
                  unfold stopB at hst
                  cases hgk : G k with
                  | nil => rfl
                  | cons a l => rw [hgk] at hst; cases hst)
                have HB8 := Lib.hid hB8
                have HU8 := Lib.hid hU8
                have HO8 := Lib.hid (show (one = true → zs ++ srTo G one (k + 1) = []) ∧ (one = true → srTo G one (k + 1) = []) from ⟨fun h => by rw [HO.out h, HNX.out, HGN.out h, HO1.out h]; rfl, fun h => by rw [HNX.out, HGN.out h, HO1.out h]; rfl⟩)
                have hs8 : J ≤ w8.heap.size := by rw [← HC.out.hJ]; exact HE8.out.size
                clear hst hB8 hU8 HN8
                obtain ⟨g9, c9, rfl, hc1, hc2⟩ := BldI.some HB8.out HM.out
                have cM9 := kM8.cell
                have fM9 := kM8.free
                have lM9 := kM8.lt
                obtain ⟨cU9, fU9, lU9⟩ := HU8.out.cell hlt
                have j3 : (m : Int) ≤ (c9 : Int) := by omega
                have j4 : m ≤ c9 := by omega
                have j5 : decide (m ≤ c9) = true := decide_eq_true j4
                have HBf : Hid (BldI ((w8.setCell ⟨M, 11, none⟩ (.slice (some ⟨g9, 0, none⟩) m c9)).setCell ⟨U, k, none⟩ (.bool false)) J ((w8.setCell ⟨M, 11, none⟩ (.slice (some ⟨g9, 0, none⟩) m c9)).setCell ⟨U, k, none⟩ (.bool false)).heap.size (.slice (some ⟨g9, 0, none⟩) m c9) nets) := Lib.hid (by
                  have h1 := HB8.out
                  rw [show m + 1 = (nets ++ [(k : Int)]).length from by rw [List.length_append, HM.out]; rfl] at h1
                  have h2 := BldI.exc (E := fun b => b = M ∨ b = U) (((Exc.refl _ w8).set M 11 (.slice (some ⟨g9, 0, none⟩) m c9) (fun _ => .inl rfl)).set U k (.bool false) (fun _ => .inr rfl)) (BldI.cut h1 HM.out) (fun q h1 h2 h3 => by rcases h3 with rfl | rfl <;> omega)
                  simpa using h2)
                have HUf := Lib.hid (UsedB.drop (UsedB.exc (E := fun b => b = M) ((Exc.refl _ w8).set M 11 (.slice (some ⟨g9, 0, none⟩) m c9) (fun _ => rfl)) HU8.out (fun (e : U = M) => hMU e.symm)) hlt HUC.out)
                have hXf : Exc (fun b => b = M ∨ b = U ∨ J ≤ b) w8 ((w8.setCell ⟨M, 11, none⟩ (.slice (some ⟨g9, 0, none⟩) m c9)).setCell ⟨U, k, none⟩ (.bool false)) := ((Exc.refl _ w8).set M 11 _ (fun _ => .inl rfl)).set U k _ (fun _ => .inr (.inl rfl))
                have HEf := Lib.hid (HE8.out.thn hXf (fun q hq h => by
                  rcases h with h | h | h
                  · exact .inl h
                  · exact .inr (.inl h)
                  · have := HC.out.hJ; omega))
                have HYf := Lib.hid (HC.out.hYs _ _ _ HY8.out HO8.out.1 hXf)
                have kMf := (kM8.set 11 (.slice (some ⟨g9, 0, none⟩) m c9)).apart U k (.bool false) hMU
                clear hXf HB8 HU8 HE8 HY8 hc1 hc2
                go_wp2
                exact ⟨⟨k + 1, .slice (some ⟨g9, 0, none⟩) m c9, by omega, by go_num, kMf, HBf, HUf, HEf, HYf, Lib.hid HO8.out.2⟩, by simp [intOf]; omega⟩
      · obtain rfl : n = k := by omega
        have i1 : ¬ (n : Int) < (n : Int) := by omega
        have hST : stopB one LL = false := by
          rw [← HS.out]
          unfold stopB
          cases hon : one with
          | false => rfl
          | true =>
            have := HO1.out hon
            rw [hon] at this
            rw [this]
            rfl
        have HST := Lib.hid hST
        clear hST
        go_wp2
        go_ret
        exact ⟨ret_bool (by rw [HST.out]; rfl), by rw [← HS.out]; exact HY.out, HE.out, fun _ => ⟨_, kM, HB.out, HU.out⟩⟩
theorem run_any (x y : Nl) (cx cy : List Int) (one : Bool) (n J M U NA NB lo hi gY : Nat) (A1 A2 B1 B2 C1 C2 D1 D2 DB : Value) (nb : Int) (lbY : Array Value) (Y : Nat → Prop) (Yd : List (List Int) → World → Prop) (wJ : World) (C : RunC x y cx cy one n J M U NA NB lo hi gY A1 A2 B1 B2 C1 C2 D1 D2 DB nb lbY Y Yd wJ) : ∀ r, RunOk x y cx cy one n J M U NA NB lo hi gY A1 A2 B1 B2 C1 C2 D1 D2 DB nb lbY Y Yd wJ r
  | 0 => run_step x y cx cy one n J M U NA NB lo hi gY A1 A2 B1 B2 C1 C2 D1 D2 DB nb lbY Y Yd wJ C 0 (fun q h => by omega)
  | r + 1 => run_step x y cx cy one n J M U NA NB lo hi gY A1 A2 B1 B2 C1 C2 D1 D2 DB nb lbY Y Yd wJ C (r + 1) (fun q h => by
    obtain rfl : r = q := by omega
    exact run_any x y cx cy one n J M U NA NB lo hi gY A1 A2 B1 B2 C1 C2 D1 D2 DB nb lbY Y Yd wJ C r)
set_option maxRecDepth 100000 in
set_option maxHeartbeats 4000000 in
theorem portsOf_any (x : Nl) (v : Value) (w : World) (h : NlV w v x) (hx : nlB x = true) :
    Calls Tryz.prog 92 #[v] w fun e w' => ∃ v', e = .returned v' ∧ LlIn w' w.heap.size w'.heap.size v' (netL x x.nets.toNat) ∧ Below w.heap.size w w' := by
  obtain ⟨⟨hn0, hn1⟩, _, hp8, _, _⟩ := nlB_facts hx
  have HPI := Lib.hid (fun (p : Pt) (hp : p ∈ x.ps) => pt_in hx hp)
  obtain ⟨s1, s2, rfl, hds, hps⟩ := h
  obtain ⟨nets, ds, ps⟩ := x
  dsimp only at *
  obtain ⟨m, rfl⟩ : ∃ n : Nat, nets = n := ⟨nets.toNat, by omega⟩
  have HP := Lib.hid hps
  obtain ⟨a1, c1, rfl⟩ := hds.sized
  obtain ⟨a2, c2, rfl⟩ := hps.sized
  obtain ⟨L, hL⟩ : ∃ L, ds.length = L := ⟨_, rfl⟩
  obtain ⟨L2, hL2⟩ : ∃ L, ps.length = L := ⟨_, rfl⟩
  rw [hL]
  rw [hL2] at HP hp8 ⊢
  have HL2 := Lib.hid hL2
  have hmt : ((m : Nat) : Int).toNat = m := by omega
  rw [hmt]
  have HST := Lib.hid (fun (net : Int) k p h => portTo_step ps net k p h)
  have HLE := Lib.hid (fun (net : Int) k => portTo_len ps net k)
  have HC0 := Lib.hid (fun (net : Int) => show portTo ps net 0 = [] from rfl)
  have HFN := Lib.hid (show netL ⟨(m : Int), ds, ps⟩ m = (List.range m).map fun j : Nat => portTo ps (j : Int) L2 from by rw [← hL2]; rfl)
  generalize netL ⟨(m : Int), ds, ps⟩ m = RR at *
  clear hds hps hL hL2 hx hmt hn0
  obtain ⟨cs0, hcs0, hcz, hmk⟩ := make_lists m (by omega) (w.alloc (.cells #[.int .i64 (m : Int), .slice a1 L c1, .slice a2 L2 c2] 35))
  simp only [World.size_alloc] at hmk
  obtain ⟨wI, hwI⟩ : ∃ wI, wI = (w.alloc (.cells #[.int .i64 (m : Int), .slice a1 L c1, .slice a2 L2 c2] 35)).alloc (.cells cs0 27) := ⟨_, rfl⟩
  have hal : Below w.heap.size w wI := by rw [hwI]; exact ((Below.refl _ w).alloc (Nat.le_refl _) _).alloc (by simp) _
  have hsI : wI.heap.size = w.heap.size + 2 := by rw [hwI]; simp
  have kAI : Blk wI w.heap.size #[.int .i64 (m : Int), .slice a1 L c1, .slice a2 L2 c2] 35 := by rw [hwI]; exact (Blk.new _ rfl).past _
  have HNI : Hid (NetsI wI (w.heap.size + 1) (w.heap.size + 2) m (fun j : Nat => portTo ps (j : Int) 0)) := by
    apply Lib.hid
    refine ⟨cs0, fun _ => .slice none 0 0, by rw [hwI]; exact Blk.new _ (by simp), hcs0, fun j hj => ⟨hcz j hj, ?_⟩, fun i j hi hj hij g hg => by cases hg⟩
    show BldI wI (w.heap.size + 2) wI.heap.size (.slice none 0 0) (portTo ps (j : Int) 0)
    rw [HC0.out, ← hsI]
    exact BldI.nil wI _
  obtain ⟨N, hN⟩ : ∃ N, w.heap.size + 1 = N := ⟨_, rfl⟩
  have HN := Lib.hid hN
  have hNw : w.heap.size < N := by omega
  rw [show w.heap.size + 2 = N + 1 by omega] at HNI hsI
  rw [hN] at HNI hmk
  clear hcs0 hcz hN
  go_enter Tryz.func92, Tryz.ntmps92
  go_wp2
  clear hmk
  (try rw [HN.out])
  (try rw [← hwI])
  clear hwI
  go_loopw [12] (fun i wr => ∃ k : Nat, k ≤ L2 ∧ i = .int .i64 (k : Int) ∧ Hid (NetsI wr N (N + 1) m (fun j : Nat => portTo ps (j : Int) k)) ∧ N < wr.heap.size ∧ Blk wr w.heap.size #[.int .i64 (m : Int), .slice a1 L c1, .slice a2 L2 c2] 35 ∧ Below w.heap.size w wr) (fun i _ => L2 - (intOf i).toNat)
  case atStart => exact ⟨0, Nat.zero_le _, rfl, HNI, by omega, kAI, hal⟩
  case round =>
    clear HNI hal hsI kAI
    obtain ⟨k, hk, rfl, HNI, hNs, kA, hb⟩ := hrel
    by_cases hlt : k < L2
    · obtain ⟨p, hp⟩ : ∃ p, ps[k]? = some p := ⟨_, List.getElem?_eq_getElem (by rw [HL2.out]; exact hlt)⟩
      obtain ⟨hz0, hz1⟩ := HPI.out p (List.mem_of_getElem? hp)
      obtain ⟨name, net⟩ := p
      dsimp only at hz0 hz1
      obtain ⟨r, rfl⟩ : ∃ r : Nat, net = r := ⟨net.toNat, by omega⟩
      have hrm : r < m := by omega
      rcases HP.out with ⟨_, _, _, e2⟩ | ⟨b, off, cap, he, _, _, h4⟩
      · rw [e2] at hp; simp at hp
      obtain ⟨rfl, rfl⟩ : a2 = some ⟨b, off, none⟩ ∧ c2 = cap := by
        simp only [Value.slice.injEq] at he
        exact ⟨he.1, he.2.2⟩
      obtain ⟨p1, p2⟩ := (h4 k _ hp).by hb
      have HSTX : Hid (∀ j : Nat, portTo ps (j : Int) (k + 1) = portTo ps (j : Int) k ++ (if (r : Int) = (j : Int) then [(k : Int)] else [])) := Lib.hid (fun j => HST.out (j : Int) k _ hp)
      have i2 : (0 : Int) ≤ (k : Int) := by omega
      have i3 : (k : Int) < (L2 : Int) := by omega
      obtain ⟨cs, vs, n1, n2, n3, n4⟩ := HNI.out
      obtain ⟨n5, n6⟩ := n3 r hrm
      (try dsimp only at n6)
      obtain ⟨Zr, hZr⟩ : ∃ Z, portTo ps (r : Int) k = Z := ⟨_, rfl⟩
      have hlen := HLE.out (r : Int) k
      rw [hZr] at n6 hlen
      have HZR := Lib.hid hZr
      obtain ⟨av, cv, hvs⟩ := n6.sized
      rw [hvs] at n5 n6
      obtain ⟨zl, hzl⟩ : ∃ z, Zr.length = z := ⟨_, rfl⟩
      rw [hzl] at n5 n6 hvs hlen
      have HZL := Lib.hid hzl
      have HVS := Lib.hid hvs
      have HN1 := Lib.hid n1
      have HN2' := Lib.hid n2
      have HN3 := Lib.hid n3
      have HN4 := Lib.hid n4
      have HN5 := Lib.hid n5
      have HN6 := Lib.hid n6
      have i4 : (0 : Int) ≤ (r : Int) := by omega
      have i5 : (r : Int) < (m : Int) := by omega
      have i6 : decide (r < m) = true := decide_eq_true hrm
      clear hp h4 he n1 n2 n3 n4 n5 n6 hvs hZr hzl
      go_upto_region 5 with fail
      obtain ⟨wz, hwz⟩ : ∃ z : World, z = wr.alloc (.cells #[.string name, .int .i64 (r : Int)] 98) := ⟨_, rfl⟩
      have kP : Blk wz wr.heap.size #[.string name, .int .i64 (r : Int)] 98 := by rw [hwz]; exact Blk.new _ rfl
      have kN : Blk wz N cs 27 := by rw [hwz]; exact HN1.out.past _
      have hbz : Below wr.heap.size wr wz := by rw [hwz]; exact (Below.refl _ wr).alloc (Nat.le_refl _) _
      have hsz : wz.heap.size = wr.heap.size + 1 := by rw [hwz]; simp
      have kAz := Blk.by hbz kA
      have HBZ := Lib.hid (HN6.out.by hbz)
      have HSZ := Lib.hid hsz
      have hs1 : wr.heap.size < wz.heap.size := by omega
      (try rw [← hwz])
      clear hwz hsz
      have hS : (fun w' : World => Blk w' wr.heap.size #[.string name, .int .i64 (r : Int)] 98 ∧ Blk w' N cs 27) { wz with drawn := wz.drawn + 1 } := ⟨kP.drew, kN.drew⟩
      refine wp_region_any (by kernel_rfl) (wpAny_of_E (S := fun w' : World => Blk w' wr.heap.size #[.string name, .int .i64 (r : Int)] 98 ∧ Blk w' N cs 27) (l := 12) _ _ _ _ ?_)
      change wpAnyE _ _ _ _ _ _ _ _ _ wz.drew
      refine wpAnyE_takeL (i := 0) (v := ?_) rfl (by kernel_rfl) (fun _ _ _ h => h) (Or.inl ⟨by rfl, ?_⟩) hS ?_
      rotate_left
      · intro w hSw; (try dsimp only at hSw); have qP := hSw.1.cell; have qN := (hSw.2.cell r).trans HN5.out; have lP := hSw.1.lt; have lN := hSw.2.lt; clear hSw; go_simp; (try with_reducible rfl)
      try simp only [Act.put, List.setIfInBounds_toArray, List.set_cons_zero, List.set_cons_succ]
      refine wpAnyE_takeL (i := 1) (v := ?_) rfl (by kernel_rfl) (fun _ _ _ h => h) (Or.inl ⟨by rfl, ?_⟩) hS ?_
      rotate_left
      · intro w hSw; (try dsimp only at hSw); have qP := hSw.1.cell; have qN := (hSw.2.cell r).trans HN5.out; have lP := hSw.1.lt; have lN := hSw.2.lt; clear hSw; go_simp; (try with_reducible rfl)
      try simp only [Act.put, List.setIfInBounds_toArray, List.set_cons_zero, List.set_cons_succ]
      refine wpAnyE_takeL (i := 2) (v := ?_) rfl (by kernel_rfl) (fun _ _ _ h => h) (Or.inl ⟨by rfl, ?_⟩) hS ?_
      rotate_left
      · intro w hSw; (try dsimp only at hSw); have qP := hSw.1.cell; have qN := (hSw.2.cell r).trans HN5.out; have lP := hSw.1.lt; have lN := hSw.2.lt; clear hSw; go_simp; (try with_reducible rfl)
      try simp only [Act.put, List.setIfInBounds_toArray, List.set_cons_zero, List.set_cons_succ]
      refine wpAnyE_takeL (i := 3) (v := ?_) rfl (by kernel_rfl) (fun _ _ _ h => h) (Or.inl ⟨by rfl, ?_⟩) hS ?_
      rotate_left
      · intro w hSw; (try dsimp only at hSw); have qP := hSw.1.cell; have qN := (hSw.2.cell r).trans HN5.out; have lP := hSw.1.lt; have lN := hSw.2.lt; clear hSw; go_simp; (try with_reducible rfl)
      try simp only [Act.put, List.setIfInBounds_toArray, List.set_cons_zero, List.set_cons_succ]
      refine wpAnyE_takeL (i := 4) (v := ?_) rfl (by kernel_rfl) (fun _ _ _ h => h) (Or.inl ⟨by rfl, ?_⟩) hS ?_
      rotate_left
      · intro w hSw; (try dsimp only at hSw); have qP := hSw.1.cell; have qN := (hSw.2.cell r).trans HN5.out; have lP := hSw.1.lt; have lN := hSw.2.lt; clear hSw; go_simp; (try with_reducible rfl)
      try simp only [Act.put, List.setIfInBounds_toArray, List.set_cons_zero, List.set_cons_succ]
      refine wpAnyE_takeL (i := 5) (v := ?_) rfl (by kernel_rfl) (fun _ _ _ h => h) (Or.inl ⟨by rfl, ?_⟩) hS ?_
      rotate_left
      · intro w hSw; (try dsimp only at hSw); have qP := hSw.1.cell; have qN := (hSw.2.cell r).trans HN5.out; have lP := hSw.1.lt; have lN := hSw.2.lt; clear hSw; go_simp; (try with_reducible rfl)
      try simp only [Act.put, List.setIfInBounds_toArray, List.set_cons_zero, List.set_cons_succ]
      refine wpAnyE_takeL (i := 6) (v := ?_) rfl (by kernel_rfl) (fun _ _ _ h => h) (Or.inl ⟨by rfl, ?_⟩) hS ?_
      rotate_left
      · intro w hSw; (try dsimp only at hSw); have qP := hSw.1.cell; have qN := (hSw.2.cell r).trans HN5.out; have lP := hSw.1.lt; have lN := hSw.2.lt; clear hSw; go_simp; (try with_reducible rfl)
      try simp only [Act.put, List.setIfInBounds_toArray, List.set_cons_zero, List.set_cons_succ]
      refine wpAnyE_takeL (i := 7) (v := ?_) rfl (by kernel_rfl) (fun _ _ _ h => h) (Or.inl ⟨by rfl, ?_⟩) hS ?_
      rotate_left
      · intro w hSw; (try dsimp only at hSw); have qP := hSw.1.cell; have qN := (hSw.2.cell r).trans HN5.out; have lP := hSw.1.lt; have lN := hSw.2.lt; clear hSw; go_simp; (try with_reducible rfl)
      try simp only [Act.put, List.setIfInBounds_toArray, List.set_cons_zero, List.set_cons_succ]
      refine wpAnyE_takeL (i := 8) (v := ?_) rfl (by kernel_rfl) (fun _ _ _ h => h) (Or.inl ⟨by rfl, ?_⟩) hS ?_
      rotate_left
      · intro w hSw; (try dsimp only at hSw); have qP := hSw.1.cell; have qN := (hSw.2.cell r).trans HN5.out; have lP := hSw.1.lt; have lN := hSw.2.lt; clear hSw; go_simp; (try with_reducible rfl)
      try simp only [Act.put, List.setIfInBounds_toArray, List.set_cons_zero, List.set_cons_succ]
      refine wpAnyE_oneL (k := 9) (by kernel_rfl) rfl (fun K hK => ?_)
      go_simp
      have kN9 : Blk (wz.alloc (.cells #[.int .i64 (k : Int)] 2)).drew wz.heap.size #[.int .i64 (k : Int)] 2 := (Blk.new _ rfl).drew
      have hb9 : Below wz.heap.size wz (wz.alloc (.cells #[.int .i64 (k : Int)] 2)).drew := ((Below.refl _ wz).alloc (Nat.le_refl _) _).drew
      have hsz9 : (wz.alloc (.cells #[.int .i64 (k : Int)] 2)).drew.heap.size = wz.heap.size + 1 := by simp [World.size_drew]
      have HSZ9 := Lib.hid hsz9
      have hs9 : wz.heap.size < (wz.alloc (.cells #[.int .i64 (k : Int)] 2)).drew.heap.size := by omega
      clear hsz9
      have kP9 := Blk.by hb9 kP
      have kNN9 := Blk.by hb9 kN
      have HB9 := Lib.hid (HBZ.out.by hb9)
      have kA9 := Blk.by hb9 kAz
      have hb9r : Below wr.heap.size wr (wz.alloc (.cells #[.int .i64 (k : Int)] 2)).drew := below_on hb9 hbz
      generalize (wz.alloc (.cells #[.int .i64 (k : Int)] 2)).drew = wn at *
      clear hS hb9
      refine hK.out _ _ (fun _ => ⟨kP9, kNN9⟩) ?_
      try simp only [Act.put, List.setIfInBounds_toArray, List.set_cons_zero, List.set_cons_succ]
      refine wpAnyE_oneL (k := 10) (by kernel_rfl) rfl (fun K hK => ?_)
      refine step_pushG (by rfl) _ _ (by rfl) (N + 1) wr.heap.size (.slice av zl cv) Zr [(k : Int)] (by rfl) HB9.out wz.heap.size 1 #[.int .i64 (k : Int)] (by rfl) rfl (by omega) kN9 rfl (by omega) (by rw [HZL.out]; omega) ?_
      intro g5 c5 w5 hB5 hk5 ho5 hw5
      rw [HZL.out] at hB5 ⊢
      have kP5 := hw5.blk kP9 (by omega)
      have kN5 := hw5.blk kNN9 (by omega)
      have kA5 := hw5.blk kA9 (by omega)
      have hs5 := hw5.size
      refine hK.out _ _ (fun _ => ⟨kP5, kN5⟩) ?_
      try simp only [Act.put, List.setIfInBounds_toArray, List.set_cons_zero, List.set_cons_succ]
      have HB5 := Lib.hid hB5
      have HK5 := Lib.hid hk5
      have HO5 := Lib.hid ho5
      have HW5 := Lib.hid hw5
      have l5 := kN5.lt
      have c5N := (kN5.cell r).trans HN5.out
      have f5 := kN5.free
      clear hB5 hk5 ho5 hw5
      refine wpAnyE_oneL (k := 11) (by kernel_rfl) rfl (fun K hK => ?_)
      go_simp
      refine hK.out _ _ (fun _ => ⟨kP5, kN5⟩) ?_
      try simp only [Act.put, List.setIfInBounds_toArray, List.set_cons_zero, List.set_cons_succ]
      refine wpAnyE_oneL (k := 12) (by kernel_rfl) rfl (fun K hK => ?_)
      go_simp
      refine hK.out _ _ (fun h => absurd rfl h) ?_
      refine wpAnyE_done (by kernel_rfl) ?_ _
      have hbf : Below w.heap.size w w5 := HW5.out.below (below_on hb9r hb) (by omega)
      have hlst : portTo ps (r : Int) (k + 1) = Zr ++ [(k : Int)] := by rw [HSTX.out, if_pos rfl, HZR.out]
      have hlen2 : (Zr ++ [(k : Int)]).length = zl + 1 := by simp [HZL.out]
      have hold : ∀ q, q < wr.heap.size → (Value.slice av zl cv).ownBlock ≠ some q → w5.heap[q]? = wr.heap[q]? := fun q hq hne => (HK5.out q (by omega) hne).trans (hb9r.block q hq)
      have hfin := NetsI.grow (lst := (fun j : Nat => portTo ps (j : Int) k)) (lst' := (fun j : Nat => portTo ps (j : Int) (k + 1))) (g := g5) (cap := c5) HN1.out HN2'.out HN3.out HN4.out hrm (by omega) (by
        (try dsimp only)
        rw [hlst, hlen2]
        exact HB5.out) (by rw [HVS.out]; exact hold) (by rw [HVS.out]; exact HO5.out.imp id (fun e => by have := HSZ9.out; omega)) (by omega) (fun i hi => by
        (try dsimp only)
        rw [HSTX.out, if_neg (by omega), List.append_nil])
      (try dsimp only at hfin)
      rw [hlst, hlen2] at hfin
      have HFIN := Lib.hid hfin
      have kA6 := kA5.apart N r (.slice (some ⟨g5, 0, none⟩) (zl + 1) c5) (by omega)
      have hb6 : Below w.heap.size w (w5.setCell ⟨N, r, none⟩ (.slice (some ⟨g5, 0, none⟩) (zl + 1) c5)) := hbf.setCell (show w.heap.size ≤ N by omega) _
      clear hfin hold hlst hlen2 hbf kP5 kN5 kA5
      go_wp2
      exact ⟨⟨k + 1, by omega, by go_num, HFIN, by simp; omega, kA6, hb6⟩, by simp [intOf]; omega⟩
    · obtain rfl : k = L2 := by omega
      have i2 : ¬ (k : Int) < (k : Int) := by omega
      go_wp2
      go_ret
      refine ⟨_, rfl, ?_, hb⟩
      rw [HFN.out]
      obtain ⟨cs, vs, n1, n2, n3, n4⟩ := HNI.out
      refine ⟨N, cs, by simp, by omega, n1, by simp; omega, fun j xs hx => ?_⟩
      have hj : j < m := by have := (List.getElem?_eq_some_iff.1 hx).1; simpa using this
      rw [List.getElem?_map, List.getElem?_range hj] at hx
      simp only [Option.map_some, Option.some.injEq] at hx
      subst hx
      exact ⟨vs j, (n3 j hj).1, OwnR.wide' (n3 j hj).2.own (by omega) (Nat.le_refl _)⟩
end Go.Proofs.YtifbffianbgeaaaGreat
