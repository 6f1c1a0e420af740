/- The walk of FnRename. -/
import Derived.Test.YtdljbmfmmlcmmaaDrawRn
import Derived.Test.YtdljbmfmmlcmmaaRnLaw
import Derived.Test.YtdljbmfmmlcmmaaRename
import Derived.Test.YtdljbmfmmlcmmaaNDeg
import Derived.Test.YtdljbmfmmlcmmaaFmtS
import Derived.Test.YtdljbmfmmlcmmaaNls
import Derived.Test.YtdljbmfmmlcmmaaSrc
import Derived.BigRegion
import Derived.Deep.RegionHeldLaw
namespace Go.Proofs.Ytdljbmfmmlcmmaa.fnRename
open Go.RowKit Go.Proofs.Ytdljbmfmmlcmmaa
set_option linter.unusedVariables false
set_option linter.unusedSimpArgs false

theorem iblk_set {w : World} {g j : Nat} {zs : List Int} {y : Int} (h : IBlk w g zs) (hj : j < zs.length) : IBlk (w.setCell ⟨g, j, none⟩ (.int .i64 y)) g (zs.set j y) := by
  obtain ⟨cs, h1, h2, h3⟩ := h
  refine ⟨_, h1.set j _, by simpa using h2, fun i x hx => ?_⟩
  by_cases e : j = i
  · subst e
    rw [List.getElem?_set_self hj] at hx
    cases hx
    simp [Array.getElem?_setIfInBounds, h2, hj]
  · rw [List.getElem?_set_ne e] at hx
    have := h3 i x hx
    simp [Array.getElem?_setIfInBounds, e, this]
theorem rnvTo_zero (names : List Int) {i : Nat} {x : Int} (h : (rnvTo names 0)[i]? = some x) : x = 0 := by
  have hi : i < names.length := by have := (List.getElem?_eq_some_iff.1 h).1; rwa [length_rnvTo] at this
  rw [rnvTo_get hi] at h
  simp at h
  exact h.symm
theorem rn_yes {x : Nl} {names : List Int} (h : renC x names = 0) : nlB x = true ∧ permB names x.nets = true := by
  unfold renC at h
  split at h
  · split at h
    · exact ⟨by assumption, by assumption⟩
    · omega
  · omega
theorem rn_one (x : Nl) (names : List Int) : ((renC x names == 1) == !nlB x) = true := by
  unfold renC
  cases nlB x with
  | false => simp
  | true => simp; split <;> decide
theorem valid_ok' {z : Nl} (h : nlB z = true) : ∀ p ∈ z.ps, p.name.size ≤ 8 ∧ 0 ≤ p.net ∧ p.net ≤ 24 := fun p hp => by
  obtain ⟨⟨n0, n1⟩, _, _, _, hpt⟩ := nlB_facts h
  obtain ⟨i, hi, e⟩ := List.getElem_of_mem hp
  have h1 := hpt i hi
  unfold ptOk at h1
  rw [List.getElem?_eq_getElem hi, e] at h1
  simp only [Bool.and_eq_true] at h1
  have h2 := inB_iff.1 h1.2.1
  have h3 := h1.1
  unfold nameB at h3
  rw [Bool.and_eq_true, decide_eq_true_eq] at h3
  exact ⟨h3.2.2, by omega, by omega⟩
theorem renS_ok {x : Nl} {names : List Int} (hv : nlB x = true) (h : permB names x.nets = true) : (∀ p ∈ (renS x names x.nets).ps, p.ok) ∧ Fits (renS x names x.nets).nets := by
  have hv2 := ren_valid hv h
  obtain ⟨⟨n0, n1⟩, _⟩ := nlB_facts hv2
  refine ⟨fun p hp => ?_, ⟨by omega, by omega⟩⟩
  obtain ⟨h1, h2, h3⟩ := valid_ok' hv2 p hp
  exact ⟨by omega, ⟨by omega, by omega⟩⟩

theorem pinS_take (ds : List Dv) (k : Nat) (d : Dv) (h : ds[k]? = some d) : pinS (ds.take (k + 1)) = pinS (ds.take k) + d.pins.length := by
  induction ds generalizing k with
  | nil => simp at h
  | cons y ys ih => cases k with
    | zero => simp at h; subst h; simp [pinS]
    | succ k => simp at h; have := ih k h; simp only [List.take_succ_cons, pinS]; omega
theorem pinS_bd (ds : List Dv) (h : ∀ d ∈ ds, d.pins.length ≤ 3) : pinS ds ≤ 3 * ds.length := by
  induction ds with
  | nil => simp [pinS]
  | cons y ys ih =>
    have := ih (fun d hd => h d (by simp [hd]))
    have := h y (by simp)
    simp only [pinS, List.length_cons]; omega
theorem pinS_le (ds : List Dv) (k : Nat) : pinS (ds.take k) ≤ pinS ds := by
  induction ds generalizing k with
  | nil => simp
  | cons y ys ih => cases k with
    | zero => simp [pinS]
    | succ k => have := ih k; simp only [List.take_succ_cons, pinS]; omega
theorem dgS_mono (ds : List Dv) {k n : Nat} (h : k ≤ n) : dgS ds k ≤ dgS ds n := by
  induction n with
  | zero => have : k = 0 := by omega
            subst this; exact Nat.le_refl _
  | succ n ih =>
    by_cases e : k = n + 1
    · subst e; exact Nat.le_refl _
    · have := ih (by omega); simp only [dgS]; omega
set_option maxRecDepth 100000 in
set_option maxHeartbeats 16000000 in
theorem walk (v0 : Value) (w : World) (n : Nat) (hB : Bytes w v0 n) :
    Calls Try.prog 3 #[v0] w fun e w' => e = .returned (.bool true) ∧ Below w.heap.size w w' := by
  have HB := Lib.hid hB
  have HBG := Lib.hid (fun w h => big_any v0 n w h)
  by_cases hn : 4096 < n
  · rw [decide_eq_true hn] at HBG
    clear hB hn
    go_enter Try.func3, Try.ntmps3
    go_wp2_with fail
    refine (HBG.out _ HB.out).mono ?_
    rintro e w1 ⟨rfl, rfl⟩
    go_wp2
    go_ret
    exact ⟨rfl, Below.refl _ _⟩
  · rw [decide_eq_false hn] at HBG
    have HDR := Lib.hid (fun w h => drawRn_any v0 n w h (by omega))
    clear hB hn
    go_enter Try.func3, Try.ntmps3
    go_wp2_with fail
    refine (HBG.out _ HB.out).mono ?_
    rintro e w1 ⟨rfl, rfl⟩
    go_wp2_with fail
    refine (HDR.out _ HB.out).mono ?_
    rintro e w1 ⟨v, sn, x, zs, rfl, HNV, HS, HZ, hz100, hb1⟩
    have HIM := Lib.hid (fun v sn w h h' => implRename_any x zs v sn w h h' HS.out.2.2.2.2 HS.out.fits (by omega))
    have HSP := Lib.hid (fun v sn w h h' => specRename_any x zs v sn w h h' HS.out.2.2.2.2 HS.out.fits (by omega))
    have HVX := Lib.hid (fun v w h => specNl_any x v w h HS.out.2.2.2.2 HS.out.fits)
    obtain ⟨a1, c1, a2, c2, rfl⟩ := HNV.out.sized
    obtain ⟨az, cz, rfl⟩ := HZ.out.len
    have hbA : Below w1.heap.size w1 (w1.alloc (.cells #[.int .i64 x.nets, .slice a1 x.ds.length c1, .slice a2 x.ps.length c2] 27)) := (Below.refl _ w1).alloc (Nat.le_refl _) _
    have k3 : Blk (w1.alloc (.cells #[.int .i64 x.nets, .slice a1 x.ds.length c1, .slice a2 x.ps.length c2] 27)) w1.heap.size #[.int .i64 x.nets, .slice a1 x.ds.length c1, .slice a2 x.ps.length c2] 27 := Blk.new _ rfl
    have HN2 := Lib.hid (HNV.out.by hbA)
    have HZ2 := Lib.hid (HZ.out.by hbA)
    have hb2 := below_on hbA hb1
    clear HNV hbA hb1 HZ
    go_upto_region 4 with fail
    generalize w1.alloc (.cells #[.int .i64 x.nets, .slice a1 x.ds.length c1, .slice a2 x.ps.length c2] 27) = w2 at *
    obtain ⟨T3, hT⟩ : ∃ T, w1.heap.size = T := ⟨_, rfl⟩
    (try rw [hT])
    rw [hT] at k3
    clear hT
    have c3 := k3.cell
    have l3 := k3.lt
    go_wp2_with fail
    refine (HIM.out _ _ _ HN2.out HZ2.out).mono ?_
    rintro e w3 ⟨v6, rfl, hO3, hb3⟩
    have HX3 := Lib.hid hO3.nl
    obtain ⟨b1, d1, b2, d2, rfl⟩ := hO3.nl.sized
    have k33 := Blk.by hb3 k3
    have HN3 := Lib.hid (HN2.out.by hb3)
    have HZ3 := Lib.hid (HZ2.out.by hb3)
    have hb3w := below_on hb3 hb2
    obtain ⟨y, hy⟩ : ∃ y, renR x zs = y := ⟨_, rfl⟩
    obtain ⟨p0, hp0⟩ : ∃ p, renC x zs = p := ⟨_, rfl⟩
    have HY := Lib.hid hy
    have HP0 := Lib.hid hp0
    rw [hy] at HX3
    rw [hp0] at HSP
    rw [hy, hp0]
    clear hy hp0 hO3 HN2 HZ2 k3 c3 l3 hb2 hb3 HIM
    have hbB : Below w3.heap.size w3 (w3.alloc (.cells #[.int .i64 y.nets, .slice b1 y.ds.length d1, .slice b2 y.ps.length d2] 27)) := (Below.refl _ w3).alloc (Nat.le_refl _) _
    have k4 : Blk (w3.alloc (.cells #[.int .i64 y.nets, .slice b1 y.ds.length d1, .slice b2 y.ps.length d2] 27)) w3.heap.size #[.int .i64 y.nets, .slice b1 y.ds.length d1, .slice b2 y.ps.length d2] 27 := Blk.new _ rfl
    have k34 := Blk.by hbB k33
    have HN4 := Lib.hid (HN3.out.by hbB)
    have HZ4 := Lib.hid (HZ3.out.by hbB)
    have HX4 := Lib.hid (HX3.out.by hbB)
    have hb4 := below_on hbB hb3w
    clear hb3w hbB HN3 HX3 k33 HZ3
    go_upto_region 5 with fail
    generalize w3.alloc (.cells #[.int .i64 y.nets, .slice b1 y.ds.length d1, .slice b2 y.ps.length d2] 27) = w4 at *
    obtain ⟨T4, hU⟩ : ∃ U, w3.heap.size = U := ⟨_, rfl⟩
    (try rw [hU])
    rw [hU] at k4
    clear hU
    have c3 := k34.cell
    have l3 := k34.lt
    go_wp2_with fail
    refine (HSP.out _ _ _ HN4.out HZ4.out).mono ?_
    rintro e w5 ⟨v7, rfl, hO5, hb5⟩
    obtain ⟨e1, f1, e2, f2, rfl⟩ := hO5.nl.sized
    have k35 := Blk.by hb5 k34
    have k45 := Blk.by hb5 k4
    have HN5 := Lib.hid (HN4.out.by hb5)
    have HZ5 := Lib.hid (HZ4.out.by hb5)
    have HX5 := Lib.hid (HX4.out.by hb5)
    have hb5w := below_on hb5 hb4
    clear hO5 hb5 HN4 HZ4 HX4 k34 k4 c3 l3 hb4 HSP
    have k36 := k35.past (.cells #[.int .i64 (renR x zs).nets, .slice e1 (renR x zs).ds.length f1, .slice e2 (renR x zs).ps.length f2] 27)
    have k46 := k45.past (.cells #[.int .i64 (renR x zs).nets, .slice e1 (renR x zs).ds.length f1, .slice e2 (renR x zs).ps.length f2] 27)
    have hbC := (Below.refl _ w5).alloc (Nat.le_refl _) (.cells #[.int .i64 (renR x zs).nets, .slice e1 (renR x zs).ds.length f1, .slice e2 (renR x zs).ps.length f2] 27)
    have HN6 := Lib.hid (HN5.out.by hbC)
    have HZ6 := Lib.hid (HZ5.out.by hbC)
    have HX6 := Lib.hid (HX5.out.by hbC)
    have hb6 := below_on hbC hb5w
    clear HN5 HZ5 HX5 k35 k45 hb5w hbC
    go_upto_region 6 with fail
    generalize w5.alloc (.cells #[.int .i64 (renR x zs).nets, .slice e1 (renR x zs).ds.length f1, .slice e2 (renR x zs).ps.length f2] 27) = w6 at *
    have c3 := k36.cell
    have l3 := k36.lt
    have c4 := k46.cell
    have l4 := k46.lt
    by_cases hp : p0 = 0
    · as_aux_lemma =>
      subst hp
      obtain ⟨hv, hperm⟩ := rn_yes HP0.out
      have hyr : renS x zs x.nets = y := by rw [← HY.out]; unfold renR; rw [if_pos hv, if_pos hperm]
      obtain ⟨hzl, hznd, hzr⟩ := permB_iff.1 hperm
      obtain ⟨⟨n0, n24⟩, hl24, hp8, hdv, _⟩ := nlB_facts hv
      have hvy : nlB y = true := by rw [← hyr]; exact ren_valid hv hperm
      obtain ⟨hoky, hfy⟩ : (∀ p ∈ y.ps, p.ok) ∧ Fits y.nets := by rw [← hyr]; exact renS_ok hv hperm
      have hyn : y.nets = x.nets := by rw [← hyr]; rfl
      have hC2 : renC y (rnvZ zs) = 0 := by unfold renC; rw [if_pos hvy, if_pos (by rw [hyn]; exact inv_perm hperm)]
      have hR2 : renR y (rnvZ zs) = x := by unfold renR; rw [if_pos hvy, if_pos (by rw [hyn]; exact inv_perm hperm), hyn, ← hyr]; exact ren_back hv hperm
      have hlz : (rnvZ zs).length = zs.length := by unfold rnvZ; rw [length_rnvTo]
      have HIM2 := Lib.hid (fun v sn w h h' => show Calls Try.prog 7 #[v, sn] w fun e w' => ∃ v', e = .returned (.tuple #[v', .int .i64 0]) ∧ OwnNl w' w.heap.size w'.heap.size v' x ∧ Below w.heap.size w w' from by have q := implRename_any y (rnvZ zs) v sn w h h' hoky hfy (by rw [hlz]; omega); rw [hC2, hR2] at q; exact q)
      have HFM := Lib.hid (fun v w h => specFormat_any x v w h HS.out.2.2.2.2 HS.out.fits)
      have HND := Lib.hid (fun (k : Nat) (hk : (k : Int) < x.nets) v w h => show Calls Try.prog 10 #[v, .int .i64 (k : Int)] w fun e w' => e = .returned (.int .i64 ((degN x.ds k : Nat) : Int)) ∧ Below w.heap.size w w' from by have q := implNetDegree_any x k v w h HS.out.2.2.2.2 HS.out.fits; rw [ndeg_in x k hv (inB_iff.2 ⟨by omega, by omega⟩)] at q; exact q)
      have HNE := Lib.hid (fun (k : Nat) (z : Int) (hk : (k : Int) < x.nets) (hz : zs[k]? = some z) v w (h : NlV w v y) => show Calls Try.prog 10 #[v, .int .i64 z] w fun e w' => e = .returned (.int .i64 ((degN x.ds k : Nat) : Int)) ∧ Below w.heap.size w w' from by
        have hnm : nmOf zs (k : Int) = z := by unfold nmOf; rw [Int.toNat_natCast, List.getD_eq_getElem?_getD, hz]; rfl
        have hzb := (nm_get hperm (p := (k : Int)) (by omega) hk).2
        rw [hnm] at hzb
        have q := implNetDegree_any y z v w h hoky hfy
        rw [ndeg_in y z hvy (inB_iff.2 ⟨by omega, by omega⟩), ← hyr, ← hnm, ren_deg hv hperm (by omega) hk] at q
        rw [hnm] at q
        exact q)
      have HDG := Lib.hid (deg_sum hv)
      have HPB := Lib.hid (show pinS x.ds ≤ 72 from by have := pinS_bd x.ds (fun d hd => (dvB_pins (hdv d hd)).1); omega)
      generalize fmtS x = F at HFM
      have hF : (F.toList == F.toList) = true := by simp
      have HZN := Lib.hid hznd
      have HZR := Lib.hid hzr
      have HZL := Lib.hid hzl
      have hzc : zs.length ≤ 24 := by omega
      obtain ⟨cs0, hcs0, hcz, hmk⟩ := make_ints zs.length (by omega) w6
      have HI0 := Lib.hid (show IBlk (w6.alloc (.cells cs0 2)) w6.heap.size (rnvTo zs 0) from ⟨cs0, Blk.new _ rfl, by rw [length_rnvTo]; exact hcs0, fun i z hz => by
        rw [rnvTo_zero zs hz]
        exact hcz i (by have := (List.getElem?_eq_some_iff.1 hz).1; rwa [length_rnvTo] at this)⟩)
      have hbm : Below w6.heap.size w6 (w6.alloc (.cells cs0 2)) := (Below.refl _ w6).alloc (Nat.le_refl _) _
      have hxn := HN6.out
      obtain ⟨s1, s2, ee, hdn, _⟩ := hxn
      obtain rfl : Value.slice a1 x.ds.length c1 = s1 := by have := congrArg (fun v => match v with | .agg a => a[1]? | _ => none) ee; simpa using this
      have HDN := Lib.hid hdn
      clear hyr hzl hznd hzr hdv hvy hoky hfy hC2 hR2 hlz hyn hcs0 hcz ee hdn HB HBG HDR HVX HP0 hv hperm HY
      go_wp2
      clear hmk
      obtain ⟨M, hM⟩ : ∃ M, w6.heap.size = M := ⟨_, rfl⟩
      have HMM := Lib.hid hM
      clear hM
      go_loopw [10] (fun i wr => ∃ k : Nat, k ≤ zs.length ∧ i = .int .i64 (k : Int) ∧ Hid (IBlk wr w6.heap.size (rnvTo zs k)) ∧ Below w6.heap.size w6 wr) (fun i _ => zs.length - (intOf i).toNat)
      case atStart => exact ⟨0, Nat.zero_le _, rfl, HI0, hbm⟩
      case round =>
        clear HI0 hbm c3 l3 c4 l4
        obtain ⟨k, hk, rfl, HI, hbr⟩ := hrel
        by_cases hlt : k < zs.length
        · as_aux_lemma =>
          obtain ⟨z, hz⟩ : ∃ z, zs[k]? = some z := ⟨_, List.getElem?_eq_getElem hlt⟩
          obtain ⟨z0, z1⟩ := HZR.out z (List.mem_of_getElem? hz)
          obtain ⟨q, rfl⟩ : ∃ q : Nat, z = q := ⟨z.toNat, by omega⟩
          have hqz : q < zs.length := by have := HZL.out; omega
          rcases HZ6.out with ⟨_, _, _, h2⟩ | ⟨bz, oz, cp, he, h2, h3, h4⟩
          · rw [h2] at hlt; simp at hlt
          obtain ⟨rfl, rfl⟩ : az = some ⟨bz, oz, none⟩ ∧ cz = cp := by simpa using he
          have e1 := cell_by' hbr (h4 k _ hz)
          have hI := HI.out
          have hlen := length_rnvTo zs k
          have hset := iblk_set (j := q) (y := (k : Int)) hI (by rw [hlen]; exact hqz)
          rw [rnvTo_step HZN.out hz hqz] at hset
          have HSET := Lib.hid hset
          obtain ⟨cs, hBk, hsz, _⟩ := hI
          have e2 : ∃ u, wr.cell? ⟨w6.heap.size, q, none⟩ = some u := ⟨_, by rw [hBk.cell]; exact Array.getElem?_eq_getElem (by rw [hsz, hlen]; exact hqz)⟩
          obtain ⟨u, e2⟩ := e2
          have fB := hBk.free
          have lB := hBk.lt
          have i1 : (k : Int) < (zs.length : Int) := by omega
          have i2 : (0 : Int) ≤ (k : Int) := by omega
          have i3 : (q : Int) < (zs.length : Int) := by omega
          have i4 : (0 : Int) ≤ (q : Int) := by omega
          clear hset hlen hsz hBk h4 he hz HI
          go_wp2
          exact ⟨⟨k + 1, by omega, by go_num, Lib.hid HSET.out, hbr.setCell (by simp) _⟩, by simp [intOf]; omega⟩
        · obtain rfl : k = zs.length := by omega
          have i1 : ¬ (zs.length : Int) < (zs.length : Int) := by omega
          have HIS := Lib.hid (show IntSl wr (.slice (some ⟨w6.heap.size, 0, none⟩) zs.length zs.length) (rnvZ zs) from by have q := HI.out.sl (by rw [length_rnvTo]; omega); rw [length_rnvTo] at q; exact q)
          have HX7 := Lib.hid (HX6.out.by hbr)
          have HN7 := Lib.hid (HN6.out.by hbr)
          have HZ7 := Lib.hid (HZ6.out.by hbr)
          have HDN7 := Lib.hid (HDN.out.by hbr)
          have k37 := Blk.by hbr k36
          have k47 := Blk.by hbr k46
          have hb7 := below_on hbr hb6
          have c4 := k47.cell
          have l4 := k47.lt
          clear HI hbr HX6 HN6 HZ6 HDN k36 k46 hb6 HZN HZR
          go_wp2_with fail
          (with_reducible refine (HIM2.out _ _ _ HX7.out HIS.out).mono ?_)
          rintro e w8 ⟨v8, rfl, hO8, hb8⟩
          have HB8 := Lib.hid hO8.nl
          obtain ⟨g1, j1, g2, j2, rfl⟩ := hO8.nl.sized
          have k38 := Blk.by hb8 k37
          have k48 := Blk.by hb8 k47
          have HN8 := Lib.hid (HN7.out.by hb8)
          have HZ8 := Lib.hid (HZ7.out.by hb8)
          have HX8 := Lib.hid (HX7.out.by hb8)
          have HDN8 := Lib.hid (HDN7.out.by hb8)
          have hb8w := below_on hb8 hb7
          clear hO8 hb8 HN7 HZ7 HX7 HDN7 k37 k47 hb7 HIS c4 l4 HIM2
          have hbD : Below w8.heap.size w8 (w8.alloc (.cells #[.int .i64 x.nets, .slice g1 x.ds.length j1, .slice g2 x.ps.length j2] 27)) := (Below.refl _ w8).alloc (Nat.le_refl _) _
          have kB9 : Blk (w8.alloc (.cells #[.int .i64 x.nets, .slice g1 x.ds.length j1, .slice g2 x.ps.length j2] 27)) w8.heap.size #[.int .i64 x.nets, .slice g1 x.ds.length j1, .slice g2 x.ps.length j2] 27 := Blk.new _ rfl
          have k39 := Blk.by hbD k38
          have k49 := Blk.by hbD k48
          have HN9 := Lib.hid (HN8.out.by hbD)
          have HZ9 := Lib.hid (HZ8.out.by hbD)
          have HX9 := Lib.hid (HX8.out.by hbD)
          have HB9 := Lib.hid (HB8.out.by hbD)
          have HDN9 := Lib.hid (HDN8.out.by hbD)
          have hb9 := below_on hbD hb8w
          clear hbD HN8 HZ8 HX8 HB8 HDN8 k38 k48 hb8w
          go_upto_region 16 with fail
          generalize w8.alloc (.cells #[.int .i64 x.nets, .slice g1 x.ds.length j1, .slice g2 x.ps.length j2] 27) = w9 at *
          obtain ⟨TB, hU⟩ : ∃ U, w8.heap.size = U := ⟨_, rfl⟩
          (try rw [hU])
          rw [hU] at kB9
          clear hU
          have c3 := k39.cell
          have l3 := k39.lt
          go_wp2
          go_loopw [13, 15] (fun u i wr => ∃ k : Nat, k ≤ x.ds.length ∧ i = .int .i64 (k : Int) ∧ u = .int .i64 ((pinS (x.ds.take k) : Nat) : Int) ∧ wr = w9) (fun _ i _ => x.ds.length - (intOf i).toNat)
          case atStart => exact ⟨0, Nat.zero_le _, rfl, rfl, rfl⟩
          case round =>
            obtain ⟨k, hk, rfl, rfl, rfl⟩ := hrel
            have hps := pinS_le x.ds k
            have hpb := HPB.out
            by_cases hlt : k < x.ds.length
            · as_aux_lemma =>
              obtain ⟨d, hd⟩ : ∃ d, x.ds[k]? = some d := ⟨_, List.getElem?_eq_getElem hlt⟩
              have hpt := pinS_take x.ds k d hd
              have hps1 := pinS_le x.ds (k + 1)
              rcases HDN9.out with ⟨_, _, _, h2⟩ | ⟨bd, od, cd, he, h2, h3, h4⟩
              · rw [h2] at hlt; simp at hlt
              obtain ⟨rfl, rfl⟩ : a1 = some ⟨bd, od, none⟩ ∧ c1 = cd := by simpa using he
              obtain ⟨pv, d0, d1, d2, d3, d4⟩ := h4 k d hd
              obtain ⟨pa, pc, rfl⟩ := d4.len
              have HPT := Lib.hid hpt
              obtain ⟨DL, hDL⟩ : ∃ q, d.pins.length = q := ⟨_, rfl⟩
              rw [hDL] at hpt d1 HPT
              generalize pinS (x.ds.take k) = PK at *
              have i1 : (k : Int) < (x.ds.length : Int) := by omega
              have i2 : (0 : Int) ≤ (k : Int) := by omega
              clear h4 he hd d0 d2 d3 d4 hDL
              have hq : PK + DL ≤ 72 := by omega
              clear hpt
              go_wp2
              exact ⟨⟨k + 1, by omega, by go_num, by rw [HPT.out]; go_num, (by first | rfl | trivial)⟩, by simp [intOf]; omega⟩
            · obtain rfl : k = x.ds.length := by omega
              have i1 : ¬ (x.ds.length : Int) < (x.ds.length : Int) := by omega
              rw [List.take_length] at hps ⊢
              clear hps
              have HDD := Lib.hid (show dgS x.ds 0 = 0 from rfl)
              go_wp2
              obtain ⟨wo, rfl⟩ : ∃ z : World, z = wr := ⟨_, rfl⟩
              go_loopw [14, 16] (fun u i wr => ∃ k : Nat, (k : Int) ≤ x.nets ∧ i = .int .i64 (k : Int) ∧ u = .int .i64 ((dgS x.ds k : Nat) : Int) ∧ Below wo.heap.size wo wr) (fun _ i _ => x.nets.toNat - (intOf i).toNat)
              case atStart => exact ⟨0, by omega, rfl, rfl, Below.refl _ _⟩
              case round =>
                clear c3 l3
                obtain ⟨k, hk, rfl, rfl, hbr⟩ := hrel
                have k3r := Blk.by hbr k39
                have k4r := Blk.by hbr k49
                have kBr := Blk.by hbr kB9
                have c3 := k3r.cell
                have l3 := k3r.lt
                have c4 := k4r.cell
                have l4 := k4r.lt
                by_cases hlt : (k : Int) < x.nets
                · as_aux_lemma =>
                  have hks : k < zs.length := by have := HZL.out; omega
                  obtain ⟨z, hz⟩ : ∃ z, zs[k]? = some z := ⟨_, List.getElem?_eq_getElem hks⟩
                  rcases HZ9.out with ⟨_, _, _, h2⟩ | ⟨bz, oz, cp, he, h2, h3, h4⟩
                  · rw [h2] at hks; simp at hks
                  obtain ⟨rfl, rfl⟩ : az = some ⟨bz, oz, none⟩ ∧ cz = cp := by simpa using he
                  have e0 := h4 k _ hz
                  have hd1 := dgS_mono x.ds (k := k + 1) (n := x.nets.toNat) (by omega)
                  rw [HDG.out] at hd1
                  have HST := Lib.hid (show dgS x.ds (k + 1) = dgS x.ds k + degN x.ds k from rfl)
                  rw [HST.out] at hd1
                  have HN1 := Lib.hid (fun v w h => HND.out k hlt v w h)
                  have HN2 := Lib.hid (fun v w h => HNE.out k z hlt hz v w h)
                  generalize dgS x.ds k = DK at *
                  generalize degN x.ds k = DE at *
                  have i1 : (k : Int) < (zs.length : Int) := by omega
                  have i2 : (0 : Int) ≤ (k : Int) := by omega
                  clear h4 he hz
                  go_wp2_with fail
                  (with_reducible refine (HN1.out _ _ (HN9.out.by hbr)).mono ?_)
                  rintro e wa ⟨rfl, hba⟩
                  have k4a := Blk.by hba k4r
                  have hbra := below_on hba hbr
                  have e1 := cell_by' hbra e0
                  have HXa := Lib.hid (HX9.out.by hbra)
                  clear hba c3 l3 c4 l4 k3r k4r kBr hbr
                  have HSB : ∀ w' : World, Below wa.heap.size wa w' → (fun w' : World => (Blk w' T4 #[.int .i64 y.nets, .slice b1 y.ds.length d1, .slice b2 y.ps.length d2] 27 ∧ ∀ o, w'.cell? ⟨T4, o, none⟩ = (#[.int .i64 y.nets, .slice b1 y.ds.length d1, .slice b2 y.ps.length d2] : Array Value)[o]?) ∧ w'.cell? ⟨bz, oz + k, none⟩ = some (.int .i64 z) ∧ Below wa.heap.size wa w') w' := fun w' hb => ⟨(Blk.by hb k4a).both, cell_by' hb e1, hb⟩
                  go_upto_region 25 with fail
                  go_region_held3 (fun w' : World => (Blk w' T4 #[.int .i64 y.nets, .slice b1 y.ds.length d1, .slice b2 y.ps.length d2] 27 ∧ ∀ o, w'.cell? ⟨T4, o, none⟩ = (#[.int .i64 y.nets, .slice b1 y.ds.length d1, .slice b2 y.ps.length d2] : Array Value)[o]?) ∧ w'.cell? ⟨bz, oz + k, none⟩ = some (.int .i64 z) ∧ Below wa.heap.size wa w') (((try (obtain ⟨_, _, hSB⟩ := hHeld)); refine HSB _ ?_; ((repeat (first | (with_reducible exact Below.refl _ _) | (with_reducible refine below_drewN ?_ _) | (with_reducible refine Below.drew ?_) | (with_reducible refine below_al ?_ _) | (with_reducible refine below_on (by assumption) ?_) | ((with_reducible refine Below.setCell ?_ ?_ _); rotate_left; focus (first | omega | (simp; done) | (simp; omega))) | (with_reducible assumption))); done)))
                    (first | (go_at_call 10; (with_reducible refine (HN2.out _ _ (HXa.out.by (by ((repeat (first | (with_reducible exact Below.refl _ _) | (with_reducible refine below_drewN ?_ _) | (with_reducible refine Below.drew ?_) | (with_reducible refine below_al ?_ _) | (with_reducible refine below_on (by assumption) ?_) | ((with_reducible refine Below.setCell ?_ ?_ _); rotate_left; focus (first | omega | (simp; done) | (simp; omega))) | (with_reducible assumption))); done)))).mono ?_); rintro e wb ⟨rfl, hbb⟩))
                  have hbz : Below wa.heap.size wa wb := (by ((repeat (first | (with_reducible exact Below.refl _ _) | (with_reducible refine below_drewN ?_ _) | (with_reducible refine Below.drew ?_) | (with_reducible refine below_al ?_ _) | (with_reducible refine below_on (by assumption) ?_) | ((with_reducible refine Below.setCell ?_ ?_ _); rotate_left; focus (first | omega | (simp; done) | (simp; omega))) | (with_reducible assumption))); done))
                  go_wp2
                  exact ⟨⟨k + 1, by omega, by go_num, by rw [HST.out]; go_num, below_on hbz hbra⟩, by simp [intOf]; omega⟩
                · as_aux_lemma =>
                  have hkn : k = x.nets.toNat := by omega
                  have hdk : dgS x.ds k = pinS x.ds := by rw [hkn]; exact HDG.out
                  rw [hdk]
                  have HNr := Lib.hid (HN9.out.by hbr)
                  have HBr := Lib.hid (HB9.out.by hbr)
                  have hbw := below_on hbr hb9
                  have hee : (((pinS x.ds : Nat) : Int) == ((pinS x.ds : Nat) : Int)) = true := by simp
                  clear hkn hdk c4 l4 k4r hbr
                  have cB := kBr.cell
                  have lB := kBr.lt
                  generalize pinS x.ds = PS at *
                  have HSB : ∀ w' : World, Below wr.heap.size wr w' → (fun w' : World => (Blk w' TB #[.int .i64 x.nets, .slice g1 x.ds.length j1, .slice g2 x.ps.length j2] 27 ∧ ∀ o, w'.cell? ⟨TB, o, none⟩ = (#[.int .i64 x.nets, .slice g1 x.ds.length j1, .slice g2 x.ps.length j2] : Array Value)[o]?) ∧ (Blk w' T3 #[.int .i64 x.nets, .slice a1 x.ds.length c1, .slice a2 x.ps.length c2] 27 ∧ ∀ o, w'.cell? ⟨T3, o, none⟩ = (#[.int .i64 x.nets, .slice a1 x.ds.length c1, .slice a2 x.ps.length c2] : Array Value)[o]?) ∧ Below wr.heap.size wr w') w' := fun w' hb => ⟨(Blk.by hb kBr).both, (Blk.by hb k3r).both, hb⟩
                  go_upto_region 28 with fail
                  go_region_held3 (fun w' : World => (Blk w' TB #[.int .i64 x.nets, .slice g1 x.ds.length j1, .slice g2 x.ps.length j2] 27 ∧ ∀ o, w'.cell? ⟨TB, o, none⟩ = (#[.int .i64 x.nets, .slice g1 x.ds.length j1, .slice g2 x.ps.length j2] : Array Value)[o]?) ∧ (Blk w' T3 #[.int .i64 x.nets, .slice a1 x.ds.length c1, .slice a2 x.ps.length c2] 27 ∧ ∀ o, w'.cell? ⟨T3, o, none⟩ = (#[.int .i64 x.nets, .slice a1 x.ds.length c1, .slice a2 x.ps.length c2] : Array Value)[o]?) ∧ Below wr.heap.size wr w') (((try (obtain ⟨_, _, hSB⟩ := hHeld)); refine HSB _ ?_; ((repeat (first | (with_reducible exact Below.refl _ _) | (with_reducible refine below_drewN ?_ _) | (with_reducible refine Below.drew ?_) | (with_reducible refine below_al ?_ _) | (with_reducible refine below_on (by assumption) ?_) | ((with_reducible refine Below.setCell ?_ ?_ _); rotate_left; focus (first | omega | (simp; done) | (simp; omega))) | (with_reducible assumption))); done)))
                    (first | (go_at_call_of 11 (Value.agg #[Value.int IntKind.i64 x.nets, Value.slice g1 x.ds.length j1, Value.slice g2 x.ps.length j2]); refine (HFM.out _ _ (HBr.out.by (by ((repeat (first | (with_reducible exact Below.refl _ _) | (with_reducible refine below_drewN ?_ _) | (with_reducible refine Below.drew ?_) | (with_reducible refine below_al ?_ _) | (with_reducible refine below_on (by assumption) ?_) | ((with_reducible refine Below.setCell ?_ ?_ _); rotate_left; focus (first | omega | (simp; done) | (simp; omega))) | (with_reducible assumption))); done)))).mono ?_; rintro e w11 ⟨rfl, hb11⟩) | (go_at_call_of 11 (Value.agg #[Value.int IntKind.i64 x.nets, Value.slice a1 x.ds.length c1, Value.slice a2 x.ps.length c2]); refine (HFM.out _ _ (HNr.out.by (by ((repeat (first | (with_reducible exact Below.refl _ _) | (with_reducible refine below_drewN ?_ _) | (with_reducible refine Below.drew ?_) | (with_reducible refine below_al ?_ _) | (with_reducible refine below_on (by assumption) ?_) | ((with_reducible refine Below.setCell ?_ ?_ _); rotate_left; focus (first | omega | (simp; done) | (simp; omega))) | (with_reducible assumption))); done)))).mono ?_; rintro e w12 ⟨rfl, hb12⟩))
                  all_goals
                    go_wp2
                    go_ret
                    exact ⟨rfl, (by ((repeat (first | (with_reducible exact Below.refl _ _) | (with_reducible refine below_drewN ?_ _) | (with_reducible refine Below.drew ?_) | (with_reducible refine below_al ?_ _) | (with_reducible refine below_on (by assumption) ?_) | ((with_reducible refine Below.setCell ?_ ?_ _); rotate_left; focus (first | omega | (simp; done) | (simp; omega))) | (with_reducible assumption))); done))⟩
    · as_aux_lemma =>
      have hpb : (p0 != 0) = true := by simpa using hp
      have HPE := Lib.hid (show ((p0 == 1) == !nlB x) = true from by rw [← HP0.out]; exact rn_one x zs)
      clear hp
      go_wp2_with fail
      refine (HVX.out _ _ HN6.out).mono ?_
      rintro e w7 ⟨rfl, hb7⟩
      have hb7w := below_on hb7 hb6
      go_wp2
      go_ret
      exact ⟨by first | (rw [HPE.out]; rfl) | rfl, hb7w⟩
end Go.Proofs.Ytdljbmfmmlcmmaa.fnRename
