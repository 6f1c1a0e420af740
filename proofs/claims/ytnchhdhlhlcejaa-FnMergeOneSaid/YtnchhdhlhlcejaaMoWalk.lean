/- The walk of FnMergeOne. -/
import Derived.Test.YtnchhdhlhlcejaaDrawMp
import Derived.Test.YtnchhdhlhlcejaaMpMo
import Derived.Test.YtnchhdhlhlcejaaOpenBy
import Derived.BigRegion
namespace Go.Proofs.Ytnchhdhlhlcejaa.fnMergeOne
open Go.RowKit Go.Proofs.Ytnchhdhlhlcejaa
set_option linter.unusedVariables false
set_option linter.unusedSimpArgs false

/-- What a merge with code 0 is made of. -/
theorem parts {x : Nl} {i j : Int} (hc : mgC x i j = 0) : nlB x = true ∧ ∃ (a b : Nat) (A B : Dv), i = a ∧ j = b ∧ a < b ∧ x.ds[a]? = some A ∧ x.ds[b]? = some B ∧ mgE x A B = 0 ∧ mgR x i j = ⟨x.nets, (x.ds.set a (mgD A B (serB x A B))).eraseIdx b, x.ps⟩ := by
  have hv : nlB x = true := by
    cases h : nlB x with
    | true => rfl
    | false => rw [mgC_valid h] at hc; exact absurd hc (by decide)
  have hr : 0 ≤ i ∧ i < j ∧ j < x.ds.length := by
    by_cases hr : 0 ≤ i ∧ i < j ∧ j < x.ds.length
    · exact hr
    · rw [mgC_range hv hr] at hc; exact absurd hc (by decide)
  obtain ⟨h1, h2, h3⟩ := hr
  obtain ⟨a, rfl⟩ := Int.eq_ofNat_of_zero_le h1
  obtain ⟨b, rfl⟩ := Int.eq_ofNat_of_zero_le (show 0 ≤ j by omega)
  have ha : x.ds[a]? = some (x.ds[a]'(by omega)) := List.getElem?_eq_getElem _
  have hb : x.ds[b]? = some (x.ds[b]'(by omega)) := List.getElem?_eq_getElem _
  rw [mgC_in hv (by omega) ha hb] at hc
  exact ⟨hv, a, b, _, _, rfl, rfl, by omega, ha, hb, hc, mgR_in hv (by omega) ha hb hc⟩
theorem mgE_zero {x : Nl} {A B : Dv} (h : mgE x A B = 0) : (serB x A B = true ∨ parB A B = true) ∧ (mgD A B (serB x A B)).wd ≤ 1000000 ∧ (mgD A B (serB x A B)).len ≤ 1000000 := by
  unfold mgE at h
  split at h
  · exact absurd h (by decide)
  · rename_i h1
    split at h
    · exact absurd h (by decide)
    · rename_i h2
      refine ⟨?_, by omega, by omega⟩
      cases h3 : serB x A B with
      | true => exact .inl rfl
      | false =>
        cases h4 : parB A B with
        | true => exact .inr rfl
        | false => exact absurd ⟨h3, h4⟩ h1
/-- The merged netlist is valid. -/
theorem mgR_valid {x : Nl} {a b : Nat} {A B : Dv} (hv : nlB x = true) (hA : x.ds[a]? = some A) (hB : x.ds[b]? = some B) (h : mgE x A B = 0) :
    nlB ⟨x.nets, (x.ds.set a (mgD A B (serB x A B))).eraseIdx b, x.ps⟩ = true := by
  have hv' := hv
  simp only [nlB, Bool.and_eq_true, decide_eq_true_eq, List.all_eq_true] at hv
  obtain ⟨h1, h2, h3, h4, h5⟩ := hv
  have mA := List.mem_of_getElem? hA
  have mB := List.mem_of_getElem? hB
  obtain ⟨hsp, hw, hl⟩ := mgE_zero h
  have hk : A.kind = B.kind := by
    rcases hsp with hs | hp
    · exact (preB_kindE (serB_oneB hs).1).1
    · simp only [parB, Bool.and_eq_true, decide_eq_true_eq] at hp; exact hp.1
  have hd : dvB x.nets (mgD A B (serB x A B)) = true := mgD_valid (h4 A mA) (h4 B mB) hk (fun hs => (serB_oneB hs).2) hw hl
  simp only [nlB, Bool.and_eq_true, decide_eq_true_eq, List.all_eq_true]
  refine ⟨h1, ?_, h3, fun d hdm => ?_, h5⟩
  · have := List.length_eraseIdx_le (x.ds.set a (mgD A B (serB x A B))) b
    rw [List.length_set] at this
    omega
  · have hm := (List.eraseIdx_sublist _ _).subset hdm
    rcases List.mem_or_eq_of_mem_set hm with hm | rfl
    · exact h4 d hm
    · exact hd
theorem wrapb {z : Int} (h0 : 0 ≤ z) (h1 : z ≤ 4000000000000000000) : IntKind.i64.wrap z = z := by simp [IntKind.wrap, IntKind.bits, IntKind.signed]; omega
theorem wmul {x y : Int} (h : 1 ≤ x ∧ x ≤ 1000000) (h' : 1 ≤ y ∧ y ≤ 1000000) : (1 ≤ x * y ∧ x * y ≤ 1000000000000) ∧ IntKind.i64.wrap (x * y) = x * y := by
  have h1 : 1 * 1 ≤ x * y := Int.mul_le_mul h.1 h'.1 (by decide) (by omega)
  have h2 : x * y ≤ 1000000 * 1000000 := Int.mul_le_mul h.2 h'.2 (by omega) (by decide)
  exact ⟨⟨by omega, by omega⟩, wrapb (by omega) (by omega)⟩
theorem wmul2 {x y : Int} (h : 1 ≤ x ∧ x ≤ 1000000000000) (h' : 1 ≤ y ∧ y ≤ 1000000) : (1 ≤ x * y ∧ x * y ≤ 1000000000000000000) ∧ IntKind.i64.wrap (x * y) = x * y := by
  have h1 : 1 * 1 ≤ x * y := Int.mul_le_mul h.1 h'.1 (by decide) (by omega)
  have h2 : x * y ≤ 1000000000000 * 1000000 := Int.mul_le_mul h.2 h'.2 (by omega) (by decide)
  exact ⟨⟨by omega, by omega⟩, wrapb (by omega) (by omega)⟩
theorem wmul3 {x y : Int} (h : 1 ≤ x ∧ x ≤ 1000000) (h' : 1 ≤ y ∧ y ≤ 2000000000000) : (1 ≤ x * y ∧ x * y ≤ 2000000000000000000) ∧ IntKind.i64.wrap (x * y) = x * y := by
  have h1 : 1 * 1 ≤ x * y := Int.mul_le_mul h.1 h'.1 (by decide) (by omega)
  have h2 : x * y ≤ 1000000 * 2000000000000 := Int.mul_le_mul h.2 h'.2 (by omega) (by decide)
  exact ⟨⟨by omega, by omega⟩, wrapb (by omega) (by omega)⟩
theorem nlds {w : World} {n s1 s2 : Value} {x : Nl} (h : NlV w (.agg #[n, s1, s2]) x) : DvSl w s1 x.ds := by
  obtain ⟨t1, t2, e, h1, h2⟩ := h
  injection e with e
  have : s1 = t1 := by have := congrArg (fun a : Array Value => a[1]?) e; simpa using this
  rw [this]; exact h1
/-- The sizes' law: what the statement says of kinds and of resistors. -/
theorem sizes (A B : Dv) (ser : Bool) (bA : (1 ≤ A.wd ∧ A.wd ≤ 1000000) ∧ (1 ≤ A.len ∧ A.len ≤ 1000000)) (bB : (1 ≤ B.wd ∧ B.wd ≤ 1000000) ∧ (1 ≤ B.len ∧ B.len ≤ 1000000)) (hw : (mgD A B ser).wd ≤ 1000000) (hl : (mgD A B ser).len ≤ 1000000) :
    (A.kind ≠ 2 → ((mgD A B ser).wd = A.wd + B.wd ∧ (mgD A B ser).len = A.len) ∨ ((mgD A B ser).wd = A.wd ∧ (mgD A B ser).len = A.len + B.len)) ∧
    (A.kind = 2 → (mgD A B ser).wd * A.len * B.len = (mgD A B ser).len * (A.wd * B.len + B.wd * A.len) ∨ (mgD A B ser).len * A.wd * B.wd = (mgD A B ser).wd * (A.wd * B.len + B.wd * A.len)) := by
  obtain ⟨⟨a1, a2⟩, a3, a4⟩ := bA
  obtain ⟨⟨b1, b2⟩, b3, b4⟩ := bB
  have m1 : 1 ≤ A.wd * B.len := Int.le_trans (by decide) (Int.mul_le_mul a1 b3 (by decide) (by omega))
  have m2 : 1 ≤ B.wd * A.len := Int.le_trans (by decide) (Int.mul_le_mul b1 a3 (by decide) (by omega))
  have m3 : 1 ≤ A.len * B.len := Int.le_trans (by decide) (Int.mul_le_mul a3 b3 (by decide) (by omega))
  have m4 : 1 ≤ A.wd * B.wd := Int.le_trans (by decide) (Int.mul_le_mul a1 b1 (by decide) (by omega))
  have r1 := (red_facts (show 1 ≤ A.wd * B.len + B.wd * A.len by omega) m3).2.2.2
  have r2 := (red_facts m4 (show 1 ≤ A.wd * B.len + B.wd * A.len by omega)).2.2.2
  refine ⟨fun hk => ?_, fun hk => ?_⟩
  · show (mgW A B ser = A.wd + B.wd ∧ mgL A B ser = A.len) ∨ (mgW A B ser = A.wd ∧ mgL A B ser = A.len + B.len)
    unfold mgW mgL
    rw [if_neg hk, if_neg hk]
    cases ser with
    | true => exact .inr ⟨rfl, rfl⟩
    | false => exact .inl ⟨rfl, rfl⟩
  · show mgW A B ser * A.len * B.len = mgL A B ser * (A.wd * B.len + B.wd * A.len) ∨ mgL A B ser * A.wd * B.wd = mgW A B ser * (A.wd * B.len + B.wd * A.len)
    unfold mgW mgL
    rw [if_pos hk, if_pos hk]
    cases ser with
    | true => refine .inl ?_; simp only [if_true]; rw [Int.mul_assoc]; exact r1
    | false => refine .inr ?_; simp only [Bool.false_eq_true, if_false]; rw [Int.mul_assoc]; exact r2.symm

set_option maxRecDepth 100000 in
set_option maxHeartbeats 8000000 in
theorem walk (v0 : Value) (w : World) (n : Nat) (hB : Bytes w v0 n) :
    Calls Try.prog 5 #[v0] w fun e w' => e = .returned (.bool true) ∧ Below w.heap.size w w' := by
  have HB := Lib.hid hB
  have HBG := Lib.hid (fun w h => big_any v0 n w h)
  by_cases hn : 4096 < n
  · rw [decide_eq_true hn] at HBG
    clear hB hn
    go_enter Try.func5, Try.ntmps5
    go_wp2_with fail
    refine (HBG.out _ HB.out).mono ?_
    rintro e w1 ⟨rfl, rfl⟩
    go_wp2
    go_ret
    exact ⟨rfl, Below.refl _ _⟩
  · rw [decide_eq_false hn] at HBG
    have HDR := Lib.hid (fun w h => drawMp_any v0 n w h (by omega))
    clear hB hn
    go_enter Try.func5, Try.ntmps5
    go_wp2_with fail
    refine (HBG.out _ HB.out).mono ?_
    rintro e w1 ⟨rfl, rfl⟩
    go_wp2_with fail
    refine (HDR.out _ HB.out).mono ?_
    rintro e w1 ⟨v, x, i, j, rfl, HNV, HS, hb1⟩
    have HIM := Lib.hid (fun v w h => implMp_any x i j v w h HS.out.2.2.2.2 HS.out.fits)
    have HSP := Lib.hid (fun v w h => specMp_any x i j v w h HS.out.2.2.2.2 HS.out.fits)
    obtain ⟨a1, c1, a2, c2, rfl⟩ := HNV.out.sized
    have hbA : Below w1.heap.size w1 (w1.alloc (.cells #[.int .i64 x.nets, .slice a1 x.ds.length c1, .slice a2 x.ps.length c2] 30)) := (Below.refl _ w1).alloc (Nat.le_refl _) _
    have k3 : Blk (w1.alloc (.cells #[.int .i64 x.nets, .slice a1 x.ds.length c1, .slice a2 x.ps.length c2] 30)) w1.heap.size #[.int .i64 x.nets, .slice a1 x.ds.length c1, .slice a2 x.ps.length c2] 30 := Blk.new _ rfl
    have HN2 := Lib.hid (HNV.out.by hbA)
    have hb2 := below_on hbA hb1
    clear HNV hbA hb1
    go_upto_region 4 with fail
    generalize w1.alloc (.cells #[.int .i64 x.nets, .slice a1 x.ds.length c1, .slice a2 x.ps.length c2] 30) = w2 at *
    obtain ⟨T, hT⟩ : ∃ T, w1.heap.size = T := ⟨_, rfl⟩
    (try rw [hT])
    rw [hT] at k3
    clear hT
    have c3 := k3.cell
    have l3 := k3.lt
    go_wp2_with fail
    refine (HIM.out _ _ HN2.out).mono ?_
    rintro e w3 ⟨v6, rfl, hO3, hb3⟩
    have HO3 := Lib.hid hO3
    obtain ⟨b1, d1, b2, d2, rfl⟩ := hO3.nl.sized
    have k33 := Blk.by hb3 k3
    have HN3 := Lib.hid (HN2.out.by hb3)
    have hb3w := below_on hb3 hb2
    have hbB : Below w3.heap.size w3 (w3.alloc (.cells #[.int .i64 (mgR x i j).nets, .slice b1 (mgR x i j).ds.length d1, .slice b2 (mgR x i j).ps.length d2] 30)) := (Below.refl _ w3).alloc (Nat.le_refl _) _
    have k6 : Blk (w3.alloc (.cells #[.int .i64 (mgR x i j).nets, .slice b1 (mgR x i j).ds.length d1, .slice b2 (mgR x i j).ps.length d2] 30)) w3.heap.size #[.int .i64 (mgR x i j).nets, .slice b1 (mgR x i j).ds.length d1, .slice b2 (mgR x i j).ps.length d2] 30 := Blk.new _ rfl
    have k34 := Blk.by hbB k33
    have HN4 := Lib.hid (HN3.out.by hbB)
    have HX4 := Lib.hid (HO3.out.nl.by hbB)
    have hb4 := below_on hbB hb3w
    clear hb3 hb3w hbB HN3 HO3 hO3 HN2 k33 k3 c3 l3 hb2 HIM
    go_upto_region 5 with fail
    generalize w3.alloc (.cells #[.int .i64 (mgR x i j).nets, .slice b1 (mgR x i j).ds.length d1, .slice b2 (mgR x i j).ps.length d2] 30) = w4 at *
    obtain ⟨U, hU⟩ : ∃ U, w3.heap.size = U := ⟨_, rfl⟩
    (try rw [hU])
    rw [hU] at k6
    clear hU
    have c3 := k34.cell
    have l3 := k34.lt
    go_wp2_with fail
    refine (HSP.out _ _ HN4.out).mono ?_
    rintro e w5 ⟨v8, rfl, hO5, hb5⟩
    obtain ⟨e1, f1, e2, f2, rfl⟩ := hO5.nl.sized
    have hbC : Below w4.heap.size w4 (w5.alloc (.cells #[.int .i64 (mgR x i j).nets, .slice e1 (mgR x i j).ds.length f1, .slice e2 (mgR x i j).ps.length f2] 30)) := below_al hb5 _
    have k36 := Blk.by hbC k34
    have k66 := Blk.by hbC k6
    have HN6 := Lib.hid (HN4.out.by hbC)
    have HX6 := Lib.hid (HX4.out.by hbC)
    have hb6 := below_on hbC hb4
    clear hb5 hbC hO5 HX4 HN4 k34 k6 c3 l3 hb4 HSP
    go_upto_region 6 with fail
    generalize w5.alloc (.cells #[.int .i64 (mgR x i j).nets, .slice e1 (mgR x i j).ds.length f1, .slice e2 (mgR x i j).ps.length f2] 30) = w6 at *
    have cT := k36.cell
    have lT := k36.lt
    have cU := k66.cell
    have lU := k66.lt
    by_cases hc : mgC x i j = 0
    · obtain ⟨hv, a, b, A, B, rfl, rfl, hab, hA, hB, hE, hR⟩ := parts hc
      have hvR := mgR_valid hv hA hB hE
      obtain ⟨hsp, hdw, hdl⟩ := mgE_zero hE
      obtain ⟨h24, hl24, hp8, hdv, _⟩ := nlB_facts hv
      have bA := dvB_nums (hdv A (List.mem_of_getElem? hA))
      have bB := dvB_nums (hdv B (List.mem_of_getElem? hB))
      have mA := List.mem_of_getElem? hA
      have mB := List.mem_of_getElem? hB
      have hdB : dvB x.nets (mgD A B (serB x A B)) = true := mgD_valid (hdv A mA) (hdv B mB) (by
        rcases hsp with hs | hp
        · exact (preB_kindE (serB_oneB hs).1).1
        · simp only [parB, Bool.and_eq_true, decide_eq_true_eq] at hp; exact hp.1) (fun hs => (serB_oneB hs).2) hdw hdl
      have hsz := sizes A B (serB x A B) bA bB hdw hdl
      have hbl := (List.getElem?_eq_some_iff.1 hB).1
      have hD : ((x.ds.set a (mgD A B (serB x A B))).eraseIdx b)[a]? = some (mgD A B (serB x A B)) := by
        rw [List.getElem?_eraseIdx_of_lt hab, List.getElem?_set]
        simp; omega
      have hLl : ((x.ds.set a (mgD A B (serB x A B))).eraseIdx b).length = x.ds.length - 1 := by rw [List.length_eraseIdx_of_lt (by simpa using hbl), List.length_set]
      rw [hR] at HX6 cU k66
      have HVS := Lib.hid (fun v w h => specNl_any _ v w (h : NlV w v ⟨x.nets, (x.ds.set a (mgD A B (serB x A B))).eraseIdx b, x.ps⟩) HS.out.2.2.2.2 HS.out.fits)
      rw [hvR] at HVS
      have hdp := dvB_nums hdB
      generalize hser : serB x A B = ser at *
      obtain ⟨d, hd⟩ : ∃ d, mgD A B ser = d := ⟨_, rfl⟩
      rw [hd] at HVS hsz hD hLl HX6 cU k66 hdw hdl hdp
      obtain ⟨L, hL⟩ : ∃ L, (x.ds.set a d).eraseIdx b = L := ⟨_, rfl⟩
      rw [hL] at HVS hD hLl HX6 cU k66
      dsimp only at cU k66 hD
      have hll : (L.length : Int) = (x.ds.length : Int) - 1 := by omega
      have hll' : (x.ds.length : Int) - 1 = (L.length : Int) := by omega
      replace HX6 : Hid (NlV w6 (.agg #[.int .i64 x.nets, .slice b1 L.length d1, .slice b2 x.ps.length d2]) ⟨x.nets, L, x.ps⟩) := HX6
      have wl : IntKind.i64.wrap ((x.ds.length : Int) - 1) = (L.length : Int) := by rw [hll']; simp [IntKind.wrap, IntKind.bits, IntKind.signed]; omega
      have wl2 : IntKind.i64.wrap (L.length : Int) = (L.length : Int) := by simp [IntKind.wrap, IntKind.bits, IntKind.signed]; omega
      have HLL := Lib.hid hLl
      have HBL := Lib.hid hbl
      have HAB := Lib.hid hab
      have HSZ := Lib.hid hsz
      have HD := Lib.hid hD
      have HA := Lib.hid hA
      have HBB := Lib.hid hB
      have HBA := Lib.hid bA
      have HB2 := Lib.hid bB
      have HDPp := Lib.hid hdp
      clear hll hLl hbl hab hd hL hsz hD hA hB hdw hdl hsp hdv h24 hl24 hp8 mA mB hdB hvR hE hR hv bA bB hdp
      go_upto_region 12 with (go_at_call 19; refine (HVS.out _ _ HX6.out).mono ?_; rintro e w7 ⟨rfl, hb7⟩; have k37 := Blk.by hb7 k36; have k67 := Blk.by hb7 k66; have HN7 := Lib.hid (HN6.out.by hb7); have HX7 := Lib.hid (HX6.out.by hb7); have hbw := below_on hb7 hb6; have cT7 := k37.cell; have lT7 := k37.lt; have cU7 := k67.cell; have lU7 := k67.lt)
      have hbl := HBL.out
      have hab := HAB.out
      have hLl := HLL.out
      have q1 := nlds HN7.out
      have q2 := nlds HX7.out
      dsimp only at q2
      rcases q1 with ⟨_, _, _, h0⟩ | ⟨G1, o1, p1, he1, h11, h12, hel1⟩
      · rw [h0] at hbl; simp at hbl
      rcases q2 with ⟨_, _, _, h0⟩ | ⟨G2, o2, p2, he2, h21, h22, hel2⟩
      · have hDo := HD.out; rw [h0] at hDo; simp at hDo
      obtain ⟨rfl, rfl⟩ : a1 = some ⟨G1, o1, none⟩ ∧ c1 = p1 := by simpa using he1
      obtain ⟨rfl, rfl⟩ : b1 = some ⟨G2, o2, none⟩ ∧ d1 = p2 := by simpa using he2
      obtain ⟨sA, u1, u2, u3, u4, uA⟩ := hel1 a A HA.out
      obtain ⟨sB, u5, u6, u7, u8, uB⟩ := hel1 b B HBB.out
      obtain ⟨sC, u9, u10, u11, u12, uC⟩ := hel2 a d HD.out
      obtain ⟨aA, pA, rfl⟩ := uA.len
      obtain ⟨aB, pB, rfl⟩ := uB.len
      obtain ⟨aC, pC, rfl⟩ := uC.len
      have lG1 := lt_of_cell u1
      have lG2 := lt_of_cell u9
      dsimp only at lG1 lG2
      have i1 : (0 : Int) ≤ (a : Int) := by omega
      have i2 : (a : Int) < (x.ds.length : Int) := by omega
      have i3 : (0 : Int) ≤ (b : Int) := by omega
      have i4 : (b : Int) < (x.ds.length : Int) := by omega
      have i5 : (a : Int) < (L.length : Int) := by omega
      clear hLl hbl hab
      clear uA uB uC hel1 hel2 he1 he2 HN7 HX7 HN6 HX6 cT lT cU lU k36 k66
      go_cut [10, 11, 12] (fun s10 s11 s12 wx => ∃ p q r : Nat, s10 = .pointer (some ⟨p, 0, none⟩) ∧ s11 = .pointer (some ⟨q, 0, none⟩) ∧ s12 = .pointer (some ⟨r, 0, none⟩) ∧ Hid (Blk wx p #[.int .i64 A.kind, (.slice aA A.pins.length pA), .int .i64 A.wd, .int .i64 A.len] 46) ∧ Hid (Blk wx q #[.int .i64 B.kind, (.slice aB B.pins.length pB), .int .i64 B.wd, .int .i64 B.len] 46) ∧ Hid (Blk wx r #[.int .i64 d.kind, (.slice aC d.pins.length pC), .int .i64 d.wd, .int .i64 d.len] 46) ∧ Hid (Below w.heap.size w wx))
      case first =>
        clear HLL HBL HAB HSZ HDPp HD HA HBB HBA HB2 HVS wl wl2 hll' HB HBG HDR hb6
        have HSB : ∀ w' : World, Below w7.heap.size w7 w' → (fun w' => (∀ o, w'.cell? ⟨T, o, none⟩ = (#[.int .i64 x.nets, .slice (some ⟨G1, o1, none⟩) x.ds.length c1, .slice a2 x.ps.length c2] : Array Value)[o]?) ∧ (∀ o, w'.cell? ⟨U, o, none⟩ = (#[.int .i64 x.nets, .slice (some ⟨G2, o2, none⟩) L.length d1, .slice b2 x.ps.length d2] : Array Value)[o]?) ∧ w'.cell? ⟨G1, o1 + a * 4, none⟩ = some (.int .i64 A.kind) ∧ w'.cell? ⟨G1, o1 + a * 4 + 1, none⟩ = some (.slice aA A.pins.length pA) ∧ w'.cell? ⟨G1, o1 + a * 4 + 2, none⟩ = some (.int .i64 A.wd) ∧ w'.cell? ⟨G1, o1 + a * 4 + 3, none⟩ = some (.int .i64 A.len) ∧ w'.cell? ⟨G1, o1 + b * 4, none⟩ = some (.int .i64 B.kind) ∧ w'.cell? ⟨G1, o1 + b * 4 + 1, none⟩ = some (.slice aB B.pins.length pB) ∧ w'.cell? ⟨G1, o1 + b * 4 + 2, none⟩ = some (.int .i64 B.wd) ∧ w'.cell? ⟨G1, o1 + b * 4 + 3, none⟩ = some (.int .i64 B.len) ∧ w'.cell? ⟨G2, o2 + a * 4, none⟩ = some (.int .i64 d.kind) ∧ w'.cell? ⟨G2, o2 + a * 4 + 1, none⟩ = some (.slice aC d.pins.length pC) ∧ w'.cell? ⟨G2, o2 + a * 4 + 2, none⟩ = some (.int .i64 d.wd) ∧ w'.cell? ⟨G2, o2 + a * 4 + 3, none⟩ = some (.int .i64 d.len) ∧ Below w7.heap.size w7 w') w' := fun w' hb => ⟨(Blk.by hb k37).cell, (Blk.by hb k67).cell, cell_by' hb u1, cell_by' hb u2, cell_by' hb u3, cell_by' hb u4, cell_by' hb u5, cell_by' hb u6, cell_by' hb u7, cell_by' hb u8, cell_by' hb u9, cell_by' hb u10, cell_by' hb u11, cell_by' hb u12, hb⟩
        go_region_held3 (fun w' => (∀ o, w'.cell? ⟨T, o, none⟩ = (#[.int .i64 x.nets, .slice (some ⟨G1, o1, none⟩) x.ds.length c1, .slice a2 x.ps.length c2] : Array Value)[o]?) ∧ (∀ o, w'.cell? ⟨U, o, none⟩ = (#[.int .i64 x.nets, .slice (some ⟨G2, o2, none⟩) L.length d1, .slice b2 x.ps.length d2] : Array Value)[o]?) ∧ w'.cell? ⟨G1, o1 + a * 4, none⟩ = some (.int .i64 A.kind) ∧ w'.cell? ⟨G1, o1 + a * 4 + 1, none⟩ = some (.slice aA A.pins.length pA) ∧ w'.cell? ⟨G1, o1 + a * 4 + 2, none⟩ = some (.int .i64 A.wd) ∧ w'.cell? ⟨G1, o1 + a * 4 + 3, none⟩ = some (.int .i64 A.len) ∧ w'.cell? ⟨G1, o1 + b * 4, none⟩ = some (.int .i64 B.kind) ∧ w'.cell? ⟨G1, o1 + b * 4 + 1, none⟩ = some (.slice aB B.pins.length pB) ∧ w'.cell? ⟨G1, o1 + b * 4 + 2, none⟩ = some (.int .i64 B.wd) ∧ w'.cell? ⟨G1, o1 + b * 4 + 3, none⟩ = some (.int .i64 B.len) ∧ w'.cell? ⟨G2, o2 + a * 4, none⟩ = some (.int .i64 d.kind) ∧ w'.cell? ⟨G2, o2 + a * 4 + 1, none⟩ = some (.slice aC d.pins.length pC) ∧ w'.cell? ⟨G2, o2 + a * 4 + 2, none⟩ = some (.int .i64 d.wd) ∧ w'.cell? ⟨G2, o2 + a * 4 + 3, none⟩ = some (.int .i64 d.len) ∧ Below w7.heap.size w7 w') (((try (obtain ⟨_, _, _, _, _, _, _, _, _, _, _, _, _, _, hSB⟩ := hHeld)); refine HSB _ ?_; ((repeat (first | (with_reducible exact Below.refl _ _) | (with_reducible refine below_drewN ?_ _) | (with_reducible refine Below.drew ?_) | (with_reducible refine below_al ?_ _) | (with_reducible refine below_on (by assumption) ?_) | ((with_reducible refine Below.setCell ?_ ?_ _); rotate_left; focus (first | omega | (simp; done) | (simp; omega))) | (with_reducible assumption))); done)))
          (fail)
        all_goals
          go_wp2_with fail
          go_meet
          refine ⟨_, _, _, rfl, rfl, rfl, Lib.hid ?_, Lib.hid ?_, Lib.hid ?_, Lib.hid ?_⟩
          any_goals (first | exact (Blk.new _ (by simp)).drew | exact ((Blk.new _ (by simp)).past _).drew | exact (((Blk.new _ (by simp)).past _).past _).drew | exact Blk.new _ (by simp) | exact (Blk.new _ (by simp)).past _ | exact ((Blk.new _ (by simp)).past _).past _)
          all_goals ((repeat (first | (with_reducible exact Below.refl _ _) | (with_reducible refine below_drewN ?_ _) | (with_reducible refine Below.drew ?_) | (with_reducible refine below_al ?_ _) | (with_reducible refine below_on (by assumption) ?_) | ((with_reducible refine Below.setCell ?_ ?_ _); rotate_left; focus (first | omega | (simp; done) | (simp; omega))) | (with_reducible assumption))); done)
      case rest =>
        obtain ⟨p, q, r, rfl, rfl, rfl, HKA, HKB, HKC, HBF⟩ := hcut
        have kA := HKA.out.cell
        have kB := HKB.out.cell
        have kC := HKC.out.cell
        have mA := HKA.out.lt
        have mB := HKB.out.lt
        have mC := HKC.out.lt
        obtain ⟨⟨x1, x2⟩, x3, x4⟩ := HBA.out
        obtain ⟨⟨y1, y2⟩, y3, y4⟩ := HB2.out
        obtain ⟨⟨z1, z2⟩, z3, z4⟩ := HDPp.out
        have hsz := HSZ.out
        by_cases hk : A.kind = 2
        · have hk2 : decide (A.kind = 2) = true := decide_eq_true hk
          have w1 := wmul ⟨z1, z2⟩ ⟨x3, x4⟩
          have w2 := wmul ⟨x1, x2⟩ ⟨y3, y4⟩
          have w3 := wmul ⟨y1, y2⟩ ⟨x3, x4⟩
          have w4 := wmul ⟨z3, z4⟩ ⟨x1, x2⟩
          have v1 := wmul2 w1.1 ⟨y3, y4⟩
          have v4 := wmul2 w4.1 ⟨y1, y2⟩
          have s1 : (1 ≤ A.wd * B.len + B.wd * A.len ∧ A.wd * B.len + B.wd * A.len ≤ 2000000000000) ∧ IntKind.i64.wrap (A.wd * B.len + B.wd * A.len) = A.wd * B.len + B.wd * A.len := by
            have h1 := w2.1; have h2 := w3.1
            exact ⟨by omega, wrapb (by omega) (by omega)⟩
          have v2 := wmul3 ⟨z3, z4⟩ s1.1
          have v3 := wmul3 ⟨z1, z2⟩ s1.1
          replace w1 := w1.2
          replace w2 := w2.2
          replace w3 := w3.2
          replace w4 := w4.2
          replace v1 := v1.2
          replace v2 := v2.2
          replace v3 := v3.2
          replace v4 := v4.2
          replace s1 := s1.2
          have hO := hsz.2 hk
          clear hsz x1 x2 x3 x4 y1 y2 y3 y4 z1 z2 z3 z4
          rcases (by omega : 1000 < A.wd ∨ (¬ 1000 < A.wd ∧ 1000 < B.wd) ∨ (¬ 1000 < A.wd ∧ ¬ 1000 < B.wd)) with g | ⟨g, g'⟩ | ⟨g, g'⟩
          · clear hO
            go_wp2
            go_ret
            exact ⟨rfl, HBF.out⟩
          · clear hO
            go_wp2
            go_ret
            exact ⟨rfl, HBF.out⟩
          · by_cases hE : d.wd * A.len * B.len = d.len * (A.wd * B.len + B.wd * A.len)
            · clear hO
              have hE' : decide (d.wd * A.len * B.len = d.len * (A.wd * B.len + B.wd * A.len)) = true := decide_eq_true hE
              go_wp2
              go_ret
              exact ⟨rfl, HBF.out⟩
            · have hE2 := hO.resolve_left hE
              have hE' : decide (d.wd * A.len * B.len = d.len * (A.wd * B.len + B.wd * A.len)) = false := decide_eq_false hE
              have hE2' : decide (d.len * A.wd * B.wd = d.wd * (A.wd * B.len + B.wd * A.len)) = true := decide_eq_true hE2
              have hb1 : (d.wd * A.len * B.len == d.len * (A.wd * B.len + B.wd * A.len)) = false := by simpa using hE
              have hb2 : (d.len * A.wd * B.wd == d.wd * (A.wd * B.len + B.wd * A.len)) = true := by simpa using hE2
              have HE2 := Lib.hid hb2
              clear hO hE2 hE
              go_wp2
              all_goals
                go_ret
                refine ⟨?_, HBF.out⟩
                first | rfl | (rw [HE2.out]; simp) | simp [HE2.out]
        · have hk2 : decide (A.kind = 2) = false := decide_eq_false hk
          rcases hsz.1 hk with ⟨e1, e2⟩ | ⟨e1, e2⟩
          · have ww : IntKind.i64.wrap (A.wd + B.wd) = d.wd := by rw [e1]; simp [IntKind.wrap, IntKind.bits, IntKind.signed]; omega
            have e1' := e1.symm
            clear hsz e1
            go_wp2
            go_ret
            exact ⟨rfl, HBF.out⟩
          · have ww : IntKind.i64.wrap (A.wd + B.wd) = A.wd + B.wd := by simp [IntKind.wrap, IntKind.bits, IntKind.signed]; omega
            have wl' : IntKind.i64.wrap (A.len + B.len) = d.len := by rw [e2]; simp [IntKind.wrap, IntKind.bits, IntKind.signed]; omega
            have e3 : decide (A.wd = A.wd + B.wd) = false := decide_eq_false (by omega)
            have e4 : ¬ A.wd = A.wd + B.wd := by omega
            have e2' := e2.symm
            clear hsz e2
            go_wp2
            go_ret
            exact ⟨rfl, HBF.out⟩
    · have hz := mgR_no hc
      rw [hz] at cU
      have hcb : decide (mgC x i j = 0) = false := decide_eq_false hc
      go_wp2
      go_ret
      exact ⟨rfl, hb6⟩
end Go.Proofs.Ytnchhdhlhlcejaa.fnMergeOne
