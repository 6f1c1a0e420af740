/- The walk of FnNetlistText. -/
import Derived.Test.YtglddnkpccgchaaDoorTxtM
import Derived.Test.YtglddnkpccgchaaDoorNetPs
import Derived.Test.YtglddnkpccgchaaDoorImplFmt
import Derived.Test.YtglddnkpccgchaaDoorSpecNl
import Derived.Deep.DeepCutAuto
namespace Go.Proofs.YtglddnkpccgchaaDoor.fnNetlistText
open Go.RowKit Go.Proofs.YtglddnkpccgchaaDoor
set_option linter.unusedVariables false
set_option linter.unusedSimpArgs false

theorem _root_.Go.Proofs.YtglddnkpccgchaaDoor.prsS_valid (t : ByteArray) : Fits (prsS t).1.nets ∧ ∀ p ∈ (prsS t).1.ps, p.ok := by
  have h : nlB (prsS t).1 = true := prsL_valid (splL 10 t.data.toList) 0 nl0 nlB_nl0
  obtain ⟨⟨n0, n1⟩, h2, h3, h4, h5⟩ := nlB_facts h
  refine ⟨by unfold Fits; omega, fun p hp => ?_⟩
  obtain ⟨i, hi, e⟩ := List.getElem_of_mem hp
  have q := h5 i hi
  unfold ptOk at q
  rw [List.getElem?_eq_getElem hi, e] at q
  simp only [Bool.and_eq_true] at q
  have q1 := inB_iff.1 q.2.1
  have q3 : p.name.size ≤ 8 := by
    have h3 := q.1
    unfold nameB at h3
    rw [Bool.and_eq_true, decide_eq_true_eq] at h3
    omega
  exact ⟨by omega, by unfold Fits; omega⟩
theorem fmt_empty (x : Nl) : (fmtS x).toList.isEmpty = !nlB x := by
  rw [empty_is]
  cases hB : nlB x with
  | false => rw [fmtS_no hB]; rfl
  | true =>
    rw [decide_eq_false]
    · rfl
    · intro e
      have h := prs_fmt hB
      have h2 : fmtS x = ⟨#[]⟩ := ba_ext (by rw [e])
      rw [h2] at h
      have h3 := congrArg (fun z => z.2.1) h
      exact absurd (show (prsS ⟨#[]⟩).2.1 = 0 from h3) (by decide)

set_option maxRecDepth 100000 in
set_option maxHeartbeats 8000000 in
theorem walk (v0 : Value) (w : World) (n : Nat) (hB : Bytes w v0 n) (hG : Glob w.heap.size w) :
    Calls Tryd.prog 5 #[v0] w fun e w' => e = .returned (.bool true) ∧ Below w.heap.size w w' := by
  have HB := Lib.hid hB
  have HG := Lib.hid hG
  have HBG := Lib.hid (fun w h => big_any v0 n w h)
  by_cases hn : 4096 < n
  · rw [decide_eq_true hn] at HBG
    clear hB hn hG
    go_enter Tryd.func5, Tryd.ntmps5
    go_wp2_with fail
    refine (HBG.out _ HB.out).mono ?_
    rintro e w1 ⟨rfl, rfl⟩
    go_wp2
    go_ret
    exact ⟨rfl, Below.refl _ _⟩
  rw [decide_eq_false hn] at HBG
  have HDF := Lib.hid (fun w h => drawFormat_any v0 n w h (by omega))
  have HOT := Lib.hid (fun w h => other_any v0 n w h (by omega))
  have HDP := Lib.hid (fun v w h => drawParse_any v (n + 3) w h (by omega))
  have HFI := Lib.hid (fun x v w hT h hok hnn => implFormat_any x v w hT h hok hnn)
  have HVS := Lib.hid (fun x v w h hok hnn => specNl_any x v w h hok hnn)
  have HVI := Lib.hid (fun x v w h hok hnn => implNl_any x v w h hok hnn)
  have HIM := Lib.hid (fun s w hs hG => implParse_any s w hs hG)
  clear hB hn hG
  go_enter Tryd.func5, Tryd.ntmps5
  go_wp2_with fail
  refine (HBG.out _ HB.out).mono ?_
  rintro e w1 ⟨rfl, rfl⟩
  go_wp2_with fail
  refine (HDF.out _ HB.out).mono ?_
  rintro e w2 ⟨v, x, rfl, HN, HS, hb2⟩
  obtain ⟨aA, cA, dA, eA, rfl⟩ := HN.out.sized
  have hal : Below w2.heap.size w2 (w2.alloc (.cells #[.int .i64 x.nets, .slice aA x.ds.length cA, .slice dA x.ps.length eA] 31)) := (Below.refl _ w2).alloc (Nat.le_refl _) _
  have kA : Blk (w2.alloc (.cells #[.int .i64 x.nets, .slice aA x.ds.length cA, .slice dA x.ps.length eA] 31)) w2.heap.size #[.int .i64 x.nets, .slice aA x.ds.length cA, .slice dA x.ps.length eA] 31 := Blk.new _ rfl
  have HX := Lib.hid (HN.out.by hal)
  have hb3 := below_on hal hb2
  have HOK : Hid ((∀ p ∈ x.ps, p.ok) ∧ Fits x.nets) := Lib.hid ⟨HS.out.2.2.2.2, HS.out.fits⟩
  have qA := kA.cell
  have lA := kA.lt
  have HG3 := Lib.hid ((HG.out.on hb3).up hb3.size)
  clear hal hb2 HN HS
  go_wp2_with fail
  clear qA lA
  generalize w2.alloc (.cells #[.int .i64 x.nets, .slice aA x.ds.length cA, .slice dA x.ps.length eA] 31) = w3 at *
  generalize w2.heap.size = AB at *
  refine (HFI.out x _ w3 HG3.out.1 HX.out HOK.out.1 HOK.out.2).mono ?_
  rintro e w4 ⟨rfl, hb4⟩
  have HX4 := Lib.hid (HX.out.by hb4)
  have kA4 := Blk.by hb4 kA
  have hbw4 := below_on hb4 hb3
  have HSE := Lib.hid (fmt_empty x)
  have HSZ := Lib.hid (size_fmtS x)
  have HPF := Lib.hid (fun h => @prs_fmt x h)
  obtain ⟨S, hS⟩ : ∃ q, fmtS x = q := ⟨_, rfl⟩
  have HFX := Lib.hid hS
  rw [hS] at HSE HSZ HPF ⊢
  clear hS hb4 hb3 HX kA HG3
  have eS := HSE.out
  have qA := kA4.cell
  have lA := kA4.lt
  go_wp2_with fail
  clear qA lA
  refine (HVS.out x _ w4 HX4.out HOK.out.1 HOK.out.2).mono ?_
  rintro e w5 ⟨rfl, hb5⟩
  have HX5 := Lib.hid (HX4.out.by hb5)
  have kA5 := Blk.by hb5 kA4
  have hbw5 := below_on hb5 hbw4
  clear HX4 kA4 hbw4 hb5
  cases hv : nlB x with
  | false =>
    rw [hv] at eS
    have qA := kA5.cell
    have lA := kA5.lt
    go_wp2_with fail
    clear qA lA
    refine (HVI.out x _ w5 HX5.out HOK.out.1 HOK.out.2).mono ?_
    rintro e w6 ⟨rfl, hb6⟩
    rw [hv]
    have hbw6 := below_on hb6 hbw5
    clear hb6 HX5 kA5 hbw5
    go_wp2_with fail
    refine (HOT.out w6 (HB.out.by hbw6)).mono ?_
    rintro e q1 ⟨ov, rfl, hob, hbo⟩
    have HOB := Lib.hid hob
    have hbq1 := below_on hbo hbw6
    clear hob hbo
    go_wp2_with fail
    refine (HDP.out _ _ HOB.out).mono ?_
    rintro e q2 ⟨t, rfl, hts, hbo⟩
    have hbq2 := below_on hbo hbq1
    have HG2 := Lib.hid ((HG.out.on hbq2).up hbq2.size)
    clear hbo hbq1 HOB
    go_wp2_with fail
    refine (HIM.out t q2 (by omega) HG2.out).mono ?_
    rintro e q3 ⟨yv, rfl, hO, hbo⟩
    have hbq3 := below_on hbo hbq2
    have HPB := Lib.hid (prsL_bad (splL 10 t.data.toList) 0 nl0)
    have HPC := Lib.hid (fun h => @prs_canon t h)
    have HPV := Lib.hid (prsS_valid t)
    have HY := Lib.hid hO.nl
    clear hO hbo hbq2 HG2
    replace HPB := Lib.hid (show ((prsS t).2.1 = 0 ∧ (prsS t).2.2 = 0) ∨ (((prsS t).2.1 = 4 ∨ (prsS t).2.1 = 2) ∧ (prsS t).1 = nl0 ∧ 1 ≤ (prsS t).2.2) from by
      rcases HPB.out with h | ⟨h1, h2, h3, _⟩
      · exact .inl h
      · exact .inr ⟨h1, h2, h3⟩)
    generalize (prsS t).1 = y at *
    generalize (prsS t).2.1 = k1 at *
    generalize (prsS t).2.2 = k2 at *
    obtain ⟨aC, cC, dC, eC, rfl⟩ := HY.out.sized
    have hal : Below q3.heap.size q3 (q3.alloc (.cells #[.int .i64 y.nets, .slice aC y.ds.length cC, .slice dC y.ps.length eC] 31)) := (Below.refl _ q3).alloc (Nat.le_refl _) _
    have kC : Blk (q3.alloc (.cells #[.int .i64 y.nets, .slice aC y.ds.length cC, .slice dC y.ps.length eC] 31)) q3.heap.size #[.int .i64 y.nets, .slice aC y.ds.length cC, .slice dC y.ps.length eC] 31 := Blk.new _ rfl
    have HY4 := Lib.hid (HY.out.by hal)
    have hbq4 := below_on hal hbq3
    have qC := kC.cell
    have lC := kC.lt
    have HG4 := Lib.hid ((HG.out.on hbq4).up hbq4.size)
    clear hal hbq3 HY
    rcases HPB.out with ⟨h1, h2⟩ | ⟨h1, h2, h3⟩
    · have HFI2 := Lib.hid (HFI.out y _ _ HG4.out.1 HY4.out (HPV.out.2 ) HPV.out.1)
      rw [(HPC.out h1).2] at HFI2
      subst h1 h2
      go_wp2_with fail
      refine HFI2.out.mono ?_
      rintro e q5 ⟨rfl, hbo⟩
      have hbf := below_on hbo hbq4
      go_wp2
      go_ret
      exact ⟨rfl, hbf⟩
    · subst h2
      have hk1 : (k1 != 0) = true := by rcases h1 with rfl | rfl <;> rfl
      have hk2 : decide ((1 : Int) ≤ k2) = true := decide_eq_true h3
      clear h1 h3
      go_wp2
      go_ret
      exact ⟨rfl, hbq4⟩
  | true =>
    rw [hv] at eS
    have HRS := Lib.hid (HPF.out hv)
    have qA := kA5.cell
    have lA := kA5.lt
    go_wp2_with fail
    clear qA lA
    refine (HVI.out x _ w5 HX5.out HOK.out.1 HOK.out.2).mono ?_
    rintro e w6 ⟨rfl, hb6⟩
    rw [hv]
    have kA6 := Blk.by hb6 kA5
    have hbw6 := below_on hb6 hbw5
    have HG6 := Lib.hid ((HG.out.on hbw6).up hbw6.size)
    clear hb6 HX5 kA5 hbw5
    go_wp2_with fail
    refine (HIM.out S w6 (by have := HSZ.out; omega) HG6.out).mono ?_
    rw [HRS.out]
    rintro e w7 ⟨bv, rfl, hO, hb7⟩
    obtain ⟨aB, cB, dB, eB, rfl⟩ := hO.nl.sized
    have hal : Below w7.heap.size w7 (w7.alloc (.cells #[.int .i64 x.nets, .slice aB x.ds.length cB, .slice dB x.ps.length eB] 31)) := (Below.refl _ w7).alloc (Nat.le_refl _) _
    have kB : Blk (w7.alloc (.cells #[.int .i64 x.nets, .slice aB x.ds.length cB, .slice dB x.ps.length eB] 31)) w7.heap.size #[.int .i64 x.nets, .slice aB x.ds.length cB, .slice dB x.ps.length eB] 31 := Blk.new _ rfl
    have HX8 := Lib.hid (hO.nl.by hal)
    have hb78 := below_on hal hb7
    have kA8 := Blk.by hb78 kA6
    have hbw8 := below_on hb78 hbw6
    have HG8 := Lib.hid ((HG.out.on hbw8).up hbw8.size)
    have qA := kA8.cell
    have lA := kA8.lt
    have qB := kB.cell
    have lB := kB.lt
    clear hal hb7 hb78 hO kA6 hbw6 HG6
    go_wp2_with fail
    clear qA lA qB lB
    generalize w7.alloc (.cells #[.int .i64 x.nets, .slice aB x.ds.length cB, .slice dB x.ps.length eB] 31) = w8 at *
    generalize w7.heap.size = BB at *
    refine (HFI.out x _ w8 HG8.out.1 HX8.out HOK.out.1 HOK.out.2).mono ?_
    rintro e w9 ⟨rfl, hb9⟩
    rw [HFX.out]
    have kA9 := Blk.by hb9 kA8
    have kB9 := Blk.by hb9 kB
    have hbw9 := below_on hb9 hbw8
    have qA := kA9.cell
    have lA := kA9.lt
    have qB := kB9.cell
    have lB := kB9.lt
    clear hb9 kA8 kB hbw8 HX8 HG8
    go_wp2_with fail
    refine (HOT.out w9 (HB.out.by hbw9)).mono ?_
    rintro e q1 ⟨ov, rfl, hob, hbo⟩
    have HOB := Lib.hid hob
    have hbq1 := below_on hbo hbw9
    clear hob hbo
    go_wp2_with fail
    refine (HDP.out _ _ HOB.out).mono ?_
    rintro e q2 ⟨t, rfl, hts, hbo⟩
    have hbq2 := below_on hbo hbq1
    have HG2 := Lib.hid ((HG.out.on hbq2).up hbq2.size)
    clear hbo hbq1 HOB
    go_wp2_with fail
    refine (HIM.out t q2 (by omega) HG2.out).mono ?_
    rintro e q3 ⟨yv, rfl, hO, hbo⟩
    have hbq3 := below_on hbo hbq2
    have HPB := Lib.hid (prsL_bad (splL 10 t.data.toList) 0 nl0)
    have HPC := Lib.hid (fun h => @prs_canon t h)
    have HPV := Lib.hid (prsS_valid t)
    have HY := Lib.hid hO.nl
    clear hO hbo hbq2 HG2
    replace HPB := Lib.hid (show ((prsS t).2.1 = 0 ∧ (prsS t).2.2 = 0) ∨ (((prsS t).2.1 = 4 ∨ (prsS t).2.1 = 2) ∧ (prsS t).1 = nl0 ∧ 1 ≤ (prsS t).2.2) from by
      rcases HPB.out with h | ⟨h1, h2, h3, _⟩
      · exact .inl h
      · exact .inr ⟨h1, h2, h3⟩)
    generalize (prsS t).1 = y at *
    generalize (prsS t).2.1 = k1 at *
    generalize (prsS t).2.2 = k2 at *
    obtain ⟨aC, cC, dC, eC, rfl⟩ := HY.out.sized
    have hal : Below q3.heap.size q3 (q3.alloc (.cells #[.int .i64 y.nets, .slice aC y.ds.length cC, .slice dC y.ps.length eC] 31)) := (Below.refl _ q3).alloc (Nat.le_refl _) _
    have kC : Blk (q3.alloc (.cells #[.int .i64 y.nets, .slice aC y.ds.length cC, .slice dC y.ps.length eC] 31)) q3.heap.size #[.int .i64 y.nets, .slice aC y.ds.length cC, .slice dC y.ps.length eC] 31 := Blk.new _ rfl
    have HY4 := Lib.hid (HY.out.by hal)
    have hbq4 := below_on hal hbq3
    have qC := kC.cell
    have lC := kC.lt
    have HG4 := Lib.hid ((HG.out.on hbq4).up hbq4.size)
    clear hal hbq3 HY
    rcases HPB.out with ⟨h1, h2⟩ | ⟨h1, h2, h3⟩
    · have HFI2 := Lib.hid (HFI.out y _ _ HG4.out.1 HY4.out (HPV.out.2 ) HPV.out.1)
      rw [(HPC.out h1).2] at HFI2
      subst h1 h2
      go_wp2_with fail
      refine HFI2.out.mono ?_
      rintro e q5 ⟨rfl, hbo⟩
      have hbf := below_on hbo hbq4
      go_wp2
      go_ret
      exact ⟨rfl, hbf⟩
    · subst h2
      have hk1 : (k1 != 0) = true := by rcases h1 with rfl | rfl <;> rfl
      have hk2 : decide ((1 : Int) ≤ k2) = true := decide_eq_true h3
      clear h1 h3
      go_wp2
      go_ret
      exact ⟨rfl, hbq4⟩
end Go.Proofs.YtglddnkpccgchaaDoor.fnNetlistText
